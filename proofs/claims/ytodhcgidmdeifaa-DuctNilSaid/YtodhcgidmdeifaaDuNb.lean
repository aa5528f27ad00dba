/- The walk of DuctNil. -/
import Derived.Test.YtodhcgidmdeifaaDuNa
namespace Go.Proofs.Ytodhcgidmdeifaa
open Go.RowKit Go.Kit Go.Proofs.YtodhcgidmdeifaaW.PrintWords
/-- The two ducts that no call made, and the row that holds them. -/
structure NuW (w : World) (g s : Nat) : Prop where
  gk : w.heap[g]? = some (.cells #[.pointer none, .bool false, .int .i64 0, .int .i64 0, .int .i64 0, .int .i64 0] 63 (0, 0))
  sk : w.heap[s]? = some (.cells #[.pointer none, .pointer (some ⟨g, 0, none⟩)] 23 (0, 0))
theorem NuW.below {w w1 : World} {g s : Nat} (h : NuW w g s) (hb : Below w.heap.size w w1) : NuW w1 g s := ⟨(hb.block g (lt_of_block h.gk)).trans h.gk, (hb.block s (lt_of_block h.sk)).trans h.sk⟩
theorem run_count_ne (W : World) : (binOp .neq 41 (.agg #[.int .i64 0, .int .i64 0, .int .i64 0, .int .i64 0]) (.agg #[.int .i64 0, .int .i64 0, .int .i64 0, .int .i64 0])).run Try.prog W = .ok (.bool false) W := by
  have he : (Op.equalIn 10000 41 (.agg #[.int .i64 0, .int .i64 0, .int .i64 0, .int .i64 0]) (.agg #[.int .i64 0, .int .i64 0, .int .i64 0, .int .i64 0])).run Try.prog W = .ok true W := by go_simp
  simp [run_neq_struct W 41 _ _, he]
set_option maxHeartbeats 8000000 in
set_option maxRecDepth 100000 in
theorem DuctNil_walk (A : Option Addr) (np cp : Nat) (L : List Ac) (w : World) (hA : RA w A np L) :
    Calls Try.prog 9 #[.slice A np cp] w fun e w' => e = .returned (.bool true) ∧ Below w.heap.size w w' := by
  have hmx := hA.max
  have hqg : Try.prog.eqGuardType Try.prog.depth 41 = false := by kernel_rfl
  have hne := run_count_ne
  go_enter Try.func9, Try.ntmps9
  go_wp2_with fail
  refine (alive_any _).mono ?_
  rintro e w1 ⟨rfl, hb1⟩
  have ha1 := below_alloc (Below.refl w1.heap.size w1) (.cells #[.pointer none, .bool false, .int .i64 0, .int .i64 0, .int .i64 0, .int .i64 0] 63)
  have hk1 := heap_alloc_new w1 (.cells #[.pointer none, .bool false, .int .i64 0, .int .i64 0, .int .i64 0, .int .i64 0] 63)
  go_wp2_with fail
  have hz2 : (w1.alloc (.cells #[.pointer none, .bool false, .int .i64 0, .int .i64 0, .int .i64 0, .int .i64 0] 63)).heap.size = w1.heap.size + 1 := by simp
  generalize w1.alloc (.cells #[.pointer none, .bool false, .int .i64 0, .int .i64 0, .int .i64 0, .int .i64 0] 63) = w2 at *
  have ha2 := below_alloc (Below.refl w2.heap.size w2) (.cells #[.pointer none, .pointer (some ⟨w1.heap.size, 0, none⟩)] 23)
  have hk2 := heap_alloc_new w2 (.cells #[.pointer none, .pointer (some ⟨w1.heap.size, 0, none⟩)] 23)
  have hB3 := below_step (below_step hb1 ha1) ha2
  have hN3 : NuW (w2.alloc (.cells #[.pointer none, .pointer (some ⟨w1.heap.size, 0, none⟩)] 23)) w1.heap.size (w1.heap.size + 1) := ⟨(ha2.block _ (lt_of_block hk1)).trans hk1, by rw [← hz2]; exact hk2⟩
  generalize w2.alloc (.cells #[.pointer none, .pointer (some ⟨w1.heap.size, 0, none⟩)] 23) = w3 at *
  obtain ⟨s, hs⟩ : ∃ s, w1.heap.size + 1 = s := ⟨_, rfl⟩
  rw [hs] at hN3 ⊢
  generalize w1.heap.size = g at hN3 ⊢
  clear hb1 ha1 hk1 hz2 ha2 hk2 hs
  go_loopg [20] 2 (fun gk v20 w' => ∃ (i : Nat), v20 = .int .i64 (i : Int) ∧ NuW w' g s ∧ Below w.heap.size w w' ∧ Hid (i ≤ 2 ∧ gk = 2 - i))
  case atStart => exact ⟨0, rfl, hN3, hB3, by omega, rfl⟩
  case round =>
    clear hN3 hB3
    obtain ⟨i, rfl, hN, hB, HG⟩ := hrel
    have hs0 := cell_of_row wr s 0 _ _ _ hN.sk
    have hs1 := cell_of_row wr s 1 _ _ _ hN.sk
    simp only [List.getElem?_toArray, List.getElem?_cons_zero, List.getElem?_cons_succ] at hs0 hs1
    by_cases hi : i < 2
    · have hi2 : (i : Int) < 2 := by omega
      obtain ⟨dv, hdv, hdn⟩ : ∃ dv, wr.cell? ⟨s, i, none⟩ = some dv ∧ ∀ W, NuW W g s → Nu W dv := by
        rcases (show i = 0 ∨ i = 1 by omega) with rfl | rfl
        · exact ⟨_, hs0, fun W _ => .inl rfl⟩
        · exact ⟨_, hs1, fun W h => .inr ⟨g, rfl, h.gk⟩⟩
      have HDN := Lib.hid hdn
      clear hdn hs0 hs1
      go_wp2_with fail
      go_loopg [26] np (fun gk2 v26 w' => ∃ (j : Nat), v26 = .int .i64 (j : Int) ∧ NuW w' g s ∧ Below w.heap.size w w' ∧ Hid (j ≤ np ∧ gk2 = np - j))
      case atStart => exact ⟨0, rfl, hN, hB, by omega, rfl⟩
      case round =>
        clear hN hB hdv
        obtain ⟨j, rfl, hN, hb1, HG2⟩ := hrel
        by_cases hj : j < np
        · obtain ⟨ad, Ai, ni, ci, x, rfl, h0, h1, h2, h3, hr, hx⟩ := hA.at0 j hj
          have hj2 : (j : Int) < (np : Int) := by omega
          replace h0 := pw_cell_below hb1 h0
          replace h1 := pw_cell_below hb1 h1
          replace h2 := pw_cell_below hb1 h2
          replace h3 := pw_cell_below hb1 h3
          have hba := below_alloc (Below.refl wr.heap.size wr) (.cells #[.int .i64 x.kind, .slice Ai ni ci, .int .i64 x.a, .int .i64 x.b] 54)
          have hbk := heap_alloc_new wr (.cells #[.int .i64 x.kind, .slice Ai ni ci, .int .i64 x.a, .int .i64 x.b] 54)
          have hNa := hN.below hba
          have hBa := below_step hb1 hba
          have hw8 : IntKind.u8.wrap x.b = x.b % 256 := IntKind.wrap_u8' _
          clear hr hx hN
          go_wp2_with fail
          generalize wr.alloc (.cells #[.int .i64 x.kind, .slice Ai ni ci, .int .i64 x.a, .int .i64 x.b] 54) = wa at *
          have q1 := cell_of_row wa _ 1 _ _ _ hbk
          have q2 := cell_of_row wa _ 2 _ _ _ hbk
          have q3 := cell_of_row wa _ 3 _ _ _ hbk
          simp only [List.getElem?_toArray, List.getElem?_cons_zero, List.getElem?_cons_succ] at q1 q2 q3
          have hNu := HDN.out _ hNa
          generalize wr.heap.size = gb at q1 q2 q3 ⊢
          clear h0 h1 h2 h3 hbk hba
          refine (write_nu hNu _).mono ?_
          rintro e w4 ⟨rfl, rfl⟩
          go_wp2_with fail
          refine (lose_nu hNu x.a x.b).mono ?_
          rintro e w5 ⟨rfl, rfl⟩
          go_wp2_with fail
          refine (turn_nu hNu x.a (x.b % 256)).mono ?_
          rintro e w6 ⟨rfl, rfl⟩
          go_wp2_with fail
          refine (shut_nu hNu).mono ?_
          rintro e w7 ⟨rfl, rfl⟩
          go_wp2_with fail
          refine (read_nu hNu x.a).mono ?_
          rintro e w8 ⟨rfl, rfl⟩
          go_wp2_with fail
          refine (peek_nu hNu x.a).mono ?_
          rintro e w9 ⟨rfl, rfl⟩
          go_wp2_with fail
          refine (len_nu hNu).mono ?_
          rintro e w10 ⟨rfl, rfl⟩
          go_wp2_with fail
          refine (room_nu hNu).mono ?_
          rintro e w11 ⟨rfl, rfl⟩
          go_wp2_with fail
          refine (done_nu hNu).mono ?_
          rintro e w12 ⟨rfl, rfl⟩
          go_wp2_with fail
          refine (count_nu hNu).mono ?_
          rintro e w13 ⟨rfl, hb13⟩
          have hN13 := hNa.below hb13
          have hB13 := below_step hBa hb13
          unfold zeroC
          clear hNu hNa hBa hb13 q1 q2 q3
          go_wp2_with fail
          go_roundg (np - (j + 1))
          case measure => have := HG2.out.2; omega
          case rel => exact ⟨j + 1, by simp, hN13, hB13, by omega, rfl⟩
        · have hjn : j = np := by have := HG2.out; omega
          subst hjn
          go_wp2_with fail
          go_roundg (2 - (i + 1))
          case measure => have := HG.out.2; omega
          case rel => exact ⟨i + 1, by simp, hN, hb1, by omega, rfl⟩
    · have hin : i = 2 := by have := HG.out; omega
      subst hin
      clear hs0 hs1
      go_wp2_with fail
      refine (new_p 1 (by omega) (by omega) _).mono ?_
      rintro e w4 ⟨d, F, rfl, hD, hF, hb4⟩
      have hB4 := below_step hB hb4
      go_wp2_with fail
      refine (pshut_nu (.inl rfl)).mono ?_
      rintro e w5 ⟨rfl, rfl⟩
      have hba := below_alloc (Below.refl w5.heap.size w5) (.cells #[.pointer none, .pointer none] 47)
      have hbk := heap_alloc_new w5 (.cells #[.pointer none, .pointer none] 47)
      have hDa := hD.below hba
      have hBa := below_step hB4 hba
      go_wp2_with fail
      refine (pshut_nu (.inr ⟨_, _, _, rfl, hbk, .inl (.inl rfl)⟩)).mono ?_
      rintro e w6 ⟨rfl, hw6⟩
      rw [← hw6] at hDa hBa
      clear hba hbk hw6
      have hba := below_alloc (Below.refl w6.heap.size w6) (.cells #[.pointer (some ⟨d, 0, none⟩), .pointer none] 47)
      have hbk := heap_alloc_new w6 (.cells #[.pointer (some ⟨d, 0, none⟩), .pointer none] 47)
      have hDb := hDa.below hba
      have hBb := below_step hBa hba
      go_wp2_with fail
      refine (pshut_nu (.inr ⟨_, _, _, rfl, hbk, .inr ⟨⟨d, F, _, rfl, hDb⟩, .inl rfl⟩⟩)).mono ?_
      rintro e w7 ⟨rfl, hw7⟩
      rw [← hw7] at hDb hBb
      clear hba hbk hw7
      have hba := below_alloc (Below.refl w7.heap.size w7) (.cells #[.pointer none, .pointer (some ⟨d, 0, none⟩)] 47)
      have hbk := heap_alloc_new w7 (.cells #[.pointer none, .pointer (some ⟨d, 0, none⟩)] 47)
      have hDc := hDb.below hba
      have hBc := below_step hBb hba
      go_wp2_with fail
      refine (pshut_nu (.inr ⟨_, _, _, rfl, hbk, .inl (.inl rfl)⟩)).mono ?_
      rintro e w8 ⟨rfl, hw8⟩
      rw [← hw8] at hDc hBc
      clear hba hbk hw8
      go_wp2_with fail
      refine (room_p hDc).mono ?_
      rintro e w9 ⟨rfl, k, rfl⟩
      have hrm : (if (newD 1).shut then (0 : Int) else (newD 1).room - ((newD 1).held.length : Int)) = 1 := by simp [newD]
      rw [hrm]
      have hBd := pw_below_drewN hBc k
      go_wp2_with fail
      go_ret
      exact ⟨rfl, hBd⟩
end Go.Proofs.Ytodhcgidmdeifaa
