/- The walk of WireBegins. -/
import Derived.Test.YtiadfmbddkcleaaWiBg
namespace Go.Proofs.Ytiadfmbddkcleaa
open Go.RowKit Go.Kit Go.Proofs.YtiadfmbddkcleaaW.PrintWords
theorem run_fault_same (x y : Int) (W : World) : (binOp .neq 50 (.agg #[.int .i64 x, .int .i64 y]) (.agg #[.int .i64 x, .int .i64 y])).run Try.prog W = .ok (.bool false) W := by
  have he : (Op.equalIn 10000 50 (.agg #[.int .i64 x, .int .i64 y]) (.agg #[.int .i64 x, .int .i64 y])).run Try.prog W = .ok true W := by go_simp
  simp [run_neq_struct W 50 _ _, he]
theorem run_why (x y : Int) (W : World) : (Instr.field 50 (.agg #[.int .i64 x, .int .i64 y]) 0).run Try.prog W = .ok (.int .i64 x) W := by kernel_rfl
attribute [-go_sem] run_slice_h run_slice_any
attribute [local go_sem] Go.Proofs.YtiadfmbddkcleaaW.PrintMore.max_two Go.Proofs.YtiadfmbddkcleaaW.PrintMore.min_two
set_option maxHeartbeats 16000000 in
set_option maxRecDepth 100000 in
theorem WireBegins_walk (A : Option Addr) (n cap : Nat) (xs : List Int) (z : Int) (B : Option Addr) (m cb : Nat) (L : List Cl) (w : World) (hx : RB w A n xs) (hcap : n ≤ cap) (hn : n ≤ 1048576) (hC : RC w B m L) :
    Calls Try.prog 7 #[.slice A n cap, .int .i64 z, .slice B m cb] w fun e w' => e = .returned (.bool true) ∧ Below w.heap.size w w' := by
  have hmx := hC.max
  have HL := Lib.hid hx.len
  obtain ⟨mx, k, hmxx, hmn, hkl⟩ : ∃ (m : Int) (k : Nat), Builtin.max2 (.int .i64 z) (.int .i64 0) = pure (.int .i64 m) ∧ Builtin.min2 (.int .i64 m) (.int .i64 (n : Int)) = pure (.int .i64 (k : Int)) ∧ k ≤ n :=
    ⟨_, (min (max z 0) (n : Int)).toNat, max2_is rfl, min2_is (by omega), by omega⟩
  have hhd := head_bytes A n cap k (by omega)
  have hxk := RB.take_ hx k hkl
  go_enter Try.func7, Try.ntmps7
  go_wp2_with (at_builtin; refine push_row (w0 := w) w.heap.size rfl (.const (.slice none 0 0)) (.tmp 20) 23 (xs.take k) A k cap rfl Try.underlying23 u8_info rfl rfl (OB.nil _ _ _) hxk (Below.refl _ _) (Nat.le_refl _) (by simp; omega) ?_)
  intro v w1 hO hb1 _ _
  have HKL : Hid ((xs.take k).length = k) := Lib.hid (by rw [List.length_take, HL.out]; omega)
  obtain ⟨A1, c1, rfl, hR1, _⟩ := hO.reads'
  rw [HKL.out] at hR1 ⊢
  clear hO hmxx hmn hhd hxk
  go_wp2_with fail
  refine (NewReader_any A1 k c1 (xs.take k) _ hR1 (by omega)).mono ?_
  rintro e w2 ⟨r, A', c, rfl, hr, hf, hb2⟩
  have hb3 := below_step hb1 hb2
  have hs1 := hb1.size
  replace hf : ∀ k, rdf r A' k → w.heap.size ≤ k := fun k hk => Nat.le_trans hs1 (hf k hk)
  have hx2 := hx.below hb3
  have hr2o := hr.oldF
  clear hb1 hb2 hR1
  go_wp2_with (at_builtin; refine push_row (w0 := w2) w2.heap.size rfl (.const (.slice none 0 0)) (.tmp 23) 23 xs A n cap rfl Try.underlying23 u8_info rfl rfl (OB.nil _ _ _) hx2 (Below.refl _ _) (Nat.le_refl _) (by simp; omega) ?_)
  intro v3 w3 hO hb4 _ _
  obtain ⟨A3, c3, rfl, hR3, _⟩ := hO.reads'
  rw [HL.out] at hR3 ⊢
  clear hO
  have hr3 := hr.below hb4
  have hb5 := below_step hb3 hb4
  have hs23 := hb4.size
  go_wp2_with fail
  refine (NewReader_any A3 n c3 xs _ hR3 (by omega)).mono ?_
  rintro e w4 ⟨s, As, cs, rfl, hs, hfs, hb6⟩
  have hr4 := hr3.below hb6
  have hb7 := below_step hb5 hb6
  replace hfs : ∀ k, rdf s As k → w2.heap.size ≤ k := fun k hk => Nat.le_trans hs23 (hfs k hk)
  have hs2 := hb3.size
  clear hr hr3 hb3 hb4 hb5 hb6 hR3 hs23
  go_wp2_with fail
  refine (alive_any _).mono ?_
  rintro e w5 ⟨rfl, hb8⟩
  have hr5 := hr4.below hb8
  have hs5 := hs.below hb8
  have hB5 := below_step hb7 hb8
  have hsep : Sep (rdf r A') (rdf s As) := Sep.new hr2o hfs
  have hFr : w.heap.size ≤ r := hf r (.inl rfl)
  have hFs : w.heap.size ≤ s := Nat.le_trans hs2 (hfs s (.inl rfl))
  have hS1 : Sep (rdf s As) (fun k => k = r) := fun k hk e => hsep r (.inl rfl) (e ▸ hk)
  have hS2 : Sep (rdf r A') (fun k => k = s) := fun k hk e => hsep k hk (.inl e)
  have hBeg : Beg k (Rd.new (xs.take k)) (Rd.new xs) := ⟨rfl, rfl, rfl, rfl⟩
  clear hr4 hs hb7 hb8 hf hfs hr2o
  go_wp2_with fail
  go_loopg [38] m (fun gk vi w' => ∃ (i : Nat) (D E : Rd), vi = .int .i64 (i : Int) ∧ RS w' r A' k c D ∧ RS w' s As n cs E ∧ Below w.heap.size w w' ∧ Hid (i ≤ m ∧ gk = m - i ∧ Beg k D E))
  case atStart => exact ⟨0, _, _, rfl, hr5, hs5, hB5, by omega, rfl, hBeg⟩
  case round =>
    clear hr5 hs5 hB5 hBeg
    obtain ⟨i, D, E, rfl, hr, hs, hB, HG⟩ := hrel
    by_cases hi : i < m
    · obtain ⟨ad, x, rfl, h0, h1, h2, ha, hb, hxx⟩ := hC.at0 i hi
      have hi2 : (i : Int) < (m : Int) := by omega
      have hba := below_alloc (Below.refl wr.heap.size wr) (.cells #[.int .i64 x.kind, .int .i64 x.a, .int .i64 x.b] 59)
      have hbk := heap_alloc_new wr (.cells #[.int .i64 x.kind, .int .i64 x.a, .int .i64 x.b] 59)
      have hra := hr.below hba
      have hsa := hs.below hba
      have hBa := below_step hB hba
      have hgr : wr.heap.size ≠ r := fun e => absurd (hr.oldF r (.inl rfl)) (by omega)
      have hgs : wr.heap.size ≠ s := fun e => absurd (hs.oldF s (.inl rfl)) (by omega)
      replace h0 := pw_cell_below hB h0
      replace h1 := pw_cell_below hB h1
      replace h2 := pw_cell_below hB h2
      obtain ⟨kz, hk⟩ : ∃ kz, (wrap64 (x.kind.tmod 10 + 10)).tmod 10 = kz := ⟨_, rfl⟩
      clear hxx hr hs hB
      by_cases hk8 : 8 ≤ kz
      · have hra2 := hra
        go_wp2_with fail
        go_roundg (m - (i + 1))
        case measure => have := HG.out; omega
        case rel => exact ⟨i + 1, D, E, by simp, hra, hsa, hBa, by omega, rfl, HG.out.2.2⟩
      · have HG2 := Lib.hid HG.out.2.2
        have hgk := HG.out.2.1
        have hEb := Lib.hid hsa.row.byt
        have hDo := Lib.hid hra.ok
        go_wp2_with fail
        generalize wr.alloc (.cells #[.int .i64 x.kind, .int .i64 x.a, .int .i64 x.b] 59) = wa at *
        have c0 := cell_of_row wa _ 0 _ _ _ hbk
        have c1 := cell_of_row wa _ 1 _ _ _ hbk
        have c2 := cell_of_row wa _ 2 _ _ _ hbk
        simp only [List.getElem?_toArray, List.getElem?_cons_zero, List.getElem?_cons_succ] at c0 c1 c2
        generalize wr.heap.size = gb at c0 c1 c2 hgr hgs ⊢
        have hr0 : RS wa.drew r A' k c D := hra.drewN 1
        have hs0 : RS wa.drew s As n cs E := hsa.drewN 1
        have hB0 := below_drew hBa
        have HK := Lib.hid hk
        clear hk h0 h1 h2 hba hbk hra hsa hBa hk8
        refine wp_region_held_drew (S := fun w' => w'.cell? ⟨gb, 0, none⟩ = some (.int .i64 x.kind) ∧ w'.cell? ⟨gb, 1, none⟩ = some (.int .i64 x.a) ∧ w'.cell? ⟨gb, 2, none⟩ = some (.int .i64 x.b)) (by kernel_rfl) (⟨c0, c1, c2⟩) (fun hHeld => ?_)
        refine wpAnyH_take (i := 0) (v := (.pointer (some ⟨r, 0, none⟩))) (oi := ⟨_, _, _, _, _, _⟩) rfl (by kernel_rfl) (by kernel_rfl) (by kernel_rfl) (fun _ _ _ h => h) (Or.inl ⟨by kernel_rfl, fun W hS => ?_⟩) (by assumption) ?_
        · dsimp only at hS; go_split_ands; go_simp
        simp only [Act.put, List.setIfInBounds_toArray, List.set_cons_zero, List.set_cons_succ]
        refine wpAnyH_take (i := 1) (v := (.agg #[.int .i64 x.kind, .int .i64 x.a, .int .i64 x.b])) (oi := ⟨_, _, _, _, _, _⟩) rfl (by kernel_rfl) (by kernel_rfl) (by kernel_rfl) (fun _ _ _ h => h) (Or.inl ⟨by kernel_rfl, fun W hS => ?_⟩) (by assumption) ?_
        · dsimp only at hS; go_split_ands; go_simp
        simp only [Act.put, List.setIfInBounds_toArray, List.set_cons_zero, List.set_cons_succ]
        refine wpAnyH_take (i := 3) (v := (.pointer (some ⟨s, 0, none⟩))) (oi := ⟨_, _, _, _, _, _⟩) rfl (by kernel_rfl) (by kernel_rfl) (by kernel_rfl) (fun _ _ _ h => h) (Or.inl ⟨by kernel_rfl, fun W hS => ?_⟩) (by assumption) ?_
        · dsimp only at hS; go_split_ands; go_simp
        simp only [Act.put, List.setIfInBounds_toArray, List.set_cons_zero, List.set_cons_succ]
        refine wpAnyH_take (i := 4) (v := (.agg #[.int .i64 x.kind, .int .i64 x.a, .int .i64 x.b])) (oi := ⟨_, _, _, _, _, _⟩) rfl (by kernel_rfl) (by kernel_rfl) (by kernel_rfl) (fun _ _ _ h => h) (Or.inl ⟨by kernel_rfl, fun W hS => ?_⟩) (by assumption) ?_
        · dsimp only at hS; go_split_ands; go_simp
        simp only [Act.put, List.setIfInBounds_toArray, List.set_cons_zero, List.set_cons_succ]
        refine wpAnyH_ready (rs := [2]) (by kernel_rfl) (by decide) (AllReadyH.cons (o := ⟨_, _, _, _, _, _⟩) rfl (fun K hK => ?_) AllReadyH.nil)
        rw [if_pos (by kernel_rfl)]
        go_simp
        refine (word_any hr0 (by omega) x.kind x.a x.b ha hb).mono ?_
        rintro e w11 ⟨D1, y1, v11, rfl, HW1, hO1, hr1, ho1⟩
        have hs1 := hs0.only ho1 hS1
        have hl1 := ho1.size
        go_wp2_with fail
        refine hK.out _ _ (⟨ho1.cell hHeld.1 hgr, ho1.cell hHeld.2.1 hgr, ho1.cell hHeld.2.2 hgr⟩) (fun hHeld => ?_)
        clear hK K
        try simp only [Act.put, List.setIfInBounds_toArray, List.set_cons_zero, List.set_cons_succ]
        refine wpAnyH_ready (rs := [5]) (by kernel_rfl) (by decide) (AllReadyH.cons (o := ⟨_, _, _, _, _, _⟩) rfl (fun K hK => ?_) AllReadyH.nil)
        rw [if_pos (by kernel_rfl)]
        go_simp
        refine (word_any hs1 (by omega) x.kind x.a x.b ha hb).mono ?_
        rintro e w12 ⟨E1, y2, v12, rfl, HW2, hO2, hs2, ho2⟩
        have hr2 := hr1.only ho2 hS2
        go_wp2_with fail
        refine hK.out _ _ (⟨ho2.cell hHeld.1 hgs, ho2.cell hHeld.2.1 hgs, ho2.cell hHeld.2.2 hgs⟩) (fun hHeld => ?_)
        clear hK K
        try simp only [Act.put, List.setIfInBounds_toArray, List.set_cons_zero, List.set_cons_succ]
        refine wpAnyH_take (i := 6) (v := v11) (oi := ⟨_, _, _, _, _, _⟩) rfl (by kernel_rfl) (by kernel_rfl) (by kernel_rfl) (fun _ _ _ h => h) (Or.inl ⟨by kernel_rfl, fun W hS => ?_⟩) (by assumption) ?_
        · dsimp only at hS; go_split_ands; go_simp
        simp only [Act.put, List.setIfInBounds_toArray, List.set_cons_zero, List.set_cons_succ]
        refine wpAnyH_take (i := 7) (v := v12) (oi := ⟨_, _, _, _, _, _⟩) rfl (by kernel_rfl) (by kernel_rfl) (by kernel_rfl) (fun _ _ _ h => h) (Or.inl ⟨by kernel_rfl, fun W hS => ?_⟩) (by assumption) ?_
        · dsimp only at hS; go_split_ands; go_simp
        simp only [Act.put, List.setIfInBounds_toArray, List.set_cons_zero, List.set_cons_succ]
        refine wpAnyH_done (by kernel_rfl) ?_ _
        have hsm := beg_word HG2.out hEb.out hDo.out kz x.a x.b
        have e1 := HW1.out
        have e2 := HW2.out
        rw [HK.out] at e1 e2
        rw [e1, e2] at hsm
        have hB1 : Below w.heap.size w w12 := Below.only (Below.only hB0 ho1 hB0.size (fun j e => by rw [e]; exact hFr)) ho2 (Nat.le_trans hB0.size ho1.size) (fun j e => by rw [e]; exact hFs)
        have hO1b := hO1.only ho2 (fun j hj e => hO1.not_block hs1.rk (by decide) (e ▸ hj))
        by_cases hw4 : D1.why = 4
        · clear hsm e1 e2 hs1 hr1 ho1 ho2 hO1
          go_wp2_with fail
          refine (Fault_any hr2).mono ?_
          rintro e w13 ⟨rfl, hbf⟩
          rw [hw4]
          have hfd := run_why 4 D1.wat
          have hB2 := below_step hB1 hbf
          clear hw4
          go_wp2_with fail
          go_ret
          exact ⟨rfl, hB2⟩
        · obtain ⟨hy, hBg⟩ := hsm.resolve_left hw4
          have hwb : (D1.why == 4) = false := by simpa using hw4
          dsimp only at hy hBg
          have HBG := Lib.hid hBg
          have HY := Lib.hid hy
          have hqg : Try.prog.eqGuardType Try.prog.depth 50 = false := by kernel_rfl
          have hne := run_fault_same D1.why D1.wat
          have hfd := run_why D1.why D1.wat
          obtain ⟨A11, c11, rfl, hR11, _⟩ := hO1b.reads'
          obtain ⟨A12, c12, rfl, hR12, _⟩ := hO2.reads'
          obtain ⟨l1, hl1⟩ : ∃ l1, y1.length = l1 := ⟨_, rfl⟩
          have hl2 : y2.length = l1 := by rw [← hy]; exact hl1
          rw [hl1] at hR11 ⊢
          rw [hl2] at hR12 ⊢
          clear hsm e1 e2 hs1 hr1 ho1 ho2 hO1 hO1b hO2 hy hBg hl1 hl2 hw4
          go_wp2_with fail
          refine (Fault_any hr2).mono ?_
          rintro e w13 ⟨rfl, hbf⟩
          have hr3 := hr2.below hbf
          have hs3 := hs2.below hbf
          have hR11b := hR11.below hbf
          have hR12b := hR12.below hbf
          have hB2 := below_step hB1 hbf
          clear hr2 hs2 hR11 hR12 hbf hB1
          go_wp2_with fail
          refine (Equal_same hR11b hR12b HY.out).mono ?_
          rintro e w14 ⟨rfl, rfl⟩
          go_wp2_with fail
          refine (Fault_any hr3).mono ?_
          rintro e w15 ⟨rfl, hbf⟩
          have hr4 := hr3.below hbf
          have hs4 := hs3.below hbf
          have hB3 := below_step hB2 hbf
          clear hr3 hs3 hR11b hR12b hbf hB2
          go_wp2_with fail
          refine (Fault_any hs4).mono ?_
          rintro e w16 ⟨rfl, hbf⟩
          rw [← HBG.out.why, ← HBG.out.wat]
          have hr5 := hr4.below hbf
          have hs5 := hs4.below hbf
          have hB4 := below_step hB3 hbf
          clear hr4 hs4 hbf hB3
          go_wp2_with fail
          refine (At_any hr5).mono ?_
          rintro e w17 ⟨rfl, rfl⟩
          go_wp2_with fail
          refine (At_any hs5).mono ?_
          rintro e w18 ⟨rfl, rfl⟩
          rw [← HBG.out.at_]
          go_wp2_with fail
          go_roundg (m - (i + 1))
          case measure => have := HG.out; omega
          case rel => exact ⟨i + 1, D1, E1, by simp, hr5, hs5, hB4, by omega, rfl, HBG.out⟩
    · have hin : i = m := by have := HG.out; omega
      subst hin
      go_wp2_with fail
      go_ret
      exact ⟨rfl, hB⟩
end Go.Proofs.Ytiadfmbddkcleaa
