/- The law's stands and alive; the walk of WireReads. -/
import Derived.Test.YtiadfmbddkcleaaWiAb
namespace Go.Kit
/-- One call of a reader. -/
structure Cl where
  kind : Int
  a : Int
  b : Int
/-- A row of calls that is read. -/
structure RC (w : World) (A : Option Addr) (n : Nat) (L : List Cl) : Prop where
  len : L.length = n
  max : n ≤ 9223372036854775807
  at0 : ∀ i, i < n → ∃ ad x, A = some ad ∧ w.cell? (ad.add (i * 3)) = some (.int .i64 x.kind) ∧ w.cell? ⟨(ad.add (i * 3)).block, (ad.add (i * 3)).off + 1, none⟩ = some (.int .i64 x.a) ∧ w.cell? ⟨(ad.add (i * 3)).block, (ad.add (i * 3)).off + 2, none⟩ = some (.int .i64 x.b) ∧ x.a ≤ 9223372036854775807 ∧ x.b ≤ 9223372036854775807 ∧ L[i]? = some x
end Go.Kit
namespace Go.Proofs.Ytiadfmbddkcleaa
open Go.RowKit Go.Kit Go.Proofs.YtiadfmbddkcleaaW.PrintWords
section
variable {w w1 : World} {r q n c d : Nat} {A B : Option Addr} {D : Rd}
set_option maxHeartbeats 4000000 in
set_option maxRecDepth 100000 in
theorem stands_any (h : Tr w r q A n c B d D) : Calls Try.prog 36 #[.pointer (some ⟨r, 0, none⟩), .pointer (some ⟨q, 0, none⟩)] w fun e w' => e = .returned (.bool true) ∧ Below w.heap.size w w' := by
  have hR0 := h.rs
  have hQ0 := h.qr
  clear h
  go_enter Try.func36, Try.ntmps36
  go_wp2_with fail
  refine (Fault_any hR0).mono ?_
  rintro e w3 ⟨rfl, hb3⟩
  have hbf := below_alloc (Below.refl w3.heap.size w3) (.cells #[.int .i64 D.why, .int .i64 D.wat] 50)
  have hfk := heap_alloc_new w3 (.cells #[.int .i64 D.why, .int .i64 D.wat] 50)
  have hR5 := (hR0.below hb3).below hbf
  have hQ5 := (hQ0.below hb3).below hbf
  have hb5 := below_step hb3 hbf
  go_wp2_with fail
  generalize w3.alloc (.cells #[.int .i64 D.why, .int .i64 D.wat] 50) = w5 at *
  have f0 := cell_of_row w5 _ 0 _ _ _ hfk
  have f1 := cell_of_row w5 _ 1 _ _ _ hfk
  simp only [List.getElem?_toArray, List.getElem?_cons_zero, List.getElem?_cons_succ] at f0 f1
  generalize w3.heap.size = gf at f0 f1 ⊢
  have q0 := hQ5.q0
  have q1 := hQ5.q1
  have q2 := hQ5.q2
  have q3 := hQ5.q3
  have hlo := hR5.low
  have hmx := hR5.max
  have hwd : IntKind.i64.wrap ((n : Int) - (D.at_ : Int)) = (n : Int) - (D.at_ : Int) := IntWalk.i64_in _ ⟨by omega, by omega⟩
  clear hbf hfk hb3 hR0 hQ0 hQ5
  go_quiet (first | (go_at_call 28; exact (At_any (hR5.drewN _)).mono fun e w' ⟨he, hw⟩ => ⟨he, _, hw⟩) | (go_at_call 19; exact (Left_any (hR5.drewN _)).mono fun e w' ⟨he, k, hw⟩ => ⟨he, _, hw.trans (World.drewN_drewN _ _ _)⟩))
  have hb6 := fun m => pw_below_drewN hb5 m
  clear hb5
  go_wp2_with fail
  go_ret
  exact ⟨rfl, hb6 _⟩
end
set_option maxHeartbeats 2000000 in
theorem alive_any (w : World) : Calls Try.prog 15 #[] w fun e w' => e = .returned (.bool true) ∧ Below w.heap.size w w' := by
  have hbl := below_alloc (Below.refl w.heap.size w) (.cells #[.int .u8 9] 5)
  have hR := RB.lit w [9] (Byt.one (by omega) (by omega)) (by simp) 5 (0, 0)
  go_enter Try.func15, Try.ntmps15
  go_wp2_with fail
  refine (NewReader_any _ 1 1 [9] _ hR (by omega)).mono ?_
  rintro e w2 ⟨r, A', c, rfl, hr, hf, hb2⟩
  have hb3 := below_step hbl hb2
  go_wp2_with fail
  refine (Left_any hr).mono ?_
  rintro e w3 ⟨rfl, k, rfl⟩
  have hr3 := hr.drewN k
  have hl1 : ((1 : Nat) : Int) - (((Rd.new [9]).at_ : Nat) : Int) = 1 := by decide
  rw [hl1]
  go_wp2_with fail
  refine (Byte_any hr3).mono ?_
  rintro e w4 ⟨D1, v, rfl, HB, hr4, ho4⟩
  have hbv : byteS (Rd.new [9]) = ((Rd.new [9]).to 1, 9) := rfl
  rw [HB.out] at hbv
  cases hbv
  go_wp2_with fail
  refine (Left_any hr4).mono ?_
  rintro e w5 ⟨rfl, k5, rfl⟩
  have hl2 : ((1 : Nat) : Int) - ((((Rd.new [9]).to 1).at_ : Nat) : Int) = 0 := by decide
  rw [hl2]
  have hb6 := pw_below_drewN (Below.only (pw_below_drewN hb3 k) ho4 (pw_below_drewN hb3 k).size (fun j hj => by rw [hj]; exact hf r (.inl rfl) |> Nat.le_trans (Nat.le_of_lt (by simp)))) k5
  clear hr hr3 hr4 ho4 hb3
  go_wp2_with fail
  go_ret
  exact ⟨rfl, hb6⟩
set_option maxHeartbeats 8000000 in
set_option maxRecDepth 100000 in
theorem WireReads_walk (A : Option Addr) (n cap : Nat) (xs : List Int) (B : Option Addr) (m cb : Nat) (L : List Cl) (w : World) (hx : RB w A n xs) (hn : n ≤ 1048576) (hC : RC w B m L) :
    Calls Try.prog 8 #[.slice A n cap, .slice B m cb] w fun e w' => e = .returned (.bool true) ∧ Below w.heap.size w w' := by
  have hmx := hC.max
  have HL := Lib.hid hx.len
  go_enter Try.func8, Try.ntmps8
  go_wp2_with (at_builtin; refine push_row (w0 := w) w.heap.size rfl (.const (.slice none 0 0)) (.tmp 9) 23 xs A n cap rfl Try.underlying23 u8_info rfl rfl (OB.nil _ _ _) hx (Below.refl _ _) (Nat.le_refl _) (by simp; omega) ?_)
  intro v w1 hO hb1 _ _
  obtain ⟨A1, c1, rfl, hR1, _⟩ := hO.reads'
  rw [HL.out] at hR1 ⊢
  clear hO
  go_wp2_with fail
  refine (NewReader_any A1 n c1 xs _ hR1 (by omega)).mono ?_
  rintro e w2 ⟨r, A', c, rfl, hr, hf, hb2⟩
  have hb3 := below_step hb1 hb2
  have hs1 := hb1.size
  replace hf : ∀ k, rdf r A' k → w.heap.size ≤ k := fun k hk => Nat.le_trans hs1 (hf k hk)
  go_wp2_with fail
  refine (alive_any _).mono ?_
  rintro e w4 ⟨rfl, hb4⟩
  replace hr := hr.below hb4
  have hb5 := below_step hb3 hb4
  have hx4 := hx.below hb5
  clear hb1 hb2 hb3 hb4 hR1
  go_wp2_with fail
  refine (rNew_any A n cap xs _ hx4 (by omega)).mono ?_
  rintro e w6 ⟨Aq, d, rfl, hRq, hd, hAq, hb6⟩
  have hbl := below_alloc (Below.refl w6.heap.size w6) (.cells #[.slice Aq n d, .int .i64 0, .int .i64 0, .int .i64 0] 63)
  have hqk := heap_alloc_new w6 (.cells #[.slice Aq n d, .int .i64 0, .int .i64 0, .int .i64 0] 63)
  have hrold := hr.oldF
  have hr7 := (hr.below hb6).below hbl
  have hRq7 := hRq.below hbl
  have hb7 := below_step (below_step hb5 hb6) hbl
  have hs4 := hb5.size
  have hs6 := hb6.size
  clear hr hRq hb5
  go_wp2_with fail
  generalize w6.alloc (.cells #[.slice Aq n d, .int .i64 0, .int .i64 0, .int .i64 0] 63) = w7 at *
  have hq7 : QR w7 w6.heap.size Aq n d (Rd.new xs) := ⟨hqk, hRq7, hd, by omega, Nat.zero_le _, fun _ => rfl, fun a e => Nat.ne_of_lt (hAq a e).2, fun a e => Nat.lt_of_lt_of_le (hAq a e).2 hbl.size⟩
  have hT : Tr w7 r w6.heap.size A' n c Aq d (Rd.new xs) := ⟨hr7, hq7, fun k hk hq => by
    have h1 := hrold k hk
    rcases hq with rfl | ⟨a, e, rfl⟩
    · omega
    · have := (hAq a e).1; omega⟩
  have hFr : w.heap.size ≤ r := hf r (.inl rfl)
  have hFq : w.heap.size ≤ w6.heap.size := by omega
  generalize w6.heap.size = q at hT hFq ⊢
  clear hr7 hq7 hRq7 hqk hAq hrold hbl hb6 hs6 hs4
  go_loopg [22] m (fun gk vi w' => ∃ (i : Nat) (D : Rd), vi = .int .i64 (i : Int) ∧ Tr w' r q A' n c Aq d D ∧ Below w.heap.size w w' ∧ Hid (i ≤ m ∧ gk = m - i))
  case atStart => exact ⟨0, _, rfl, hT, hb7, by omega, rfl⟩
  case round =>
    clear hT hb7
    obtain ⟨i, D, rfl, hT, hb1, HG⟩ := hrel
    by_cases hi : i < m
    · obtain ⟨ad, x, rfl, h0, h1, h2, ha, hb, hx⟩ := hC.at0 i hi
      have hi2 : (i : Int) < (m : Int) := by omega
      have hba := below_alloc (Below.refl wr.heap.size wr) (.cells #[.int .i64 x.kind, .int .i64 x.a, .int .i64 x.b] 59)
      have hT0 := hT.below hba
      have hb0 := below_step hb1 hba
      replace h0 := pw_cell_below hb1 h0
      replace h1 := pw_cell_below hb1 h1
      replace h2 := pw_cell_below hb1 h2
      clear hx hT
      go_wp2_with fail
      refine (step_any hT0 (by omega) x.kind x.a x.b ha hb).mono ?_
      rintro e w4 ⟨rfl, D1, hT4, ho4⟩
      have hb4 : Below w.heap.size w w4 := Below.only hb0 ho4 hb0.size (fun k e => by rcases e with rfl | rfl; exact hFr; exact hFq)
      clear hT0 ho4 hb0 hba h0 h1 h2
      go_wp2_with fail
      refine (stands_any hT4).mono ?_
      rintro e w5 ⟨rfl, hb5⟩
      have hT5 := hT4.below hb5
      have hb6 := below_step hb4 hb5
      clear hT4 hb4 hb5
      go_wp2_with fail
      go_roundg (gk - 1)
      case measure => have := HG.out.2; omega
      case rel => exact ⟨i + 1, D1, by simp, hT5, hb6, by omega, by have := HG.out.2; omega⟩
    · have hin : i = m := by have := HG.out; omega
      subst hin
      go_wp2_with fail
      refine (stands_any hT).mono ?_
      rintro e w5 ⟨rfl, hb5⟩
      have hb6 := below_step hb1 hb5
      go_wp2_with fail
      go_ret
      exact ⟨rfl, hb6⟩
end Go.Proofs.Ytiadfmbddkcleaa
