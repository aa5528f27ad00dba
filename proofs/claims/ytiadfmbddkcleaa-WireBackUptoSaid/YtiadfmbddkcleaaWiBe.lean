/- The walk of WireForm. -/
import Derived.Test.YtiadfmbddkcleaaWiBb
import Derived.Test.YtiadfmbddkcleaaWiAc
import Derived.Test.YtiadfmbddkcleaaWiD
namespace Go.Kit
theorem RT.lit1 (w : World) (s : ByteArray) (e : TypeId) (fr : Nat × Nat) : RT (w.alloc (.cells #[.string s] e fr)) (some ⟨w.heap.size, 0, none⟩) 1 [s] := by
  refine ⟨rfl, by omega, fun _ => ⟨_, rfl, fun j hj => ?_⟩⟩
  obtain rfl : j = 0 := by omega
  rw [show (⟨w.heap.size, 0, none⟩ : Addr).add 0 = ⟨w.heap.size, 0, none⟩ from rfl, cell_of_row _ _ 0 _ _ _ (heap_alloc_new w _)]
  rfl
end Go.Kit
namespace Go.Proofs.Ytiadfmbddkcleaa
open Go.RowKit Go.Kit Go.Proofs.YtiadfmbddkcleaaW.PrintWords
theorem kind5 (z : Int) : (wrap64 (z.tmod 5 + 5)).tmod 5 = 0 ∨ (wrap64 (z.tmod 5 + 5)).tmod 5 = 1 ∨ (wrap64 (z.tmod 5 + 5)).tmod 5 = 2 ∨ (wrap64 (z.tmod 5 + 5)).tmod 5 = 3 ∨ (wrap64 (z.tmod 5 + 5)).tmod 5 = 4 := by
  have h1 : -5 < z.tmod 5 ∧ z.tmod 5 < 5 := by
    have := Int.tmod_lt_of_pos z (show (0 : Int) < 5 by decide)
    rcases Int.le_total 0 z with h | h
    · have := Int.tmod_nonneg 5 h; omega
    · have h2 := Int.neg_tmod z 5
      have h3 := Int.tmod_lt_of_pos (-z) (show (0 : Int) < 5 by decide)
      omega
  have h2 : wrap64 (z.tmod 5 + 5) = z.tmod 5 + 5 := by unfold wrap64; omega
  rw [h2, Int.tmod_eq_emod_of_nonneg (by omega)]
  omega
theorem run_fault_ne (x y : Int) (b : Bool) (hb : (!((x == 0) && (y == 0))) = b) (W : World) : (binOp .neq 50 (.agg #[.int .i64 x, .int .i64 y]) (.agg #[.int .i64 0, .int .i64 0])).run Try.prog W = .ok (.bool b) W := by
  have he : (Op.equalIn 10000 50 (.agg #[.int .i64 x, .int .i64 y]) (.agg #[.int .i64 0, .int .i64 0])).run Try.prog W = .ok (!b) W := by
    subst hb
    by_cases h1 : x = 0 <;> by_cases h2 : y = 0 <;> go_simp
  simp [run_neq_struct W 50 _ _, he]
set_option maxHeartbeats 8000000 in
set_option maxRecDepth 100000 in
theorem WireForm_walk (A : Option Addr) (n cap : Nat) (xs : List Int) (z : Int) (w : World) (hx : RB w A n xs) (hcap : n ≤ cap) (hn : n ≤ 1048576) :
    Calls Try.prog 6 #[.slice A n cap, .int .i64 z] w fun e w' => e = .returned (.bool true) ∧ Below w.heap.size w w' := by
  have HL := Lib.hid hx.len
  obtain ⟨kz, hk⟩ : ∃ kz, (wrap64 (z.tmod 5 + 5)).tmod 5 = kz := ⟨_, rfl⟩
  go_enter Try.func6, Try.ntmps6
  go_wp2_with (at_builtin; refine push_row (w0 := w) w.heap.size rfl (.const (.slice none 0 0)) (.tmp 7) 23 xs A n cap rfl Try.underlying23 u8_info rfl rfl (OB.nil _ _ _) hx (Below.refl _ _) (Nat.le_refl _) (by simp; omega) ?_)
  intro v w1 hO hb1 _ _
  obtain ⟨A1, c1, rfl, hR1, _⟩ := hO.reads'
  rw [HL.out] at hR1 ⊢
  clear hO
  go_wp2_with fail
  refine (NewReader_any A1 n c1 xs _ hR1 (by omega)).mono ?_
  rintro e w2 ⟨r, A', c, rfl, hr, hf, hb2⟩
  have hb3 := below_step hb1 hb2
  have hrg : w.heap.size ≤ r := Nat.le_trans hb1.size (hf r (.inl rfl))
  go_wp2_with fail
  refine (alive_any _).mono ?_
  rintro e w4 ⟨rfl, hb4⟩
  replace hr := hr.below hb4
  have hB4 := below_step hb3 hb4
  clear hb1 hb2 hb3 hb4 hR1 hf
  by_cases k0 : kz = 0
  · subst k0
    go_wp2_with fail
    refine (Uint_any hr).mono ?_
    rintro e w5 ⟨D1, v, rfl, HV, hr5, ho5⟩
    have hB5 := Below.only hB4 ho5 hB4.size (fun j e => by rw [e]; exact hrg)
    have hvl := uintS_lt (new_ok hx.byt) HV.out
    go_wp2_with fail
    refine (PutUint_any (v : Int) (RB.nil w5) (by omega) (by omega) (by omega)).mono ?_
    rintro e w6 ⟨v6, rfl, hO6, hb6⟩
    rw [List.nil_append] at hO6
    have hr6 := hr5.below hb6
    have hB6 := below_step hB5 hb6
    replace hO6 := hO6.less (Nat.le_trans hB5.size (Nat.le_refl _))
    rw [show (v : Int).toNat = v from rfl] at hO6
    have hF : Formed xs D1 (sh v) := form_uint hx.byt HV.out
    have HF := Lib.hid hF
    clear hF
    obtain ⟨A6, c6, rfl, hR6, hc6⟩ := hO6.reads'
    obtain ⟨nb, hnb⟩ : ∃ nb, (sh v).length = nb := ⟨_, rfl⟩
    rw [hnb] at hO6 hR6 hc6 ⊢
    have HNB := Lib.hid hnb
    clear hnb hO6
    rcases HF.out with ⟨hw, hat⟩ | ⟨hw, hat, hbl, htk⟩
    · have hqn : Try.prog.eqGuardType Try.prog.depth 50 = false := by kernel_rfl
      have hneq := run_fault_ne D1.why D1.wat true (by simp [hw])
      have HAT := Lib.hid hat
      clear hw hat
      go_wp2_with fail
      refine (Fault_any hr6).mono ?_
      rintro e w7 ⟨rfl, hb7⟩
      have hr7 := hr6.below hb7
      have hB7 := below_step hB6 hb7
      go_wp2_with fail
      refine (At_any hr7).mono ?_
      rintro e w8 ⟨rfl, rfl⟩
      rw [HAT.out]
      go_wp2_with fail
      go_ret
      exact ⟨rfl, hB7⟩
    · have hqn : Try.prog.eqGuardType Try.prog.depth 50 = false := by kernel_rfl
      have hneq := run_fault_ne D1.why D1.wat false (by simp [hw, hr6.inv hw])
      rw [HNB.out] at hat hbl htk
      have HAT := Lib.hid hat
      have hbl2 : nb ≤ n := by rw [← HL.out]; exact hbl
      have hbl3 : (nb : Int) ≤ (n : Int) := by omega
      have HTK := Lib.hid htk
      clear hw hat hbl htk
      go_wp2_with fail
      refine (Fault_any hr6).mono ?_
      rintro e w7 ⟨rfl, hb7⟩
      have hr7 := hr6.below hb7
      have hB7 := below_step hB6 hb7
      have hR7 := hR6.below hb7
      have hx7 := RB.take_ (hx.below hB7) nb hbl2
      rw [HTK.out] at hx7
      go_wp2_with fail
      refine (At_any hr7).mono ?_
      rintro e w8 ⟨rfl, rfl⟩
      rw [HAT.out]
      go_wp2_with fail
      refine (Equal_same hR7 hx7 rfl).mono ?_
      rintro e w9 ⟨rfl, rfl⟩
      go_wp2_with fail
      go_ret
      exact ⟨rfl, hB7⟩
  by_cases k1 : kz = 1
  · subst k1
    go_wp2_with fail
    refine (Int_any hr).mono ?_
    rintro e w5 ⟨D1, v, rfl, HV, hr5, ho5⟩
    have hB5 := Below.only hB4 ho5 hB4.size (fun j e => by rw [e]; exact hrg)
    have hvl := uintS_lt (new_ok hx.byt) HV.out
    have hz1 : -9223372036854775808 ≤ unzig v := by unfold unzig; split <;> omega
    have hz2 : unzig v ≤ 9223372036854775807 := by unfold unzig; split <;> omega
    go_wp2_with fail
    refine (PutInt_any (unzig v) (RB.nil w5) (by omega) hz1 hz2).mono ?_
    rintro e w6 ⟨v6, rfl, hO6, hb6⟩
    rw [List.nil_append] at hO6
    have hr6 := hr5.below hb6
    have hB6 := below_step hB5 hb6
    replace hO6 := hO6.less (Nat.le_trans hB5.size (Nat.le_refl _))
    rw [zig_unzig] at hO6
    have hF : Formed xs D1 (sh v) := form_uint hx.byt HV.out
    have HF := Lib.hid hF
    clear hF
    obtain ⟨A6, c6, rfl, hR6, hc6⟩ := hO6.reads'
    obtain ⟨nb, hnb⟩ : ∃ nb, (sh v).length = nb := ⟨_, rfl⟩
    rw [hnb] at hO6 hR6 hc6 ⊢
    have HNB := Lib.hid hnb
    clear hnb hO6
    rcases HF.out with ⟨hw, hat⟩ | ⟨hw, hat, hbl, htk⟩
    · have hqn : Try.prog.eqGuardType Try.prog.depth 50 = false := by kernel_rfl
      have hneq := run_fault_ne D1.why D1.wat true (by simp [hw])
      have HAT := Lib.hid hat
      clear hw hat
      go_wp2_with fail
      refine (Fault_any hr6).mono ?_
      rintro e w7 ⟨rfl, hb7⟩
      have hr7 := hr6.below hb7
      have hB7 := below_step hB6 hb7
      go_wp2_with fail
      refine (At_any hr7).mono ?_
      rintro e w8 ⟨rfl, rfl⟩
      rw [HAT.out]
      go_wp2_with fail
      go_ret
      exact ⟨rfl, hB7⟩
    · have hqn : Try.prog.eqGuardType Try.prog.depth 50 = false := by kernel_rfl
      have hneq := run_fault_ne D1.why D1.wat false (by simp [hw, hr6.inv hw])
      rw [HNB.out] at hat hbl htk
      have HAT := Lib.hid hat
      have hbl2 : nb ≤ n := by rw [← HL.out]; exact hbl
      have hbl3 : (nb : Int) ≤ (n : Int) := by omega
      have HTK := Lib.hid htk
      clear hw hat hbl htk
      go_wp2_with fail
      refine (Fault_any hr6).mono ?_
      rintro e w7 ⟨rfl, hb7⟩
      have hr7 := hr6.below hb7
      have hB7 := below_step hB6 hb7
      have hR7 := hR6.below hb7
      have hx7 := RB.take_ (hx.below hB7) nb hbl2
      rw [HTK.out] at hx7
      go_wp2_with fail
      refine (At_any hr7).mono ?_
      rintro e w8 ⟨rfl, rfl⟩
      rw [HAT.out]
      go_wp2_with fail
      refine (Equal_same hR7 hx7 rfl).mono ?_
      rintro e w9 ⟨rfl, rfl⟩
      go_wp2_with fail
      go_ret
      exact ⟨rfl, hB7⟩
  by_cases k2 : kz = 2
  · subst k2
    go_wp2_with fail
    refine (Bool_any hr).mono ?_
    rintro e w5 ⟨D1, v, rfl, HV, hr5, ho5⟩
    have hB5 := Below.only hB4 ho5 hB4.size (fun j e => by rw [e]; exact hrg)
    go_wp2_with fail
    refine (PutBool_any v (RB.nil w5) (by omega)).mono ?_
    rintro e w6 ⟨v6, rfl, hO6, hb6⟩
    rw [List.nil_append] at hO6
    have hr6 := hr5.below hb6
    have hB6 := below_step hB5 hb6
    replace hO6 := hO6.less (Nat.le_trans hB5.size (Nat.le_refl _))
    have hF : Formed xs D1 (tru v) := form_bool hx.byt HV.out
    have HF := Lib.hid hF
    clear hF
    obtain ⟨A6, c6, rfl, hR6, hc6⟩ := hO6.reads'
    obtain ⟨nb, hnb⟩ : ∃ nb, (tru v).length = nb := ⟨_, rfl⟩
    rw [hnb] at hO6 hR6 hc6 ⊢
    have HNB := Lib.hid hnb
    clear hnb hO6
    rcases HF.out with ⟨hw, hat⟩ | ⟨hw, hat, hbl, htk⟩
    · have hqn : Try.prog.eqGuardType Try.prog.depth 50 = false := by kernel_rfl
      have hneq := run_fault_ne D1.why D1.wat true (by simp [hw])
      have HAT := Lib.hid hat
      clear hw hat
      go_wp2_with fail
      refine (Fault_any hr6).mono ?_
      rintro e w7 ⟨rfl, hb7⟩
      have hr7 := hr6.below hb7
      have hB7 := below_step hB6 hb7
      go_wp2_with fail
      refine (At_any hr7).mono ?_
      rintro e w8 ⟨rfl, rfl⟩
      rw [HAT.out]
      go_wp2_with fail
      go_ret
      exact ⟨rfl, hB7⟩
    · have hqn : Try.prog.eqGuardType Try.prog.depth 50 = false := by kernel_rfl
      have hneq := run_fault_ne D1.why D1.wat false (by simp [hw, hr6.inv hw])
      rw [HNB.out] at hat hbl htk
      have HAT := Lib.hid hat
      have hbl2 : nb ≤ n := by rw [← HL.out]; exact hbl
      have hbl3 : (nb : Int) ≤ (n : Int) := by omega
      have HTK := Lib.hid htk
      clear hw hat hbl htk
      go_wp2_with fail
      refine (Fault_any hr6).mono ?_
      rintro e w7 ⟨rfl, hb7⟩
      have hr7 := hr6.below hb7
      have hB7 := below_step hB6 hb7
      have hR7 := hR6.below hb7
      have hx7 := RB.take_ (hx.below hB7) nb hbl2
      rw [HTK.out] at hx7
      go_wp2_with fail
      refine (At_any hr7).mono ?_
      rintro e w8 ⟨rfl, rfl⟩
      rw [HAT.out]
      go_wp2_with fail
      refine (Equal_same hR7 hx7 rfl).mono ?_
      rintro e w9 ⟨rfl, rfl⟩
      go_wp2_with fail
      go_ret
      exact ⟨rfl, hB7⟩
  by_cases k3 : kz = 3
  · subst k3
    go_wp2_with fail
    refine (Text_any hr (n : Int) (by omega)).mono ?_
    rintro e w5' ⟨D1, s, rfl, HV, hr5', ho5⟩
    have hB5' := Below.only hB4 ho5 hB4.size (fun j e => by rw [e]; exact hrg)
    have hft := form_text hx.byt (by omega) HV.out
    have hb5 := below_alloc (Below.refl _ w5') (.cells #[.string s] 9)
    have hT5 := RT.lit1 w5' s 9 (0, 0)
    have hr5 := hr5'.below hb5
    have hB5 := below_step hB5' hb5
    have HSS : Hid (∀ x ∈ [s], x.size ≤ 1048576) := Lib.hid (fun x hx => by have h1 := hft.2; rw [HL.out] at h1; simp at hx; subst hx; omega)
    have HFT := Lib.hid hft
    clear hft hr5' hb5 hB5'
    go_wp2_with fail
    refine (PutText_any (RB.nil _) hT5 1048576 (by omega) HSS.out (by omega)).mono ?_
    rintro e w6 ⟨v6, rfl, hO6, hb6⟩
    rw [List.nil_append] at hO6
    have hr6 := hr5.below hb6
    have hB6 := below_step hB5 hb6
    replace hO6 := hO6.less (Nat.le_trans hB5.size (Nat.le_refl _))
    rw [show txts [s] = txt s by simp [txts]] at hO6
    have hF : Formed xs D1 (txt s) := HFT.out.1
    have HF := Lib.hid hF
    clear hF
    obtain ⟨A6, c6, rfl, hR6, hc6⟩ := hO6.reads'
    obtain ⟨nb, hnb⟩ : ∃ nb, (txt s).length = nb := ⟨_, rfl⟩
    rw [hnb] at hO6 hR6 hc6 ⊢
    have HNB := Lib.hid hnb
    clear hnb hO6
    rcases HF.out with ⟨hw, hat⟩ | ⟨hw, hat, hbl, htk⟩
    · have hqn : Try.prog.eqGuardType Try.prog.depth 50 = false := by kernel_rfl
      have hneq := run_fault_ne D1.why D1.wat true (by simp [hw])
      have HAT := Lib.hid hat
      clear hw hat
      go_wp2_with fail
      refine (Fault_any hr6).mono ?_
      rintro e w7 ⟨rfl, hb7⟩
      have hr7 := hr6.below hb7
      have hB7 := below_step hB6 hb7
      go_wp2_with fail
      refine (At_any hr7).mono ?_
      rintro e w8 ⟨rfl, rfl⟩
      rw [HAT.out]
      go_wp2_with fail
      go_ret
      exact ⟨rfl, hB7⟩
    · have hqn : Try.prog.eqGuardType Try.prog.depth 50 = false := by kernel_rfl
      have hneq := run_fault_ne D1.why D1.wat false (by simp [hw, hr6.inv hw])
      rw [HNB.out] at hat hbl htk
      have HAT := Lib.hid hat
      have hbl2 : nb ≤ n := by rw [← HL.out]; exact hbl
      have hbl3 : (nb : Int) ≤ (n : Int) := by omega
      have HTK := Lib.hid htk
      clear hw hat hbl htk
      go_wp2_with fail
      refine (Fault_any hr6).mono ?_
      rintro e w7 ⟨rfl, hb7⟩
      have hr7 := hr6.below hb7
      have hB7 := below_step hB6 hb7
      have hR7 := hR6.below hb7
      have hx7 := RB.take_ (hx.below hB7) nb hbl2
      rw [HTK.out] at hx7
      go_wp2_with fail
      refine (At_any hr7).mono ?_
      rintro e w8 ⟨rfl, rfl⟩
      rw [HAT.out]
      go_wp2_with fail
      refine (Equal_same hR7 hx7 rfl).mono ?_
      rintro e w9 ⟨rfl, rfl⟩
      go_wp2_with fail
      go_ret
      exact ⟨rfl, hB7⟩
  replace k0 := beq_eq_false_iff_ne.2 k0
  replace k1 := beq_eq_false_iff_ne.2 k1
  replace k2 := beq_eq_false_iff_ne.2 k2
  replace k3 := beq_eq_false_iff_ne.2 k3
  by_cases k4 : kz = 4
  · subst k4
    go_wp2_with fail
    refine (List_any hr (by omega) (n : Int) (n : Int) (by omega) (by omega)).mono ?_
    rintro e w5 ⟨D1, v5, l, rfl, HV, hO5, hr5, ho5⟩
    have hB5 := Below.only hB4 ho5 hB4.size (fun j e => by rw [e]; exact hrg)
    have hfl := form_list hx.byt (by omega) (by omega) HV.out
    obtain ⟨A5, c5, rfl, hT5⟩ := hO5.reads
    obtain ⟨ml, hml⟩ : ∃ ml, l.length = ml := ⟨_, rfl⟩
    rw [hml] at hT5 ⊢
    have hmb : ml ≤ 1048576 := by rw [← hml]; have := hfl.2.1; rw [HL.out] at this; omega
    have HSS : Hid (∀ x ∈ l, x.size ≤ 1048576) := Lib.hid (fun x hx => by have h1 := hfl.2.2 x hx; rw [HL.out] at h1; omega)
    have HFL := Lib.hid hfl
    clear hfl hml hO5
    go_wp2_with fail
    refine (PutList_any (RB.nil w5) hT5 1048576 (by omega) HSS.out (by omega)).mono ?_
    rintro e w6 ⟨v6, rfl, hO6, hb6⟩
    rw [List.nil_append] at hO6
    have hr6 := hr5.below hb6
    have hB6 := below_step hB5 hb6
    replace hO6 := hO6.less (Nat.le_trans hB5.size (Nat.le_refl _))
    have hF : Formed xs D1 (lst l) := HFL.out.1
    have HF := Lib.hid hF
    clear hF
    obtain ⟨A6, c6, rfl, hR6, hc6⟩ := hO6.reads'
    obtain ⟨nb, hnb⟩ : ∃ nb, (lst l).length = nb := ⟨_, rfl⟩
    rw [hnb] at hO6 hR6 hc6 ⊢
    have HNB := Lib.hid hnb
    clear hnb hO6
    rcases HF.out with ⟨hw, hat⟩ | ⟨hw, hat, hbl, htk⟩
    · have hqn : Try.prog.eqGuardType Try.prog.depth 50 = false := by kernel_rfl
      have hneq := run_fault_ne D1.why D1.wat true (by simp [hw])
      have HAT := Lib.hid hat
      clear hw hat
      go_wp2_with fail
      refine (Fault_any hr6).mono ?_
      rintro e w7 ⟨rfl, hb7⟩
      have hr7 := hr6.below hb7
      have hB7 := below_step hB6 hb7
      go_wp2_with fail
      refine (At_any hr7).mono ?_
      rintro e w8 ⟨rfl, rfl⟩
      rw [HAT.out]
      go_wp2_with fail
      go_ret
      exact ⟨rfl, hB7⟩
    · have hqn : Try.prog.eqGuardType Try.prog.depth 50 = false := by kernel_rfl
      have hneq := run_fault_ne D1.why D1.wat false (by simp [hw, hr6.inv hw])
      rw [HNB.out] at hat hbl htk
      have HAT := Lib.hid hat
      have hbl2 : nb ≤ n := by rw [← HL.out]; exact hbl
      have hbl3 : (nb : Int) ≤ (n : Int) := by omega
      have HTK := Lib.hid htk
      clear hw hat hbl htk
      go_wp2_with fail
      refine (Fault_any hr6).mono ?_
      rintro e w7 ⟨rfl, hb7⟩
      have hr7 := hr6.below hb7
      have hB7 := below_step hB6 hb7
      have hR7 := hR6.below hb7
      have hx7 := RB.take_ (hx.below hB7) nb hbl2
      rw [HTK.out] at hx7
      go_wp2_with fail
      refine (At_any hr7).mono ?_
      rintro e w8 ⟨rfl, rfl⟩
      rw [HAT.out]
      go_wp2_with fail
      refine (Equal_same hR7 hx7 rfl).mono ?_
      rintro e w9 ⟨rfl, rfl⟩
      go_wp2_with fail
      go_ret
      exact ⟨rfl, hB7⟩
  · exfalso
    apply k4
    have h0 := beq_eq_false_iff_ne.1 k0
    have h1 := beq_eq_false_iff_ne.1 k1
    have h2 := beq_eq_false_iff_ne.1 k2
    have h3 := beq_eq_false_iff_ne.1 k3
    have := kind5 z
    rw [hk] at this
    omega
end Go.Proofs.Ytiadfmbddkcleaa
