/- The program's reader: Uint, Int, Count, Byte, Bool, Raw, Fail, At, Left, Fault, End, NewReader. -/
import Derived.Test.YtiadfmbddkcleaaWiR
namespace Go.Kit
theorem numF {D : Rd} (hok : D.ok) {m k : Nat} {x : Int} (h : num D.bs D.at_ = (m, k, x)) : m < 18446744073709551616 ∧ D.at_ + k ≤ D.bs.length ∧ k ≤ 10 ∧ (x = 0 → 1 ≤ k) ∧ (x = 0 ∨ x = 4 ∨ x = 5 ∨ x = 10) := by
  have := num_facts hok.1 hok.2.1
  rw [h] at this
  exact this
end Go.Kit
namespace Go.Proofs.Ytiadfmbddkcleaa
open Go.RowKit Go.Kit Go.Proofs.YtiadfmbddkcleaaW.PrintWords
section
variable {w w1 : World} {r n c : Nat} {A : Option Addr} {D : Rd} {S : Nat → Prop}
set_option maxHeartbeats 1000000 in
theorem Uint_any (h : RS w r A n c D) : Calls Try.prog 20 #[.pointer (some ⟨r, 0, none⟩)] w fun e w' => ∃ D1 v, e = .returned (.int .u64 ((v : Nat) : Int)) ∧ Hid (uintS D = (D1, v)) ∧ RS w' r A n c D1 ∧ Only w w' (fun k => k = r) := by
  have h1 := h.r1
  have hf1 := h.fr 1
  have hm := h.max
  by_cases hw : D.why = 0
  · have HW := Lib.hid hw
    go_enter Try.func20, Try.ntmps20
    go_wp2_with fail
    refine (well_any h true (by simpa using hw)).mono ?_
    rintro e w2 ⟨rfl, rfl⟩
    clear hw
    go_wp2_with fail
    refine (number_any h D.at_ h.low).mono ?_
    rintro e w3 ⟨m, k, x, rfl, HN, rfl⟩
    obtain ⟨g1, g2, g3, g4, g5⟩ := numF h.ok HN.out
    rw [h.row.len] at g2
    by_cases hx : x = 0
    · have HF : Hid (uintS D = (D.to (D.at_ + k), m)) := Lib.hid (by
        unfold uintS
        rw [if_neg (by rw [HW.out]; simp), HN.out]
        rw [if_neg (by simpa using hx)])
      have hxb : (x != 0) = false := by simp [hx]
      have hs := h.set1 ((D.at_ : Int) + (k : Int)) (D.at_ + k) (by omega) g2
      have ho := only_r w3 r 1 (.int .i64 ((D.at_ : Int) + (k : Int)))
      clear hx g1 g4 g5
      go_wp2_with fail
      go_ret
      exact ⟨_, _, rfl, HF, hs, ho⟩
    · have HF : Hid (uintS D = (D.fail x D.at_, 0)) := Lib.hid (by
        unfold uintS
        rw [if_neg (by rw [HW.out]; simp), HN.out]
        rw [if_pos (by simpa using hx)])
      have hxb : (x != 0) = true := by simp [hx]
      have HX := Lib.hid hx
      clear hx g1 g2 g3 g4 g5
      go_wp2_with fail
      refine (fails_any h x D.at_ HX.out).mono ?_
      rintro e w4 ⟨rfl, hs, ho⟩
      go_wp2_with fail
      go_ret
      exact ⟨_, 0, rfl, HF, hs, ho⟩
  · have HF : Hid (uintS D = (D, 0)) := Lib.hid (by unfold uintS; rw [if_pos hw])
    go_enter Try.func20, Try.ntmps20
    go_wp2_with fail
    refine (well_any h false (by simpa using hw)).mono ?_
    rintro e w2 ⟨rfl, rfl⟩
    clear hw
    go_wp2_with fail
    go_ret
    exact ⟨_, 0, rfl, HF, h, Only.refl _ _⟩
set_option maxHeartbeats 1000000 in
theorem Int_any (h : RS w r A n c D) : Calls Try.prog 21 #[.pointer (some ⟨r, 0, none⟩)] w fun e w' => ∃ D1 v, e = .returned (.int .i64 (unzig v)) ∧ Hid (uintS D = (D1, v)) ∧ RS w' r A n c D1 ∧ Only w w' (fun k => k = r) := by
  go_enter Try.func21, Try.ntmps21
  go_wp2_with fail
  refine (Uint_any h).mono ?_
  rintro e w2 ⟨D1, v, rfl, HF, hs, ho⟩
  have hv := Lib.hid (unzig_bits v (uintS_lt h.ok HF.out))
  go_wp2_with fail
  go_ret
  exact ⟨D1, v, by rw [← hv.out]; rfl, HF, hs, ho⟩
theorem getD_at {A : Option Addr} {n : Nat} {xs : List Int} {w : World} (h : RB w A n xs) (i : Nat) (hi : i < n) : ∃ ad, A = some ad ∧ w.cell? (ad.add i) = some (.int .u8 (xs.getD i 0)) ∧ 0 ≤ xs.getD i 0 ∧ xs.getD i 0 < 256 := by
  obtain ⟨ad, x, e, hc, h0, h1, hx⟩ := h.at_ i hi
  have : xs.getD i 0 = x := by rw [List.getD_eq_getElem?_getD, hx.out]; rfl
  rw [this]
  exact ⟨ad, e, hc, h0, h1⟩
set_option maxHeartbeats 1000000 in
theorem Byte_any (h : RS w r A n c D) : Calls Try.prog 43 #[.pointer (some ⟨r, 0, none⟩)] w fun e w' => ∃ D1 v, e = .returned (.int .u8 v) ∧ Hid (byteS D = (D1, v)) ∧ RS w' r A n c D1 ∧ Only w w' (fun k => k = r) := by
  have h1 := h.r1
  have hf1 := h.fr 1
  have hm := h.max
  have hlo := h.low
  by_cases hw : D.why = 0
  · have HW := Lib.hid hw
    have HL := Lib.hid h.row.len
    go_enter Try.func43, Try.ntmps43
    go_wp2_with fail
    refine (well_any h true (by simpa using hw)).mono ?_
    rintro e w2 ⟨rfl, rfl⟩
    clear hw
    go_wp2_with fail
    refine (left_any h).mono ?_
    rintro e w3 ⟨rfl, kq, rfl⟩
    replace h := h.drewN kq
    by_cases hx : n ≤ D.at_
    · have HF : Hid (byteS D = (D.fail 4 D.at_, 0)) := Lib.hid (by
        unfold byteS
        rw [if_neg (by rw [HW.out]; simp), if_pos (by rw [HL.out]; exact hx)])
      have hxx : (n : Int) - (D.at_ : Int) < 1 := by omega
      clear hx
      go_wp2_with fail
      refine (fails_any h 4 D.at_ (by decide)).mono ?_
      rintro e w4 ⟨rfl, hs, ho⟩
      have ho2 : Only w2 w4 (fun k => k = r) := ((Only.refl w2 _).drewN kq).same ho
      go_wp2_with fail
      go_ret
      exact ⟨_, 0, rfl, HF, hs, ho2⟩
    · have HF : Hid (byteS D = (D.to (D.at_ + 1), D.bs.getD D.at_ 0)) := Lib.hid (by
        unfold byteS
        rw [if_neg (by rw [HW.out]; simp), if_neg (by rw [HL.out]; exact hx)])
      have hxx : ¬ (n : Int) - (D.at_ : Int) < 1 := by omega
      have hs := h.set1 ((D.at_ : Int) + 1) (D.at_ + 1) (by omega) (by omega)
      have ho : Only w2 _ (fun k => k = r) := ((Only.refl w2 (fun k => k = r)).drewN kq).set r 1 (.int .i64 ((D.at_ : Int) + 1)) (.inl rfl)
      have hlt : (D.at_ : Int) < (n : Int) := by omega
      have hw2 : IntKind.i64.wrap ((D.at_ : Int) + 1 - 1) = (D.at_ : Int) := by rw [IntWalk.i64_in _ ⟨by omega, by omega⟩]; omega
      clear hx
      go_wp2_with fail
      generalize (w2.drewN kq).setCell ⟨r, 1, none⟩ (.int .i64 ((D.at_ : Int) + 1)) = wz at *
      obtain ⟨ad, rfl, hc, hc0, hc1⟩ := getD_at (xs := D.bs) hs.row D.at_ (by omega)
      have e0 := hs.r0
      have e1 : wz.cell? ⟨r, 1, none⟩ = some (.int .i64 ((D.at_ : Int) + 1)) := hs.r1
      generalize D.bs.getD D.at_ 0 = b at *
      go_quiet (fail)
      have hsn := fun m => hs.drewN m
      have hon := fun m => ho.drewN m
      clear hs ho
      go_wp2_with fail
      go_ret
      exact ⟨_, _, rfl, HF, hsn _, hon _⟩
  · have HF : Hid (byteS D = (D, 0)) := Lib.hid (by unfold byteS; rw [if_pos hw])
    go_enter Try.func43, Try.ntmps43
    go_wp2_with fail
    refine (well_any h false (by simpa using hw)).mono ?_
    rintro e w2 ⟨rfl, rfl⟩
    clear hw
    go_wp2_with fail
    go_ret
    exact ⟨_, 0, rfl, HF, h, Only.refl _ _⟩
end
end Go.Proofs.Ytiadfmbddkcleaa
