/- The program's reader: Bool, Count, Raw, Fail, At, Left, Fault, End, NewReader. -/
import Derived.Test.YtiadfmbddkcleaaWiS
namespace Go.Proofs.Ytiadfmbddkcleaa
open Go.RowKit Go.Kit Go.Proofs.YtiadfmbddkcleaaW.PrintWords
section
variable {w w1 : World} {r n c : Nat} {A : Option Addr} {D : Rd} {S : Nat → Prop}
set_option maxHeartbeats 2000000 in
theorem Bool_any (h : RS w r A n c D) : Calls Try.prog 22 #[.pointer (some ⟨r, 0, none⟩)] w fun e w' => ∃ D1 v, e = .returned (.bool v) ∧ Hid (boolS D = (D1, v)) ∧ RS w' r A n c D1 ∧ Only w w' (fun k => k = r) := by
  have h1 := h.r1
  have hf1 := h.fr 1
  have hm := h.max
  have hlo := h.low
  by_cases hw : D.why = 0
  · have HW := Lib.hid hw
    have HL := Lib.hid h.row.len
    go_enter Try.func22, Try.ntmps22
    go_wp2_with fail
    refine (well_any h true (by simpa using hw)).mono ?_
    rintro e w2 ⟨rfl, rfl⟩
    clear hw
    go_wp2_with fail
    refine (left_any h).mono ?_
    rintro e w3 ⟨rfl, kq, rfl⟩
    replace h := h.drewN kq
    by_cases hx : n ≤ D.at_
    · have HF : Hid (boolS D = (D.fail 4 D.at_, false)) := Lib.hid (by
        unfold boolS
        rw [if_neg (by rw [HW.out]; simp), if_pos (by rw [HL.out]; exact hx)])
      have hxx : (n : Int) - (D.at_ : Int) < 1 := by omega
      clear hx
      go_wp2_with fail
      refine (fails_any h 4 D.at_ (by decide)).mono ?_
      rintro e w4 ⟨rfl, hs, ho⟩
      have ho2 : Only w2 w4 (fun k => k = r) := ((Only.refl w2 _).drewN kq).same ho
      go_wp2_with fail
      go_ret
      exact ⟨_, false, rfl, HF, hs, ho2⟩
    · have HF : Hid (boolS D = if 1 < D.bs.getD D.at_ 0 then (D.fail 5 D.at_, false) else (D.to (D.at_ + 1), D.bs.getD D.at_ 0 == 1)) := Lib.hid (by
        unfold boolS
        rw [if_neg (by rw [HW.out]; simp), if_neg (by rw [HL.out]; exact hx)])
      have hxx : ¬ (n : Int) - (D.at_ : Int) < 1 := by omega
      have hlt : (D.at_ : Int) < (n : Int) := by omega
      have hw2 : IntKind.i64.wrap ((D.at_ : Int) + 1 - 1) = (D.at_ : Int) := by rw [IntWalk.i64_in _ ⟨by omega, by omega⟩]; omega
      have ho := (Only.refl w2 (fun k => k = r)).drewN kq
      obtain ⟨ad, rfl, hc, hc0, hc1⟩ := getD_at (xs := D.bs) h.row D.at_ (by omega)
      have hlt2 : D.at_ < n := by omega
      generalize hb : D.bs.getD D.at_ 0 = b at *
      have HB := Lib.hid hb
      clear hx hb
      go_wp2_with fail
      generalize w2.drewN kq = wy at *
      have d0 := h.r0
      have d1 := h.r1
      go_quiet (fail)
      replace h := h.drewN nq
      replace ho := ho.drewN nq
      clear d0 d1
      generalize wy.drewN nq = wv at *
      have d1 := h.r1
      have hf2 := h.fr 1
      by_cases hb1 : 1 < b
      · rw [if_pos hb1] at HF
        go_wp2_with fail
        refine (fails_any h 5 D.at_ (by decide)).mono ?_
        rintro e w4 ⟨rfl, hs, ho2⟩
        have ho3 := ho.same ho2
        go_wp2_with fail
        go_ret
        exact ⟨_, false, rfl, HF, hs, ho3⟩
      · rw [if_neg hb1] at HF
        have hs := h.set1 ((D.at_ : Int) + 1) (D.at_ + 1) (by omega) (by omega)
        replace ho := ho.set r 1 (.int .i64 ((D.at_ : Int) + 1)) (.inl rfl)
        go_wp2_with fail
        clear d1
        have hc2 := hc
        generalize wv.setCell ⟨r, 1, none⟩ (.int .i64 ((D.at_ : Int) + 1)) = wz at *
        obtain ⟨ad', e, hc', _, _⟩ := getD_at (xs := D.bs) hs.row D.at_ (by omega)
        cases e
        rw [HB.out] at hc'
        have d0 := hs.r0
        have d1 : wz.cell? ⟨r, 1, none⟩ = some (.int .i64 ((D.at_ : Int) + 1)) := hs.r1
        go_quiet (fail)
        replace hs := hs.drewN nq
        replace ho := ho.drewN nq
        go_wp2_with fail
        go_ret
        exact ⟨_, _, rfl, HF, hs, ho⟩
  · have HF : Hid (boolS D = (D, false)) := Lib.hid (by unfold boolS; rw [if_pos hw])
    go_enter Try.func22, Try.ntmps22
    go_wp2_with fail
    refine (well_any h false (by simpa using hw)).mono ?_
    rintro e w2 ⟨rfl, rfl⟩
    clear hw
    go_wp2_with fail
    go_ret
    exact ⟨_, false, rfl, HF, h, Only.refl _ _⟩
set_option maxHeartbeats 2000000 in
theorem Count_any (h : RS w r A n c D) (most : Int) (hmo : most ≤ 9223372036854775807) : Calls Try.prog 50 #[.pointer (some ⟨r, 0, none⟩), .int .i64 most] w fun e w' => ∃ D1 v, e = .returned (.int .i64 ((v : Nat) : Int)) ∧ Hid (countS D most = (D1, v)) ∧ RS w' r A n c D1 ∧ Only w w' (fun k => k = r) := by
  have h1 := h.r1
  have hf1 := h.fr 1
  have hm := h.max
  by_cases hw : D.why = 0
  · have HW := Lib.hid hw
    go_enter Try.func50, Try.ntmps50
    go_wp2_with fail
    refine (well_any h true (by simpa using hw)).mono ?_
    rintro e w2 ⟨rfl, rfl⟩
    clear hw
    by_cases hneg : most < 0
    · have HF : Hid (countS D most = (D.fail 1 D.at_, 0)) := Lib.hid (by
        unfold countS
        rw [if_neg (by rw [HW.out]; simp), if_pos (by omega)])
      go_wp2_with fail
      refine (fails_any h 1 D.at_ (by decide)).mono ?_
      rintro e w4 ⟨rfl, hs, ho⟩
      go_wp2_with fail
      go_ret
      exact ⟨_, 0, rfl, HF, hs, ho⟩
    · go_wp2_with fail
      refine (number_any h D.at_ h.low).mono ?_
      rintro e w3 ⟨m, k, x, rfl, HN, rfl⟩
      obtain ⟨g1, g2, g3, g4, g5⟩ := numF h.ok HN.out
      rw [h.row.len] at g2
      have HF : Hid (countS D most = if x ≠ 0 then (D.fail x D.at_, 0) else if most < (m : Int) then (D.fail 11 D.at_, 0) else (D.to (D.at_ + k), m)) := Lib.hid (by
        unfold countS
        rw [if_neg (by rw [HW.out]; simp), if_neg (by omega), HN.out])
      have hwm : IntKind.u64.wrap most = most := IntWalk.u64_in _ ⟨by omega, by omega⟩
      by_cases hx : x = 0
      · subst hx
        rw [if_neg (by simp)] at HF
        by_cases hmm : most < (m : Int)
        · rw [if_pos hmm] at HF
          clear g1 g4 g5
          go_wp2_with fail
          refine (fails_any h 11 D.at_ (by decide)).mono ?_
          rintro e w4 ⟨rfl, hs, ho⟩
          go_wp2_with fail
          go_ret
          exact ⟨_, 0, rfl, HF, hs, ho⟩
        · rw [if_neg hmm] at HF
          have hs := h.set1 ((D.at_ : Int) + (k : Int)) (D.at_ + k) (by omega) g2
          have ho := only_r w3 r 1 (.int .i64 ((D.at_ : Int) + (k : Int)))
          have hm2 : (m : Int) ≤ 9223372036854775807 := by omega
          clear g1 g4 g5
          go_wp2_with fail
          go_ret
          exact ⟨_, _, rfl, HF, hs, ho⟩
      · rw [if_pos hx] at HF
        have hxb : (x != 0) = true := by simp [hx]
        have hxc : (x == 0) = false := by simp [hx]
        have HX := Lib.hid hx
        clear hx g1 g2 g3 g4 g5
        go_wp2_with fail
        refine (fails_any h x D.at_ HX.out).mono ?_
        rintro e w4 ⟨rfl, hs, ho⟩
        go_wp2_with fail
        go_ret
        exact ⟨_, 0, rfl, HF, hs, ho⟩
  · have HF : Hid (countS D most = (D, 0)) := Lib.hid (by unfold countS; rw [if_pos hw])
    go_enter Try.func50, Try.ntmps50
    go_wp2_with fail
    refine (well_any h false (by simpa using hw)).mono ?_
    rintro e w2 ⟨rfl, rfl⟩
    clear hw
    go_wp2_with fail
    go_ret
    exact ⟨_, 0, rfl, HF, h, Only.refl _ _⟩
end
end Go.Proofs.Ytiadfmbddkcleaa
