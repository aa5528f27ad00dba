/- The program's reader: Raw, Fail, At, Left, Fault, End, NewReader. -/
import Derived.Test.YtiadfmbddkcleaaWiT
import Derived.Test.YtiadfmbddkcleaaMid
import Derived.StillTailTactics
namespace Go.Proofs.Ytiadfmbddkcleaa
open Go.RowKit Go.Kit Go.Proofs.YtiadfmbddkcleaaW.PrintWords
section
variable {w w1 : World} {r n c : Nat} {A : Option Addr} {D : Rd} {S : Nat → Prop}
attribute [-go_sem] run_slice_lh run_slice_any
set_option maxHeartbeats 2000000 in
set_option maxRecDepth 100000 in
theorem Raw_any (h : RS w r A n c D) (m : Int) (hm1 : m ≤ 9223372036854775807) : Calls Try.prog 18 #[.pointer (some ⟨r, 0, none⟩), .int .i64 m] w fun e w' => ∃ D1 v xs, e = .returned v ∧ Hid (rawS D m = (D1, xs)) ∧ OB 5 w' w.heap.size v xs ∧ RS w' r A n c D1 ∧ Only w w' (fun k => k = r) := by
  have h1 := h.r1
  have hf1 := h.fr 1
  have hm := h.max
  have hlo := h.low
  by_cases hw : D.why = 0
  · have HW := Lib.hid hw
    have HL := Lib.hid h.row.len
    go_enter Try.func18, Try.ntmps18
    go_wp2_with fail
    refine (well_any h true (by simpa using hw)).mono ?_
    rintro e w2 ⟨rfl, rfl⟩
    clear hw
    by_cases hneg : m < 0
    · have HF : Hid (rawS D m = (D.fail 1 D.at_, [])) := Lib.hid (by
        unfold rawS
        rw [if_neg (by rw [HW.out]; simp), if_pos hneg])
      go_wp2_with fail
      refine (fails_any h 1 D.at_ (by decide)).mono ?_
      rintro e w4 ⟨rfl, hs, ho⟩
      go_wp2_with fail
      go_ret
      exact ⟨_, _, [], rfl, HF, OB.nil _ _ _, hs, ho⟩
    · go_wp2_with fail
      refine (left_any h).mono ?_
      rintro e w3 ⟨rfl, kq, rfl⟩
      have ho := (Only.refl w2 (fun k => k = r)).drewN kq
      replace h := h.drewN kq
      by_cases hx : (n : Int) - (D.at_ : Int) < m
      · have HF : Hid (rawS D m = (D.fail 4 D.at_, [])) := Lib.hid (by
          unfold rawS
          rw [if_neg (by rw [HW.out]; simp), if_neg (by omega), if_pos (by rw [HL.out]; exact hx)])
        go_wp2_with fail
        refine (fails_any h 4 D.at_ (by decide)).mono ?_
        rintro e w4 ⟨rfl, hs, ho2⟩
        have ho3 := ho.same ho2
        go_wp2_with fail
        go_ret
        exact ⟨_, _, [], rfl, HF, OB.nil _ _ _, hs, ho3⟩
      · obtain ⟨mn, rfl⟩ := Int.eq_ofNat_of_zero_le (show 0 ≤ m by omega)
        have HF : Hid (rawS D (mn : Int) = (D.to (D.at_ + mn), (D.bs.drop D.at_).take mn)) := Lib.hid (by
          unfold rawS
          rw [if_neg (by rw [HW.out]; simp), if_neg (by omega), if_neg (by rw [HL.out]; exact hx)]
          rfl)
        have hs := h.set1 ((D.at_ : Int) + (mn : Int)) (D.at_ + mn) (by omega) (by omega)
        replace ho := ho.set r 1 (.int .i64 ((D.at_ : Int) + (mn : Int))) (.inl rfl)
        have hw2 : IntKind.i64.wrap ((D.at_ : Int) + (mn : Int) - (mn : Int)) = (D.at_ : Int) := by rw [IntWalk.i64_in _ ⟨by omega, by omega⟩]; omega
        have hsub : (D.at_ : Int) + (mn : Int) - (mn : Int) = (D.at_ : Int) := by omega
        have hxx : (mn : Int) ≤ (n : Int) - (D.at_ : Int) := by omega
        clear hx
        go_wp2_with fail
        generalize (w2.drewN kq).setCell ⟨r, 1, none⟩ (.int .i64 ((D.at_ : Int) + (mn : Int))) = wz at *
        have d0 := hs.r0
        have d1 : wz.cell? ⟨r, 1, none⟩ = some (.int .i64 ((D.at_ : Int) + (mn : Int))) := hs.r1
        clear h1 hf1
        have hcc := hs.cap
        obtain ⟨A', hcut, hA', hAb⟩ := mid_bytes A n c D.at_ (D.at_ + mn) (by omega) (by omega) hcc
        replace hcut := hcut (D.at_ : Int) ((D.at_ : Int) + (mn : Int)) rfl (by omega)
        have hrm := hA' _ _ hs.row
        have hmn : D.at_ + mn - D.at_ = mn := by omega
        rw [hmn] at hcut hrm
        clear hA' hAb hmn
        have hrd := hrm.drew
        have hsd := hs.drewN 1
        have hod := ho.drewN 1
        clear hrm hs ho h
        go_still_tail 17, (by kernel_rfl)
        clear d0 d1
        change wpList _ _ _ _ _ wz.drew
        change RS wz.drew r A n c _ at hsd
        change Only w2 wz.drew _ at hod
        generalize wz.drew = wv at *
        go_wp2_with fail
        rw [hcut]
        go_wp2_with fail
        refine (fresh_any A' mn _ 0 _ _ hrd (by omega)).mono ?_
        rintro e w4 ⟨v, rfl, hO, hb⟩
        have hs := hsd.below hb
        have ho2 := hod.below hb
        replace hO := hO.less hod.size
        go_wp2_with fail
        go_ret
        exact ⟨_, v, _, rfl, HF, hO, hs, ho2⟩
  · have HF : Hid (rawS D m = (D, [])) := Lib.hid (by unfold rawS; rw [if_pos hw])
    go_enter Try.func18, Try.ntmps18
    go_wp2_with fail
    refine (well_any h false (by simpa using hw)).mono ?_
    rintro e w2 ⟨rfl, rfl⟩
    clear hw
    go_wp2_with fail
    go_ret
    exact ⟨_, _, [], rfl, HF, OB.nil _ _ _, h, Only.refl _ _⟩
end
end Go.Proofs.Ytiadfmbddkcleaa
