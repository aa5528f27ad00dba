/- The document's reader: New, Int, Raw, Byte, Fail, End. -/
import Derived.Test.YtiadfmbddkcleaaWiQ
namespace Go.Proofs.Ytiadfmbddkcleaa
open Go.RowKit Go.Kit Go.Proofs.YtiadfmbddkcleaaW.PrintWords
section
variable {w w1 : World} {q n c : Nat} {A : Option Addr} {D : Rd} {S : Nat → Prop}
set_option maxHeartbeats 1000000 in
theorem rRInt_any (h : QR w q A n c D) : Calls Try.prog 54 #[.pointer (some ⟨q, 0, none⟩)] w fun e w' => ∃ D1 v, e = .returned (.int .i64 (unzig v)) ∧ Hid (uintS D = (D1, v)) ∧ QR w' q A n c D1 ∧ Only w w' (fun k => k = q) := by
  have hok := h.ok
  go_enter Try.func54, Try.ntmps54
  go_wp2_with fail
  refine (rRUint_any h).mono ?_
  rintro e w2 ⟨D1, v, rfl, HF, hs, ho⟩
  have hv := uintS_lt hok HF.out
  have HV := Lib.hid hv
  have hd : IntKind.u64.wrap ((v : Int) / 2) = (v : Int) / 2 := IntWalk.u64_in _ ⟨by omega, by omega⟩
  have hd2 : wrap64 ((v : Int) / 2) = (v : Int) / 2 := by unfold wrap64; omega
  have hd3 : IntKind.i64.wrap ((v : Int) / 2) = (v : Int) / 2 := IntWalk.i64_in _ ⟨by omega, by omega⟩
  by_cases h2 : v % 2 = 0
  · have h2b : ((v : Int) % 2 == 0) = true := by rw [beq_iff_eq]; omega
    have HU : Hid (unzig v = (v : Int) / 2) := Lib.hid (by unfold unzig; rw [if_pos h2]; omega)
    clear h2 hv
    go_wp2_with fail
    go_ret
    exact ⟨_, v, by rw [HU.out]; rfl, HF, hs, ho⟩
  · have h2b : ((v : Int) % 2 == 0) = false := by rw [beq_eq_false_iff_ne]; omega
    have HU : Hid (unzig v = -((v : Int) / 2) - 1) := Lib.hid (by unfold unzig; rw [if_neg h2]; omega)
    have hd4 : wrap64 (-((v : Int) / 2)) = -((v : Int) / 2) := by unfold wrap64; omega
    have hd5 : wrap64 (-((v : Int) / 2) - 1) = -((v : Int) / 2) - 1 := by unfold wrap64; omega
    have hd6 : IntKind.i64.wrap (-((v : Int) / 2)) = -((v : Int) / 2) := IntWalk.i64_in _ ⟨by omega, by omega⟩
    have hd7 : IntKind.i64.wrap (-((v : Int) / 2) - 1) = -((v : Int) / 2) - 1 := IntWalk.i64_in _ ⟨by omega, by omega⟩
    clear h2 hv
    go_wp2_with fail
    go_ret
    exact ⟨_, v, by rw [HU.out]; rfl, HF, hs, ho⟩
attribute [-go_sem] run_slice_lh run_slice_any
set_option maxHeartbeats 2000000 in
set_option maxRecDepth 100000 in
theorem rRaw_any (h : QR w q A n c D) (m : Int) (hm1 : m ≤ 9223372036854775807) : Calls Try.prog 59 #[.pointer (some ⟨q, 0, none⟩), .int .i64 m] w fun e w' => ∃ D1 v xs, e = .returned v ∧ Hid (rawS D m = (D1, xs)) ∧ OB 5 w' w.heap.size v xs ∧ QR w' q A n c D1 ∧ Only w w' (fun k => k = q) := by
  have h0 := h.q0
  have h1 := h.q1
  have h2 := h.q2
  have hf1 := h.fq 1
  have hm := h.max
  have hlo := h.low
  by_cases hw : D.why = 0
  · have HW := Lib.hid hw
    have HL := Lib.hid h.row.len
    have hwb : (D.why != 0) = false := by simp [hw]
    clear hw
    go_enter Try.func59, Try.ntmps59
    by_cases hneg : m < 0
    · have HF : Hid (rawS D m = (D.fail 1 D.at_, [])) := Lib.hid (by
        unfold rawS
        rw [if_neg (by rw [HW.out]; simp), if_pos hneg])
      go_wp2_with fail
      refine (rfail_any h 1 D.at_ (by decide)).mono ?_
      rintro e w4 ⟨rfl, hs, ho⟩
      go_wp2_with fail
      go_ret
      exact ⟨_, _, [], rfl, HF, OB.nil _ _ _, hs, ho⟩
    · have hw0 : IntKind.i64.wrap ((n : Int) - (D.at_ : Int)) = (n : Int) - (D.at_ : Int) := IntWalk.i64_in _ ⟨by omega, by omega⟩
      go_wp2_with fail
      go_quiet (fail)
      have ho := (Only.refl w (fun k => k = q)).drewN nq
      replace h := h.drewN nq
      have h1 := h.q1
      have hf1 := h.fq 1
      by_cases hx : (n : Int) - (D.at_ : Int) < m
      · have HF : Hid (rawS D m = (D.fail 4 D.at_, [])) := Lib.hid (by
          unfold rawS
          rw [if_neg (by rw [HW.out]; simp), if_neg (by omega), if_pos (by rw [HL.out]; exact hx)])
        go_wp2_with fail
        refine (rfail_any h 4 D.at_ (by decide)).mono ?_
        rintro e w4 ⟨rfl, hs, ho2⟩
        have ho3 := ho.same ho2
        go_wp2_with fail
        go_ret
        exact ⟨_, _, [], rfl, HF, OB.nil _ _ _, hs, ho3⟩
      · obtain ⟨mn, rfl⟩ := Int.eq_ofNat_of_zero_le (show 0 ≤ m by omega)
        have HF : Hid (rawS D (mn : Int) = (D.to (D.at_ + mn), (D.bs.drop D.at_).take mn)) := Lib.hid (by
          unfold rawS
          rw [if_neg (by rw [HW.out]; simp), if_neg (by omega), if_neg (by rw [HL.out]; exact hx)]
          rfl)
        have hs := h.set1 ((D.at_ : Int) + (mn : Int)) (D.at_ + mn) (by omega) (by omega)
        replace ho := ho.set q 1 (.int .i64 ((D.at_ : Int) + (mn : Int))) (.inl rfl)
        have hsub : (D.at_ : Int) + (mn : Int) - (mn : Int) = (D.at_ : Int) := by omega
        have hxx : (mn : Int) ≤ (n : Int) - (D.at_ : Int) := by omega
        clear hx
        go_wp2_with fail
        generalize (w.drewN nq).setCell ⟨q, 1, none⟩ (.int .i64 ((D.at_ : Int) + (mn : Int))) = wz at *
        have d0 := hs.q0
        have d1 : wz.cell? ⟨q, 1, none⟩ = some (.int .i64 ((D.at_ : Int) + (mn : Int))) := hs.q1
        clear h1 hf1 h0 h2
        have hcc := hs.cap
        obtain ⟨A', hcut, hA', hAb⟩ := mid_bytes A n c D.at_ (D.at_ + mn) (by omega) (by omega) hcc
        replace hcut := hcut (D.at_ : Int) ((D.at_ : Int) + (mn : Int)) rfl (by omega)
        have hrm := hA' _ _ hs.row
        have hmn : D.at_ + mn - D.at_ = mn := by omega
        rw [hmn] at hcut hrm
        clear hA' hAb hmn
        have hrd := hrm.drew
        have hsd := hs.drewN 1
        have hod := ho.drewN 1
        clear hrm hs ho h
        go_still_tail 14, (by kernel_rfl)
        clear d0 d1
        change wpList _ _ _ _ _ wz.drew
        change QR wz.drew q A n c _ at hsd
        change Only w wz.drew _ at hod
        generalize wz.drew = wv at *
        go_wp2_with fail
        rw [hcut]
        have hrd2 : RB wv A' mn ((D.bs.drop D.at_).take mn) := hrd
        go_wp2_with (at_builtin; refine push_row (w0 := wv) wv.heap.size rfl (.const (.slice none 0 0)) (.tmp 58) 23 ((D.bs.drop D.at_).take mn) A' mn _ rfl Try.underlying23 u8_info rfl rfl (OB.nil _ _ _) hrd2 (Below.refl _ _) (Nat.le_refl _) (by simp; omega) ?_)
        intro v w4 hO hb _ _
        have hs := hsd.below hb
        have ho2 := hod.below hb
        replace hO := hO.less hod.size
        go_wp2_with fail
        go_ret
        exact ⟨_, v, _, rfl, HF, hO, hs, ho2⟩
  · have HF : Hid (rawS D m = (D, [])) := Lib.hid (by unfold rawS; rw [if_pos hw])
    have hwb : (D.why != 0) = true := by simp [hw]
    clear hw
    go_enter Try.func59, Try.ntmps59
    go_wp2_with fail
    go_ret
    exact ⟨_, _, [], rfl, HF, OB.nil _ _ _, h, Only.refl _ _⟩
set_option maxHeartbeats 1000000 in
theorem rByte_any (h : QR w q A n c D) : Calls Try.prog 52 #[.pointer (some ⟨q, 0, none⟩)] w fun e w' => ∃ D1 v, e = .returned (.int .u8 v) ∧ Hid (byteS D = (D1, v)) ∧ 0 ≤ v ∧ v < 256 ∧ QR w' q A n c D1 ∧ Only w w' (fun k => k = q) := by
  have HL := Lib.hid h.row.len
  have HO := Lib.hid h.ok
  go_enter Try.func52, Try.ntmps52
  go_wp2_with fail
  refine (rRaw_any h 1 (by omega)).mono ?_
  rintro e w2 ⟨D1, v, xs, rfl, HF, hO, hs, ho⟩
  obtain ⟨A1, c1, rfl, hR, _⟩ := hO.reads'
  have hcase := byte_of_raw HO.out HF.out
  rcases hcase with ⟨rfl, hb⟩ | ⟨x, rfl, hb, hx0, hx1⟩
  · have HB := Lib.hid hb
    clear hb hO hR
    go_wp2_with fail
    go_ret
    exact ⟨_, 0, rfl, HB, by omega, by omega, hs, ho⟩
  · have HB := Lib.hid hb
    obtain ⟨ad, y, rfl, hc, hy0, hy1, hy⟩ := hR.at_ 0 (by simp)
    obtain rfl : x = y := by have := hy.out; simpa using this
    have hc0 : w2.cell? ad = some (.int .u8 x) := hc
    clear hb hO hR hc
    go_wp2_with fail
    go_ret
    exact ⟨_, x, rfl, HB, hx0, hx1, hs, ho⟩
set_option maxHeartbeats 1000000 in
theorem rFail_any (h : QR w q A n c D) (x : Int) : Calls Try.prog 61 #[.pointer (some ⟨q, 0, none⟩), .int .i64 x] w fun e w' => e = .returned (.tuple #[]) ∧ QR w' q A n c (failS D x) ∧ Only w w' (fun k => k = q) := by
  have h1 := h.q1
  have h2 := h.q2
  by_cases hw : D.why = 0
  · have hwb : (D.why == 0) = true := by simp [hw]
    by_cases hx : x = 0
    · have HF : failS D x = D := by unfold failS; rw [if_neg (by rw [hx]; simp)]
      rw [HF]
      have hxb : (x != 0) = false := by simp [hx]
      clear hx HF hw
      go_enter Try.func61, Try.ntmps61
      go_wp2_with fail
      refine bodyPost_end (v := .tuple #[]) (by simp [results, Try.results61, go_sem]) rfl ⟨rfl, h, Only.refl _ _⟩
    · have HF : failS D x = D.fail x D.at_ := by unfold failS; rw [if_pos ⟨hw, hx⟩]
      rw [HF]
      have hxb : (x != 0) = true := by simp [hx]
      have HX := Lib.hid hx
      clear hx HF hw
      go_enter Try.func61, Try.ntmps61
      go_wp2_with fail
      refine (rfail_any h x D.at_ HX.out).mono ?_
      rintro e w4 ⟨rfl, hs, ho⟩
      go_wp2_with fail
      refine bodyPost_end (v := .tuple #[]) (by simp [results, Try.results61, go_sem]) rfl ⟨rfl, hs, ho⟩
  · have HF : failS D x = D := by unfold failS; rw [if_neg (by rintro ⟨h1, _⟩; exact hw h1)]
    rw [HF]
    have hwb : (D.why == 0) = false := by simp [hw]
    clear HF hw
    go_enter Try.func61, Try.ntmps61
    go_wp2_with fail
    refine bodyPost_end (v := .tuple #[]) (by simp [results, Try.results61, go_sem]) rfl ⟨rfl, h, Only.refl _ _⟩
set_option maxHeartbeats 1000000 in
theorem rEnd_any (h : QR w q A n c D) : Calls Try.prog 63 #[.pointer (some ⟨q, 0, none⟩)] w fun e w' => e = .returned (.tuple #[.int .i64 (endS D).why, .int .i64 (endS D).wat]) ∧ QR w' q A n c (endS D) ∧ Only w w' (fun k => k = q) := by
  have h0 := h.q0
  have h1 := h.q1
  have h2 := h.q2
  have h3 := h.q3
  have HL := Lib.hid h.row.len
  obtain ⟨D1, hD1⟩ : ∃ D1, endS D = D1 := ⟨_, rfl⟩
  rw [hD1]
  have HD := Lib.hid hD1
  clear hD1
  by_cases hw : D.why = 0
  · have HW := Lib.hid hw
    have hwb : (D.why == 0) = true := by simp [hw]
    clear hw
    by_cases hl : D.at_ < n
    · obtain rfl : D1 = D.fail 6 D.at_ := HD.out.symm.trans (by unfold endS; rw [if_pos ⟨HW.out, by rw [HL.out]; exact hl⟩])
      have hl2 : (D.at_ : Int) < (n : Int) := by omega
      go_enter Try.func63, Try.ntmps63
      go_wp2_with fail
      go_quiet (fail)
      have ho := (Only.refl w (fun k => k = q)).drewN nq
      replace h := h.drewN nq
      have d1 := h.q1
      go_wp2_with fail
      refine (rfail_any h 6 D.at_ (by decide)).mono ?_
      rintro e w4 ⟨rfl, hs, ho2⟩
      replace ho := ho.same ho2
      have e2 := hs.q2
      have e3 := hs.q3
      go_wp2_with fail
      go_quiet (fail)
      replace hs := hs.drewN nq
      replace ho := ho.drewN nq
      go_wp2_with fail
      go_ret2
      exact ⟨rfl, hs, ho⟩
    · obtain rfl : D1 = D := HD.out.symm.trans (by unfold endS; rw [if_neg (by rintro ⟨_, h2⟩; rw [HL.out] at h2; exact hl h2)])
      have hl2 : ¬ (D1.at_ : Int) < (n : Int) := by omega
      go_enter Try.func63, Try.ntmps63
      go_wp2_with fail
      go_quiet (fail)
      have ho := (Only.refl w (fun k => k = q)).drewN nq
      replace h := h.drewN nq
      clear h0 h1 h2 h3
      generalize w.drewN nq = wy at *
      have e2 := h.q2
      have e3 := h.q3
      go_wp2_with fail
      go_quiet (fail)
      replace h := h.drewN nq
      replace ho := ho.drewN nq
      go_wp2_with fail
      go_ret2
      exact ⟨rfl, h, ho⟩
  · obtain rfl : D1 = D := HD.out.symm.trans (by unfold endS; rw [if_neg (by rintro ⟨h1, _⟩; exact hw h1)])
    have hwb : (D1.why == 0) = false := by simp [hw]
    clear hw
    go_enter Try.func63, Try.ntmps63
    go_wp2_with fail
    go_quiet (fail)
    have ho := (Only.refl w (fun k => k = q)).drewN nq
    replace h := h.drewN nq
    clear h0 h1 h2 h3
    generalize w.drewN nq = wy at *
    have e2 := h.q2
    have e3 := h.q3
    go_wp2_with fail
    go_quiet (fail)
    replace h := h.drewN nq
    replace ho := ho.drewN nq
    go_wp2_with fail
    go_ret2
    exact ⟨rfl, h, ho⟩
end
end Go.Proofs.Ytiadfmbddkcleaa
