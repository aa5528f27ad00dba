/- The document's reader: Text, List. -/
import Derived.Test.YtiadfmbddkcleaaWiZ
import Derived.Test.YtiadfmbddkcleaaStrI
namespace Go.Proofs.Ytiadfmbddkcleaa
open Go.RowKit Go.Kit Go.Proofs.YtiadfmbddkcleaaW.PrintWords
section
variable {w w1 : World} {q n c : Nat} {A : Option Addr} {D : Rd} {S : Nat → Prop}
set_option maxHeartbeats 4000000 in
set_option maxRecDepth 100000 in
theorem rRText_any (h : QR w q A n c D) (most : Int) (hmo : most ≤ 9223372036854775807) : Calls Try.prog 57 #[.pointer (some ⟨q, 0, none⟩), .int .i64 most] w fun e w' => ∃ D1 s, e = .returned (.string s) ∧ Hid (textS D most = (D1, s)) ∧ QR w' q A n c D1 ∧ Only w w' (fun k => k = q) := by
  have h1 := h.q1
  have h2 := h.q2
  have hm := h.max
  have hlo := h.low
  by_cases hw : D.why = 0
  · have HW := Lib.hid hw
    have hwb : (D.why == 0) = true := by simp [hw]
    have hwc : (D.why != 0) = false := by simp [hw]
    clear hw
    go_enter Try.func57, Try.ntmps57
    by_cases hneg : most < 0
    · have HF : Hid (textS D most = (D.fail 1 D.at_, ByteArray.empty)) := Lib.hid (by
        unfold textS
        rw [if_neg (by rw [HW.out]; simp), if_pos hneg])
      go_wp2_with fail
      refine (rfail_any h 1 D.at_ (by decide)).mono ?_
      rintro e w2 ⟨rfl, hs, ho⟩
      go_wp2_with fail
      refine (rRUint_any hs).mono ?_
      rintro e w3 ⟨D1, v, rfl, HU, hs2, ho2⟩
      have hU := HU.out
      rw [uintS_bad (by simp [Rd.fail])] at hU
      cases hU
      have e2 : w3.cell? ⟨q, 2, none⟩ = some (.int .i64 1) := hs2.q2
      replace ho := ho.same ho2
      go_wp2_with fail
      go_ret
      exact ⟨_, _, rfl, HF, hs2, ho⟩
    · have hneg2 : ¬ most < 0 := hneg
      have hwm : IntKind.u64.wrap most = most := IntWalk.u64_in _ ⟨by omega, by omega⟩
      have hok := h.ok
      have HL := Lib.hid h.row.len
      go_wp2_with fail
      refine (rRUint_any h).mono ?_
      rintro e w3 ⟨D1, v, rfl, HU, hs, ho⟩
      rcases uintS_cases hok HW.out with ⟨m, k, hN, hU, hmb, hk1, hk2⟩ | ⟨m, k, x, hx, hN, hU⟩
      · rw [HU.out] at hU
        cases hU
        rw [HL.out] at hk1
        have e2 : w3.cell? ⟨q, 2, none⟩ = some (.int .i64 D.why) := hs.q2
        have e1 : w3.cell? ⟨q, 1, none⟩ = some (.int .i64 ((D.at_ + k : Nat) : Int)) := hs.q1
        have e0 := hs.q0
        have f1 := hs.fq 1
        by_cases hmm : most < (v : Int)
        · have HF : Hid (textS D most = (D.fail 3 D.at_, ByteArray.empty)) := Lib.hid (by rw [textS_of HW.out (by omega) (textAt_long hN hmm), if_pos (by decide)])
          clear hN hmb hk2
          go_wp2_with fail
          refine (rfail_any hs 3 D.at_ (by decide)).mono ?_
          rintro e w4 ⟨rfl, hs4, ho4⟩
          have hs5 := hs4.set1 (D.at_ : Int) D.at_ rfl hlo
          have ho5 := (ho.same ho4).set q 1 (.int .i64 (D.at_ : Int)) (.inl rfl)
          have g2 : w4.cell? ⟨q, 2, none⟩ = some (.int .i64 3) := hs4.q2
          have g1 := hs4.q1
          have gf := hs4.fq 1
          go_wp2_with fail
          go_ret
          exact ⟨_, _, rfl, HF, hs5, ho5⟩
        · have hw1 : IntKind.i64.wrap ((n : Int) - ((D.at_ + k : Nat) : Int)) = (n : Int) - ((D.at_ + k : Nat) : Int) := IntWalk.i64_in _ ⟨by omega, by omega⟩
          have hw2 : IntKind.u64.wrap ((n : Int) - ((D.at_ + k : Nat) : Int)) = (n : Int) - ((D.at_ + k : Nat) : Int) := IntWalk.u64_in _ ⟨by omega, by omega⟩
          obtain ⟨ak, hak⟩ : ∃ ak, ak = D.at_ + k := ⟨_, rfl⟩
          rw [← hak] at e1 hw1 hw2 hk1 hs HU
          by_cases hfit : n < ak + v
          · have HF : Hid (textS D most = (D.fail 4 D.at_, ByteArray.empty)) := Lib.hid (by rw [textS_of HW.out (by omega) (textAt_short hN hmm (by rw [HL.out]; omega)), if_pos (by decide)])
            have hf2 : (n : Int) - (ak : Int) < (v : Int) := by omega
            clear hN hmb hk2 hak
            go_wp2_with fail
            go_quiet (fail)
            replace hs := hs.drewN nq
            replace ho := ho.drewN nq
            go_wp2_with fail
            refine (rfail_any hs 4 D.at_ (by decide)).mono ?_
            rintro e w4 ⟨rfl, hs4, ho4⟩
            have hs5 := hs4.set1 (D.at_ : Int) D.at_ rfl hlo
            have ho5 := (ho.same ho4).set q 1 (.int .i64 (D.at_ : Int)) (.inl rfl)
            have g2 : w4.cell? ⟨q, 2, none⟩ = some (.int .i64 4) := hs4.q2
            have g1 := hs4.q1
            have gf := hs4.fq 1
            go_wp2_with fail
            go_ret
            exact ⟨_, _, rfl, HF, hs5, ho5⟩
          · have HF : Hid (textS D most = (D.to (ak + v), strOfNums ((D.bs.drop ak).take v))) := Lib.hid (by rw [textS_of HW.out (by omega) (textAt_ok hN hmm (by rw [HL.out]; omega)), if_neg (by decide), hak])
            have hf2 : (v : Int) ≤ (n : Int) - (ak : Int) := by omega
            have hv2 : (v : Int) ≤ 9223372036854775807 := by omega
            have hv3 : wrap64 (v : Int) = (v : Int) := by unfold wrap64; omega
            clear hN hmb hk2 hak
            go_wp2_with fail
            go_quiet (fail)
            replace hs := hs.drewN nq
            replace ho := ho.drewN nq
            have g2 : (w3.drewN nq).cell? ⟨q, 2, none⟩ = some (.int .i64 D.why) := hs.q2
            go_wp2_with fail
            refine (rRaw_any hs (v : Int) hv2).mono ?_
            rintro e w4 ⟨D2, vv, xs, rfl, HR, hO, hs4, ho4⟩
            obtain ⟨A', c', rfl, hR, _⟩ := hO.reads'
            have hraw : D2 = D.to (ak + v) ∧ xs = (D.bs.drop ak).take v := by
              have := HR.out
              unfold rawS at this
              rw [if_neg (by show ¬ D.why ≠ 0; rw [HW.out]; simp), if_neg (by omega), if_neg (by show ¬ ((D.bs.length : Int) - (ak : Int) < (v : Int)); rw [HL.out]; omega)] at this
              cases this
              exact ⟨rfl, rfl⟩
            obtain ⟨rfl, rfl⟩ := hraw
            have hlen : ((D.bs.drop ak).take v).length = v := by rw [List.length_take, List.length_drop, HL.out]; omega
            rw [hlen] at hR ⊢
            clear hlen
            have ka := string_of_reads (P := Try.prog) (c := c') Try.underlying23 Try.underlying5 Try.underlying9 hR.rd
            have ho5 := ho.same ho4
            clear hO hR hv3
            go_wp2_with fail
            go_ret
            exact ⟨_, _, rfl, HF, hs4, ho5⟩
      · rw [HU.out] at hU
        cases hU
        have e2 : w3.cell? ⟨q, 2, none⟩ = some (.int .i64 x) := hs.q2
        have hxb : (x != 0) = true := by simp [hx]
        have HF : Hid (textS D most = (D.fail x D.at_, ByteArray.empty)) := Lib.hid (by rw [textS_of HW.out (by omega) (textAt_err hN hx), if_pos hx])
        clear hx hN
        go_wp2_with fail
        go_ret
        exact ⟨_, _, rfl, HF, hs, ho⟩
  · have HF : Hid (textS D most = (D, ByteArray.empty)) := Lib.hid (by unfold textS; rw [if_pos hw])
    have hwb : (D.why == 0) = false := by simp [hw]
    have hwc : (D.why != 0) = true := by simp [hw]
    have HW := Lib.hid hw
    clear hw
    go_enter Try.func57, Try.ntmps57
    go_wp2_with fail
    refine (rRUint_any h).mono ?_
    rintro e w3 ⟨D1, v, rfl, HU, hs, ho⟩
    have hU := HU.out
    rw [uintS_bad HW.out] at hU
    cases hU
    have e2 := hs.q2
    go_wp2_with fail
    go_ret
    exact ⟨_, _, rfl, HF, hs, ho⟩
theorem own_not_q {w : World} {base r : Nat} {v : Value} {xs : List ByteArray} {cs : Array Value} {fr : Nat × Nat} (h : OT 9 w base v xs) (hk : w.heap[r]? = some (.cells cs 63 fr)) : v.ownBlock = none ∨ v.ownBlock ≠ some r := by
  rcases h.2 with ⟨h1, _⟩ | ⟨g, cap, cur, h1, h2, h3, h4⟩
  · exact .inl (by rw [h1]; rfl)
  · refine .inr (fun e => ?_)
    rw [h1] at e; cases e
    rw [hk] at h3
    simp at h3
theorem sep_ownq {w : World} {base r n c : Nat} {A : Option Addr} {D : Rd} {v : Value} {xs : List ByteArray} (h : OT 9 w base v xs) (hk : QR w r A n c D) (hA : ∀ a, A = some a → a.block < base) : Sep (qrf r A) (rf v) := fun k hk1 hv => by
  rcases h.2 with ⟨h1, _⟩ | ⟨g, cap, cur, h1, h2, h3, h4⟩
  · rw [h1] at hv; cases hv
  · rw [h1] at hv; cases hv
    rcases hk1 with rfl | ⟨a, e, rfl⟩
    · rw [hk.qk] at h3; simp at h3
    · have := hA a e; omega
theorem ot_kept4 {w w1 : World} {base q : Nat} {v : Value} {xs : List ByteArray} (h : OT 9 w base v xs) (ho : Only w w1 (fun k => k = q)) (hq : v.ownBlock = none ∨ v.ownBlock ≠ some q) : OT 9 w1 base v xs := by
  refine ⟨h.1, ?_⟩
  rcases h.2 with h1 | ⟨g, cap, cur, h1, h2, h3, h4⟩
  · exact .inl h1
  · refine .inr ⟨g, cap, cur, h1, h2, ho.kept h3 (fun e => ?_), h4⟩
    rcases hq with hq | hq
    · rw [h1] at hq; cases hq
    · exact hq (by rw [h1, ← e]; rfl)
/-- Where the rounds of a list stand: well, or at a fault. -/
def LsAt (D : Rd) (each : Int) (m a0 j a : Nat) (acc : List ByteArray) (D2 : Rd) : Prop :=
  (D2 = D.to a ∧ lstR D.bs each m a0 [] = lstR D.bs each j a acc ∧ acc.length ≤ a ∧ a ≤ D.bs.length) ∨ ∃ x b, x ≠ 0 ∧ D2 = (D.to b).fail x b ∧ lstR D.bs each m a0 [] = ([], b, x)
set_option maxHeartbeats 8000000 in
set_option maxRecDepth 100000 in
theorem rRList_any (h : QR w q A n c D) (hn : n ≤ 4398046511104) (most each : Int) (hmo : most ≤ 9223372036854775807) (hea : each ≤ 9223372036854775807) : Calls Try.prog 58 #[.pointer (some ⟨q, 0, none⟩), .int .i64 most, .int .i64 each] w fun e w' => ∃ D1 v l, e = .returned v ∧ Hid (listS D most each = (D1, l)) ∧ OT 9 w' w.heap.size v l ∧ QR w' q A n c D1 ∧ Only w w' (fun k => k = q) := by
  have h1 := h.q1
  have h2 := h.q2
  have hm := h.max
  have hlo := h.low
  by_cases hw : D.why = 0
  · have HW := Lib.hid hw
    have hwb : (D.why == 0) = true := by simp [hw]
    clear hw
    go_enter Try.func58, Try.ntmps58
    by_cases hneg : most < 0 ∨ each < 0
    · have HF : Hid (listS D most each = (D.fail 1 D.at_, [])) := Lib.hid (by
        unfold listS
        rw [if_neg (by rw [HW.out]; simp), if_pos hneg])
      have hdd : (decide (most < 0) || decide (each < 0)) = true := by simpa using hneg
      have HNG := Lib.hid hneg
      clear hneg
      by_cases hm0 : most < 0
      · go_wp2_with fail
        refine (rfail_any h 1 D.at_ (by decide)).mono ?_
        rintro e w4 ⟨rfl, hs, ho⟩
        go_wp2_with fail
        refine (rRUint_any hs).mono ?_
        rintro e w3 ⟨D1, v, rfl, HU, hs2, ho2⟩
        have hU := HU.out
        rw [uintS_bad (by simp [Rd.fail])] at hU
        cases hU
        replace ho := ho.same ho2
        replace hs := hs2
        clear hs2
        have hs5 := hs.set1 (D.at_ : Int) D.at_ rfl hlo
        have ho5 := ho.set q 1 (.int .i64 (D.at_ : Int)) (.inl rfl)
        have e2 := hs.q2
        have e1 := hs.q1
        have ef := hs.fq 1
        try dsimp only [Rd.fail, Rd.to] at e2
        go_wp2_with fail
        go_loopg [9, 10] 0 (fun gk v9 v10 w' => v9 = .slice none 0 0 ∧ v10 = .int .u64 0 ∧ w' = w3)
        case atStart => exact ⟨rfl, rfl, rfl⟩
        case round =>
          obtain ⟨rfl, rfl, rfl⟩ := hrel
          go_wp2_with fail
          go_ret
          exact ⟨_, _, [], rfl, HF, OT.nil _ _ _, hs5, ho5⟩
      · have hm1 : each < 0 := HNG.out.resolve_left hm0
        go_wp2_with fail
        refine (rfail_any h 1 D.at_ (by decide)).mono ?_
        rintro e w4 ⟨rfl, hs, ho⟩
        go_wp2_with fail
        refine (rRUint_any hs).mono ?_
        rintro e w3 ⟨D1, v, rfl, HU, hs2, ho2⟩
        have hU := HU.out
        rw [uintS_bad (by simp [Rd.fail])] at hU
        cases hU
        replace ho := ho.same ho2
        replace hs := hs2
        clear hs2
        have hs5 := hs.set1 (D.at_ : Int) D.at_ rfl hlo
        have ho5 := ho.set q 1 (.int .i64 (D.at_ : Int)) (.inl rfl)
        have e2 := hs.q2
        have e1 := hs.q1
        have ef := hs.fq 1
        try dsimp only [Rd.fail, Rd.to] at e2
        go_wp2_with fail
        go_loopg [9, 10] 0 (fun gk v9 v10 w' => v9 = .slice none 0 0 ∧ v10 = .int .u64 0 ∧ w' = w3)
        case atStart => exact ⟨rfl, rfl, rfl⟩
        case round =>
          obtain ⟨rfl, rfl, rfl⟩ := hrel
          go_wp2_with fail
          go_ret
          exact ⟨_, _, [], rfl, HF, OT.nil _ _ _, hs5, ho5⟩
    · have hm0 : ¬ most < 0 := fun e => hneg (.inl e)
      have he0 : ¬ each < 0 := fun e => hneg (.inr e)
      have HNG := Lib.hid hneg
      clear hneg
      have hok := h.ok
      have HL := Lib.hid h.row.len
      have hwm : IntKind.u64.wrap most = most := IntWalk.u64_in _ ⟨by omega, by omega⟩
      go_wp2_with fail
      refine (rRUint_any h).mono ?_
      rintro e w3 ⟨D1, v, rfl, HU, hs, ho⟩
      rcases uintS_cases hok HW.out with ⟨m, k, hN, hU, hmb, hk1, hk2⟩ | ⟨m, k, x, hx, hN, hU⟩
      · rw [HU.out] at hU
        cases hU
        rw [HL.out] at hk1
        have e2 : w3.cell? ⟨q, 2, none⟩ = some (.int .i64 D.why) := hs.q2
        by_cases hmm : most < (v : Int)
        · have HF : Hid (listS D most each = (D.fail 11 D.at_, [])) := Lib.hid (by
            unfold listS
            rw [if_neg (by rw [HW.out]; simp), if_neg HNG.out, hN, if_neg (by simp), if_pos hmm])
          have hv0 : (0 : Int) < (v : Int) := by omega
          clear hN hmb hk1 hk2
          go_wp2_with fail
          refine (rfail_any hs 11 D.at_ (by decide)).mono ?_
          rintro e w4 ⟨rfl, hs4, ho4⟩
          replace ho := ho.same ho4
          clear e2
          replace hs := hs4
          clear hs4
          have hs5 := hs.set1 (D.at_ : Int) D.at_ rfl hlo
          have ho5 := ho.set q 1 (.int .i64 (D.at_ : Int)) (.inl rfl)
          have e2 := hs.q2
          have e1 := hs.q1
          have ef := hs.fq 1
          try dsimp only [Rd.fail, Rd.to] at e2
          go_wp2_with fail
          go_loopg [9, 10] 0 (fun gk v9 v10 w' => v9 = .slice none 0 0 ∧ v10 = .int .u64 0 ∧ w' = w4)
          case atStart => exact ⟨rfl, rfl, rfl⟩
          case round =>
            obtain ⟨rfl, rfl, rfl⟩ := hrel
            go_wp2_with fail
            go_ret
            exact ⟨_, _, [], rfl, HF, OT.nil _ _ _, hs5, ho5⟩
        · have HF : Hid (listS D most each = if (lstR D.bs each v (D.at_ + k) []).2.2 ≠ 0 then (D.fail (lstR D.bs each v (D.at_ + k) []).2.2 (lstR D.bs each v (D.at_ + k) []).2.1, []) else (D.to (lstR D.bs each v (D.at_ + k) []).2.1, (lstR D.bs each v (D.at_ + k) []).1)) := Lib.hid (by
            unfold listS
            rw [if_neg (by rw [HW.out]; simp), if_neg HNG.out, hN, if_neg (by simp), if_neg hmm])
          have HV : Hid (v < 18446744073709551616) := hmb
          have hq := hs.oldF
          have hAo := hs.old
          have hwz : (D.why != 0) = false := by simp [HW.out]
          clear hN hmb hk2
          obtain ⟨a0, ha0⟩ : ∃ a0, a0 = D.at_ + k := ⟨_, rfl⟩
          rw [← ha0] at HF hs hk1 HU
          clear ha0
          go_wp2_with fail
          go_loopg [9, 10] v (fun gk v9 v10 w' => ∃ (i a : Nat) (acc : List ByteArray) (D2 : Rd), v10 = .int .u64 (i : Int) ∧ OT 9 w' w3.heap.size v9 acc ∧ QR w' q A n c D2 ∧ Only w3 w' (fun k => k = q) ∧ Hid (i ≤ v ∧ gk = v - i ∧ LsAt D each v a0 (v - i) a acc D2))
          case atStart => exact ⟨0, a0, [], _, rfl, OT.nil _ _ _, hs, Only.refl _ _, by omega, rfl, .inl ⟨rfl, rfl, by simp, by rw [HL.out]; exact hk1⟩⟩
          case round =>
            clear hs e2
            obtain ⟨i, a, acc, D2, rfl, hO, hs, ho1, HG⟩ := hrel
            have hsz := ho1.size
            rcases HG.out.2.2 with ⟨rfl, hl, hac, hab⟩ | ⟨x, b, hx, rfl, hl⟩
            · have e2 : wr.cell? ⟨q, 2, none⟩ = some (.int .i64 D.why) := hs.q2
              have HLR := Lib.hid hl
              have HAC := Lib.hid hac
              have HAB := Lib.hid hab
              clear hl hac hab
              by_cases hi : i < v
              · have hi2 : (i : Int) < (v : Int) := by omega
                go_wp2_with fail
                refine (rRText_any hs each hea).mono ?_
                rintro e w4 ⟨D3, s, rfl, HT, hs4, ho4⟩
                obtain ⟨s', en, x, hT⟩ : ∃ s' en x, textAt D.bs a each = (s', en, x) := ⟨_, _, _, rfl⟩
                have hTS := textS_of (D := D.to a) (most := each) HW.out (by omega) hT
                rw [HT.out] at hTS
                obtain ⟨q1, q2⟩ := textAt_facts h.row.byt HAB.out hT
                have hOk := ot_kept4 hO ho4 (own_not_q hO hs.qk)
                have ho5 := ho1.same ho4
                have HJ : Hid (v - i = (v - (i + 1)) + 1) := Lib.hid (by omega)
                have hiw : IntKind.u64.wrap ((i : Int) + 1) = (i : Int) + 1 := IntWalk.u64_in _ ⟨by omega, by have := HV.out; omega⟩
                by_cases hx : x = 0
                · obtain ⟨q3, q4, q5, _⟩ := q1 hx
                  rw [if_neg (by simpa using hx)] at hTS
                  cases hTS
                  have e4 : w4.cell? ⟨q, 2, none⟩ = some (.int .i64 D.why) := hs4.q2
                  have HNX : Hid (lstR D.bs each v a0 [] = lstR D.bs each (v - (i + 1)) en (acc ++ [s])) := Lib.hid (by
                    rw [HLR.out, HJ.out, lstR, hT, if_neg (by simpa using hx)])
                  have hln : (acc.length + 1) * 16 ≤ 140737488355328 := by have := HAC.out; have := HAB.out; rw [HL.out] at this; omega
                  have HLEN : Hid ((acc ++ [s]).length ≤ en) := Lib.hid (by rw [List.length_append]; have := HAC.out; simp; omega)
                  have HEN : Hid (en ≤ D.bs.length) := q3
                  have hs5 := ho5.size
                  clear hx q1 q2 q3 q4 q5 hT
                  go_wp2_with (at_builtin; refine print_append_of (w0 := w4) Value.string w3.heap.size rfl (.tmp 68) (.tmp 70) 25 9 (.string ByteArray.empty) 16 rfl Try.underlying25 str_info rfl (by decide) _ acc s rfl rfl rfl hOk (Below.refl _ _) hs5 hln ?_)
                  intro v1 w5 hown _ hg hat
                  replace hown : OT 9 w5 w3.heap.size v1 (acc ++ [s]) := by unfold OT; simpa using hown
                  have h5 : QR w5 q A n c _ := hs4.only ((Only.refl w4 (rf u9)).grown hg (fun k e => .inl e)) (sep_ownq hOk hs4 hAo)
                  have ho6 : Only w3 w5 (fun k => k = q) := ho5.grown hg (fun k e => .inr (own_base hOk k e))
                  clear hO hOk hg hat hln
                  go_wp2_with fail
                  go_roundg (v - (i + 1))
                  case measure => have := HG.out; omega
                  case rel => exact ⟨i + 1, en, _, _, by first | rfl | simp, hown, h5, ho6, by omega, rfl, .inl ⟨rfl, HNX.out, HLEN.out, HEN.out⟩⟩
                · rw [if_pos hx] at hTS
                  cases hTS
                  have e4 : w4.cell? ⟨q, 2, none⟩ = some (.int .i64 x) := hs4.q2
                  have hxb : (x == 0) = false := by simp [hx]
                  have HX := Lib.hid hx
                  have HNX : Hid (lstR D.bs each v a0 [] = ([], a, x)) := Lib.hid (by
                    rw [HLR.out, HJ.out, lstR, hT, if_pos hx])
                  clear hx q1 q2 hT
                  go_wp2_with fail
                  go_roundg (v - (i + 1))
                  case measure => have := HG.out; omega
                  case rel => exact ⟨i + 1, a, acc, _, by first | rfl | simp, hOk, hs4, ho5, by omega, rfl, .inr ⟨x, a, HX.out, rfl, HNX.out⟩⟩
              · have hi2 : ¬ (i : Int) < (v : Int) := by omega
                have HFF : Hid (listS D most each = (D.to a, acc)) := Lib.hid (by
                  rw [HF.out, HLR.out, show v - i = 0 by omega]
                  rfl)
                have hOk := hO.less ho.size
                have ho5 := ho.same ho1
                go_wp2_with fail
                go_ret
                first | exact ⟨_, _, acc, rfl, HFF, hOk, hs, ho5⟩ | exact ⟨_, _, rfl, acc, HFF, hOk, hs, ho5⟩
            · have e2 : wr.cell? ⟨q, 2, none⟩ = some (.int .i64 x) := hs.q2
              have ef := hs.fq 1
              have e1 := hs.q1
              have hxb : (x == 0) = false := by simp [hx]
              have hxc : (x != 0) = true := by simp [hx]
              have HFF : Hid (listS D most each = (D.fail x b, [])) := Lib.hid (by
                rw [HF.out, hl]
                rw [if_pos hx])
              have hs5 := hs.set1 (D.at_ : Int) D.at_ rfl hlo
              have ho5 := (ho.same ho1).set q 1 (.int .i64 (D.at_ : Int)) (.inl rfl)
              clear hx hl
              by_cases hi : (i : Int) < (v : Int)
              all_goals
                go_wp2_with fail
                go_ret
                first | exact ⟨_, _, [], rfl, HFF, OT.nil _ _ _, hs5, ho5⟩ | exact ⟨_, _, rfl, [], HFF, OT.nil _ _ _, hs5, ho5⟩
      · rw [HU.out] at hU
        cases hU
        have hxb : (x == 0) = false := by simp [hx]
        have hxc : (x != 0) = true := by simp [hx]
        have HF : Hid (listS D most each = (D.fail x D.at_, [])) := Lib.hid (by
          unfold listS
          rw [if_neg (by rw [HW.out]; simp), if_neg HNG.out, hN, if_pos hx])
        clear hx hN
        have hs5 := hs.set1 (D.at_ : Int) D.at_ rfl hlo
        have ho5 := ho.set q 1 (.int .i64 (D.at_ : Int)) (.inl rfl)
        have e2 := hs.q2
        have e1 := hs.q1
        have ef := hs.fq 1
        try dsimp only [Rd.fail, Rd.to] at e2
        go_wp2_with fail
        go_loopg [9, 10] 0 (fun gk v9 v10 w' => v9 = .slice none 0 0 ∧ v10 = .int .u64 0 ∧ w' = w3)
        case atStart => exact ⟨rfl, rfl, rfl⟩
        case round =>
          obtain ⟨rfl, rfl, rfl⟩ := hrel
          go_wp2_with fail
          go_ret
          exact ⟨_, _, [], rfl, HF, OT.nil _ _ _, hs5, ho5⟩
  · have HF : Hid (listS D most each = (D, [])) := Lib.hid (by unfold listS; rw [if_pos hw])
    have hwb : (D.why == 0) = false := by simp [hw]
    have hwc : (D.why != 0) = true := by simp [hw]
    have HW := Lib.hid hw
    clear hw
    go_enter Try.func58, Try.ntmps58
    go_wp2_with fail
    refine (rRUint_any h).mono ?_
    rintro e w3 ⟨D1, v, rfl, HU, hs2, ho2⟩
    have hU := HU.out
    rw [uintS_bad HW.out] at hU
    cases hU
    have hs := hs2
    have ho := ho2
    clear hs2 ho2
    have hs5 := hs.set1 (D.at_ : Int) D.at_ rfl hlo
    have ho5 := ho.set q 1 (.int .i64 (D.at_ : Int)) (.inl rfl)
    have e2 := hs.q2
    have e1 := hs.q1
    have ef := hs.fq 1
    try dsimp only [Rd.fail, Rd.to] at e2
    go_wp2_with fail
    go_loopg [9, 10] 0 (fun gk v9 v10 w' => v9 = .slice none 0 0 ∧ v10 = .int .u64 0 ∧ w' = w3)
    case atStart => exact ⟨rfl, rfl, rfl⟩
    case round =>
      obtain ⟨rfl, rfl, rfl⟩ := hrel
      go_wp2_with fail
      go_ret
      exact ⟨_, _, [], rfl, HF, OT.nil _ _ _, hs5, ho5⟩
end
end Go.Proofs.Ytiadfmbddkcleaa
