/- The document's reader: New, Count, Bool, Text. -/
import Derived.Test.YtiadfmbddkcleaaWiY
namespace Go.Proofs.Ytiadfmbddkcleaa
open Go.RowKit Go.Kit Go.Proofs.YtiadfmbddkcleaaW.PrintWords
def qV (A : Option Addr) (n c : Nat) : Array Value := #[.slice A n c, .int .i64 0, .int .i64 0, .int .i64 0]
theorem q_size (A : Option Addr) (n c : Nat) : (Try.prog.info? 63).map (·.size) = some (qV A n c).size := by
  have h : (Try.prog.info? 63).map (·.size) = some 4 := by kernel_rfl
  exact h
set_option maxHeartbeats 2000000 in
theorem rNew_any (A : Option Addr) (n cap : Nat) (xs : List Int) (w : World) (hx : RB w A n xs) (hl : n ≤ 140737488355328) :
    Calls Try.prog 34 #[.slice A n cap] w fun e w' => ∃ A' c, e = .returned (.agg #[.slice A' n c, .int .i64 0, .int .i64 0, .int .i64 0]) ∧ RB w' A' n xs ∧ n ≤ c ∧ (∀ a, A' = some a → w.heap.size ≤ a.block ∧ a.block < w'.heap.size) ∧ Below w.heap.size w w' := by
  have HL := Lib.hid hx.len
  have hbel := below_alloc (Below.refl w.heap.size w) (.cells #[.slice none 0 0, .int .i64 0, .int .i64 0, .int .i64 0] 63)
  have hz := heap_alloc_new w (.cells #[.slice none 0 0, .int .i64 0, .int .i64 0, .int .i64 0] 63)
  have hx1 := hx.below hbel
  go_enter Try.func34, Try.ntmps34
  go_upto_region 1 with (fail)
  show Code.wp _ _ _ _ (w.alloc (.cells #[.slice none 0 0, .int .i64 0, .int .i64 0, .int .i64 0] 63))
  generalize w.alloc (.cells #[.slice none 0 0, .int .i64 0, .int .i64 0, .int .i64 0] 63) = w1 at *
  have hs1 := hbel.size
  go_wp2_with (at_builtin; refine push_row (w0 := w) w.heap.size rfl (.const (.slice none 0 0)) (.tmp 3) 23 xs A n cap rfl Try.underlying23 u8_info rfl rfl (OB.nil _ _ _) hx1 hbel hs1 (by simp; omega) ?_)
  intro v w2 hO hb2 hg _
  have hz2 : w2.heap[w.heap.size]? = some (.cells #[.slice none 0 0, .int .i64 0, .int .i64 0, .int .i64 0] 63 (0, 0)) := (hg.block _ (lt_of_block hz) (by simp [Value.ownBlock])).trans hz
  obtain ⟨A', c, rfl, hR, hc⟩ := hO.reads'
  have hnb := hO.not_block hz2 (by decide)
  have hold := hO.old
  have hfrom := hO.from
  rw [HL.out] at hR hc hnb hold hfrom ⊢
  clear hO
  generalize hgg : w.heap.size = g at hz2 hnb ⊢
  have HGG := Lib.hid hgg
  clear hgg
  go_wp2_with (with_reducible show wpList _ _ _ (Oper.mk none _ _ _ _ _ :: _) _ _; refine wpList_store_row rfl 63 (.tmp 2) (.tmp 5) rfl g (qV A' n c) rfl rfl 63 _ hz2 (q_size _ _ _) rfl (by simp [qV, Value.oneCell']) ?_)
  have hbg : Only w2 (w2.setRow g (qV A' n c)) (fun k => k = g) := ⟨rfl, rfl, rfl, by simp [World.setRow], fun k _ hk => setRow_other w2 g k _ hk⟩
  have hR3 : RB (w2.setRow g (qV A' n c)) A' n xs := hR.apart hbg (fun a e h => hnb (by rw [e]; exact congrArg some h))
  exact bodyPost_ret (v := .agg (qV A' n c)) (results_cell_row rfl _ _ g 63 (qV A' n c) (0, 0) _ rfl (setRow_heap _ _ _ _ _ _ hz2) Try.underlying63 rfl (q_size _ _ _)) rfl
    ⟨A', c, rfl, hR3, hc, fun a e => ⟨hfrom a.block (by rw [e]; rfl), Nat.lt_of_lt_of_le (hold a.block (by rw [e]; rfl)) hbg.size⟩, below_setRow hb2 (by rw [HGG.out]; exact Nat.le_refl _) _⟩
section
variable {w w1 : World} {q n c : Nat} {A : Option Addr} {D : Rd} {S : Nat → Prop}
set_option maxHeartbeats 2000000 in
theorem rCount_any (h : QR w q A n c D) (most : Int) (hmo : most ≤ 9223372036854775807) : Calls Try.prog 55 #[.pointer (some ⟨q, 0, none⟩), .int .i64 most] w fun e w' => ∃ D1 v, e = .returned (.int .i64 ((v : Nat) : Int)) ∧ Hid (countS D most = (D1, v)) ∧ QR w' q A n c D1 ∧ Only w w' (fun k => k = q) := by
  have h1 := h.q1
  have h2 := h.q2
  have hf1 := h.fq 1
  by_cases hw : D.why = 0
  · have HW := Lib.hid hw
    have hwb : (D.why == 0) = true := by simp [hw]
    clear hw
    go_enter Try.func55, Try.ntmps55
    by_cases hneg : most < 0
    · have HF : Hid (countS D most = (D.fail 1 D.at_, 0)) := Lib.hid (by
        unfold countS
        rw [if_neg (by rw [HW.out]; simp), if_pos hneg])
      go_wp2_with fail
      refine (rfail_any h 1 D.at_ (by decide)).mono ?_
      rintro e w2 ⟨rfl, hs, ho⟩
      go_wp2_with fail
      refine (rRUint_any hs).mono ?_
      rintro e w3 ⟨D1, v, rfl, HU, hs2, ho2⟩
      have hU := HU.out
      rw [uintS_bad (by simp [Rd.fail])] at hU
      cases hU
      have e2 : w3.cell? ⟨q, 2, none⟩ = some (.int .i64 1) := hs2.q2
      replace ho := ho.same ho2
      go_wp2_with fail
      go_ret
      exact ⟨_, 0, rfl, HF, hs2, ho⟩
    · have hneg2 : ¬ most < 0 := hneg
      have hwm : IntKind.u64.wrap most = most := IntWalk.u64_in _ ⟨by omega, by omega⟩
      have hok := h.ok
      have HL := Lib.hid h.row.len
      go_wp2_with fail
      refine (rRUint_any h).mono ?_
      rintro e w3 ⟨D1, v, rfl, HU, hs, ho⟩
      rcases uintS_cases hok HW.out with ⟨m, k, hN, hU, hmb, hk1, hk2⟩ | ⟨m, k, x, hx, hN, hU⟩
      · rw [HU.out] at hU
        cases hU
        have e2 : w3.cell? ⟨q, 2, none⟩ = some (.int .i64 D.why) := hs.q2
        have e1 := hs.q1
        have f1 := hs.fq 1
        by_cases hmm : most < (v : Int)
        · have HF : Hid (countS D most = (D.fail 11 D.at_, 0)) := Lib.hid (by
            unfold countS
            rw [if_neg (by rw [HW.out]; simp), if_neg (by omega), hN, if_neg (by simp), if_pos hmm])
          have hs3 := hs.set1 (D.at_ : Int) D.at_ rfl h.low
          have ho3 := ho.set q 1 (.int .i64 (D.at_ : Int)) (.inl rfl)
          clear hN hmb hk1 hk2
          go_wp2_with fail
          refine (rfail_any hs3 11 D.at_ (by decide)).mono ?_
          rintro e w4 ⟨rfl, hs4, ho4⟩
          replace ho4 := ho3.same ho4
          go_wp2_with fail
          go_ret
          exact ⟨_, 0, rfl, HF, hs4, ho4⟩
        · have HF : Hid (countS D most = (D.to (D.at_ + k), v)) := Lib.hid (by
            unfold countS
            rw [if_neg (by rw [HW.out]; simp), if_neg (by omega), hN, if_neg (by simp), if_neg hmm])
          have hm2 : (v : Int) ≤ 9223372036854775807 := by omega
          have hm3 : wrap64 (v : Int) = (v : Int) := by unfold wrap64; omega
          have hm4 : IntKind.i64.wrap (v : Int) = (v : Int) := IntWalk.i64_in _ ⟨by omega, by omega⟩
          clear hN hmb hk1 hk2
          go_wp2_with fail
          go_ret
          exact ⟨_, v, rfl, HF, hs, ho⟩
      · rw [HU.out] at hU
        cases hU
        have e2 : w3.cell? ⟨q, 2, none⟩ = some (.int .i64 x) := hs.q2
        have hxb : (x == 0) = false := by simp [hx]
        have HF : Hid (countS D most = (D.fail x D.at_, 0)) := Lib.hid (by
          unfold countS
          rw [if_neg (by rw [HW.out]; simp), if_neg (by omega), hN, if_pos hx])
        clear hx hN
        go_wp2_with fail
        go_ret
        exact ⟨_, 0, rfl, HF, hs, ho⟩
  · have HF : Hid (countS D most = (D, 0)) := Lib.hid (by unfold countS; rw [if_pos hw])
    have hwb : (D.why == 0) = false := by simp [hw]
    have HW := Lib.hid hw
    clear hw
    go_enter Try.func55, Try.ntmps55
    go_wp2_with fail
    refine (rRUint_any h).mono ?_
    rintro e w3 ⟨D1, v, rfl, HU, hs, ho⟩
    have hU := HU.out
    rw [uintS_bad HW.out] at hU
    cases hU
    have e2 := hs.q2
    go_wp2_with fail
    go_ret
    exact ⟨_, 0, rfl, HF, hs, ho⟩
set_option maxHeartbeats 2000000 in
theorem rBool_any' (h : QR w q A n c D) : Calls Try.prog 56 #[.pointer (some ⟨q, 0, none⟩)] w fun e w' => ∃ D1 v, e = .returned (.bool v) ∧ Hid (boolS D = (D1, v)) ∧ QR w' q A n c D1 ∧ Only w w' (fun k => k = q) := by
  have h1 := h.q1
  have hok := h.ok
  have HL := Lib.hid h.row.len
  have hlo := h.low
  go_enter Try.func56, Try.ntmps56
  go_wp2_with fail
  refine (rByte_any h).mono ?_
  rintro e w3 ⟨D1, v, rfl, HB, hv0, hv1, hs, ho⟩
  rcases bool_of_byte HB.out with ⟨hw, hbo, hv⟩ | ⟨hw, hgt, hD, hbo⟩ | ⟨hw, hgt, hbo⟩
  · have hwb : (D1.why == 0) = false := by simp [hw]
    have e2 := hs.q2
    have HBO := Lib.hid hbo
    subst hv
    clear hw hbo
    go_wp2_with fail
    go_ret
    exact ⟨_, false, rfl, HBO, hs, ho⟩
  · subst hD
    have e2 : w3.cell? ⟨q, 2, none⟩ = some (.int .i64 D.why) := hs.q2
    have hwb : (D.why == 0) = true := by rw [beq_iff_eq]; exact hw
    have f1 := hs.fq 1
    have hs3 := hs.set1 (D.at_ : Int) D.at_ rfl hlo
    have ho3 := ho.set q 1 (.int .i64 (D.at_ : Int)) (.inl rfl)
    have HBO := Lib.hid hbo
    have e1 := hs.q1
    clear hw hbo
    go_wp2_with fail
    refine (rfail_any hs3 5 D.at_ (by decide)).mono ?_
    rintro e w4 ⟨rfl, hs4, ho4⟩
    replace ho4 := ho3.same ho4
    go_wp2_with fail
    go_ret
    exact ⟨_, false, rfl, HBO, hs4, ho4⟩
  · have e2 := hs.q2
    have hwb : (D1.why == 0) = true := by simpa using hw
    have HBO := Lib.hid hbo
    clear hw hbo
    go_wp2_with fail
    go_ret
    exact ⟨_, _, rfl, HBO, hs, ho⟩
end
end Go.Proofs.Ytiadfmbddkcleaa
