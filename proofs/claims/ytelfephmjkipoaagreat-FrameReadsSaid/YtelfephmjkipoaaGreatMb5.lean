/- Contracts of functions that the laws reach (texts laid together, part 5): each says of its call what it answers and what it leaves of memory; the conditions stand in each statement. -/
import Derived.Test.YtelfephmjkipoaaGreatMb4
import Derived.Test.YtelfephmjkipoaaGreatMb2
import Derived.Deep.QuietTactic
import Derived.BigQuiet
import Derived.Test.YtelfephmjkipoaaGreatMb1
import Derived.Test.YtelfephmjkipoaaGreatMb3
import Derived.Deep.RegionHeld3
import Derived.Deep.DeepMust
import Derived.Laws.Cover3
import Derived.Laws.CopyRow
set_option linter.unusedVariables false
/-! The document's reader: New, Count, Bool, Text. -/
section
namespace Go.Proofs.YtelfephmjkipoaaGreat
open Go.RowKit Go.Kit Go.Proofs.YtelfephmjkipoaaGreatW.PrintWords
def qV (A : Option Addr) (n c : Nat) : Array Value := #[.slice A n c, .int .i64 0, .int .i64 0, .int .i64 0]
theorem q_size (A : Option Addr) (n c : Nat) : (Tryz.prog.info? 53).map (·.size) = some (qV A n c).size := by
  have h : (Tryz.prog.info? 53).map (·.size) = some 4 := by kernel_rfl
  exact h
set_option maxHeartbeats 2000000 in
theorem rNew_any (A : Option Addr) (n cap : Nat) (xs : List Int) (w : World) (hx : RB w A n xs) (hl : n ≤ 140737488355328) :
    Calls Tryz.prog 14 #[.slice A n cap] w fun e w' => ∃ A' c, e = .returned (.agg #[.slice A' n c, .int .i64 0, .int .i64 0, .int .i64 0]) ∧ RB w' A' n xs ∧ n ≤ c ∧ (∀ a, A' = some a → w.heap.size ≤ a.block ∧ a.block < w'.heap.size) ∧ Below w.heap.size w w' := by
  have HL := Lib.hid hx.len
  have hbel := below_alloc (Below.refl w.heap.size w) (.cells #[.slice none 0 0, .int .i64 0, .int .i64 0, .int .i64 0] 53)
  have hz := heap_alloc_new w (.cells #[.slice none 0 0, .int .i64 0, .int .i64 0, .int .i64 0] 53)
  have hx1 := hx.below hbel
  go_enter Tryz.func14, Tryz.ntmps14
  go_upto_region 1 with (fail)
  show Code.wp _ _ _ _ (w.alloc (.cells #[.slice none 0 0, .int .i64 0, .int .i64 0, .int .i64 0] 53))
  generalize w.alloc (.cells #[.slice none 0 0, .int .i64 0, .int .i64 0, .int .i64 0] 53) = w1 at *
  have hs1 := hbel.size
  go_wp2_with (at_builtin; refine push_row (w0 := w) w.heap.size rfl (.const (.slice none 0 0)) (.tmp 3) 22 xs A n cap rfl Tryz.underlying22 u8_info rfl rfl (OB.nil _ _ _) hx1 hbel hs1 (by simp; omega) ?_)
  intro v w2 hO hb2 hg _
  have hz2 : w2.heap[w.heap.size]? = some (.cells #[.slice none 0 0, .int .i64 0, .int .i64 0, .int .i64 0] 53 (0, 0)) := (hg.block _ (lt_of_block hz) (by simp [Value.ownBlock])).trans hz
  obtain ⟨A', c, rfl, hR, hc⟩ := hO.reads'
  have hnb := hO.not_block hz2 (by decide)
  have hold := hO.old
  have hfrom := hO.from
  rw [HL.out] at hR hc hnb hold hfrom ⊢
  clear hO
  generalize hgg : w.heap.size = g at hz2 hnb ⊢
  have HGG := Lib.hid hgg
  clear hgg
  go_wp2_with (with_reducible show wpList _ _ _ (Oper.mk none _ _ _ _ _ :: _) _ _; refine wpList_store_row rfl 53 (.tmp 2) (.tmp 5) rfl g (qV A' n c) rfl rfl 53 _ hz2 (q_size _ _ _) rfl (by simp [qV, Value.oneCell']) ?_)
  have hbg : Only w2 (w2.setRow g (qV A' n c)) (fun k => k = g) := ⟨rfl, rfl, rfl, by simp [World.setRow], fun k _ hk => setRow_other w2 g k _ hk⟩
  have hR3 : RB (w2.setRow g (qV A' n c)) A' n xs := hR.apart hbg (fun a e h => hnb (by rw [e]; exact congrArg some h))
  exact bodyPost_ret (v := .agg (qV A' n c)) (results_cell_row rfl _ _ g 53 (qV A' n c) (0, 0) _ rfl (setRow_heap _ _ _ _ _ _ hz2) Tryz.underlying53 rfl (q_size _ _ _)) rfl
    ⟨A', c, rfl, hR3, hc, fun a e => ⟨hfrom a.block (by rw [e]; rfl), Nat.lt_of_lt_of_le (hold a.block (by rw [e]; rfl)) hbg.size⟩, below_setRow hb2 (by rw [HGG.out]; exact Nat.le_refl _) _⟩
section
variable {w w1 : World} {q n c : Nat} {A : Option Addr} {D : Rd} {S : Nat → Prop}
set_option maxHeartbeats 2000000 in
theorem rCount_any (h : QR w q A n c D) (most : Int) (hmo : most ≤ 9223372036854775807) : Calls Tryz.prog 38 #[.pointer (some ⟨q, 0, none⟩), .int .i64 most] w fun e w' => ∃ D1 v, e = .returned (.int .i64 ((v : Nat) : Int)) ∧ Hid (countS D most = (D1, v)) ∧ QR w' q A n c D1 ∧ Only w w' (fun k => k = q) := by
  have h1 := h.q1
  have h2 := h.q2
  have hf1 := h.fq 1
  by_cases hw : D.why = 0
  · have HW := Lib.hid hw
    have hwb : (D.why == 0) = true := by simp [hw]
    clear hw
    go_enter Tryz.func38, Tryz.ntmps38
    by_cases hneg : most < 0
    · have HF : Hid (countS D most = (D.fail 1 D.at_, 0)) := Lib.hid (by
        unfold countS
        rw [if_neg (by rw [HW.out]; simp), if_pos hneg])
      go_wp2_with fail
      refine (rfail_any h 1 D.at_ (by decide)).mono ?_
      rintro e w2 ⟨rfl, hs, ho⟩
      go_wp2_with fail
      refine (rRUint_any hs).mono ?_
      rintro e w3 ⟨D1, v, rfl, HU, hs2, ho2⟩
      have hU := HU.out
      rw [uintS_bad (by simp [Rd.fail])] at hU
      cases hU
      have e2 : w3.cell? ⟨q, 2, none⟩ = some (.int .i64 1) := hs2.q2
      replace ho := ho.same ho2
      go_wp2_with fail
      go_ret
      exact ⟨_, 0, rfl, HF, hs2, ho⟩
    · have hneg2 : ¬ most < 0 := hneg
      have hwm : IntKind.u64.wrap most = most := IntWalk.u64_in _ ⟨by omega, by omega⟩
      have hok := h.ok
      have HL := Lib.hid h.row.len
      go_wp2_with fail
      refine (rRUint_any h).mono ?_
      rintro e w3 ⟨D1, v, rfl, HU, hs, ho⟩
      rcases uintS_cases hok HW.out with ⟨m, k, hN, hU, hmb, hk1, hk2⟩ | ⟨m, k, x, hx, hN, hU⟩
      · rw [HU.out] at hU
        cases hU
        have e2 : w3.cell? ⟨q, 2, none⟩ = some (.int .i64 D.why) := hs.q2
        have e1 := hs.q1
        have f1 := hs.fq 1
        by_cases hmm : most < (v : Int)
        · have HF : Hid (countS D most = (D.fail 11 D.at_, 0)) := Lib.hid (by
            unfold countS
            rw [if_neg (by rw [HW.out]; simp), if_neg (by omega), hN, if_neg (by simp), if_pos hmm])
          have hs3 := hs.set1 (D.at_ : Int) D.at_ rfl h.low
          have ho3 := ho.set q 1 (.int .i64 (D.at_ : Int)) (.inl rfl)
          clear hN hmb hk1 hk2
          go_wp2_with fail
          refine (rfail_any hs3 11 D.at_ (by decide)).mono ?_
          rintro e w4 ⟨rfl, hs4, ho4⟩
          replace ho4 := ho3.same ho4
          go_wp2_with fail
          go_ret
          exact ⟨_, 0, rfl, HF, hs4, ho4⟩
        · have HF : Hid (countS D most = (D.to (D.at_ + k), v)) := Lib.hid (by
            unfold countS
            rw [if_neg (by rw [HW.out]; simp), if_neg (by omega), hN, if_neg (by simp), if_neg hmm])
          have hm2 : (v : Int) ≤ 9223372036854775807 := by omega
          have hm3 : wrap64 (v : Int) = (v : Int) := by unfold wrap64; omega
          have hm4 : IntKind.i64.wrap (v : Int) = (v : Int) := IntWalk.i64_in _ ⟨by omega, by omega⟩
          clear hN hmb hk1 hk2
          go_wp2_with fail
          go_ret
          exact ⟨_, v, rfl, HF, hs, ho⟩
      · rw [HU.out] at hU
        cases hU
        have e2 : w3.cell? ⟨q, 2, none⟩ = some (.int .i64 x) := hs.q2
        have hxb : (x == 0) = false := by simp [hx]
        have HF : Hid (countS D most = (D.fail x D.at_, 0)) := Lib.hid (by
          unfold countS
          rw [if_neg (by rw [HW.out]; simp), if_neg (by omega), hN, if_pos hx])
        clear hx hN
        go_wp2_with fail
        go_ret
        exact ⟨_, 0, rfl, HF, hs, ho⟩
  · have HF : Hid (countS D most = (D, 0)) := Lib.hid (by unfold countS; rw [if_pos hw])
    have hwb : (D.why == 0) = false := by simp [hw]
    have HW := Lib.hid hw
    clear hw
    go_enter Tryz.func38, Tryz.ntmps38
    go_wp2_with fail
    refine (rRUint_any h).mono ?_
    rintro e w3 ⟨D1, v, rfl, HU, hs, ho⟩
    have hU := HU.out
    rw [uintS_bad HW.out] at hU
    cases hU
    have e2 := hs.q2
    go_wp2_with fail
    go_ret
    exact ⟨_, 0, rfl, HF, hs, ho⟩
end
end Go.Proofs.YtelfephmjkipoaaGreat
end
/-! The contracts of the document's Encode and of Need. -/
section
namespace Go.Proofs.YtelfephmjkipoaaGreat
open Go.RowKit Go.Kit Go.Proofs.YtelfephmjkipoaaGreatW.PrintWords
section
variable {f : Fr} {w : World}
attribute [-go_sem] Instr.loadAt
set_option maxHeartbeats 8000000 in
set_option maxRecDepth 100000 in
theorem rEncode_any (hf : f.ok w) (hw : f.wf) (ha : ∀ s ∈ f.args, s.size ≤ 9223372036854775807) : Calls Tryz.prog 20 #[f.val] w fun e w' => ∃ v, e = .returned (.tuple #[v, .int .i64 (chkF f)]) ∧ OB 5 w' w.heap.size v (encF f) ∧ Below w.heap.size w w' := by
  have hb := below_alloc (Below.refl _ w) (.cells f.arr 30)
  have hF := boxed hf.tool w
  have hif : (Tryz.prog.info? 30).map (·.size) = some f.cells.length := by rw [frame_size]; have := Fr.arr_size f hf.tool; simp [Fr.arr] at this; rw [this]
  have cC : ∀ W, Below w.heap.size w W → Calls Tryz.prog 46 #[.agg f.arr] W (fun e w' => e = .returned (.int .i64 (chkF f)) ∧ Below W.heap.size W w') := fun W hbw => rCheck_any (hf.below hbw) hw ha
  have cB : chkF f = 0 → ∀ W, Below w.heap.size w W → Calls Tryz.prog 47 #[.agg f.arr] W (Laid W (bodyF f)) := fun hc W hbw => by
    obtain ⟨hm, h2, _⟩ := chk_facts hc
    exact rbody_any hm.k1 hm.k6 (hf.below hbw) hw (may_lay hm hf.args.len h2)
  obtain ⟨c, hc⟩ : ∃ c, chkF f = c := ⟨_, rfl⟩
  have HE : Hid (encF f = if c ≠ 0 then [] else sealed (sh (bodyF f).length ++ bodyF f)) := Lib.hid (by unfold encF; rw [hc])
  have HC := Lib.hid hc
  rw [hc] at cC ⊢
  clear hc hf hw ha
  show Calls Tryz.prog _ #[.agg f.arr] w _
  go_enter Tryz.func20, Tryz.ntmps20
  go_upto_region 1 with (fail)
  generalize w.alloc (.cells f.arr 30) = w1 at *
  obtain ⟨g, hg⟩ : ∃ g, w.heap.size = g := ⟨_, rfl⟩
  rw [hg] at hF ⊢
  clear hg
  have e2 := load_frame f hif w1 g hF
  go_wp2_with fail
  refine (cC w1 hb).mono ?_
  rintro e w2 ⟨rfl, hb2⟩
  have hb3 := below_step hb hb2
  have hF2 := hF.below hb2
  clear e2 hb hb2 hF cC
  by_cases h0 : c = 0
  · subst h0
    have e2 := load_frame f hif w2 g hF2
    have HL := Lib.hid (chk_facts HC.out).2.2
    go_wp2_with fail
    refine (cB HC.out w2 hb3).mono ?_
    rintro e w3 ⟨v3, rfl, hO3, hb4⟩
    have hb5 := below_step hb3 hb4
    obtain ⟨A3, c3, rfl, hR3, _⟩ := hO3.reads'
    obtain ⟨m, hm⟩ : ∃ m, (bodyF f).length = m := ⟨_, rfl⟩
    have hml : m ≤ 2097152 := by rw [← hm]; exact HL.out
    have hwm := u64_nn (x := (m : Int)) (by omega) (by omega)
    rw [hm] at hO3 hR3 HE ⊢
    have HM := Lib.hid hm
    clear e2 hb3 hb4 hF2 cB hm
    go_wp2_with fail
    refine (rUint_of (m : Int) (by omega) (by omega) w3).mono ?_
    rintro e w4 ⟨v4, rfl, hO4, hb6⟩
    have hb7 := below_step hb5 hb6
    have hR4 := hR3.below hb6
    have hO5 := hO4.less hb5.size
    rw [Int.toNat_natCast] at hO5
    have hls := sh_ten (n := m) (by omega)
    have HLS := Lib.hid hls
    clear hO4 hO3 hR3 hb5 hb6 hls
    go_wp2_with (at_builtin; refine push_row (w0 := w) w.heap.size rfl (.tmp 16) (.tmp 17) 22 (bodyF f) A3 m c3 rfl Tryz.underlying22 u8_info rfl rfl hO5 hR4 hb7 hb7.size (by have := HLS.out; omega) ?_)
    intro v6 w6 hO6 hb8 _ _
    obtain ⟨A6, c6, rfl, hR6, _⟩ := hO6.reads'
    obtain ⟨m6, hm6⟩ : ∃ q, (sh m ++ bodyF f).length = q := ⟨_, rfl⟩
    rw [hm6] at hO6 hR6 ⊢
    have hm6l : m6 ≤ 2097162 := by rw [← hm6, List.length_append, HM.out]; have := HLS.out; omega
    clear hm6 hR4 hO5 hb7
    go_wp2_with fail
    refine (rSeal_any A6 m6 c6 (sh m ++ bodyF f) w6 hR6 (by omega)).mono ?_
    rintro e w7 ⟨v7, rfl, hO7, hb9⟩
    have hb10 := below_step hb8 hb9
    have hO8 : OB 5 w7 w.heap.size v7 (encF f) := by
      rw [HE.out, if_neg (by decide)]
      exact hO7.less hb8.size
    go_wp2_with fail
    go_ret2
    exact ⟨_, rfl, hO8, hb10⟩
  · have h0b : (c != 0) = true := by simpa using h0
    have hO8 : OB 5 w2 w.heap.size (.slice none 0 0) (encF f) := by
      rw [HE.out, if_pos h0]
      exact OB.nil _ _ _
    clear h0
    go_wp2_with fail
    go_ret2
    exact ⟨_, rfl, hO8, hb3⟩
end
theorem need_of {xs : List Int} {m k : Nat} {x : Int} (h : headF xs = (m, k, x)) : needF xs = if x ≠ 0 ∨ k = 0 then (0, 0, x) else (m + k + 4, k, 0) := by unfold needF; rw [h]
theorem byte_only {W W1 : World} {r n c : Nat} {A : Option Addr} {D : Rd} (h : QR W r A n c D) (hb : Below W.heap.size W W1) : QR W1 r A n c D := h.below hb
set_option maxHeartbeats 8000000 in
set_option maxRecDepth 100000 in
theorem rNeed_any (A : Option Addr) (n cap : Nat) (xs : List Int) (w : World) (hx : RB w A n xs) (hl : n ≤ 140737488355328) :
    Calls Tryz.prog 12 #[.slice A n cap] w fun e w' => ∃ (m k : Nat) (x : Int), e = .returned (.tuple #[.int .i64 (m : Int), .int .i64 (k : Int), .int .i64 x]) ∧ Hid (needF xs = (m, k, x)) ∧ Below w.heap.size w w' := by
  go_enter Tryz.func12, Tryz.ntmps12
  go_wp2_with fail
  refine (rNew_any A n cap xs _ hx hl).mono ?_
  rintro e w6 ⟨Aq, d, rfl, hRq, hd, hAq, hb6⟩
  have hbl := below_alloc (Below.refl w6.heap.size w6) (.cells #[.slice Aq n d, .int .i64 0, .int .i64 0, .int .i64 0] 53)
  have hqk := heap_alloc_new w6 (.cells #[.slice Aq n d, .int .i64 0, .int .i64 0, .int .i64 0] 53)
  have hRq7 := hRq.below hbl
  have hb7 := below_step hb6 hbl
  go_wp2_with fail
  generalize w6.alloc (.cells #[.slice Aq n d, .int .i64 0, .int .i64 0, .int .i64 0] 53) = w7 at *
  have hq7 : QR w7 w6.heap.size Aq n d (Rd.new xs) := ⟨hqk, hRq7, hd, hl, Nat.zero_le _, fun _ => rfl, fun a e => Nat.ne_of_lt (hAq a e).2, fun a e => Nat.lt_of_lt_of_le (hAq a e).2 hbl.size⟩
  have hqn : w.heap.size ≤ w6.heap.size := hb6.size
  generalize w6.heap.size = q at hq7 hqn ⊢
  clear hRq hRq7 hqk hAq hbl hb6
  have hok := hq7.ok
  refine (rRUint_any hq7).mono ?_
  rintro e w8 ⟨D1, v, rfl, HU, hq8, ho8⟩
  have hb8 := Below.only hb7 ho8 hb7.size (fun k e => by rw [e]; exact hqn)
  have HUU := HU.out
  have q1 := hq8.q1
  have q2 := hq8.q2
  clear hq7 ho8 hb7 HU
  rcases uintS_cases hok rfl with ⟨m, k, hN, hu, hm, hk, hk1⟩ | ⟨m, k, x, hx0, hN, hu⟩
  · rw [show (Rd.new xs).bs = xs from rfl, show (Rd.new xs).at_ = 0 from rfl] at hN
    rw [hu] at HUU
    cases HUU
    have HNX := Lib.hid hN
    have hk10 : k ≤ 10 := by have := num_facts hx.byt (Nat.zero_le xs.length); rw [hN] at this; exact this.2.2.1
    rw [show (((Rd.new xs).to ((Rd.new xs).at_ + k)).at_ : Int) = (k : Int) from by show ((0 + k : Nat) : Int) = _; rw [Nat.zero_add]] at q1
    rw [show ((Rd.new xs).to ((Rd.new xs).at_ + k)).why = 0 from rfl] at q2
    clear hN hu hok hk hq8
    by_cases hbig : 2097152 < v
    · have hbig2 : (2097152 : Int) < (v : Int) := by omega
      have HF : Hid (needF xs = (0, 0, 3)) := Lib.hid (by
        rw [need_of (show headF xs = (0, 0, 3) by unfold headF; rw [HNX.out, if_neg (by simp), if_neg (by simp), if_pos hbig]), if_pos (.inr rfl)])
      go_wp2_with fail
      go_ret3
      exact ⟨0, 0, 3, rfl, HF, hb8⟩
    · have hbig2 : ¬ (2097152 : Int) < (v : Int) := by omega
      by_cases hz : v = 0
      · have hz2 : ((v : Int) == 0) = true := by rw [beq_iff_eq]; omega
        have HF : Hid (needF xs = (0, 0, 70)) := Lib.hid (by
          rw [need_of (show headF xs = (0, 0, 70) by unfold headF; rw [HNX.out, if_neg (by simp), if_neg (by simp), if_neg hbig, if_pos hz]), if_pos (.inr rfl)])
        clear hz
        go_wp2_with fail
        go_ret3
        exact ⟨0, 0, 70, rfl, HF, hb8⟩
      · have hz2 : ((v : Int) == 0) = false := by rw [beq_eq_false_iff_ne]; omega
        have HF : Hid (needF xs = (v + k + 4, k, 0)) := Lib.hid (by
          rw [need_of (show headF xs = (v, k, 0) by unfold headF; rw [HNX.out, if_neg (by simp), if_neg (by simp), if_neg hbig, if_neg hz]), if_neg (by simp; omega)])
        have w1 : IntKind.i64.wrap (v : Int) = (v : Int) := IntWalk.i64_in _ ⟨by omega, by omega⟩
        have w2 : IntKind.i64.wrap ((k : Int) + (v : Int)) = (k : Int) + (v : Int) := IntWalk.i64_in _ ⟨by omega, by omega⟩
        have w3 : IntKind.i64.wrap ((k : Int) + (v : Int) + 4) = ((v + k + 4 : Nat) : Int) := by rw [IntWalk.i64_in _ ⟨by omega, by omega⟩]; push_cast; omega
        have hb9 := fun j => pw_below_drewN hb8 j
        clear hz hbig hm hk1 hk10
        go_wp2_with fail
        go_quiet (fail)
        go_wp2_with fail
        go_ret3
        exact ⟨v + k + 4, k, 0, rfl, HF, hb9 _⟩
  · rw [show (Rd.new xs).bs = xs from rfl, show (Rd.new xs).at_ = 0 from rfl] at hN
    rw [hu] at HUU
    cases HUU
    have HNX := Lib.hid hN
    rw [show ((Rd.new xs).fail x (Rd.new xs).at_).why = x from rfl] at q2
    clear hN hu hok hq8 q1
    by_cases h4 : x = 4
    · subst h4
      have HF : Hid (needF xs = (0, 0, 0)) := Lib.hid (by
        rw [need_of (show headF xs = (0, 0, 0) by unfold headF; rw [HNX.out, if_pos rfl]), if_pos (.inr rfl)])
      clear hx0
      go_wp2_with fail
      go_ret3
      exact ⟨0, 0, 0, rfl, HF, hb8⟩
    · have h4b : (x == 4) = false := by rw [beq_eq_false_iff_ne]; exact h4
      have h0b : (x != 0) = true := by simpa using hx0
      have HF : Hid (needF xs = (0, 0, x)) := Lib.hid (by
        rw [need_of (show headF xs = (0, 0, x) by unfold headF; rw [HNX.out, if_neg h4, if_pos hx0]), if_pos (.inl hx0)])
      have hb9 := fun j => pw_below_drewN hb8 j
      clear h4 hx0
      go_wp2_with fail
      go_quiet (fail)
      go_wp2_with fail
      go_ret3
      exact ⟨0, 0, x, rfl, HF, hb9 _⟩
end Go.Proofs.YtelfephmjkipoaaGreat
end
/-! The document's reader: Text, List. -/
section
namespace Go.Proofs.YtelfephmjkipoaaGreat
open Go.RowKit Go.Kit Go.Proofs.YtelfephmjkipoaaGreatW.PrintWords
section
variable {w w1 : World} {q n c : Nat} {A : Option Addr} {D : Rd} {S : Nat → Prop}
set_option maxHeartbeats 4000000 in
set_option maxRecDepth 100000 in
theorem rRText_any (h : QR w q A n c D) (most : Int) (hmo : most ≤ 9223372036854775807) : Calls Tryz.prog 40 #[.pointer (some ⟨q, 0, none⟩), .int .i64 most] w fun e w' => ∃ D1 s, e = .returned (.string s) ∧ Hid (textS D most = (D1, s)) ∧ QR w' q A n c D1 ∧ Only w w' (fun k => k = q) := by
  have h1 := h.q1
  have h2 := h.q2
  have hm := h.max
  have hlo := h.low
  by_cases hw : D.why = 0
  · have HW := Lib.hid hw
    have hwb : (D.why == 0) = true := by simp [hw]
    have hwc : (D.why != 0) = false := by simp [hw]
    clear hw
    go_enter Tryz.func40, Tryz.ntmps40
    by_cases hneg : most < 0
    · have HF : Hid (textS D most = (D.fail 1 D.at_, ByteArray.empty)) := Lib.hid (by
        unfold textS
        rw [if_neg (by rw [HW.out]; simp), if_pos hneg])
      go_wp2_with fail
      refine (rfail_any h 1 D.at_ (by decide)).mono ?_
      rintro e w2 ⟨rfl, hs, ho⟩
      go_wp2_with fail
      refine (rRUint_any hs).mono ?_
      rintro e w3 ⟨D1, v, rfl, HU, hs2, ho2⟩
      have hU := HU.out
      rw [uintS_bad (by simp [Rd.fail])] at hU
      cases hU
      have e2 : w3.cell? ⟨q, 2, none⟩ = some (.int .i64 1) := hs2.q2
      replace ho := ho.same ho2
      go_wp2_with fail
      go_ret
      exact ⟨_, _, rfl, HF, hs2, ho⟩
    · have hneg2 : ¬ most < 0 := hneg
      have hwm : IntKind.u64.wrap most = most := IntWalk.u64_in _ ⟨by omega, by omega⟩
      have hok := h.ok
      have HL := Lib.hid h.row.len
      go_wp2_with fail
      refine (rRUint_any h).mono ?_
      rintro e w3 ⟨D1, v, rfl, HU, hs, ho⟩
      rcases uintS_cases hok HW.out with ⟨m, k, hN, hU, hmb, hk1, hk2⟩ | ⟨m, k, x, hx, hN, hU⟩
      · rw [HU.out] at hU
        cases hU
        rw [HL.out] at hk1
        have e2 : w3.cell? ⟨q, 2, none⟩ = some (.int .i64 D.why) := hs.q2
        have e1 : w3.cell? ⟨q, 1, none⟩ = some (.int .i64 ((D.at_ + k : Nat) : Int)) := hs.q1
        have e0 := hs.q0
        have f1 := hs.fq 1
        by_cases hmm : most < (v : Int)
        · have HF : Hid (textS D most = (D.fail 3 D.at_, ByteArray.empty)) := Lib.hid (by rw [textS_of HW.out (by omega) (textAt_long hN hmm), if_pos (by decide)])
          clear hN hmb hk2
          go_wp2_with fail
          refine (rfail_any hs 3 D.at_ (by decide)).mono ?_
          rintro e w4 ⟨rfl, hs4, ho4⟩
          have hs5 := hs4.set1 (D.at_ : Int) D.at_ rfl hlo
          have ho5 := (ho.same ho4).set q 1 (.int .i64 (D.at_ : Int)) (.inl rfl)
          have g2 : w4.cell? ⟨q, 2, none⟩ = some (.int .i64 3) := hs4.q2
          have g1 := hs4.q1
          have gf := hs4.fq 1
          go_wp2_with fail
          go_ret
          exact ⟨_, _, rfl, HF, hs5, ho5⟩
        · have hw1 : IntKind.i64.wrap ((n : Int) - ((D.at_ + k : Nat) : Int)) = (n : Int) - ((D.at_ + k : Nat) : Int) := IntWalk.i64_in _ ⟨by omega, by omega⟩
          have hw2 : IntKind.u64.wrap ((n : Int) - ((D.at_ + k : Nat) : Int)) = (n : Int) - ((D.at_ + k : Nat) : Int) := IntWalk.u64_in _ ⟨by omega, by omega⟩
          obtain ⟨ak, hak⟩ : ∃ ak, ak = D.at_ + k := ⟨_, rfl⟩
          rw [← hak] at e1 hw1 hw2 hk1 hs HU
          by_cases hfit : n < ak + v
          · have HF : Hid (textS D most = (D.fail 4 D.at_, ByteArray.empty)) := Lib.hid (by rw [textS_of HW.out (by omega) (textAt_short hN hmm (by rw [HL.out]; omega)), if_pos (by decide)])
            have hf2 : (n : Int) - (ak : Int) < (v : Int) := by omega
            clear hN hmb hk2 hak
            go_wp2_with fail
            go_quiet (fail)
            replace hs := hs.drewN nq
            replace ho := ho.drewN nq
            go_wp2_with fail
            refine (rfail_any hs 4 D.at_ (by decide)).mono ?_
            rintro e w4 ⟨rfl, hs4, ho4⟩
            have hs5 := hs4.set1 (D.at_ : Int) D.at_ rfl hlo
            have ho5 := (ho.same ho4).set q 1 (.int .i64 (D.at_ : Int)) (.inl rfl)
            have g2 : w4.cell? ⟨q, 2, none⟩ = some (.int .i64 4) := hs4.q2
            have g1 := hs4.q1
            have gf := hs4.fq 1
            go_wp2_with fail
            go_ret
            exact ⟨_, _, rfl, HF, hs5, ho5⟩
          · have HF : Hid (textS D most = (D.to (ak + v), strOfNums ((D.bs.drop ak).take v))) := Lib.hid (by rw [textS_of HW.out (by omega) (textAt_ok hN hmm (by rw [HL.out]; omega)), if_neg (by decide), hak])
            have hf2 : (v : Int) ≤ (n : Int) - (ak : Int) := by omega
            have hv2 : (v : Int) ≤ 9223372036854775807 := by omega
            have hv3 : wrap64 (v : Int) = (v : Int) := by unfold wrap64; omega
            clear hN hmb hk2 hak
            go_wp2_with fail
            go_quiet (fail)
            replace hs := hs.drewN nq
            replace ho := ho.drewN nq
            have g2 : (w3.drewN nq).cell? ⟨q, 2, none⟩ = some (.int .i64 D.why) := hs.q2
            go_wp2_with fail
            refine (rRaw_any hs (v : Int) hv2).mono ?_
            rintro e w4 ⟨D2, vv, xs, rfl, HR, hO, hs4, ho4⟩
            obtain ⟨A', c', rfl, hR, _⟩ := hO.reads'
            have hraw : D2 = D.to (ak + v) ∧ xs = (D.bs.drop ak).take v := by
              have := HR.out
              unfold rawS at this
              rw [if_neg (by show ¬ D.why ≠ 0; rw [HW.out]; simp), if_neg (by omega), if_neg (by show ¬ ((D.bs.length : Int) - (ak : Int) < (v : Int)); rw [HL.out]; omega)] at this
              cases this
              exact ⟨rfl, rfl⟩
            obtain ⟨rfl, rfl⟩ := hraw
            have hlen : ((D.bs.drop ak).take v).length = v := by rw [List.length_take, List.length_drop, HL.out]; omega
            rw [hlen] at hR ⊢
            clear hlen
            have ka := string_of_reads (P := Tryz.prog) (c := c') Tryz.underlying22 Tryz.underlying5 Tryz.underlying9 hR.rd
            have ho5 := ho.same ho4
            clear hO hR hv3
            go_wp2_with fail
            go_ret
            exact ⟨_, _, rfl, HF, hs4, ho5⟩
      · rw [HU.out] at hU
        cases hU
        have e2 : w3.cell? ⟨q, 2, none⟩ = some (.int .i64 x) := hs.q2
        have hxb : (x != 0) = true := by simp [hx]
        have HF : Hid (textS D most = (D.fail x D.at_, ByteArray.empty)) := Lib.hid (by rw [textS_of HW.out (by omega) (textAt_err hN hx), if_pos hx])
        clear hx hN
        go_wp2_with fail
        go_ret
        exact ⟨_, _, rfl, HF, hs, ho⟩
  · have HF : Hid (textS D most = (D, ByteArray.empty)) := Lib.hid (by unfold textS; rw [if_pos hw])
    have hwb : (D.why == 0) = false := by simp [hw]
    have hwc : (D.why != 0) = true := by simp [hw]
    have HW := Lib.hid hw
    clear hw
    go_enter Tryz.func40, Tryz.ntmps40
    go_wp2_with fail
    refine (rRUint_any h).mono ?_
    rintro e w3 ⟨D1, v, rfl, HU, hs, ho⟩
    have hU := HU.out
    rw [uintS_bad HW.out] at hU
    cases hU
    have e2 := hs.q2
    go_wp2_with fail
    go_ret
    exact ⟨_, _, rfl, HF, hs, ho⟩
theorem own_not_q {w : World} {base r : Nat} {v : Value} {xs : List ByteArray} {cs : Array Value} {fr : Nat × Nat} (h : OT 9 w base v xs) (hk : w.heap[r]? = some (.cells cs 53 fr)) : v.ownBlock = none ∨ v.ownBlock ≠ some r := by
  rcases h.2 with ⟨h1, _⟩ | ⟨g, cap, cur, h1, h2, h3, h4⟩
  · exact .inl (by rw [h1]; rfl)
  · refine .inr (fun e => ?_)
    rw [h1] at e; cases e
    rw [hk] at h3
    simp at h3
theorem sep_ownq {w : World} {base r n c : Nat} {A : Option Addr} {D : Rd} {v : Value} {xs : List ByteArray} (h : OT 9 w base v xs) (hk : QR w r A n c D) (hA : ∀ a, A = some a → a.block < base) : Sep (qrf r A) (rf v) := fun k hk1 hv => by
  rcases h.2 with ⟨h1, _⟩ | ⟨g, cap, cur, h1, h2, h3, h4⟩
  · rw [h1] at hv; cases hv
  · rw [h1] at hv; cases hv
    rcases hk1 with rfl | ⟨a, e, rfl⟩
    · rw [hk.qk] at h3; simp at h3
    · have := hA a e; omega
theorem ot_kept4 {w w1 : World} {base q : Nat} {v : Value} {xs : List ByteArray} (h : OT 9 w base v xs) (ho : Only w w1 (fun k => k = q)) (hq : v.ownBlock = none ∨ v.ownBlock ≠ some q) : OT 9 w1 base v xs := by
  refine ⟨h.1, ?_⟩
  rcases h.2 with h1 | ⟨g, cap, cur, h1, h2, h3, h4⟩
  · exact .inl h1
  · refine .inr ⟨g, cap, cur, h1, h2, ho.kept h3 (fun e => ?_), h4⟩
    rcases hq with hq | hq
    · rw [h1] at hq; cases hq
    · exact hq (by rw [h1, ← e]; rfl)
/-- Where the rounds of a list stand: well, or at a fault. -/
def LsAt (D : Rd) (each : Int) (m a0 j a : Nat) (acc : List ByteArray) (D2 : Rd) : Prop :=
  (D2 = D.to a ∧ lstR D.bs each m a0 [] = lstR D.bs each j a acc ∧ acc.length ≤ a ∧ a ≤ D.bs.length) ∨ ∃ x b, x ≠ 0 ∧ D2 = (D.to b).fail x b ∧ lstR D.bs each m a0 [] = ([], b, x)
set_option maxHeartbeats 8000000 in
set_option maxRecDepth 100000 in
theorem rRList_any (h : QR w q A n c D) (hn : n ≤ 4398046511104) (most each : Int) (hmo : most ≤ 9223372036854775807) (hea : each ≤ 9223372036854775807) : Calls Tryz.prog 39 #[.pointer (some ⟨q, 0, none⟩), .int .i64 most, .int .i64 each] w fun e w' => ∃ D1 v l, e = .returned v ∧ Hid (listS D most each = (D1, l)) ∧ OT 9 w' w.heap.size v l ∧ QR w' q A n c D1 ∧ Only w w' (fun k => k = q) := by
  have h1 := h.q1
  have h2 := h.q2
  have hm := h.max
  have hlo := h.low
  by_cases hw : D.why = 0
  · have HW := Lib.hid hw
    have hwb : (D.why == 0) = true := by simp [hw]
    clear hw
    go_enter Tryz.func39, Tryz.ntmps39
    by_cases hneg : most < 0 ∨ each < 0
    · have HF : Hid (listS D most each = (D.fail 1 D.at_, [])) := Lib.hid (by
        unfold listS
        rw [if_neg (by rw [HW.out]; simp), if_pos hneg])
      have hdd : (decide (most < 0) || decide (each < 0)) = true := by simpa using hneg
      have HNG := Lib.hid hneg
      clear hneg
      by_cases hm0 : most < 0
      · go_wp2_with fail
        refine (rfail_any h 1 D.at_ (by decide)).mono ?_
        rintro e w4 ⟨rfl, hs, ho⟩
        go_wp2_with fail
        refine (rRUint_any hs).mono ?_
        rintro e w3 ⟨D1, v, rfl, HU, hs2, ho2⟩
        have hU := HU.out
        rw [uintS_bad (by simp [Rd.fail])] at hU
        cases hU
        replace ho := ho.same ho2
        replace hs := hs2
        clear hs2
        have hs5 := hs.set1 (D.at_ : Int) D.at_ rfl hlo
        have ho5 := ho.set q 1 (.int .i64 (D.at_ : Int)) (.inl rfl)
        have e2 := hs.q2
        have e1 := hs.q1
        have ef := hs.fq 1
        try dsimp only [Rd.fail, Rd.to] at e2
        go_wp2_with fail
        go_loopg [9, 10] 0 (fun gk v9 v10 w' => v9 = .slice none 0 0 ∧ v10 = .int .u64 0 ∧ w' = w3)
        case atStart => exact ⟨rfl, rfl, rfl⟩
        case round =>
          obtain ⟨rfl, rfl, rfl⟩ := hrel
          go_wp2_with fail
          go_ret
          exact ⟨_, _, [], rfl, HF, OT.nil _ _ _, hs5, ho5⟩
      · have hm1 : each < 0 := HNG.out.resolve_left hm0
        go_wp2_with fail
        refine (rfail_any h 1 D.at_ (by decide)).mono ?_
        rintro e w4 ⟨rfl, hs, ho⟩
        go_wp2_with fail
        refine (rRUint_any hs).mono ?_
        rintro e w3 ⟨D1, v, rfl, HU, hs2, ho2⟩
        have hU := HU.out
        rw [uintS_bad (by simp [Rd.fail])] at hU
        cases hU
        replace ho := ho.same ho2
        replace hs := hs2
        clear hs2
        have hs5 := hs.set1 (D.at_ : Int) D.at_ rfl hlo
        have ho5 := ho.set q 1 (.int .i64 (D.at_ : Int)) (.inl rfl)
        have e2 := hs.q2
        have e1 := hs.q1
        have ef := hs.fq 1
        try dsimp only [Rd.fail, Rd.to] at e2
        go_wp2_with fail
        go_loopg [9, 10] 0 (fun gk v9 v10 w' => v9 = .slice none 0 0 ∧ v10 = .int .u64 0 ∧ w' = w3)
        case atStart => exact ⟨rfl, rfl, rfl⟩
        case round =>
          obtain ⟨rfl, rfl, rfl⟩ := hrel
          go_wp2_with fail
          go_ret
          exact ⟨_, _, [], rfl, HF, OT.nil _ _ _, hs5, ho5⟩
    · have hm0 : ¬ most < 0 := fun e => hneg (.inl e)
      have he0 : ¬ each < 0 := fun e => hneg (.inr e)
      have HNG := Lib.hid hneg
      clear hneg
      have hok := h.ok
      have HL := Lib.hid h.row.len
      have hwm : IntKind.u64.wrap most = most := IntWalk.u64_in _ ⟨by omega, by omega⟩
      go_wp2_with fail
      refine (rRUint_any h).mono ?_
      rintro e w3 ⟨D1, v, rfl, HU, hs, ho⟩
      rcases uintS_cases hok HW.out with ⟨m, k, hN, hU, hmb, hk1, hk2⟩ | ⟨m, k, x, hx, hN, hU⟩
      · rw [HU.out] at hU
        cases hU
        rw [HL.out] at hk1
        have e2 : w3.cell? ⟨q, 2, none⟩ = some (.int .i64 D.why) := hs.q2
        by_cases hmm : most < (v : Int)
        · have HF : Hid (listS D most each = (D.fail 11 D.at_, [])) := Lib.hid (by
            unfold listS
            rw [if_neg (by rw [HW.out]; simp), if_neg HNG.out, hN, if_neg (by simp), if_pos hmm])
          have hv0 : (0 : Int) < (v : Int) := by omega
          clear hN hmb hk1 hk2
          go_wp2_with fail
          refine (rfail_any hs 11 D.at_ (by decide)).mono ?_
          rintro e w4 ⟨rfl, hs4, ho4⟩
          replace ho := ho.same ho4
          clear e2
          replace hs := hs4
          clear hs4
          have hs5 := hs.set1 (D.at_ : Int) D.at_ rfl hlo
          have ho5 := ho.set q 1 (.int .i64 (D.at_ : Int)) (.inl rfl)
          have e2 := hs.q2
          have e1 := hs.q1
          have ef := hs.fq 1
          try dsimp only [Rd.fail, Rd.to] at e2
          go_wp2_with fail
          go_loopg [9, 10] 0 (fun gk v9 v10 w' => v9 = .slice none 0 0 ∧ v10 = .int .u64 0 ∧ w' = w4)
          case atStart => exact ⟨rfl, rfl, rfl⟩
          case round =>
            obtain ⟨rfl, rfl, rfl⟩ := hrel
            go_wp2_with fail
            go_ret
            exact ⟨_, _, [], rfl, HF, OT.nil _ _ _, hs5, ho5⟩
        · have HF : Hid (listS D most each = if (lstR D.bs each v (D.at_ + k) []).2.2 ≠ 0 then (D.fail (lstR D.bs each v (D.at_ + k) []).2.2 (lstR D.bs each v (D.at_ + k) []).2.1, []) else (D.to (lstR D.bs each v (D.at_ + k) []).2.1, (lstR D.bs each v (D.at_ + k) []).1)) := Lib.hid (by
            unfold listS
            rw [if_neg (by rw [HW.out]; simp), if_neg HNG.out, hN, if_neg (by simp), if_neg hmm])
          have HV : Hid (v < 18446744073709551616) := hmb
          have hq := hs.oldF
          have hAo := hs.old
          have hwz : (D.why != 0) = false := by simp [HW.out]
          clear hN hmb hk2
          obtain ⟨a0, ha0⟩ : ∃ a0, a0 = D.at_ + k := ⟨_, rfl⟩
          rw [← ha0] at HF hs hk1 HU
          clear ha0
          go_wp2_with fail
          go_loopg [9, 10] v (fun gk v9 v10 w' => ∃ (i a : Nat) (acc : List ByteArray) (D2 : Rd), v10 = .int .u64 (i : Int) ∧ OT 9 w' w3.heap.size v9 acc ∧ QR w' q A n c D2 ∧ Only w3 w' (fun k => k = q) ∧ Hid (i ≤ v ∧ gk = v - i ∧ LsAt D each v a0 (v - i) a acc D2))
          case atStart => exact ⟨0, a0, [], _, rfl, OT.nil _ _ _, hs, Only.refl _ _, by omega, rfl, .inl ⟨rfl, rfl, by simp, by rw [HL.out]; exact hk1⟩⟩
          case round =>
            clear hs e2
            obtain ⟨i, a, acc, D2, rfl, hO, hs, ho1, HG⟩ := hrel
            have hsz := ho1.size
            rcases HG.out.2.2 with ⟨rfl, hl, hac, hab⟩ | ⟨x, b, hx, rfl, hl⟩
            · have e2 : wr.cell? ⟨q, 2, none⟩ = some (.int .i64 D.why) := hs.q2
              have HLR := Lib.hid hl
              have HAC := Lib.hid hac
              have HAB := Lib.hid hab
              clear hl hac hab
              by_cases hi : i < v
              · have hi2 : (i : Int) < (v : Int) := by omega
                go_wp2_with fail
                refine (rRText_any hs each hea).mono ?_
                rintro e w4 ⟨D3, s, rfl, HT, hs4, ho4⟩
                obtain ⟨s', en, x, hT⟩ : ∃ s' en x, textAt D.bs a each = (s', en, x) := ⟨_, _, _, rfl⟩
                have hTS := textS_of (D := D.to a) (most := each) HW.out (by omega) hT
                rw [HT.out] at hTS
                obtain ⟨q1, q2⟩ := textAt_facts h.row.byt HAB.out hT
                have hOk := ot_kept4 hO ho4 (own_not_q hO hs.qk)
                have ho5 := ho1.same ho4
                have HJ : Hid (v - i = (v - (i + 1)) + 1) := Lib.hid (by omega)
                have hiw : IntKind.u64.wrap ((i : Int) + 1) = (i : Int) + 1 := IntWalk.u64_in _ ⟨by omega, by have := HV.out; omega⟩
                by_cases hx : x = 0
                · obtain ⟨q3, q4, q5, _⟩ := q1 hx
                  rw [if_neg (by simpa using hx)] at hTS
                  cases hTS
                  have e4 : w4.cell? ⟨q, 2, none⟩ = some (.int .i64 D.why) := hs4.q2
                  have HNX : Hid (lstR D.bs each v a0 [] = lstR D.bs each (v - (i + 1)) en (acc ++ [s])) := Lib.hid (by
                    rw [HLR.out, HJ.out, lstR, hT, if_neg (by simpa using hx)])
                  have hln : (acc.length + 1) * 16 ≤ 140737488355328 := by have := HAC.out; have := HAB.out; rw [HL.out] at this; omega
                  have HLEN : Hid ((acc ++ [s]).length ≤ en) := Lib.hid (by rw [List.length_append]; have := HAC.out; simp; omega)
                  have HEN : Hid (en ≤ D.bs.length) := q3
                  have hs5 := ho5.size
                  clear hx q1 q2 q3 q4 q5 hT
                  go_wp2_with (at_builtin; refine print_append_of (w0 := w4) Value.string w3.heap.size rfl (.tmp 68) (.tmp 70) 28 9 (.string ByteArray.empty) 16 rfl Tryz.underlying28 str_info rfl (by decide) _ acc s rfl rfl rfl hOk (Below.refl _ _) hs5 hln ?_)
                  intro v1 w5 hown _ hg hat
                  replace hown : OT 9 w5 w3.heap.size v1 (acc ++ [s]) := by unfold OT; simpa using hown
                  have h5 : QR w5 q A n c _ := hs4.only ((Only.refl w4 (rf u9)).grown hg (fun k e => .inl e)) (sep_ownq hOk hs4 hAo)
                  have ho6 : Only w3 w5 (fun k => k = q) := ho5.grown hg (fun k e => .inr (own_base hOk k e))
                  clear hO hOk hg hat hln
                  go_wp2_with fail
                  go_roundg (v - (i + 1))
                  case measure => have := HG.out; omega
                  case rel => exact ⟨i + 1, en, _, _, by first | rfl | simp, hown, h5, ho6, by omega, rfl, .inl ⟨rfl, HNX.out, HLEN.out, HEN.out⟩⟩
                · rw [if_pos hx] at hTS
                  cases hTS
                  have e4 : w4.cell? ⟨q, 2, none⟩ = some (.int .i64 x) := hs4.q2
                  have hxb : (x == 0) = false := by simp [hx]
                  have HX := Lib.hid hx
                  have HNX : Hid (lstR D.bs each v a0 [] = ([], a, x)) := Lib.hid (by
                    rw [HLR.out, HJ.out, lstR, hT, if_pos hx])
                  clear hx q1 q2 hT
                  go_wp2_with fail
                  go_roundg (v - (i + 1))
                  case measure => have := HG.out; omega
                  case rel => exact ⟨i + 1, a, acc, _, by first | rfl | simp, hOk, hs4, ho5, by omega, rfl, .inr ⟨x, a, HX.out, rfl, HNX.out⟩⟩
              · have hi2 : ¬ (i : Int) < (v : Int) := by omega
                have HFF : Hid (listS D most each = (D.to a, acc)) := Lib.hid (by
                  rw [HF.out, HLR.out, show v - i = 0 by omega]
                  rfl)
                have hOk := hO.less ho.size
                have ho5 := ho.same ho1
                go_wp2_with fail
                go_ret
                first | exact ⟨_, _, acc, rfl, HFF, hOk, hs, ho5⟩ | exact ⟨_, _, rfl, acc, HFF, hOk, hs, ho5⟩
            · have e2 : wr.cell? ⟨q, 2, none⟩ = some (.int .i64 x) := hs.q2
              have ef := hs.fq 1
              have e1 := hs.q1
              have hxb : (x == 0) = false := by simp [hx]
              have hxc : (x != 0) = true := by simp [hx]
              have HFF : Hid (listS D most each = (D.fail x b, [])) := Lib.hid (by
                rw [HF.out, hl]
                rw [if_pos hx])
              have hs5 := hs.set1 (D.at_ : Int) D.at_ rfl hlo
              have ho5 := (ho.same ho1).set q 1 (.int .i64 (D.at_ : Int)) (.inl rfl)
              clear hx hl
              by_cases hi : (i : Int) < (v : Int)
              all_goals
                go_wp2_with fail
                go_ret
                first | exact ⟨_, _, [], rfl, HFF, OT.nil _ _ _, hs5, ho5⟩ | exact ⟨_, _, rfl, [], HFF, OT.nil _ _ _, hs5, ho5⟩
      · rw [HU.out] at hU
        cases hU
        have hxb : (x == 0) = false := by simp [hx]
        have hxc : (x != 0) = true := by simp [hx]
        have HF : Hid (listS D most each = (D.fail x D.at_, [])) := Lib.hid (by
          unfold listS
          rw [if_neg (by rw [HW.out]; simp), if_neg HNG.out, hN, if_pos hx])
        clear hx hN
        have hs5 := hs.set1 (D.at_ : Int) D.at_ rfl hlo
        have ho5 := ho.set q 1 (.int .i64 (D.at_ : Int)) (.inl rfl)
        have e2 := hs.q2
        have e1 := hs.q1
        have ef := hs.fq 1
        try dsimp only [Rd.fail, Rd.to] at e2
        go_wp2_with fail
        go_loopg [9, 10] 0 (fun gk v9 v10 w' => v9 = .slice none 0 0 ∧ v10 = .int .u64 0 ∧ w' = w3)
        case atStart => exact ⟨rfl, rfl, rfl⟩
        case round =>
          obtain ⟨rfl, rfl, rfl⟩ := hrel
          go_wp2_with fail
          go_ret
          exact ⟨_, _, [], rfl, HF, OT.nil _ _ _, hs5, ho5⟩
  · have HF : Hid (listS D most each = (D, [])) := Lib.hid (by unfold listS; rw [if_pos hw])
    have hwb : (D.why == 0) = false := by simp [hw]
    have hwc : (D.why != 0) = true := by simp [hw]
    have HW := Lib.hid hw
    clear hw
    go_enter Tryz.func39, Tryz.ntmps39
    go_wp2_with fail
    refine (rRUint_any h).mono ?_
    rintro e w3 ⟨D1, v, rfl, HU, hs2, ho2⟩
    have hU := HU.out
    rw [uintS_bad HW.out] at hU
    cases hU
    have hs := hs2
    have ho := ho2
    clear hs2 ho2
    have hs5 := hs.set1 (D.at_ : Int) D.at_ rfl hlo
    have ho5 := ho.set q 1 (.int .i64 (D.at_ : Int)) (.inl rfl)
    have e2 := hs.q2
    have e1 := hs.q1
    have ef := hs.fq 1
    try dsimp only [Rd.fail, Rd.to] at e2
    go_wp2_with fail
    go_loopg [9, 10] 0 (fun gk v9 v10 w' => v9 = .slice none 0 0 ∧ v10 = .int .u64 0 ∧ w' = w3)
    case atStart => exact ⟨rfl, rfl, rfl⟩
    case round =>
      obtain ⟨rfl, rfl, rfl⟩ := hrel
      go_wp2_with fail
      go_ret
      exact ⟨_, _, [], rfl, HF, OT.nil _ _ _, hs5, ho5⟩
end
end Go.Proofs.YtelfephmjkipoaaGreat
end
/-! The contracts of Open and of the document's Open. -/
section
namespace Go.Proofs.YtelfephmjkipoaaGreat
open Go.RowKit Go.Kit CrcM Go.Proofs.YtelfephmjkipoaaGreatW.PrintWords

/-- What Open answers. -/
def openR (xs : List Int) : List Int × Int :=
  if xs.length < 4 then ([], 4) else if b4 (more 0#32 (xs.take (xs.length - 4))) = xs.drop (xs.length - 4) then (xs.take (xs.length - 4), 0) else ([], 71)
theorem openR_short {xs : List Int} (h : xs.length < 4) : openR xs = ([], 4) := if_pos h
theorem openR_good {xs : List Int} {N : Nat} (h : xs.length = N + 4) (e : b4 (more 0#32 (xs.take N)) = xs.drop N) : openR xs = (xs.take N, 0) := by
  unfold openR; rw [if_neg (by omega), show xs.length - 4 = N from by omega, if_pos e]
theorem openR_bad {xs : List Int} {N : Nat} (h : xs.length = N + 4) (e : b4 (more 0#32 (xs.take N)) ≠ xs.drop N) : openR xs = ([], 71) := by
  unfold openR; rw [if_neg (by omega), show xs.length - 4 = N from by omega, if_neg e]
theorem last_four {xs : List Int} {N : Nat} (h : xs.length = N + 4) : ∃ y0 y1 y2 y3, xs.drop N = [y0, y1, y2, y3] := by
  have hl : (xs.drop N).length = 4 := by rw [List.length_drop]; omega
  match hd : xs.drop N, hl with
  | [y0, y1, y2, y3], _ => exact ⟨y0, y1, y2, y3, rfl⟩
theorem RBs.drew {w : World} {A : Option Addr} {n : Nat} {L : List (List Int)} (h : RBs w A n L) : RBs w.drew A n L := ⟨h.len, h.max, fun i hi => by
  obtain ⟨ad, Ai, ci, xs, e, hc, hx, hr⟩ := h.at0 i hi
  exact ⟨ad, Ai, ci, xs, e, hc, hx, hr.drew⟩⟩
theorem Sum_of {A : Option Addr} {n : Nat} {xs : List Int} {w : World} (h : RBs w A n [xs]) (c : Nat) :
    Calls Tryz.prog 23 #[.slice A n c] w fun e w' => ∃ s : W, e = .returned (.int .u32 (s.toNat : Int)) ∧ Hid (s = more 0#32 xs) ∧ Below w.heap.size w w' := by
  refine (Sum_any _ n c [xs] _ h).mono ?_
  rintro e w1 ⟨rfl, hb1⟩
  exact ⟨_, rfl, Lib.hid (by simp), hb1⟩
theorem openS {w w1 : World} {a0 a1 a2 a3 : Addr} {v0 v1 v2 v3 : Value} (h0 : w.cell? a0 = some v0) (h1 : w.cell? a1 = some v1) (h2 : w.cell? a2 = some v2) (h3 : w.cell? a3 = some v3) (hb : Below w.heap.size w w1) :
    Below w.heap.size w w1 ∧ w1.cell? a0 = some v0 ∧ w1.cell? a1 = some v1 ∧ w1.cell? a2 = some v2 ∧ w1.cell? a3 = some v3 :=
  ⟨hb, pw_cell_below hb h0, pw_cell_below hb h1, pw_cell_below hb h2, pw_cell_below hb h3⟩
def sameL (l m : List Int) : Bool := decide (l = m)
set_option maxHeartbeats 2000000 in
set_option maxRecDepth 100000 in
theorem Open_any (A : Option Addr) (len cap : Nat) (xs : List Int) (w : World) (hx : RB w A len xs) (hcap : len ≤ cap) (hl : len ≤ 140737488355000) :
    Calls Tryz.prog 9 #[.slice A len cap] w fun e w' => ∃ v ys err, e = .returned (.tuple #[v, .int .i64 err]) ∧ OB 5 w' w.heap.size v ys ∧ Hid ((ys, err) = openR xs) ∧ Below w.heap.size w w' := by
  by_cases h4 : len < 4
  · have HF : Hid (([], 4) = openR xs) := (openR_short (by rw [hx.len]; exact h4)).symm
    go_enter Tryz.func9, Tryz.ntmps9
    go_wp2_with fail
    go_ret2
    exact ⟨_, _, _, rfl, OB.nil _ _ _, HF, Below.refl _ _⟩
  · obtain ⟨N, rfl⟩ : ∃ N, len = N + 4 := ⟨len - 4, by omega⟩
    obtain ⟨y0, y1, y2, y3, hd⟩ := last_four hx.len
    obtain ⟨ad, rfl, hcells⟩ := hx.rd.2.2 (by omega)
    have hget : ∀ j, xs.getD (N + j) 0 = (xs.drop N).getD j 0 := fun j => by simp [List.getD_eq_getElem?_getD, List.getElem?_drop]
    have c0 : w.cell? (ad.add N) = some (.int .u8 y0) := by rw [hcells N (by omega)]; have := hget 0; rw [Nat.add_zero] at this; rw [this, hd]; rfl
    have c1 : w.cell? ⟨(ad.add N).block, (ad.add N).off + 1, none⟩ = some (.int .u8 y1) := by rw [← add_field ad N 1 (by omega), hcells (N + 1) (by omega), hget 1, hd]; rfl
    have c2 : w.cell? ⟨(ad.add N).block, (ad.add N).off + 2, none⟩ = some (.int .u8 y2) := by rw [← add_field ad N 2 (by omega), hcells (N + 2) (by omega), hget 2, hd]; rfl
    have c3 : w.cell? ⟨(ad.add N).block, (ad.add N).off + 3, none⟩ = some (.int .u8 y3) := by rw [← add_field ad N 3 (by omega), hcells (N + 3) (by omega), hget 3, hd]; rfl
    have HD := Lib.hid hd
    clear hd hget hcells
    have hcN : ¬ cap = N := by omega
    go_enter Tryz.func9, Tryz.ntmps9
    go_wp2_with fail
    have hxN := RB.take_ hx N (by omega)
    have harr : ∀ (W : World) (a : Option Addr) (c : Nat), (Instr.arrayAt 64 (.slice a 4 c)).run Tryz.prog W = .ok (.pointer a) W := fun W a c => run_arrayAt W 64 5 4 a 4 c Tryz.underlying64 (by omega)
    have heq : ∀ (W : World) (x0 x1 x2 x3 : Int), (Op.equalIn 10000 64 (.agg #[.int .u8 x0, .int .u8 x1, .int .u8 x2, .int .u8 x3]) (.agg #[.int .u8 y0, .int .u8 y1, .int .u8 y2, .int .u8 y3])).run Tryz.prog W = .ok (sameL [x0, x1, x2, x3] [y0, y1, y2, y3]) W := by
      intro W x0 x1 x2 x3
      obtain ⟨i0, hi, hz0, hz1, hz2⟩ := info_parts u8_info
      exact run_equalIn_nums (P := Tryz.prog) (w := W) 9998 [x0, x1, x2, x3] [y0, y1, y2, y3] Tryz.underlying64 hi hz1 Tryz.underlying5 rfl rfl
    have b1 : (0 : Int) ≤ (N : Int) := by omega
    have b2 : (N : Int) ≤ (cap : Int) := by omega
    have b3 : (N : Int) ≤ (N : Int) + 4 := by omega
    have b4 : (N : Int) + 4 ≤ (cap : Int) := by omega
    go_region_held3 (fun w' => Below w.heap.size w w' ∧ w'.cell? (ad.add N) = some (.int .u8 y0) ∧ w'.cell? ⟨(ad.add N).block, (ad.add N).off + 1, none⟩ = some (.int .u8 y1) ∧ w'.cell? ⟨(ad.add N).block, (ad.add N).off + 2, none⟩ = some (.int .u8 y2) ∧ w'.cell? ⟨(ad.add N).block, (ad.add N).off + 3, none⟩ = some (.int .u8 y3))
      (first
        | assumption
        | (go_split_ands; refine ⟨?_, ?_, ?_, ?_, ?_⟩ <;> assumption)
        | exact openS c0 c1 c2 c3 (below_drew (Below.refl _ _))
        | (go_split_ands; refine openS c0 c1 c2 c3 (below_step ?_ hb3); assumption)
        | (go_split_ands; refine openS c0 c1 c2 c3 (below_step ?_ hb2); assumption)
        | (go_split_ands; refine openS c0 c1 c2 c3 (below_alloc ?_ _); assumption)
        | exact openS c0 c1 c2 c3 (below_drew (below_alloc (Below.refl _ _) _)))
      (first
        | (go_at_call 23; go_split_ands; go_must (refine (Sum_of (RBs.drew (RBs.one _ hxN)) _).mono ?_); rintro e w2 ⟨s, rfl, HS, hb2⟩)
        | (go_at_call 22; refine (Bytes_any s _ rfl _).mono ?_; rintro e w3 ⟨x0, x1, x2, x3, rfl, HB, hb3⟩))
    all_goals
      clear harr heq c0 c1 c2 c3 hcN
      go_split_ands
      by_cases hq : [x0, x1, x2, x3] = [y0, y1, y2, y3]
      · have HF : Hid ((xs.take N, 0) = openR xs) := (openR_good hx.len (by rw [← HS.out, HB.out, HD.out]; exact hq)).symm
        have hqd : sameL [x0, x1, x2, x3] [y0, y1, y2, y3] = true := decide_eq_true hq
        rw [hqd]
        clear hq hqd
        obtain ⟨i0, hi, hz0, hz1, hz2⟩ := info_parts u8_info
        have hmk := fun W => run_make_rowN 22 5 i0 _ Tryz.underlying22 hi hz0 N N (Nat.le_refl _) (by rw [hz2]; omega) (by omega) W (N : Int) (N : Int) rfl rfl
        simp only [hz1, Value.cells, Nat.mul_one, made_u8] at hmk
        clear hi hz0 hz1 hz2
        go_wp2_with (refine wpList_copy_bytes (w := w) rfl (.tmp 26) (.tmp 27) 22 5 rfl Tryz.underlying22 u8_size (some ad) N N (N + 4) cap xs _ rfl rfl ((hx.below (by assumption)).alloc _) (by omega) (heap_alloc_new _ _) (Nat.le_refl _) (by omega) (below_alloc (by assumption) _) (Below.size (by assumption)) ?_)
        intro w9 hO hb9
        go_wp2_with fail
        go_ret2
        exact ⟨_, _, _, rfl, hO, HF, hb9⟩
      · have HF : Hid (([], 71) = openR xs) := (openR_bad hx.len (by rw [← HS.out, HB.out, HD.out]; exact hq)).symm
        have hqd : sameL [x0, x1, x2, x3] [y0, y1, y2, y3] = false := decide_eq_false hq
        rw [hqd]
        clear hq hqd
        go_wp2_with fail
        go_ret2
        exact ⟨_, _, _, rfl, OB.nil _ _ _, HF, by assumption⟩
end Go.Proofs.YtelfephmjkipoaaGreat
end
/-! The contract of the document's Open; the walk of CrcSeals. -/
section
namespace Go.Proofs.YtelfephmjkipoaaGreat
open Go.RowKit Go.Kit CrcM Go.Proofs.YtelfephmjkipoaaGreatW.PrintWords

theorem bne_same {x y : Int} (h : x = y) : (x != y) = false := by simp [h]
theorem bne_diff {x y : Int} (h : ¬ x = y) : (x != y) = true := by simp [h]
theorem same_upto {X Y : List Int} (hX : X.length = 4) (hY : Y.length = 4) (h : X.take 4 = Y.take 4) : X = Y := by
  rwa [List.take_of_length_le (by omega), List.take_of_length_le (by omega)] at h
set_option maxHeartbeats 2000000 in
set_option maxRecDepth 100000 in
theorem rOpen_any (A : Option Addr) (len cap : Nat) (xs : List Int) (w : World) (hx : RB w A len xs) (hcap : len ≤ cap) (hl : len ≤ 140737488355000) :
    Calls Tryz.prog 13 #[.slice A len cap] w fun e w' => ∃ v ys err, e = .returned (.tuple #[v, .int .i64 err]) ∧ OB 5 w' w.heap.size v ys ∧ Hid ((ys, err) = openR xs) ∧ Below w.heap.size w w' := by
  by_cases h4 : len < 4
  · have HF : Hid (([], 4) = openR xs) := (openR_short (by rw [hx.len]; exact h4)).symm
    go_enter Tryz.func13, Tryz.ntmps13
    go_wp2_with fail
    go_ret2
    exact ⟨_, _, _, rfl, OB.nil _ _ _, HF, Below.refl _ _⟩
  · obtain ⟨N, rfl⟩ : ∃ N, len = N + 4 := ⟨len - 4, by omega⟩
    have hxN := RB.take_ hx N (by omega)
    go_enter Tryz.func13, Tryz.ntmps13
    go_wp2_with fail
    refine (rMore_any 0#32 _ (by decide) A N cap _ _ hxN).mono ?_
    rintro e w2 ⟨rfl, rfl⟩
    obtain ⟨s, hs⟩ : ∃ s, s = more 0#32 (xs.take N) := ⟨_, rfl⟩
    rw [← hs]
    have HS := Lib.hid hs
    clear hs
    go_wp2_with fail
    refine (rBytes_any s _ rfl _).mono ?_
    rintro e w3 ⟨x0, x1, x2, x3, rfl, HB, hb3⟩
    have hz := (zero_of_info info_b4).1
    have hfour : Byt [x0, x1, x2, x3] := by rw [← HB.out]; exact b4_byt s
    have HR := RB.lit w3 [x0, x1, x2, x3] hfour (by simp) 64 (0, 0)
    simp only [nums, List.map_cons, List.map_nil, List.length_cons, List.length_nil, Nat.reduceAdd] at HR
    have hbw := below_alloc hb3 (.cells #[.int .u8 x0, .int .u8 x1, .int .u8 x2, .int .u8 x3] 64)
    go_wp2_with fail
    clear hz hb3
    obtain ⟨gb, hgb⟩ : ∃ gb, gb = w3.heap.size := ⟨_, rfl⟩
    rw [← hgb] at HR ⊢
    clear hgb
    generalize (w3.alloc (.cells #[.int .u8 x0, .int .u8 x1, .int .u8 x2, .int .u8 x3] 64)) = W3 at *
    have hx3 := hx.below hbw
    have hDl : Hid ((xs.drop N).length = 4) := by rw [List.length_drop, hx.len]; show N + 4 - N = 4; omega
    generalize hX : [x0, x1, x2, x3] = X at *
    have HXl : Hid (X.length = 4) := by rw [← hX]; rfl
    clear hX
    go_loopg [6] 4 (fun g v6 w' => ∃ i : Nat, v6 = .int .i64 (i : Int) ∧ i ≤ 4 ∧ (∃ m, w' = W3.drewN m) ∧ Hid (g + i = 4 ∧ X.take i = (xs.drop N).take i))
    case atStart => exact ⟨0, rfl, by omega, ⟨0, rfl⟩, rfl, by simp⟩
    case round =>
      obtain ⟨i, rfl, hi, ⟨m, rfl⟩, HD⟩ := hrel
      cases gk with
      | zero =>
        obtain rfl : i = 4 := by have := HD.out.1; omega
        have HF : Hid ((xs.take N, 0) = openR xs) := (openR_good hx.len (by rw [← HS.out, HB.out]; exact same_upto HXl.out hDl.out HD.out.2)).symm
        have hxm := RB.take_ ((hx3.drewN m)) N (by omega)
        have hbm := pw_below_drewN hbw m
        have hml := hxm.len
        have HM := Lib.hid hml
        clear hml
        go_wp2_with (at_builtin; refine print_append_row (w0 := w2) w2.heap.size rfl (.const (.slice none 0 0)) (.tmp 33) 22 5 .u8 1 rfl Tryz.underlying22 u8_info (by decide) (.slice none 0 0) [] (xs.take N) A N cap rfl rfl (own_nil _ _ _ _) hxm.rd hbm (by have := hbm.size; simpa using this) (by simp; omega) ?_)
        intro v1 w4 hown hb4 _ _
        have hF : OB 5 w4 w2.heap.size v1 (xs.take N) := ⟨by simpa using hown, hx.byt.take N⟩
        clear hown
        go_wp2_with fail
        go_ret2
        exact ⟨_, _, _, rfl, hF, HF, hb4⟩
      | succ g =>
        have hlt : i < 4 := by have := HD.out.1; omega
        obtain ⟨ad, y, rfl, hcy, hy0, hy1, HY⟩ := hx3.at_ (N + i) (by omega)
        obtain ⟨ad2, x, hq, hcx, hx0, hx1, HXX⟩ := HR.at_ i hlt
        injection hq with hq
        subst hq
        rw [add_plain] at hcx
        have hbi : (i : Int) < 4 := by omega
        have hbn : (N : Int) + (i : Int) < (N : Int) + 4 := by omega
        have hwr : IntKind.i64.wrap ((N : Int) + (i : Int)) = (N : Int) + (i : Int) := IntWalk.i64_in _ (by omega)
        have hnn : (0 : Int) ≤ (N : Int) + (i : Int) := by omega
        have hnt : ((N : Int) + (i : Int)).toNat = N + i := by omega
        by_cases hxy : y = x
        · have hbb := bne_same hxy
          have HE : Hid (X.take (i + 1) = (xs.drop N).take (i + 1)) := by
            have e1 := snoc HXX.out
            have e2 : (xs.drop N).take (i + 1) = (xs.drop N).take i ++ [y] := snoc (by rw [List.getElem?_drop]; exact HY.out)
            show X.take (i + 1) = _
            rw [e1, e2, HD.out.2, hxy]
          clear hxy
          go_wp2_with fail
          go_quiet (fail)
          clear hwr hnt
          go_wp2_with fail
          go_roundg g
          case measure => omega
          case rel => exact ⟨i + 1, by simp, by omega, ⟨_, rfl⟩, by have := HD.out.1; omega, HE.out⟩
        · have hbb := bne_diff hxy
          have HF : Hid (([], 71) = openR xs) := by
            refine (openR_bad hx.len ?_).symm
            rw [← HS.out, HB.out]
            intro he
            have e1 := HXX.out
            rw [he, List.getElem?_drop, HY.out] at e1
            exact hxy (Option.some.inj e1)
          clear hxy
          go_wp2_with fail
          go_quiet (fail)
          clear hwr hnt
          go_wp2_with fail
          go_ret2
          exact ⟨_, _, _, rfl, OB.nil _ _ _, HF, pw_below_drewN (pw_below_drewN hbw m) _⟩
end Go.Proofs.YtelfephmjkipoaaGreat
end
/-! The document's reading of a number that may not be 0. -/
section
namespace Go.Proofs.YtelfephmjkipoaaGreat
open Go.RowKit Go.Kit Go.Proofs.YtelfephmjkipoaaGreatW.PrintWords
section
variable {w : World} {q n c : Nat} {A : Option Addr} {D : Rd}
theorem count_to {D D1 : Rd} {m : Int} {v : Nat} (h : countS D m = (D1, v)) (hw : D1.why = 0) : ∃ a, D1 = D.to a := by
  unfold countS at h
  split at h
  · next h0 => cases h; exact absurd hw h0
  split at h
  · cases h; exact absurd hw (by show (1 : Int) ≠ 0; decide)
  split at h
  · next h0 => cases h; exact absurd hw h0
  split at h
  · cases h; exact absurd hw (by show (11 : Int) ≠ 0; decide)
  · cases h; exact ⟨_, rfl⟩
theorem fail_to {D : Rd} (h : D.why = 0) (a : Nat) : failS ((D.to a).to D.at_) 70 = D.fail 70 D.at_ := by
  unfold failS
  rw [if_pos ⟨h, by decide⟩]
  rfl
set_option maxHeartbeats 4000000 in
set_option maxRecDepth 100000 in
theorem rsome_any (h : QR w q A n c D) (most : Int) (hmo : most ≤ 9223372036854775807) : Calls Tryz.prog 36 #[.pointer (some ⟨q, 0, none⟩), .int .i64 most] w fun e w' =>
    ∃ D1 v, e = .returned (.int .i64 ((v : Nat) : Int)) ∧ Hid (someS D most = (D1, v)) ∧ QR w' q A n c D1 ∧ Only w w' (fun k => k = q) := by
  have q1 := h.q1
  go_enter Tryz.func36, Tryz.ntmps36
  go_wp2_with fail
  refine (rCount_any h most hmo).mono ?_
  rintro e w2 ⟨D1, v, rfl, HC, hR, ho⟩
  have p2 := hR.q2
  by_cases hw : D1.why = 0
  · by_cases hv : v = 0
    · obtain ⟨a, ha⟩ := count_to HC.out hw
      have HS : Hid (someS D most = (D.fail 70 D.at_, 0)) := Lib.hid (someS_none (by rw [← hv]; exact HC.out) hw)
      subst hv
      have p1 := hR.q1
      have f1 := hR.fq 1
      have b1 : (D1.why == 0) = true := by rw [hw]; rfl
      have hR3 := hR.set1 (D.at_ : Int) D.at_ rfl h.low
      have ho3 := ho.same (only_q w2 q 1 (.int .i64 (D.at_ : Int)))
      have HA : Hid (D1 = D.to a) := Lib.hid ha
      have HW := Lib.hid hw
      clear h hR ho HC ha hw q1
      go_wp2_with fail
      refine (rFail_any hR3 70).mono ?_
      rintro e w4 ⟨rfl, hR4, ho4⟩
      have ho5 := ho3.same ho4
      rw [HA.out, fail_to (by have := HW.out; rw [HA.out] at this; exact this)] at hR4
      clear hR3 ho3 ho4 p1 f1 p2
      go_wp2_with fail
      go_ret
      exact ⟨_, 0, rfl, HS, hR4, ho5⟩
    · have HS : Hid (someS D most = (D1, v)) := Lib.hid (someS_some HC.out (fun e => hv e.2))
      have b1 : (D1.why == 0) = true := by rw [hw]; rfl
      have b2 : ((v : Int) == 0) = false := by rw [beq_eq_false_iff_ne]; omega
      clear hw hv h HC q1
      go_wp2_with fail
      go_ret
      exact ⟨D1, v, rfl, HS, hR, ho⟩
  · have HS : Hid (someS D most = (D1, v)) := Lib.hid (someS_some HC.out (fun e => hw e.1))
    have b1 : (D1.why == 0) = false := by rw [beq_eq_false_iff_ne]; exact hw
    clear hw h HC q1
    go_wp2_with fail
    go_ret
    exact ⟨D1, v, rfl, HS, hR, ho⟩
end
end Go.Proofs.YtelfephmjkipoaaGreat
end
/-! What a reader has eaten is what it says: the plain law of frames' one form. No program in it. -/
section
namespace Go.Kit
open Go.RowKit Go.Proofs.YtelfephmjkipoaaGreatW.PrintWords
/-- From one state to the next just these bytes were read, without a fault. -/
structure Ate (D D1 : Rd) (l : List Int) : Prop where
  why : D.why = 0
  bs : D1.bs = D.bs
  pos : D1.at_ = D.at_ + l.length
  eq : D.bs.drop D.at_ = l ++ D.bs.drop D1.at_
theorem Ate.then_ {D D1 D2 : Rd} {l m : List Int} (h : Ate D D1 l) (h2 : Ate D1 D2 m) : Ate D D2 (l ++ m) :=
  ⟨h.why, h2.bs.trans h.bs, by rw [h2.pos, h.pos, List.length_append]; omega, by rw [h.eq, ← h.bs, h2.eq, List.append_assoc]⟩
theorem Ate.nil (D : Rd) (h : D.why = 0) : Ate D D [] := ⟨h, rfl, rfl, rfl⟩
theorem eat {bs : List Int} {a k : Nat} {l : List Int} (h : (bs.drop a).take k = l) : bs.drop a = l ++ bs.drop (a + k) := by
  rw [← h, ← List.drop_drop, List.take_append_drop]
section
variable {D D1 : Rd}
theorem ate_uint (hb : Byt D.bs) {v : Nat} (h : uintS D = (D1, v)) (hw : D1.why = 0) : Ate D D1 (sh v) := by
  obtain ⟨m, k, x, hN⟩ : ∃ m k x, num D.bs D.at_ = (m, k, x) := ⟨_, _, _, rfl⟩
  unfold uintS at h
  rw [hN] at h
  split at h
  · next h0 => cases h; exact absurd hw h0
  · next h0 =>
    have h0 := Classical.not_not.mp h0
    dsimp only at h
    split at h
    · next hx => cases h; exact absurd hw hx
    · next hx =>
      have hx := Classical.not_not.mp hx
      subst hx
      cases h
      obtain ⟨g1, g2⟩ := num_form hb hN
      exact ⟨h0, rfl, by show _ + k = _; rw [g2], eat g1⟩
theorem uint_lt (hb : Byt D.bs) (ha : D.at_ ≤ D.bs.length) {v : Nat} (h : uintS D = (D1, v)) : v < 18446744073709551616 := by
  have hf := (num_facts hb ha).1
  unfold uintS at h
  split at h
  · cases h; decide
  split at h
  · cases h; decide
  · cases h; exact hf
theorem ate_count (hb : Byt D.bs) {most : Int} {v : Nat} (h : countS D most = (D1, v)) (hw : D1.why = 0) : Ate D D1 (sh v) ∧ (v : Int) ≤ most := by
  obtain ⟨m, k, x, hN⟩ : ∃ m k x, num D.bs D.at_ = (m, k, x) := ⟨_, _, _, rfl⟩
  unfold countS at h
  rw [hN] at h
  split at h
  · next h0 => cases h; exact absurd hw h0
  · next h0 =>
    have h0 := Classical.not_not.mp h0
    split at h
    · cases h; exact absurd hw (by show (1 : Int) ≠ 0; decide)
    · dsimp only at h
      split at h
      · next hx => cases h; exact absurd hw hx
      · next hx =>
        have hx := Classical.not_not.mp hx
        subst hx
        split at h
        · cases h; exact absurd hw (by show (11 : Int) ≠ 0; decide)
        · next hm =>
          cases h
          obtain ⟨g1, g2⟩ := num_form hb hN
          exact ⟨⟨h0, rfl, by show _ + k = _; rw [g2], eat g1⟩, by omega⟩
theorem ate_some (hb : Byt D.bs) {most : Int} {v : Nat} (h : someS D most = (D1, v)) (hw : D1.why = 0) : Ate D D1 (sh v) ∧ (v : Int) ≤ most ∧ 0 < v := by
  unfold someS at h
  split at h
  · cases h; exact absurd hw (by show (70 : Int) ≠ 0; decide)
  · next hn =>
    have h1 := ate_count hb h hw
    rw [h] at hn
    exact ⟨h1.1, h1.2, Nat.pos_of_ne_zero (fun e => hn ⟨hw, e⟩)⟩
theorem ate_raw {k : Nat} {t : List Int} (h : rawS D (k : Int) = (D1, t)) (hw : D1.why = 0) (ha : D.at_ ≤ D.bs.length) : Ate D D1 t ∧ t.length = k := by
  unfold rawS at h
  split at h
  · next h0 => cases h; exact absurd hw h0
  · next h0 =>
    have h0 := Classical.not_not.mp h0
    split at h
    · omega
    · split at h
      · cases h; exact absurd hw (by show (4 : Int) ≠ 0; decide)
      · next hl =>
        cases h
        have hk : (k : Int).toNat = k := by omega
        rw [hk]
        have hlen : ((D.bs.drop D.at_).take k).length = k := by rw [List.length_take, List.length_drop]; omega
        exact ⟨⟨h0, rfl, by show _ + k = _; rw [hlen], eat rfl⟩, hlen⟩
theorem ate_text (hb : Byt D.bs) {most : Int} {s : ByteArray} (h : textS D most = (D1, s)) (hw : D1.why = 0) : Ate D D1 (txt s) := by
  obtain ⟨s', en, x, hT⟩ : ∃ s' en x, textAt D.bs D.at_ most = (s', en, x) := ⟨_, _, _, rfl⟩
  unfold textS at h
  rw [hT] at h
  split at h
  · next h0 => cases h; exact absurd hw h0
  · next h0 =>
    have h0 := Classical.not_not.mp h0
    split at h
    · cases h; exact absurd hw (by show (1 : Int) ≠ 0; decide)
    · dsimp only at h
      split at h
      · next hx => cases h; exact absurd hw hx
      · next hx =>
        have hx := Classical.not_not.mp hx
        subst hx
        cases h
        obtain ⟨g1, g2⟩ := txt_of_textAt hb hT
        have hk : en - D.at_ = (txt s).length := by omega
        exact ⟨h0, rfl, g2, by
          have := eat g1
          rwa [show D.at_ + (en - D.at_) = en by omega] at this⟩
theorem back_uint {v : Nat} (h : uintS D = (D1, v)) (hw : D1.why = 0) : D.why = 0 := Classical.byContradiction fun e => by rw [uintS_bad e] at h; cases h; exact e hw
theorem back_count {m : Int} {v : Nat} (h : countS D m = (D1, v)) (hw : D1.why = 0) : D.why = 0 := Classical.byContradiction fun e => by rw [countS_bad e] at h; cases h; exact e hw
theorem back_some {m : Int} {v : Nat} (h : someS D m = (D1, v)) (hw : D1.why = 0) : D.why = 0 := Classical.byContradiction fun e => by rw [someS_bad e] at h; cases h; exact e hw
theorem back_raw {m : Int} {v : List Int} (h : rawS D m = (D1, v)) (hw : D1.why = 0) : D.why = 0 := Classical.byContradiction fun e => by rw [rawS_bad e] at h; cases h; exact e hw
theorem back_text {m : Int} {v : ByteArray} (h : textS D m = (D1, v)) (hw : D1.why = 0) : D.why = 0 := Classical.byContradiction fun e => by rw [textS_bad e] at h; cases h; exact e hw
theorem back_list {m c : Int} {v : List ByteArray} (h : listS D m c = (D1, v)) (hw : D1.why = 0) : D.why = 0 := Classical.byContradiction fun e => by rw [listS_bad e] at h; cases h; exact e hw
theorem Ate.low {l : List Int} (h : Ate D D1 l) (ha : D.at_ ≤ D.bs.length) : D1.at_ ≤ D1.bs.length := by
  have e := congrArg List.length h.eq
  rw [List.length_append, List.length_drop, List.length_drop, h.pos] at e
  rw [h.pos, h.bs]
  omega
theorem Ate.byt {l : List Int} (h : Ate D D1 l) (hb : Byt D.bs) : Byt D1.bs := by rw [h.bs]; exact hb
theorem strOf_size (l : List Int) : (strOfNums l).size = l.length := by
  unfold strOfNums
  simp [ByteArray.size]
theorem textAt_le {bs : List Int} {a en : Nat} {most : Int} {s : ByteArray} (h : textAt bs a most = (s, en, 0)) : (s.size : Int) ≤ most := by
  unfold textAt at h
  split at h
  · next hx => exact absurd (congrArg (fun p => p.2.2) h) hx
  split at h
  · exact absurd (congrArg (fun p => p.2.2) h) (by show ¬ (3 : Int) = 0; decide)
  split at h
  · exact absurd (congrArg (fun p => p.2.2) h) (by show ¬ (4 : Int) = 0; decide)
  · have e := congrArg Prod.fst h
    dsimp only at e
    rw [← e, strOf_size, List.length_take]
    omega
theorem lstR_le {bs : List Int} {each : Int} : ∀ (n a : Nat) (acc l : List ByteArray) (en : Nat), lstR bs each n a acc = (l, en, 0) → (∀ s ∈ acc, (s.size : Int) ≤ each) → ∀ s ∈ l, (s.size : Int) ≤ each
  | 0, a, acc, l, en, h, ha => by
    have e := congrArg Prod.fst h
    dsimp only [lstR] at e
    rw [← e]; exact ha
  | n + 1, a, acc, l, en, h, ha => by
    unfold lstR at h
    split at h
    · next hx => exact absurd (congrArg (fun p => p.2.2) h) hx
    · next hx =>
      refine lstR_le n _ _ l en h (fun s hs => ?_)
      rcases List.mem_append.mp hs with hs | hs
      · exact ha s hs
      · rw [List.mem_singleton.mp hs]
        exact textAt_le (bs := bs) (a := a) (en := (textAt bs a each).2.1) (by
          have := Classical.not_not.mp hx
          rw [← this])
theorem ate_list (hb : Byt D.bs) (ha : D.at_ ≤ D.bs.length) {most each : Int} {l : List ByteArray} (h : listS D most each = (D1, l)) (hw : D1.why = 0) : Ate D D1 (lst l) ∧ (l.length : Int) ≤ most ∧ ∀ s ∈ l, (s.size : Int) ≤ each := by
  obtain ⟨m, k, x, hN⟩ : ∃ m k x, num D.bs D.at_ = (m, k, x) := ⟨_, _, _, rfl⟩
  have hfa := num_facts hb ha
  rw [hN] at hfa
  unfold listS at h
  rw [hN] at h
  split at h
  · next h0 => cases h; exact absurd hw h0
  · next h0 =>
    have h0 := Classical.not_not.mp h0
    split at h
    · cases h; exact absurd hw (by show (1 : Int) ≠ 0; decide)
    · dsimp only at h hfa
      split at h
      · next hx => cases h; exact absurd hw hx
      · next hx =>
        have hx := Classical.not_not.mp hx
        subst hx
        split at h
        · cases h; exact absurd hw (by show (11 : Int) ≠ 0; decide)
        · next hm =>
          obtain ⟨L, en, y, hL⟩ : ∃ L en y, lstR D.bs each m (D.at_ + k) [] = (L, en, y) := ⟨_, _, _, rfl⟩
          rw [hL] at h
          dsimp only at h
          split at h
          · next hy => cases h; exact absurd hw hy
          · next hy =>
            have hy := Classical.not_not.mp hy
            subst hy
            cases h
            obtain ⟨g1, g2⟩ := num_form hb hN
            obtain ⟨l', e1, e2, e3, e4, e5⟩ := txts_of_lstR hb each m (D.at_ + k) [] l en hfa.2.1 hL
            rw [List.nil_append] at e1
            subst e1
            have hle := lstR_le m (D.at_ + k) [] l en hL (fun s hs => by cases hs)
            have q1 := eat g1
            have q2 := eat e3
            rw [show D.at_ + k + (en - (D.at_ + k)) = en by omega] at q2
            refine ⟨⟨h0, rfl, ?_, ?_⟩, by omega, hle⟩
            · show en = _
              unfold lst
              rw [List.length_append, e2, ← g2, e4]; omega
            · show _ = _ ++ D.bs.drop en
              unfold lst
              rw [q1, q2, e2, List.append_assoc]
end
/-- What a read frame's fields keep. -/
structure ReadOk (f : Fr) : Prop where
  core : f.core = f
  only : f.core = onlyF f
  many : f.args.length ≤ 8
  mo : 0 ≤ f.mo ∧ f.mo ≤ 2147483648
  fu : 0 ≤ f.fu ∧ f.fu ≤ 2147483648
  di : 0 ≤ f.di ∧ f.di ≤ 2147483648
  hello : f.k = 1 → f.v = 1 ∧ 1 ≤ f.s ∧ f.s ≤ 64
  resp : f.k = 3 → 1 ≤ f.st ∧ f.st ≤ 3
  each : ∀ s ∈ f.args, s.size ≤ 4096
  id : 0 ≤ f.id ∧ f.id ≤ 18446744073709551615
  byt : Byt f.tool
theorem z32_byt : Byt z32 := fun x hx => by
  have := (List.mem_replicate.1 hx).2
  omega
end Go.Kit
end
/-! Frames' one form: what is read without a fault is what would be written. No program in it. -/
section
namespace Go.Kit
open Go.RowKit Go.Proofs.YtelfephmjkipoaaGreatW.PrintWords
section
variable {D D1 : Rd}
theorem ate_hello (hb : Byt D.bs) (ha : D.at_ ≤ D.bs.length) {f : Fr} (h : helloS D = (D1, f)) (hw : D1.why = 0) : Ate D D1 (layF f) ∧ f.k = 1 ∧ ReadOk f := by
  rcases q1 : someS D 1 with ⟨Da, v⟩
  rcases q2 : someS Da 64 with ⟨Db, s⟩
  rcases q3 : rawS Db 32 with ⟨Dc, t⟩
  unfold helloS at h
  rw [q1] at h; dsimp only at h; rw [q2] at h; dsimp only at h; rw [q3] at h; dsimp only at h
  cases h
  have w2 := back_raw q3 hw
  have w1 := back_some q2 w2
  obtain ⟨a1, v1, v0⟩ := ate_some hb q1 w1
  obtain ⟨a2, s1, s0⟩ := ate_some (a1.byt hb) q2 w2
  obtain ⟨a3, ht⟩ := ate_raw (k := 32) q3 hw (a2.low (a1.low ha))
  have hbt : Byt (if t.length = 32 then t else z32) := by
    rw [if_pos ht]
    have e := a3.eq
    intro x hx
    exact (a2.byt (a1.byt hb)) x (List.mem_of_mem_drop (by rw [e]; exact List.mem_append_left _ hx))
  refine ⟨?_, rfl, ⟨rfl, rfl, by simp, by simp, by simp, by simp, fun _ => ⟨by show (v : Int) = 1; omega, by show (1 : Int) ≤ (s : Int); omega, s1⟩, fun e => absurd e (by show ¬ (1 : Int) = 3; decide), fun s hs => (by cases hs), by simp, hbt⟩⟩
  have e : layF ⟨1, 0, (v : Int), (s : Int), if t.length = 32 then t else z32, 0, 0, 0, 0, none, 0, 0, [], ByteArray.empty⟩ = sh v ++ sh s ++ t := by simp [layF, ht]
  rw [e]
  exact (a1.then_ a2).then_ a3
theorem ate_request (hb : Byt D.bs) (ha : D.at_ ≤ D.bs.length) {f : Fr} (h : requestS D = (D1, f)) (hw : D1.why = 0) : Ate D D1 (layF f) ∧ f.k = 2 ∧ ReadOk f := by
  rcases q1 : uintS D with ⟨Da, id⟩
  rcases q2 : countS Da 2147483648 with ⟨Db, mo⟩
  rcases q3 : countS Db 2147483648 with ⟨Dc, fu⟩
  rcases q4 : countS Dc 2147483648 with ⟨Dd, di⟩
  rcases q5 : listS Dd 8 4096 with ⟨De, l⟩
  rcases q6 : textS De 2097152 with ⟨Df, s⟩
  unfold requestS at h
  rw [q1] at h; dsimp only at h; rw [q2] at h; dsimp only at h; rw [q3] at h; dsimp only at h; rw [q4] at h; dsimp only at h; rw [q5] at h; dsimp only at h; rw [q6] at h; dsimp only at h
  cases h
  have w5 := back_text q6 hw
  have w4 := back_list q5 w5
  have w3 := back_count q4 w4
  have w2 := back_count q3 w3
  have w1 := back_count q2 w2
  have a1 := ate_uint hb q1 w1
  have hid := uint_lt hb ha q1
  obtain ⟨a2, m2⟩ := ate_count (a1.byt hb) q2 w2
  obtain ⟨a3, m3⟩ := ate_count (a2.byt (a1.byt hb)) q3 w3
  obtain ⟨a4, m4⟩ := ate_count (a3.byt (a2.byt (a1.byt hb))) q4 w4
  have hb4 := a4.byt (a3.byt (a2.byt (a1.byt hb)))
  obtain ⟨a5, m5, m6⟩ := ate_list hb4 (a4.low (a3.low (a2.low (a1.low ha)))) q5 w5
  have a6 := ate_text (a5.byt hb4) q6 hw
  refine ⟨?_, rfl, ⟨rfl, rfl, by show l.length ≤ 8; omega, ⟨by show (0 : Int) ≤ (mo : Int); omega, m2⟩, ⟨by show (0 : Int) ≤ (fu : Int); omega, m3⟩, ⟨by show (0 : Int) ≤ (di : Int); omega, m4⟩, fun e => absurd e (by show ¬ (2 : Int) = 1; decide), fun e => absurd e (by show ¬ (2 : Int) = 3; decide), fun s hs => (by have := m6 s hs; omega), ⟨by show (0 : Int) ≤ (id : Int); omega, by show (id : Int) ≤ _; omega⟩, z32_byt⟩⟩
  have e : layF ⟨2, (id : Int), 0, 0, z32, 0, (mo : Int), (fu : Int), (di : Int), none, 0, 0, l, s⟩ = sh id ++ sh mo ++ sh fu ++ sh di ++ lst l ++ txt s := by simp [layF]
  rw [e]
  exact ((((a1.then_ a2).then_ a3).then_ a4).then_ a5).then_ a6
theorem ate_response (hb : Byt D.bs) (ha : D.at_ ≤ D.bs.length) {f : Fr} (h : responseS D = (D1, f)) (hw : D1.why = 0) : Ate D D1 (layF f) ∧ f.k = 3 ∧ ReadOk f := by
  rcases q1 : uintS D with ⟨Da, id⟩
  rcases q2 : someS Da 3 with ⟨Db, st⟩
  rcases q3 : textS Db 2097152 with ⟨Dc, s⟩
  unfold responseS at h
  rw [q1] at h; dsimp only at h; rw [q2] at h; dsimp only at h; rw [q3] at h; dsimp only at h
  cases h
  have w2 := back_text q3 hw
  have w1 := back_some q2 w2
  have a1 := ate_uint hb q1 w1
  have hid := uint_lt hb ha q1
  obtain ⟨a2, m2, m0⟩ := ate_some (a1.byt hb) q2 w2
  have a3 := ate_text (a2.byt (a1.byt hb)) q3 hw
  refine ⟨?_, rfl, ⟨rfl, rfl, by simp, by simp, by simp, by simp, fun e => absurd e (by show ¬ (3 : Int) = 1; decide), fun _ => ⟨by show (1 : Int) ≤ (st : Int); omega, m2⟩, fun s hs => (by cases hs), ⟨by show (0 : Int) ≤ (id : Int); omega, by show (id : Int) ≤ _; omega⟩, z32_byt⟩⟩
  have e : layF ⟨3, (id : Int), 0, 0, z32, (st : Int), 0, 0, 0, none, 0, 0, [], s⟩ = sh id ++ sh st ++ txt s := by simp [layF]
  rw [e]
  exact (a1.then_ a2).then_ a3
theorem ate_cancel (hb : Byt D.bs) (ha : D.at_ ≤ D.bs.length) {f : Fr} (h : cancelS D = (D1, f)) (hw : D1.why = 0) : Ate D D1 (layF f) ∧ f.k = 4 ∧ ReadOk f := by
  rcases q1 : uintS D with ⟨Da, id⟩
  unfold cancelS at h
  rw [q1] at h; dsimp only at h
  cases h
  have a1 := ate_uint hb q1 hw
  have hid := uint_lt hb ha q1
  refine ⟨?_, rfl, ⟨rfl, rfl, by simp, by simp, by simp, by simp, fun e => absurd e (by show ¬ (4 : Int) = 1; decide), fun e => absurd e (by show ¬ (4 : Int) = 3; decide), fun s hs => (by cases hs), ⟨by show (0 : Int) ≤ (id : Int); omega, by show (id : Int) ≤ _; omega⟩, z32_byt⟩⟩
  have e : layF ⟨4, (id : Int), 0, 0, z32, 0, 0, 0, 0, none, 0, 0, [], ByteArray.empty⟩ = sh id := by simp [layF]
  rw [e]
  exact a1
theorem ate_note (hb : Byt D.bs) {f : Fr} (h : noteS D = (D1, f)) (hw : D1.why = 0) : Ate D D1 (layF f) ∧ f.k = 6 ∧ ReadOk f := by
  rcases q1 : textS D 2097152 with ⟨Da, s⟩
  unfold noteS at h
  rw [q1] at h; dsimp only at h
  cases h
  have a1 := ate_text hb q1 hw
  refine ⟨?_, rfl, ⟨rfl, rfl, by simp, by simp, by simp, by simp, fun e => absurd e (by show ¬ (6 : Int) = 1; decide), fun e => absurd e (by show ¬ (6 : Int) = 3; decide), fun s hs => (by cases hs), by simp, z32_byt⟩⟩
  have e : layF ⟨6, 0, 0, 0, z32, 0, 0, 0, 0, none, 0, 0, [], s⟩ = txt s := by simp [layF]
  rw [e]
  exact a1
theorem ate_kind (hb : Byt D.bs) (ha : D.at_ ≤ D.bs.length) (k : Nat) (h1 : 1 ≤ k) (h6 : k ≤ 6) {f : Fr} (h : kindS D k = (D1, f)) (hw : D1.why = 0) : Ate D D1 (layF f) ∧ f.k = (k : Int) ∧ ReadOk f := by
  rcases (by omega : k = 1 ∨ k = 2 ∨ k = 3 ∨ k = 4 ∨ k = 5 ∨ k = 6) with rfl | rfl | rfl | rfl | rfl | rfl
  · exact ate_hello hb ha h hw
  · exact ate_request hb ha h hw
  · exact ate_response hb ha h hw
  · exact ate_cancel hb ha h hw
  · unfold kindS at h
    simp only [show ¬ (5 = 1) by decide, show ¬ (5 = 2) by decide, show ¬ (5 = 3) by decide, show ¬ (5 = 4) by decide, show ¬ (5 = 6) by decide, if_false] at h
    cases h
    exact ⟨Ate.nil _ hw, rfl, ⟨rfl, rfl, by simp, by simp, by simp, by simp, fun e => absurd e (by decide), fun e => absurd e (by decide), fun s hs => (by cases hs), by simp, z32_byt⟩⟩
  · exact ate_note hb h hw
theorem ate_fields (hb : Byt D.bs) (ha : D.at_ ≤ D.bs.length) {f : Fr} (h : fieldsS D = (D1, f)) (hw : D1.why = 0) : Ate D D1 (bodyF f) ∧ ReadOk f ∧ 1 ≤ f.k ∧ f.k ≤ 6 := by
  rcases q1 : someS D 6 with ⟨Da, k⟩
  unfold fieldsS at h
  rw [q1] at h
  have w1 : Da.why = 0 := Classical.byContradiction fun e => by
    have := kindS_bad e k
    rw [h] at this
    have t : D1 = Da := this
    rw [t] at hw
    exact e hw
  obtain ⟨a1, k6, k1⟩ := ate_some hb q1 w1
  obtain ⟨a2, e, ho⟩ := ate_kind (a1.byt hb) (a1.low ha) k k1 (by omega) h hw
  refine ⟨?_, ho, by omega, by omega⟩
  have e2 : bodyF f = sh k ++ layF f := by unfold bodyF; rw [e, Int.toNat_natCast]
  rw [e2]
  exact a1.then_ a2
end
/-- What is read of a body without a fault has one form, and may be. -/
theorem read_form {ys : List Int} {head : Nat} (hb : Byt ys) (hh : head ≤ ys.length) {f : Fr} {y : Int} (h : readF ys head = (f, 0, y)) : ys.drop head = bodyF f ∧ May f ∧ ReadOk f := by
  rcases q : fieldsS ((Rd.new ys).to head) with ⟨D, g⟩
  rw [readF_of q] at h
  by_cases hf : (finS D g head).1 = 0
  · rw [if_neg (by simpa using hf)] at h
    cases h
    have hend : (endS D).why = 0 := by
      unfold finS at hf
      split at hf
      · exact absurd hf (by show ¬ (70 : Int) = 0; decide)
      · exact hf
    have hD : D.why = 0 := Classical.byContradiction fun e => by rw [endS_bad e] at hend; exact e hend
    obtain ⟨a, ho, k1, k6⟩ := ate_fields (D := (Rd.new ys).to head) hb hh q hD
    have hat : ¬ D.at_ < D.bs.length := fun e => by
      unfold endS at hend
      rw [if_pos ⟨hD, e⟩] at hend
      exact absurd hend (by show ¬ (6 : Int) = 0; decide)
    have hbs : D.bs = ys := a.bs
    have hdrop : ys.drop D.at_ = [] := List.drop_eq_nil_of_le (by rw [hbs] at hat; omega)
    refine ⟨by have e := a.eq; rw [show ((Rd.new ys).to head).bs = ys from rfl, show ((Rd.new ys).to head).at_ = head from rfl, hdrop, List.append_nil] at e; exact e, ⟨k1, k6, ho.only, ho.many, ho.mo.1, ho.fu.1, ho.di.1, ho.hello, fun e => ⟨(ho.resp e).1, (ho.resp e).2, fun hs => Classical.byContradiction fun hz => ?_⟩, ho.each⟩, ho⟩
    unfold finS at hf
    rw [if_pos ⟨hend, e, hs, hz⟩] at hf
    exact absurd hf (by show ¬ (70 : Int) = 0; decide)
  · rw [if_pos hf] at h
    have e : (finS D g head).1 = 0 := congrArg (fun p => p.2.1) h
    exact absurd e hf
theorem body_le (f : Fr) (hm : May f) : f.body.size ≤ (bodyF f).length := by
  have hc := hm.only
  have hk1 := hm.k1
  have hk6 := hm.k6
  have hb : f.body = (onlyF f).body := by have t := congrArg Fr.body hc; exact t
  have ht : (txt f.body).length = (sh f.body.size).length + f.body.size := by unfold txt; rw [List.length_append, bytesOf_len]
  unfold bodyF layF
  rcases (by omega : f.k = 1 ∨ f.k = 2 ∨ f.k = 3 ∨ f.k = 4 ∨ f.k = 5 ∨ f.k = 6) with e | e | e | e | e | e
  · rw [hb]; simp [onlyF, e]
  · simp [e]; omega
  · simp [e]; omega
  · rw [hb]; simp [onlyF, e]
  · rw [hb]; simp [onlyF, e]
  · simp [e]; omega
end Go.Kit
end
/-! The deferred function of frame.read; reading a kind's fields. -/
section
namespace Go.Proofs.YtelfephmjkipoaaGreat
open Go.RowKit Go.Kit Go.Proofs.YtelfephmjkipoaaGreatW.PrintWords
theorem finS_bad {D : Rd} (h : D.why ≠ 0) (f : Fr) (head : Nat) : finS D f head = (D.why, D.wat) := by
  unfold finS; rw [endS_bad h, if_neg (fun e => h e.1)]
theorem count_le {D D1 : Rd} {most : Int} {v : Nat} (hm : 0 ≤ most) (h : countS D most = (D1, v)) : (v : Int) ≤ most := by
  unfold countS at h
  split at h
  · cases h; omega
  split at h
  · cases h; omega
  split at h
  · cases h; omega
  split at h
  · cases h; omega
  · cases h; omega
theorem kind_read {w : World} {r g n c : Nat} {A : Option Addr} {D : Rd} (k : Nat) (h1 : 1 ≤ k) (h6 : k ≤ 6) (h : RS w r A n c D) (hn : n ≤ 4398046511104) (hF : (kF (k : Int)).at_ 30 w g) (hs : ¬ rdf r A g) :
    Calls Tryz.prog (readN (k : Int)) #[.pointer (some ⟨r, 0, none⟩), .pointer (some ⟨g, 0, none⟩)] w (KindPost w r g n c A D k) := by
  rcases (by omega : k = 1 ∨ k = 2 ∨ k = 3 ∨ k = 4 ∨ k = 5 ∨ k = 6) with rfl | rfl | rfl | rfl | rfl | rfl
  · exact hello_read h hF hs
  · exact request_read h hn hF hs
  · exact response_read h hF hs
  · exact cancel_read h hF hs
  · exact bye_read h hF
  · exact note_read h hF hs
/-- A fault's two numbers as a row. -/
def fv (a b : Int) : Array Value := #[.int .i64 a, .int .i64 b]
theorem fv_size (a b : Int) : (Tryz.prog.info? 33).map (·.size) = some (fv a b).size := fault_size a b
theorem fv_one (a b : Int) : (fv a b).all (·.oneCell') = true := by simp [fv, Value.oneCell']
theorem load_fault {W : World} {g : Nat} {a b : Int} {t : TypeId} (h : W.heap[g]? = some (.cells (fv a b) t (0, 0))) : (Instr.loadAt 33 (.pointer (some ⟨g, 0, none⟩))).run Tryz.prog W = .ok (.agg (fv a b)) W :=
  run_loadAt_mid W g 0 33 (fv a b).toList _ (fun j v hj => by rw [Nat.zero_add, cell_of_row W g j _ _ _ h]; simpa using hj) Tryz.underlying33 rfl (by rw [Array.length_toList]; exact fv_size a b)
set_option maxRecDepth 100000 in
theorem catch_idle (p : Addr) (w : World) :
    CallsD Tryz.prog 28 #[.pointer (some p)] .returning w fun e u' w' => e = .returned (.tuple #[]) ∧ u' = .returning ∧ w' = w := by
  refine callsD_of_wpS Tryz.func28 rfl fun c₀ cs hu => ?_
  apply wpS_seq
  apply wpS_region
  simp [wpOpsS, go_sem, recoverD, hu, Tryz.ntmps28, Exit.thenS]
  refine wpS_of_wp ?_
  go_wp2_with fail
  cases c₀
  simp_all [bodyPostS, results, Tryz.results28]
theorem assert_fault (W : World) (v : Value) : (Instr.typeAssert (.iface 33 v) 20 33 true).run Tryz.prog W = .ok (.tuple #[v, .bool true]) W := by kernel_rfl
attribute [-go_sem] Instr.loadAt
set_option maxHeartbeats 4000000 in
set_option maxRecDepth 100000 in
theorem catch_raised (g : Nat) (a b : Int) (Z : Array Value) (older : List PanicEntry) (w : World) (hk : w.heap[g]? = some (.cells Z 33 (0, 0))) (hz : Z.size = 2) :
    CallsD Tryz.prog 28 #[.pointer (some ⟨g, 0, none⟩)] (.panicking ({ v := .iface 33 (.agg (fv a b)), recovered := false } :: older)) w fun e u' w' =>
      e = .returned (.tuple #[]) ∧ u' = .panicking ({ v := .iface 33 (.agg (fv a b)), recovered := true } :: older) ∧ w'.heap[g]? = some (.cells (fv a b) 33 (0, 0)) ∧ Only w w' (fun k => k = g) := by
  have hn := heap_alloc_new w (.cells #[.int .i64 0, .int .i64 0] 33)
  have hb1 := below_setRow (below_alloc (Below.refl w.heap.size w) (.cells #[.int .i64 0, .int .i64 0] 33)) (Nat.le_refl _) (fv a b)
  have hn2 := setRow_heap _ w.heap.size _ (fv a b) _ _ hn
  have hk2 := (hb1.block g (lt_of_block hk)).trans hk
  have hl := load_fault hn2
  have hta := assert_fault w (.agg (fv a b))
  have hs := fv_size a b
  have ho := fv_one a b
  have hz2 : Z.size = (fv a b).size := hz
  have h0 : (#[.int .i64 0, .int .i64 0] : Array Value).size = (fv a b).size := rfl
  generalize fv a b = FV at *
  refine callsD_of_wpS Tryz.func28 rfl fun c₀ cs hu => ?_
  apply wpS_seq
  apply wpS_region
  simp [wpOpsS, go_sem, recoverD, hu, Tryz.ntmps28, Exit.thenS, Array.replicate_succ, Array.replicate_zero]
  refine wpS_of_wp ?_
  go_wp2_with first
    | ((with_reducible show wpList _ _ _ (Oper.mk none _ _ _ _ _ :: _) _ _); refine wpList_store_row rfl 33 (.tmp 2) (.tmp 9) rfl w.heap.size FV rfl rfl 33 _ hn hs h0 ho ?_)
    | ((with_reducible show wpList _ _ _ (Oper.mk none _ _ _ _ _ :: _) _ _); refine wpList_store_row rfl 33 (.tmp 0) (.tmp 10) rfl g FV rfl rfl 33 _ hk2 hs hz2 ho ?_)
  refine ⟨rfl, _, rfl, .tuple #[], by simp [results, Tryz.results28], rfl, rfl, setRow_heap _ g _ FV _ _ hk2, ((Only.refl w _).below hb1).same (Fr.only_row _ g FV)⟩
end Go.Proofs.YtelfephmjkipoaaGreat
end
/-! The contract of frame.read. (mk_frzi.py) -/
section
namespace Go.Proofs.YtelfephmjkipoaaGreat
open Go.RowKit Go.Kit Go.Proofs.YtelfephmjkipoaaGreatW.PrintWords
theorem count_zero {D D1 : Rd} {m : Int} {v : Nat} (h : countS D m = (D1, v)) (hw : D1.why ≠ 0) : v = 0 := by
  unfold countS at h
  split at h
  · cases h; rfl
  split at h
  · cases h; rfl
  split at h
  · cases h; rfl
  split at h
  · cases h; rfl
  · next h0 _ _ _ => cases h; exact absurd (Classical.not_not.mp h0) hw
theorem raw_head {xs : List Int} {head n : Nat} {D1 : Rd} {t : List Int} (hl : xs.length = n) (hh : head ≤ n) (h : rawS (Rd.new xs) (head : Int) = (D1, t)) : D1 = (Rd.new xs).to head := by
  unfold rawS at h
  rw [if_neg (by simp [Rd.new]), if_neg (by omega), if_neg (by show ¬ ((xs.length : Int) - ((0 : Nat) : Int)) < _; omega)] at h
  have h2 := congrArg Prod.fst h
  have h3 : (Rd.new xs).at_ + (head : Int).toNat = head := by show 0 + _ = _; omega
  dsimp only at h2
  rw [h3] at h2
  exact h2.symm
/-- What frame.read leaves. -/
def ReadPost (w : World) (xs : List Int) (head : Nat) (e : Ending) (w' : World) : Prop :=
  ∃ (F : Fr) (x y : Int), e = .returned (.tuple #[.agg F.arr, .agg (fv x y)]) ∧ F.tool.length = 32 ∧ Hid ((readF xs head).2 = (x, y) ∧ (x = 0 → F.core = (readF xs head).1 ∧ y = 0)) ∧ (x = 0 → F.ok w' ∧ ∀ a, F.A = some a → w.heap.size ≤ a.block) ∧ Below w.heap.size w w'
theorem read_bad {xs : List Int} {head : Nat} {D : Rd} {f : Fr} (h : fieldsS ((Rd.new xs).to head) = (D, f)) (hw : D.why ≠ 0) : (readF xs head).2 = (D.why, D.wat) := by
  rw [readF_of h, finS_bad hw, if_pos hw]
theorem endS_inv {D : Rd} (h : D.why = 0 → D.wat = 0) : (endS D).why = 0 → (endS D).wat = 0 := by
  unfold endS
  split
  · intro e; exact absurd e (by show (6 : Int) ≠ 0; decide)
  · exact h
theorem read_fin {xs : List Int} {head : Nat} {D : Rd} {f : Fr} {x y : Int} (h : fieldsS ((Rd.new xs).to head) = (D, f)) (hi : D.why = 0 → D.wat = 0) (hf : finS D f head = (x, y)) :
    (readF xs head).2 = (x, y) ∧ (x = 0 → f = (readF xs head).1 ∧ y = 0) := by
  rw [readF_of h, hf]
  by_cases hx : x = 0
  · have hy : y = 0 := by
      unfold finS at hf
      split at hf
      · cases hf; exact absurd hx (by decide)
      · cases hf; exact endS_inv hi hx
    subst hx; subst hy
    rw [if_neg (by simp)]
    exact ⟨rfl, fun _ => ⟨rfl, rfl⟩⟩
  · rw [if_pos hx]
    exact ⟨rfl, fun e => absurd e hx⟩
theorem fields_kind {D0 D1 : Rd} {v : Nat} (h : countS D0 6 = (D1, v)) (hw : ¬ (D1.why = 0 ∧ v = 0)) : fieldsS D0 = kindS D1 v := by
  unfold fieldsS; rw [someS_some h hw]
theorem fields_none {D0 D1 : Rd} {v : Nat} (h : countS D0 6 = (D1, v)) (hw : D1.why = 0 ∧ v = 0) : (fieldsS D0).1 = D0.fail 70 D0.at_ := by
  obtain ⟨h1, rfl⟩ := hw
  unfold fieldsS
  rw [someS_none h h1]
  exact kindS_bad (by show (70 : Int) ≠ 0; decide) _
theorem pair_of {α β : Type} (p : α × β) : p = (p.1, p.2) := rfl
section
variable {W : World} {g g2 : Nat} {tmps : Array Value} {F : Fr} {x y : Int} {R : Ending → World → Prop}
theorem door_out (hp : tmps.getD 4 undef = .pointer (some ⟨g, 0, none⟩)) (hq : tmps.getD 5 undef = .pointer (some ⟨g2, 0, none⟩)) (hF : F.at_ 30 W g) (hX : W.heap[g2]? = some (.cells (fv x y) 33 (0, 0)))
    (hR : R (.returned (.tuple #[.agg F.arr, .agg (fv x y)])) W) : Leaves Tryz.prog Tryz.f11 tmps R [] .returning W :=
  ⟨_, results_cell_row2 (P := Tryz.prog) (fn := Tryz.f11) (p := 4) (q := 5) rfl tmps W g g2 30 33 F.arr (fv x y) (0, 0) (0, 0) _ _ hp hF.blk Tryz.underlying30 rfl (by rw [Fr.arr_size F hF.tool]; kernel_rfl) hq hX Tryz.underlying33 rfl (fv_size x y), hR⟩
theorem door_idle (hp : tmps.getD 4 undef = .pointer (some ⟨g, 0, none⟩)) (hq : tmps.getD 5 undef = .pointer (some ⟨g2, 0, none⟩)) (hF : F.at_ 30 W g) (hX : W.heap[g2]? = some (.cells (fv x y) 33 (0, 0)))
    (hR : R (.returned (.tuple #[.agg F.arr, .agg (fv x y)])) W) : Leaves Tryz.prog Tryz.f11 tmps R [{ target := .fn (.func 28) #[.pointer (some ⟨g2, 0, none⟩)], args := #[] }] .returning W := by
  refine leaves_cons (f := 28) (args := #[.pointer (some ⟨g2, 0, none⟩)]) (by simp) (by simp [go_sem]) ?_
  refine (catch_idle _ _).mono ?_
  rintro e u' w' ⟨rfl, rfl, rfl⟩
  exact door_out hp hq hF hX hR
theorem door_raised {Z : Array Value} (hp : tmps.getD 4 undef = .pointer (some ⟨g, 0, none⟩)) (hq : tmps.getD 5 undef = .pointer (some ⟨g2, 0, none⟩)) (hF : F.at_ 30 W g) (hX : W.heap[g2]? = some (.cells Z 33 (0, 0))) (hZ : Z.size = 2) (hgg : g ≠ g2)
    (hR : ∀ W', Only W W' (fun k => k = g2) → R (.returned (.tuple #[.agg F.arr, .agg (fv x y)])) W') : Leaves Tryz.prog Tryz.f11 tmps R [{ target := .fn (.func 28) #[.pointer (some ⟨g2, 0, none⟩)], args := #[] }] (.panicking (raisedF x y)) W := by
  refine leaves_cons (f := 28) (args := #[.pointer (some ⟨g2, 0, none⟩)]) (by simp) (by simp [go_sem]) ?_
  refine (catch_raised g2 x y Z [] W hX hZ).mono ?_
  rintro e u' w' ⟨rfl, rfl, hk, ho⟩
  have hs : settle (.panicking [{ v := .iface 33 (.agg (fv x y)), recovered := true }]) = .returning := by simp [settle]
  show Leaves _ _ _ _ _ (settle (.panicking [{ v := .iface 33 (.agg (fv x y)), recovered := true }])) _
  rw [hs]
  exact door_out hp hq (hF.only ho hgg) hk (hR w' ho)
end
/-- A store, in a region that draws its order, of what lies there already. -/
theorem at_same {P : Program} {ops : Array Oper} {o : Oper} {a : Act} {w : World} {K : Act → World → Prop} {Q : Exit → Act → World → Prop} {E : Prop} (ty : TypeId) (x y : Operand) (ho : o.op = .store ty x y) (hw : Region.wanted o (yielded ops a.tmps) = true)
    (hs : (Instr.storeAt ty (a.eval x) (a.eval y)).run P w = .ok () w) (hK : K (a.put o.dst undef) w) : if Region.wanted o (yielded ops a.tmps) = true then Oper.wp P o a w K Q else E := by
  rw [if_pos hw]
  unfold Oper.wp execOp
  simp only [ho, Sem.run_bind, hs, Result.andThen_ok, Sem.run_pure]
  exact hK
theorem storeAt_all {P : Program} (W : World) (g : Nat) (ty t : TypeId) (cells cur : Array Value) (hg : W.heap[g]? = some (.cells cur t (0, 0))) (hfit : cur.size = cells.size) (hi : (P.info? ty).map (·.size) = some cells.size) (h1 : cells.all (·.oneCell') = true) :
    (Instr.storeAt ty (.pointer (some ⟨g, 0, none⟩)) (.agg cells)).run P W = .ok () (W.setRow g cells) := by
  have hst := run_storeCells_at (P := P) g 0 t cells.toList 0 cur W hg (by simp [hfit]) (fun v hv => (Array.all_eq_true_iff_forall_mem.1 h1) v (by simpa using hv))
  have he : (cur.toList.take 0 ++ cells.toList ++ cur.toList.drop (0 + cells.toList.length)).toArray = cells := by
    rw [List.drop_eq_nil_of_le (by simp [hfit])]; simp
  simp only [Instr.storeAt, Instr.sureAddr, Sem.run_bind, Sem.run_pure, Result.andThen_ok]
  cases hq : P.info? ty with
  | none => simp [hq] at hi
  | some i =>
    have hs : cells.size = i.size := by simp [hq] at hi; omega
    simp only [Nat.add_zero] at hst
    rw [he] at hst
    simp [storeVar, sizeOf, typeInfo, hq, Value.cells, hs, hst]
theorem same_frame {W : World} {g : Nat} {F : Fr} (h : F.at_ 30 W g) : (Instr.storeAt 30 (.pointer (some ⟨g, 0, none⟩)) (.agg F.arr)).run Tryz.prog W = .ok () W := by
  have e := storeAt_all (P := Tryz.prog) W g 30 30 F.arr F.arr h.blk rfl (by rw [Fr.arr_size F h.tool]; kernel_rfl) (arr_one F)
  rw [e, setRow_self W g F.arr _ _ h.blk]
theorem same_fault {W : World} {g : Nat} {x y : Int} (h : W.heap[g]? = some (.cells (fv x y) 33 (0, 0))) : (Instr.storeAt 33 (.pointer (some ⟨g, 0, none⟩)) (.agg (fv x y))).run Tryz.prog W = .ok () W := by
  have e := storeAt_all (P := Tryz.prog) W g 33 33 (fv x y) (fv x y) h rfl (fv_size x y) (fv_one x y)
  rw [e, setRow_self W g (fv x y) _ _ h]
theorem put_int (x : Int) (W : World) (a : Addr) (u : Value) (hc : W.cell? a = some u) (hf : W.frozen? a = false) : (Instr.storeAt 3 (.pointer (some a)) (.int .i64 x)).run Tryz.prog W = .ok () (W.setCell a (.int .i64 x)) := by go_simp
attribute [-go_sem] Instr.loadAt Instr.storeAt
section
variable {A : Option Addr} {n cap : Nat} {xs : List Int} {w : World}
set_option maxHeartbeats 8000000 in
set_option maxRecDepth 100000 in
theorem read_any (hx : RB w A n xs) (hl : n ≤ 4194304) (head : Nat) (hh : head ≤ n) : Calls Tryz.prog 11 #[.slice A n cap, .int .i64 (head : Int)] w (ReadPost w xs head) := by
  have HXL := Lib.hid hx.len
  have hb0 := below_alloc (below_alloc (Below.refl _ w) (.cells #[.int .i64 0, .int .u64 0, .int .i64 0, .int .i64 0, .int .u8 0, .int .u8 0, .int .u8 0, .int .u8 0, .int .u8 0, .int .u8 0, .int .u8 0, .int .u8 0, .int .u8 0, .int .u8 0, .int .u8 0, .int .u8 0, .int .u8 0, .int .u8 0, .int .u8 0, .int .u8 0, .int .u8 0, .int .u8 0, .int .u8 0, .int .u8 0, .int .u8 0, .int .u8 0, .int .u8 0, .int .u8 0, .int .u8 0, .int .u8 0, .int .u8 0, .int .u8 0, .int .u8 0, .int .u8 0, .int .u8 0, .int .u8 0, .int .i64 0, .int .i64 0, .int .i64 0, .int .i64 0, .slice none 0 0, .string ⟨#[]⟩] 30)) (.cells #[.int .i64 0, .int .i64 0] 33)
  have hg0 : ((w.alloc (.cells #[.int .i64 0, .int .u64 0, .int .i64 0, .int .i64 0, .int .u8 0, .int .u8 0, .int .u8 0, .int .u8 0, .int .u8 0, .int .u8 0, .int .u8 0, .int .u8 0, .int .u8 0, .int .u8 0, .int .u8 0, .int .u8 0, .int .u8 0, .int .u8 0, .int .u8 0, .int .u8 0, .int .u8 0, .int .u8 0, .int .u8 0, .int .u8 0, .int .u8 0, .int .u8 0, .int .u8 0, .int .u8 0, .int .u8 0, .int .u8 0, .int .u8 0, .int .u8 0, .int .u8 0, .int .u8 0, .int .u8 0, .int .u8 0, .int .i64 0, .int .i64 0, .int .i64 0, .int .i64 0, .slice none 0 0, .string ⟨#[]⟩] 30)).alloc (.cells #[.int .i64 0, .int .i64 0] 33)).heap[w.heap.size]? = some (.cells (kF 0).arr 30 (0, 0)) := (heap_alloc_old _ _ (by simp)).trans (heap_alloc_new w _)
  have hf0 : ((w.alloc (.cells #[.int .i64 0, .int .u64 0, .int .i64 0, .int .i64 0, .int .u8 0, .int .u8 0, .int .u8 0, .int .u8 0, .int .u8 0, .int .u8 0, .int .u8 0, .int .u8 0, .int .u8 0, .int .u8 0, .int .u8 0, .int .u8 0, .int .u8 0, .int .u8 0, .int .u8 0, .int .u8 0, .int .u8 0, .int .u8 0, .int .u8 0, .int .u8 0, .int .u8 0, .int .u8 0, .int .u8 0, .int .u8 0, .int .u8 0, .int .u8 0, .int .u8 0, .int .u8 0, .int .u8 0, .int .u8 0, .int .u8 0, .int .u8 0, .int .i64 0, .int .i64 0, .int .i64 0, .int .i64 0, .slice none 0 0, .string ⟨#[]⟩] 30)).alloc (.cells #[.int .i64 0, .int .i64 0] 33)).heap[w.heap.size + 1]? = some (.cells (fv 0 0) 33 (0, 0)) := by
    have := heap_alloc_new (w.alloc (.cells #[.int .i64 0, .int .u64 0, .int .i64 0, .int .i64 0, .int .u8 0, .int .u8 0, .int .u8 0, .int .u8 0, .int .u8 0, .int .u8 0, .int .u8 0, .int .u8 0, .int .u8 0, .int .u8 0, .int .u8 0, .int .u8 0, .int .u8 0, .int .u8 0, .int .u8 0, .int .u8 0, .int .u8 0, .int .u8 0, .int .u8 0, .int .u8 0, .int .u8 0, .int .u8 0, .int .u8 0, .int .u8 0, .int .u8 0, .int .u8 0, .int .u8 0, .int .u8 0, .int .u8 0, .int .u8 0, .int .u8 0, .int .u8 0, .int .i64 0, .int .i64 0, .int .i64 0, .int .i64 0, .slice none 0 0, .string ⟨#[]⟩] 30)) (.cells #[.int .i64 0, .int .i64 0] 33)
    simpa [fv] using this
  have hF0 : (kF 0).at_ 30 ((w.alloc (.cells #[.int .i64 0, .int .u64 0, .int .i64 0, .int .i64 0, .int .u8 0, .int .u8 0, .int .u8 0, .int .u8 0, .int .u8 0, .int .u8 0, .int .u8 0, .int .u8 0, .int .u8 0, .int .u8 0, .int .u8 0, .int .u8 0, .int .u8 0, .int .u8 0, .int .u8 0, .int .u8 0, .int .u8 0, .int .u8 0, .int .u8 0, .int .u8 0, .int .u8 0, .int .u8 0, .int .u8 0, .int .u8 0, .int .u8 0, .int .u8 0, .int .u8 0, .int .u8 0, .int .u8 0, .int .u8 0, .int .u8 0, .int .u8 0, .int .i64 0, .int .i64 0, .int .i64 0, .int .i64 0, .slice none 0 0, .string ⟨#[]⟩] 30)).alloc (.cells #[.int .i64 0, .int .i64 0] 33)) w.heap.size := ⟨hg0, rfl⟩
  have hmf : ∀ (fn : Fn) (first cap : Array Value) (w : World), (Instr.makeFunc fn first cap).run Tryz.prog w = .ok (.func fn first cap) w := fun _ _ _ _ => rfl
  clear hg0
  go_enter_defers Tryz.func11, Tryz.ntmps11
  go_upto_region 1 with (fail)
  generalize hw1 : (w.alloc (.cells #[.int .i64 0, .int .u64 0, .int .i64 0, .int .i64 0, .int .u8 0, .int .u8 0, .int .u8 0, .int .u8 0, .int .u8 0, .int .u8 0, .int .u8 0, .int .u8 0, .int .u8 0, .int .u8 0, .int .u8 0, .int .u8 0, .int .u8 0, .int .u8 0, .int .u8 0, .int .u8 0, .int .u8 0, .int .u8 0, .int .u8 0, .int .u8 0, .int .u8 0, .int .u8 0, .int .u8 0, .int .u8 0, .int .u8 0, .int .u8 0, .int .u8 0, .int .u8 0, .int .u8 0, .int .u8 0, .int .u8 0, .int .u8 0, .int .i64 0, .int .i64 0, .int .i64 0, .int .i64 0, .slice none 0 0, .string ⟨#[]⟩] 30)).alloc (.cells #[.int .i64 0, .int .i64 0] 33) = w1 at *
  go_upto_region 2 with (fail)
  clear hw1
  obtain ⟨g, hg⟩ : ∃ g, w.heap.size = g := ⟨_, rfl⟩
  obtain ⟨g2, hg2⟩ : ∃ g2, w.heap.size + 1 = g2 := ⟨_, rfl⟩
  have HG := Lib.hid hg
  have HG2 := Lib.hid hg2
  have hgg : g ≠ g2 := by omega
  rw [hg] at hF0
  rw [hg2] at hf0
  rw [hg2, hg]
  have hxb := hx.below hb0
  clear hg hg2 hx
  go_wp2_with fail
  refine (NewReader_any A n cap xs _ hxb (by omega)).mono ?_
  rintro e w2 ⟨r, A', c, rfl, hR, hnew, hb1⟩
  have hF1 := hF0.below hb1
  have hX1 := (hb1.block _ (lt_of_block hf0)).trans hf0
  have hbw := below_step hb0 hb1
  have hs : ¬ rdf r A' g := fun e => by have := hnew _ e; have := hF0.lt; omega
  have hs2 : ¬ rdf r A' g2 := fun e => by have := hnew _ e; have := lt_of_block hf0; omega
  have hr2 : ¬ g2 = r := fun e => hs2 (.inl e)
  have HRW : Hid (w.heap.size ≤ r) := Lib.hid (Nat.le_trans hb0.size (hnew r (.inl rfl)))
  clear hb0 hb1 hf0 hF0 hnew hxb
  go_wp2_with fail
  refine (Raw_any hR (head : Int) (by omega)).mono ?_
  rintro e w3 ⟨D0, v0, t0, rfl, HR, hO, hR1, ho⟩
  have HD0 := Lib.hid (raw_head HXL.out hh HR.out)
  have hF2 := hF1.only ho (notr hs)
  have hX2 := ho.kept hX1 hr2
  have hbx := Below.only hbw ho hbw.size (fun k e => e ▸ HRW.out)
  clear hR HR hO ho hF1 hX1 hbw hh
  go_wp2_with fail
  refine (part_any hR1 6 (by omega)).mono ?_
  rintro e w4 ⟨D1, v, HC, hR2, ho2, (⟨HV, rfl⟩ | ⟨HV, rfl⟩)⟩
  · have hF3 := hF2.only ho2 (notr hs)
    have hX3 := ho2.kept hX2 hr2
    have hby := Below.only hbx ho2 hbx.size (fun k e => e ▸ HRW.out)
    have q0 := put_int (v : Int) w4 _ _ hF3.c0 (hF3.fz 0)
    have hF4 := hF3.set0 (v : Int)
    have ho3 := Fr.only_at w4 g 0 (.int .i64 (v : Int))
    have hR4 := hR2.only ho3 (sepg hs)
    have hX4 := ho3.kept hX3 (fun e => hgg e.symm)
    have hbz := Below.only hby ho3 hby.size (fun k e => by have := HG.out; omega)
    replace hF4 : (kF (v : Int)).at_ 30 (w4.setCell ⟨g, 0, none⟩ (.int .i64 (v : Int))) g := hF4
    clear hR1 hF2 hX2 hbx ho2 hF3 hX3 hby ho3 hR2
    go_upto_region 5 with (fail)
    clear q0
    generalize w4.setCell ⟨g, 0, none⟩ (.int .i64 (v : Int)) = w5 at *
    have e0 := load_int hF4.c0
    by_cases hw : D1.why = 0
    · have hv1 : 1 ≤ v := by have := HV.out; omega
      have hv6 : v ≤ 6 := by have := count_le (by omega) HC.out; omega
      have hen := read_enters (v : Int) (by omega) (by omega)
      have HKF := fields_kind HC.out HV.out
      clear hw
      go_wp2_with fail
      refine (of_any (v : Int) (by omega) (by omega) _).mono ?_
      rintro e w6 ⟨rfl, hb6⟩
      have hbK := below_alloc (Below.refl w6.heap.size w6) (.cells #[.nilFunc, .nilFunc, .nilFunc, .nilFunc] 80)
      have hblk := heap_alloc_new w6 (.cells #[.nilFunc, .nilFunc, .nilFunc, .nilFunc] 80)
      have h4 : (#[.nilFunc, .nilFunc, .nilFunc, .nilFunc] : Array Value).size = (kV (v : Int)).size := rfl
      have hsz := kind_size (k := (v : Int))
      have hone := kind_one (v : Int)
      obtain ⟨KK, hKK⟩ : ∃ KK, kV (v : Int) = KK := ⟨_, rfl⟩
      have hk1 : KK[1]? = some (.func (.func (readN (v : Int))) #[] #[]) := by rw [← hKK]; rfl
      rw [hKK] at h4 hsz hone ⊢
      clear hKK e0
      go_upto_region 6 with ((with_reducible show wpList _ _ _ (Oper.mk none _ _ _ _ _ :: _) _ _); refine wpList_store_row rfl 80 (.tmp 7) (.tmp 22) rfl w6.heap.size KK rfl rfl 80 _ hblk hsz h4 hone ?_)
      have hb7 := below_setRow (below_step hb6 hbK) hb6.size KK
      have hK := setRow_heap _ w6.heap.size _ KK _ _ hblk
      have hF5 := hF4.below hb7
      have hR5 := hR4.below hb7
      have hX5 := (hb7.block _ (lt_of_block hX4)).trans hX4
      have hbq := below_step hbz hb7
      clear hF4 hR4 hX4 hbz hb7 hbK hblk h4 hsz hone hb6
      generalize (w6.alloc (.cells #[.nilFunc, .nilFunc, .nilFunc, .nilFunc] 80)).setRow w6.heap.size KK = w7 at *
      generalize w6.heap.size = gk at *
      have e1 := load_read (by rw [cell_of_row w7 gk 1 _ _ _ hK]; exact hk1)
      clear hK hk1
      go_wp2_with fail
      refine (kind_read v hv1 hv6 hR5 (by omega) hF5 hs).mono ?_
      rintro e w8 (⟨D2, F, rfl, HK, hR6, hF6, hok, hfr, ho6⟩ | ⟨F, rfl, HK, hF6, ho6⟩)
      · have hX6 := ho6.kept hX5 (fun e => e.elim hr2 (fun e => hgg e.symm))
        have hbr := Below.only hbq ho6 hbq.size (fun k e => e.elim (fun e => e ▸ HRW.out) (fun e => by have := HG.out; omega))
        have HKF2 : Hid (fieldsS ((Rd.new xs).to head) = (D2, F.core)) := Lib.hid (by rw [← HD0.out, HKF, HK.out])
        have HFR : Hid (∀ a, F.A = some a → w.heap.size ≤ a.block) := Lib.hid (fun a e => Nat.le_trans hbq.size (hfr a e))
        have HFA : Hid (∀ a, F.A = some a → ¬ a.block = r ∧ ¬ a.block = g2) := Lib.hid (fun a e => by have := hfr a e; have := lt_of_block hR5.rk; have := lt_of_block hX5; omega)
        clear hbq ho6 hX5 hR5 hF5 HK HKF hfr e1 hen
        go_wp2_with fail
        refine (End_any hR6).mono ?_
        rintro e w9 ⟨rfl, hR7, ho7⟩
        have hF7 := hF6.only ho7 (notr hs)
        have hX7 := ho7.kept hX6 hr2
        have hbs := Below.only hbr ho7 hbr.size (fun k e => e ▸ HRW.out)
        obtain ⟨D3, hD3⟩ : ∃ D3, endS D2 = D3 := ⟨_, rfl⟩
        have hfin : finS D2 F.core head = if D3.why = 0 ∧ F.k = 3 ∧ F.st ≠ 1 ∧ F.body.size ≠ 0 then (70, (head : Int)) else (D3.why, D3.wat) := by unfold finS; rw [hD3]; rfl
        have HINV := Lib.hid hR6.inv
        have HIV3 : Hid (D3.why = 0 → D3.wat = 0) := Lib.hid (by rw [← hD3]; exact endS_inv HINV.out)
        rw [hD3] at hR7 ⊢
        clear hD3
        have hR8 := hR7
        clear hR8 hR6 hR7
        obtain ⟨x, hx⟩ : ∃ x, D3.why = x := ⟨_, rfl⟩
        obtain ⟨y, hy⟩ : ∃ y, D3.wat = y := ⟨_, rfl⟩
        rw [hx, hy] at hfin HIV3
        rw [hx, hy]
        have HFIN := Lib.hid hfin
        clear hx hy hfin
        have hsz2 := fv_size x y
        go_upto_region 9 with ((with_reducible show wpList _ _ _ (Oper.mk none _ _ _ _ _ :: _) _ _); refine wpList_store_row rfl 33 (.tmp 5) (.tmp 30) rfl g2 (fv x y) rfl rfl 33 _ hX7 hsz2 rfl (fv_one x y) ?_)
        have hX8 := setRow_heap _ g2 _ (fv x y) _ _ hX7
        have hF8 := hF7.only (Fr.only_row w9 g2 (fv x y)) hgg
        have hbt := below_setRow (cs := fv x y) hbs (g := g2) (by have := HG2.out; omega)
        have hok8 : F.ok (w9.setRow g2 (fv x y)) := ⟨hok.tool, (hok.args.apart ho7 (fun a e => (HFA.out a e).1)).apart (Fr.only_row w9 g2 (fv x y)) (fun a e => (HFA.out a e).2)⟩
        clear hF7 hbs hok hX7 ho7 hsz2
        generalize w9.setRow g2 (fv x y) = w10 at *
        have eX : (Instr.loadAt 33 (.pointer (some ⟨g2, 0, none⟩))).run Tryz.prog w10 = .ok (.agg #[.int .i64 x, .int .i64 y]) w10 := load_fault hX8
        have hif : (Tryz.prog.info? 30).map (·.size) = some F.cells.length := by have := Fr.arr_size F hF8.tool; rw [frame_size]; simp [Fr.arr] at this; rw [this]
        have hdr := below_drew (Below.refl w10.heap.size w10)
        have hFd := hF8.below hdr
        have hXd := (hdr.block _ (lt_of_block hX8)).trans hX8
        have eF := load_frame F hif w10.drew g hFd
        have eXd : (Instr.loadAt 33 (.pointer (some ⟨g2, 0, none⟩))).run Tryz.prog w10.drew = .ok (.agg #[.int .i64 x, .int .i64 y]) w10.drew := load_fault hXd
        have sF := same_frame hFd
        have sX : (Instr.storeAt 33 (.pointer (some ⟨g2, 0, none⟩)) (.agg #[.int .i64 x, .int .i64 y])).run Tryz.prog w10.drew = .ok () w10.drew := same_fault hXd
        have eK := load_int hF8.c0
        have eS := load_int hF8.c36
        have eB := load_str hF8.c41
        have hz : ∀ W : World, (Instr.build 33 #[]).run Tryz.prog W = .ok (.agg #[.int .i64 0, .int .i64 0]) W := fun W => by kernel_rfl
        have hbe := body_empty F.body
        have hqg : Tryz.prog.eqGuardType Tryz.prog.depth 33 = false := by kernel_rfl
        have hDone : ∀ (HP : finS D2 F.core head = (x, y)) , ReadPost w xs head (.returned (.tuple #[.agg F.arr, .agg (fv x y)])) w10.drew := fun HP => ⟨F, x, y, rfl, hF8.tool, Lib.hid (read_fin HKF2.out HINV.out HP), fun _ => ⟨hok8.below hdr, HFR.out⟩, below_step hbt hdr⟩
        have HDone := Lib.hid hDone
        clear hDone hif
        by_cases h0 : x = 0
        · have heq := run_fault x y true (by rw [h0, HIV3.out h0]; rfl)
          by_cases hk : F.k = 3
          · have bk : (F.k == 3) = true := by rw [beq_iff_eq]; exact hk
            by_cases hst : F.st = 1
            · have bs : (F.st != 1) = false := by simp [hst]
              have HP : Hid (finS D2 F.core head = (x, y)) := Lib.hid (by rw [HFIN.out, if_neg (fun e => e.2.2.1 hst)])
              clear hbe hk hst h0
              go_wp2_with fail
              go_region_law (fail)
              all_goals ((try go_wp2_with fail); exact door_idle (by rfl) (by rfl) hFd hXd (HDone.out HP.out))
            · have bs : (F.st != 1) = true := by simp [hst]
              by_cases hb0 : F.body.size = 0
              · have b0 : F.body.toList.isEmpty = true := by rw [hbe]; exact decide_eq_true hb0
                have HP : Hid (finS D2 F.core head = (x, y)) := Lib.hid (by rw [HFIN.out, if_neg (fun e => e.2.2.2 hb0)])
                clear hbe hk hst h0 hb0
                go_wp2_with fail
                go_region_law (fail)
                all_goals ((try go_wp2_with fail); exact door_idle (by rfl) (by rfl) hFd hXd (HDone.out HP.out))
              · have b0 : F.body.toList.isEmpty = false := by rw [hbe]; exact decide_eq_false hb0
                have HP : Hid (finS D2 F.core head = (70, (head : Int))) := Lib.hid (by rw [HFIN.out, if_pos ⟨h0, hk, hst, hb0⟩])
                clear hbe hk hst h0 hb0
                have hb2 : ∀ (x y : Int) (W : World), (Instr.build 33 #[(0, .int .i64 x), (1, .int .i64 y)]).run Tryz.prog W = .ok (.agg #[.int .i64 x, .int .i64 y]) W := fun x y W => by kernel_rfl
                have hszq := fv_size 70 (head : Int)
                clear sF sX eF eXd hFd hXd hdr
                go_upto_region 11 with ((with_reducible show wpList _ _ _ (Oper.mk none _ _ _ _ _ :: _) _ _); refine wpList_store_row rfl 33 (.tmp 5) (.tmp 50) rfl g2 (fv 70 (head : Int)) rfl rfl 33 _ hX8 hszq rfl (fv_one _ _) ?_)
                have hX9 := setRow_heap _ g2 _ (fv 70 (head : Int)) _ _ hX8
                have hF9 := hF8.only (Fr.only_row w10 g2 (fv 70 (head : Int))) hgg
                have hbu := below_setRow (cs := fv 70 (head : Int)) hbt (g := g2) (by have := HG2.out; omega)
                have hDone : ReadPost w xs head (.returned (.tuple #[.agg F.arr, .agg (fv 70 (head : Int))])) (w10.setRow g2 (fv 70 (head : Int))).drew := ⟨F, 70, (head : Int), rfl, hF9.tool, Lib.hid (read_fin HKF2.out HINV.out HP.out), fun e => absurd e (by decide), below_step hbu (below_drew (Below.refl _ _))⟩
                have HDone2 := Lib.hid hDone
                clear hF8 hbt hX8 hDone eX eK eS eB
                generalize w10.setRow g2 (fv 70 (head : Int)) = w11 at *
                have hdr := below_drew (Below.refl w11.heap.size w11)
                have hFd := hF9.below hdr
                have hXd := (hdr.block _ (lt_of_block hX9)).trans hX9
                have eXd := load_fault hXd
                have hif : (Tryz.prog.info? 30).map (·.size) = some F.cells.length := by have := Fr.arr_size F hF9.tool; rw [frame_size]; simp [Fr.arr] at this; rw [this]
                have eF := load_frame F hif w11.drew g hFd
                have sF := same_frame hFd
                have sX := same_fault hXd
                clear hif
                go_wp2_with fail
                go_region_law (fail)
                all_goals ((try go_wp2_with fail); exact door_idle (by rfl) (by rfl) hFd hXd HDone2.out)
          · have bk : (F.k == 3) = false := by rw [beq_eq_false_iff_ne]; exact hk
            have HP : Hid (finS D2 F.core head = (x, y)) := Lib.hid (by rw [HFIN.out, if_neg (fun e => hk e.2.1)])
            clear hbe hk h0
            go_wp2_with fail
            go_region_law (fail)
            all_goals ((try go_wp2_with fail); exact door_idle (by rfl) (by rfl) hFd hXd (HDone.out HP.out))
        · have heq := run_fault x y false (by rw [Bool.and_eq_false_iff]; left; rw [beq_eq_false_iff_ne]; exact h0)
          have HP : Hid (finS D2 F.core head = (x, y)) := Lib.hid (by rw [HFIN.out, if_neg (fun e => h0 e.1)])
          clear hbe h0
          go_wp2_with fail
          go_region_law (fail)
          all_goals ((try go_wp2_with fail); exact door_idle (by rfl) (by rfl) hFd hXd (HDone.out HP.out))
      · have hX6 := ho6.kept hX5 (fun e => e.elim hr2 (fun e => hgg e.symm))
        have hbr := Below.only hbq ho6 hbq.size (fun k e => e.elim (fun e => e ▸ HRW.out) (fun e => by have := HG.out; omega))
        have HB : Hid ((readF xs head).2 = ((70 : Int), (kindS D1 v).1.wat)) := Lib.hid (by
          have e2 : fieldsS ((Rd.new xs).to head) = ((kindS D1 v).1, (kindS D1 v).2) := by rw [← HD0.out, HKF]
          rw [read_bad e2 (by rw [HK.out]; decide), HK.out])
        refine door_raised (Z := fv 0 0) rfl rfl hF6 hX6 rfl hgg (fun W' ho' => ?_)
        exact ⟨F, 70, _, rfl, hF6.tool, Lib.hid ⟨HB.out, fun e => absurd e (by decide)⟩, fun e => absurd e (by decide), Below.only hbr ho' hbr.size (fun k e => by have := HG2.out; omega)⟩
    · have hv0 := count_zero HC.out hw
      subst hv0
      have HKF := fields_kind HC.out HV.out
      have HWB := Lib.hid hw
      go_wp2_with fail
      refine (of_bad (0 : Int) (by omega) _).mono ?_
      rintro e w6 ⟨rfl, hb6⟩
      have hbK := below_alloc (Below.refl w6.heap.size w6) (.cells #[.nilFunc, .nilFunc, .nilFunc, .nilFunc] 80)
      have hblk := heap_alloc_new w6 (.cells #[.nilFunc, .nilFunc, .nilFunc, .nilFunc] 80)
      have hsz : (Tryz.prog.info? 80).map (·.size) = some (#[.nilFunc, .nilFunc, .nilFunc, .nilFunc] : Array Value).size := kind_size4
      clear e0 hw
      go_upto_region 6 with ((with_reducible show wpList _ _ _ (Oper.mk none _ _ _ _ _ :: _) _ _); refine wpList_store_row rfl 80 (.tmp 7) (.tmp 22) rfl w6.heap.size #[.nilFunc, .nilFunc, .nilFunc, .nilFunc] rfl rfl 80 _ hblk hsz rfl (by simp [Value.oneCell']) ?_)
      have hb7 := below_setRow (below_step hb6 hbK) hb6.size #[.nilFunc, .nilFunc, .nilFunc, .nilFunc]
      have hF6 := hF4.below hb7
      have hR6 := hR4.below hb7
      have hX6 := (hb7.block _ (lt_of_block hX4)).trans hX4
      have hbr := below_step hbz hb7
      obtain ⟨F, hF⟩ : ∃ F, kF ((0 : Nat) : Int) = F := ⟨_, rfl⟩
      have HKF2 : Hid (fieldsS ((Rd.new xs).to head) = (D1, F.core)) := Lib.hid (by rw [← HD0.out, HKF, ← hF, pair_of (kindS D1 0), kindS_bad HWB.out]; rfl)
      have hok : F.ok ((w6.alloc (.cells #[.nilFunc, .nilFunc, .nilFunc, .nilFunc] 80)).setRow w6.heap.size #[.nilFunc, .nilFunc, .nilFunc, .nilFunc]) := by rw [← hF]; exact ⟨rfl, rt_none _ rfl rfl rfl⟩
      have HFR : Hid (∀ a, F.A = some a → w.heap.size ≤ a.block) := Lib.hid (fun a e => by rw [← hF] at e; cases e)
      have HFA : Hid (∀ a, F.A = some a → ¬ a.block = r ∧ ¬ a.block = g2) := Lib.hid (fun a e => by rw [← hF] at e; cases e)
      rw [hF] at hF6
      clear hF4 hR4 hX4 hbz hb7 hbK hblk hsz hb6 hF HKF
      generalize (w6.alloc (.cells #[.nilFunc, .nilFunc, .nilFunc, .nilFunc] 80)).setRow w6.heap.size #[.nilFunc, .nilFunc, .nilFunc, .nilFunc] = w8 at *
      obtain ⟨D2, hD2⟩ : ∃ D2, D1 = D2 := ⟨_, rfl⟩
      rw [hD2] at HKF2 hR6
      go_wp2_with fail
      refine (End_any hR6).mono ?_
      rintro e w9 ⟨rfl, hR7, ho7⟩
      have hF7 := hF6.only ho7 (notr hs)
      have hX7 := ho7.kept hX6 hr2
      have hbs := Below.only hbr ho7 hbr.size (fun k e => e ▸ HRW.out)
      obtain ⟨D3, hD3⟩ : ∃ D3, endS D2 = D3 := ⟨_, rfl⟩
      have hfin : finS D2 F.core head = if D3.why = 0 ∧ F.k = 3 ∧ F.st ≠ 1 ∧ F.body.size ≠ 0 then (70, (head : Int)) else (D3.why, D3.wat) := by unfold finS; rw [hD3]; rfl
      have HINV := Lib.hid hR6.inv
      have HIV3 : Hid (D3.why = 0 → D3.wat = 0) := Lib.hid (by rw [← hD3]; exact endS_inv HINV.out)
      rw [hD3] at hR7 ⊢
      clear hD3
      have hR8 := hR7
      clear hR8 hR6 hR7
      obtain ⟨x, hx⟩ : ∃ x, D3.why = x := ⟨_, rfl⟩
      obtain ⟨y, hy⟩ : ∃ y, D3.wat = y := ⟨_, rfl⟩
      rw [hx, hy] at hfin HIV3
      rw [hx, hy]
      have HFIN := Lib.hid hfin
      clear hx hy hfin
      have hsz2 := fv_size x y
      go_upto_region 9 with ((with_reducible show wpList _ _ _ (Oper.mk none _ _ _ _ _ :: _) _ _); refine wpList_store_row rfl 33 (.tmp 5) (.tmp 30) rfl g2 (fv x y) rfl rfl 33 _ hX7 hsz2 rfl (fv_one x y) ?_)
      have hX8 := setRow_heap _ g2 _ (fv x y) _ _ hX7
      have hF8 := hF7.only (Fr.only_row w9 g2 (fv x y)) hgg
      have hbt := below_setRow (cs := fv x y) hbs (g := g2) (by have := HG2.out; omega)
      have hok8 : F.ok (w9.setRow g2 (fv x y)) := ⟨hok.tool, (hok.args.apart ho7 (fun a e => (HFA.out a e).1)).apart (Fr.only_row w9 g2 (fv x y)) (fun a e => (HFA.out a e).2)⟩
      clear hF7 hbs hok hX7 ho7 hsz2
      generalize w9.setRow g2 (fv x y) = w10 at *
      have eX : (Instr.loadAt 33 (.pointer (some ⟨g2, 0, none⟩))).run Tryz.prog w10 = .ok (.agg #[.int .i64 x, .int .i64 y]) w10 := load_fault hX8
      have hif : (Tryz.prog.info? 30).map (·.size) = some F.cells.length := by have := Fr.arr_size F hF8.tool; rw [frame_size]; simp [Fr.arr] at this; rw [this]
      have hdr := below_drew (Below.refl w10.heap.size w10)
      have hFd := hF8.below hdr
      have hXd := (hdr.block _ (lt_of_block hX8)).trans hX8
      have eF := load_frame F hif w10.drew g hFd
      have eXd : (Instr.loadAt 33 (.pointer (some ⟨g2, 0, none⟩))).run Tryz.prog w10.drew = .ok (.agg #[.int .i64 x, .int .i64 y]) w10.drew := load_fault hXd
      have sF := same_frame hFd
      have sX : (Instr.storeAt 33 (.pointer (some ⟨g2, 0, none⟩)) (.agg #[.int .i64 x, .int .i64 y])).run Tryz.prog w10.drew = .ok () w10.drew := same_fault hXd
      have eK := load_int hF8.c0
      have eS := load_int hF8.c36
      have eB := load_str hF8.c41
      have hz : ∀ W : World, (Instr.build 33 #[]).run Tryz.prog W = .ok (.agg #[.int .i64 0, .int .i64 0]) W := fun W => by kernel_rfl
      have hbe := body_empty F.body
      have hqg : Tryz.prog.eqGuardType Tryz.prog.depth 33 = false := by kernel_rfl
      have hDone : ∀ (HP : finS D2 F.core head = (x, y)) , ReadPost w xs head (.returned (.tuple #[.agg F.arr, .agg (fv x y)])) w10.drew := fun HP => ⟨F, x, y, rfl, hF8.tool, Lib.hid (read_fin HKF2.out HINV.out HP), fun _ => ⟨hok8.below hdr, HFR.out⟩, below_step hbt hdr⟩
      have HDone := Lib.hid hDone
      clear hDone hif
      by_cases h0 : x = 0
      · have heq := run_fault x y true (by rw [h0, HIV3.out h0]; rfl)
        by_cases hk : F.k = 3
        · have bk : (F.k == 3) = true := by rw [beq_iff_eq]; exact hk
          by_cases hst : F.st = 1
          · have bs : (F.st != 1) = false := by simp [hst]
            have HP : Hid (finS D2 F.core head = (x, y)) := Lib.hid (by rw [HFIN.out, if_neg (fun e => e.2.2.1 hst)])
            clear hbe hk hst h0
            go_wp2_with fail
            go_region_law (fail)
            all_goals ((try go_wp2_with fail); exact door_idle (by rfl) (by rfl) hFd hXd (HDone.out HP.out))
          · have bs : (F.st != 1) = true := by simp [hst]
            by_cases hb0 : F.body.size = 0
            · have b0 : F.body.toList.isEmpty = true := by rw [hbe]; exact decide_eq_true hb0
              have HP : Hid (finS D2 F.core head = (x, y)) := Lib.hid (by rw [HFIN.out, if_neg (fun e => e.2.2.2 hb0)])
              clear hbe hk hst h0 hb0
              go_wp2_with fail
              go_region_law (fail)
              all_goals ((try go_wp2_with fail); exact door_idle (by rfl) (by rfl) hFd hXd (HDone.out HP.out))
            · have b0 : F.body.toList.isEmpty = false := by rw [hbe]; exact decide_eq_false hb0
              have HP : Hid (finS D2 F.core head = (70, (head : Int))) := Lib.hid (by rw [HFIN.out, if_pos ⟨h0, hk, hst, hb0⟩])
              clear hbe hk hst h0 hb0
              have hb2 : ∀ (x y : Int) (W : World), (Instr.build 33 #[(0, .int .i64 x), (1, .int .i64 y)]).run Tryz.prog W = .ok (.agg #[.int .i64 x, .int .i64 y]) W := fun x y W => by kernel_rfl
              have hszq := fv_size 70 (head : Int)
              clear sF sX eF eXd hFd hXd hdr
              go_upto_region 11 with ((with_reducible show wpList _ _ _ (Oper.mk none _ _ _ _ _ :: _) _ _); refine wpList_store_row rfl 33 (.tmp 5) (.tmp 50) rfl g2 (fv 70 (head : Int)) rfl rfl 33 _ hX8 hszq rfl (fv_one _ _) ?_)
              have hX9 := setRow_heap _ g2 _ (fv 70 (head : Int)) _ _ hX8
              have hF9 := hF8.only (Fr.only_row w10 g2 (fv 70 (head : Int))) hgg
              have hbu := below_setRow (cs := fv 70 (head : Int)) hbt (g := g2) (by have := HG2.out; omega)
              have hDone : ReadPost w xs head (.returned (.tuple #[.agg F.arr, .agg (fv 70 (head : Int))])) (w10.setRow g2 (fv 70 (head : Int))).drew := ⟨F, 70, (head : Int), rfl, hF9.tool, Lib.hid (read_fin HKF2.out HINV.out HP.out), fun e => absurd e (by decide), below_step hbu (below_drew (Below.refl _ _))⟩
              have HDone2 := Lib.hid hDone
              clear hF8 hbt hX8 hDone eX eK eS eB
              generalize w10.setRow g2 (fv 70 (head : Int)) = w11 at *
              have hdr := below_drew (Below.refl w11.heap.size w11)
              have hFd := hF9.below hdr
              have hXd := (hdr.block _ (lt_of_block hX9)).trans hX9
              have eXd := load_fault hXd
              have hif : (Tryz.prog.info? 30).map (·.size) = some F.cells.length := by have := Fr.arr_size F hF9.tool; rw [frame_size]; simp [Fr.arr] at this; rw [this]
              have eF := load_frame F hif w11.drew g hFd
              have sF := same_frame hFd
              have sX := same_fault hXd
              clear hif
              go_wp2_with fail
              go_region_law (fail)
              all_goals ((try go_wp2_with fail); exact door_idle (by rfl) (by rfl) hFd hXd HDone2.out)
        · have bk : (F.k == 3) = false := by rw [beq_eq_false_iff_ne]; exact hk
          have HP : Hid (finS D2 F.core head = (x, y)) := Lib.hid (by rw [HFIN.out, if_neg (fun e => hk e.2.1)])
          clear hbe hk h0
          go_wp2_with fail
          go_region_law (fail)
          all_goals ((try go_wp2_with fail); exact door_idle (by rfl) (by rfl) hFd hXd (HDone.out HP.out))
      · have heq := run_fault x y false (by rw [Bool.and_eq_false_iff]; left; rw [beq_eq_false_iff_ne]; exact h0)
        have HP : Hid (finS D2 F.core head = (x, y)) := Lib.hid (by rw [HFIN.out, if_neg (fun e => h0 e.1)])
        clear hbe h0
        go_wp2_with fail
        go_region_law (fail)
        all_goals ((try go_wp2_with fail); exact door_idle (by rfl) (by rfl) hFd hXd (HDone.out HP.out))
  · have hF3 := hF2.only ho2 (notr hs)
    have hX3 := ho2.kept hX2 hr2
    have hby := Below.only hbx ho2 hbx.size (fun k e => e ▸ HRW.out)
    have HB : Hid ((readF xs head).2 = ((70 : Int), (D0.at_ : Int))) := Lib.hid (by
      have e2 : fieldsS ((Rd.new xs).to head) = (D0.fail 70 D0.at_, (fieldsS D0).2) := by rw [← HD0.out, ← fields_none HC.out HV.out]
      exact read_bad e2 (by show (70 : Int) ≠ 0; decide))
    refine door_raised (Z := fv 0 0) rfl rfl hF3 hX3 rfl hgg (fun W' ho' => ?_)
    exact ⟨kF 0, 70, _, rfl, hF3.tool, Lib.hid ⟨HB.out, fun e => absurd e (by decide)⟩, fun e => absurd e (by decide), Below.only hby ho' hby.size (fun k e => by have := HG2.out; omega)⟩
end
end Go.Proofs.YtelfephmjkipoaaGreat
end
/-! The contract of frame.Decode. (mk_frzj.py) -/
section
namespace Go.Proofs.YtelfephmjkipoaaGreat
open Go.RowKit Go.Kit Go.Proofs.YtelfephmjkipoaaGreatW.PrintWords
/-- The frame that bytes say, why not, and where. -/
def decF (xs : List Int) : Fr × Int × Int :=
  if (needF xs).2.2 ≠ 0 then (noF, (needF xs).2.2, 0) else if (needF xs).1 = 0 ∨ xs.length < (needF xs).1 then (noF, 4, (xs.length : Int)) else if (needF xs).1 < xs.length then (noF, 6, ((needF xs).1 : Int))
  else if (openR xs).2 ≠ 0 then (noF, 71, ((needF xs).1 : Int) - 4) else readF (openR xs).1 (needF xs).2.1
def DecPost (w : World) (xs : List Int) (e : Ending) (w' : World) : Prop :=
  ∃ (F : Fr) (x y : Int), e = .returned (.tuple #[.agg F.arr, .agg (fv x y)]) ∧ Hid ((decF xs).2 = (x, y) ∧ F.core = (decF xs).1) ∧ F.ok w' ∧ (∀ a, F.A = some a → w.heap.size ≤ a.block) ∧ Below w.heap.size w w'
theorem two_new (W : World) : Below W.heap.size W ((W.alloc (.cells #[.int .i64 0, .int .u64 0, .int .i64 0, .int .i64 0, .int .u8 0, .int .u8 0, .int .u8 0, .int .u8 0, .int .u8 0, .int .u8 0, .int .u8 0, .int .u8 0, .int .u8 0, .int .u8 0, .int .u8 0, .int .u8 0, .int .u8 0, .int .u8 0, .int .u8 0, .int .u8 0, .int .u8 0, .int .u8 0, .int .u8 0, .int .u8 0, .int .u8 0, .int .u8 0, .int .u8 0, .int .u8 0, .int .u8 0, .int .u8 0, .int .u8 0, .int .u8 0, .int .u8 0, .int .u8 0, .int .u8 0, .int .u8 0, .int .i64 0, .int .i64 0, .int .i64 0, .int .i64 0, .slice none 0 0, .string ⟨#[]⟩] 30)).alloc (.cells #[.int .i64 0, .int .i64 0] 33)) ∧
    (kF 0).at_ 30 ((W.alloc (.cells #[.int .i64 0, .int .u64 0, .int .i64 0, .int .i64 0, .int .u8 0, .int .u8 0, .int .u8 0, .int .u8 0, .int .u8 0, .int .u8 0, .int .u8 0, .int .u8 0, .int .u8 0, .int .u8 0, .int .u8 0, .int .u8 0, .int .u8 0, .int .u8 0, .int .u8 0, .int .u8 0, .int .u8 0, .int .u8 0, .int .u8 0, .int .u8 0, .int .u8 0, .int .u8 0, .int .u8 0, .int .u8 0, .int .u8 0, .int .u8 0, .int .u8 0, .int .u8 0, .int .u8 0, .int .u8 0, .int .u8 0, .int .u8 0, .int .i64 0, .int .i64 0, .int .i64 0, .int .i64 0, .slice none 0 0, .string ⟨#[]⟩] 30)).alloc (.cells #[.int .i64 0, .int .i64 0] 33)) W.heap.size ∧
    ((W.alloc (.cells #[.int .i64 0, .int .u64 0, .int .i64 0, .int .i64 0, .int .u8 0, .int .u8 0, .int .u8 0, .int .u8 0, .int .u8 0, .int .u8 0, .int .u8 0, .int .u8 0, .int .u8 0, .int .u8 0, .int .u8 0, .int .u8 0, .int .u8 0, .int .u8 0, .int .u8 0, .int .u8 0, .int .u8 0, .int .u8 0, .int .u8 0, .int .u8 0, .int .u8 0, .int .u8 0, .int .u8 0, .int .u8 0, .int .u8 0, .int .u8 0, .int .u8 0, .int .u8 0, .int .u8 0, .int .u8 0, .int .u8 0, .int .u8 0, .int .i64 0, .int .i64 0, .int .i64 0, .int .i64 0, .slice none 0 0, .string ⟨#[]⟩] 30)).alloc (.cells #[.int .i64 0, .int .i64 0] 33)).heap[W.heap.size + 1]? = some (.cells (fv 0 0) 33 (0, 0)) := by
  refine ⟨below_alloc (below_alloc (Below.refl _ W) _) _, ⟨(heap_alloc_old _ _ (by simp)).trans (heap_alloc_new W _), rfl⟩, ?_⟩
  have := heap_alloc_new (W.alloc (.cells #[.int .i64 0, .int .u64 0, .int .i64 0, .int .i64 0, .int .u8 0, .int .u8 0, .int .u8 0, .int .u8 0, .int .u8 0, .int .u8 0, .int .u8 0, .int .u8 0, .int .u8 0, .int .u8 0, .int .u8 0, .int .u8 0, .int .u8 0, .int .u8 0, .int .u8 0, .int .u8 0, .int .u8 0, .int .u8 0, .int .u8 0, .int .u8 0, .int .u8 0, .int .u8 0, .int .u8 0, .int .u8 0, .int .u8 0, .int .u8 0, .int .u8 0, .int .u8 0, .int .u8 0, .int .u8 0, .int .u8 0, .int .u8 0, .int .i64 0, .int .i64 0, .int .i64 0, .int .i64 0, .slice none 0 0, .string ⟨#[]⟩] 30)) (.cells #[.int .i64 0, .int .i64 0] 33)
  simpa [fv] using this
theorem put_fault {W : World} {g : Nat} {x y : Int} (a b : Int) (h : W.heap[g]? = some (.cells (fv x y) 33 (0, 0))) : (Instr.storeAt 33 (.pointer (some ⟨g, 0, none⟩)) (.agg #[.int .i64 a, .int .i64 b])).run Tryz.prog W = .ok () (W.setRow g (fv a b)) :=
  storeAt_all (P := Tryz.prog) W g 33 33 (fv a b) (fv x y) h rfl (fv_size a b) (fv_one a b)
theorem put_frame {W : World} {g : Nat} {F : Fr} (f : Fr) (hf : f.tool.length = 32) (h : F.at_ 30 W g) : (Instr.storeAt 30 (.pointer (some ⟨g, 0, none⟩)) (.agg f.arr)).run Tryz.prog W = .ok () (W.setRow g f.arr) :=
  storeAt_all (P := Tryz.prog) W g 30 30 f.arr F.arr h.blk (by rw [Fr.arr_size F h.tool, Fr.arr_size f hf]) (by rw [Fr.arr_size f hf]; kernel_rfl) (arr_one f)
theorem put_at {W : World} {g : Nat} {F : Fr} (f : Fr) (hf : f.tool.length = 32) (h : F.at_ 30 W g) : f.at_ 30 (W.setRow g f.arr) g := ⟨setRow_heap _ _ _ _ _ _ h.blk, hf⟩
theorem get_fault {W : World} {g : Nat} {a b : Int} (h : W.heap[g]? = some (.cells (fv a b) 33 (0, 0))) : (Instr.loadAt 33 (.pointer (some ⟨g, 0, none⟩))).run Tryz.prog W = .ok (.agg #[.int .i64 a, .int .i64 b]) W := load_fault h
theorem get_frame {W : World} {g : Nat} {F : Fr} (h : F.at_ 30 W g) : (Instr.loadAt 30 (.pointer (some ⟨g, 0, none⟩))).run Tryz.prog W = .ok (.agg F.arr) W :=
  load_frame F (by have := Fr.arr_size F h.tool; rw [frame_size]; simp [Fr.arr] at this; rw [this]) W g h
theorem keep_fault {W W1 : World} {g : Nat} {a b : Int} {S : Nat → Prop} (h : W.heap[g]? = some (.cells (fv a b) 33 (0, 0))) (ho : Only W W1 S) (hs : ¬ S g) : W1.heap[g]? = some (.cells (fv a b) 33 (0, 0)) := ho.kept h hs
theorem set_fault {W : World} {g : Nat} {x y : Int} (a b : Int) (h : W.heap[g]? = some (.cells (fv x y) 33 (0, 0))) : (W.setRow g (fv a b)).heap[g]? = some (.cells (fv a b) 33 (0, 0)) := setRow_heap _ _ _ _ _ _ h
set_option maxRecDepth 100000 in
theorem same_zero {W : World} {g : Nat} (h : (kF 0).at_ 30 W g) : (Instr.storeAt 30 (.pointer (some ⟨g, 0, none⟩)) (.agg #[.int .i64 0, .int .u64 0, .int .i64 0, .int .i64 0, .int .u8 0, .int .u8 0, .int .u8 0, .int .u8 0, .int .u8 0, .int .u8 0, .int .u8 0, .int .u8 0, .int .u8 0, .int .u8 0, .int .u8 0, .int .u8 0, .int .u8 0, .int .u8 0, .int .u8 0, .int .u8 0, .int .u8 0, .int .u8 0, .int .u8 0, .int .u8 0, .int .u8 0, .int .u8 0, .int .u8 0, .int .u8 0, .int .u8 0, .int .u8 0, .int .u8 0, .int .u8 0, .int .u8 0, .int .u8 0, .int .u8 0, .int .u8 0, .int .i64 0, .int .i64 0, .int .i64 0, .int .i64 0, .slice none 0 0, .string ⟨#[]⟩])).run Tryz.prog W = .ok () W := same_frame h
theorem zero_frame (W : World) : (Instr.build 30 #[]).run Tryz.prog W = .ok (.agg (kF 0).arr) W := by kernel_rfl
theorem run_fault_ne (x y : Int) (b : Bool) (hb : ((x == 0) && (y == 0)) = b) (W : World) : (binOp .neq 33 (.agg #[.int .i64 x, .int .i64 y]) (.agg #[.int .i64 0, .int .i64 0])).run Tryz.prog W = .ok (.bool !b) W := by
  have he : (Op.equalIn 10000 33 (.agg #[.int .i64 x, .int .i64 y]) (.agg #[.int .i64 0, .int .i64 0])).run Tryz.prog W = .ok b W := by
    subst hb
    by_cases h1 : x = 0 <;> by_cases h2 : y = 0 <;> go_simp
  simp [run_neq_struct W 33 _ _, he]
theorem need_head {xs : List Int} {m k : Nat} (h : needF xs = (m, k, 0)) (hm : m ≠ 0) : ∃ m0, headF xs = (m0, k, 0) ∧ m = m0 + k + 4 := by
  unfold needF at h
  split at h
  · exact absurd (congrArg Prod.fst h).symm hm
  · next hn =>
    have h0 : (headF xs).2.2 = 0 := Classical.byContradiction fun e => hn (.inl e)
    simp only [Prod.mk.injEq] at h
    obtain ⟨h1, h2, _⟩ := h
    exact ⟨(headF xs).1, Prod.ext rfl (Prod.ext h2 h0), by omega⟩
theorem readF_none {p : List Int} {head : Nat} (h : (readF p head).2.1 ≠ 0) : (readF p head).1 = noF := by
  unfold readF at h ⊢
  split at h
  · next D f he =>
    split at h
    · next hc => rw [if_pos hc]
    · exact absurd rfl h
theorem open_take {xs ys : List Int} (h : openR xs = (ys, 0)) : ys = xs.take (xs.length - 4) ∧ ¬ xs.length < 4 := by
  unfold openR at h
  split at h
  · cases h
  split at h
  · next h4 _ => cases h; exact ⟨rfl, h4⟩
  · cases h
theorem two_put (W : World) (F : Fr) (hT : F.tool.length = 32) (x y : Int) : ∃ W1 W2 W3 : World, (W.alloc (.cells #[.int .i64 0, .int .u64 0, .int .i64 0, .int .i64 0, .int .u8 0, .int .u8 0, .int .u8 0, .int .u8 0, .int .u8 0, .int .u8 0, .int .u8 0, .int .u8 0, .int .u8 0, .int .u8 0, .int .u8 0, .int .u8 0, .int .u8 0, .int .u8 0, .int .u8 0, .int .u8 0, .int .u8 0, .int .u8 0, .int .u8 0, .int .u8 0, .int .u8 0, .int .u8 0, .int .u8 0, .int .u8 0, .int .u8 0, .int .u8 0, .int .u8 0, .int .u8 0, .int .u8 0, .int .u8 0, .int .u8 0, .int .u8 0, .int .i64 0, .int .i64 0, .int .i64 0, .int .i64 0, .slice none 0 0, .string ⟨#[]⟩] 30)).alloc (.cells #[.int .i64 0, .int .i64 0] 33) = W1 ∧
    (Instr.storeAt 30 (.pointer (some ⟨W.heap.size, 0, none⟩)) (.agg F.arr)).run Tryz.prog W1 = .ok () W2 ∧
    (Instr.storeAt 33 (.pointer (some ⟨W.heap.size + 1, 0, none⟩)) (.agg (fv x y))).run Tryz.prog W2 = .ok () W3 ∧
    F.at_ 30 W3 W.heap.size ∧ W3.heap[W.heap.size + 1]? = some (.cells (fv x y) 33 (0, 0)) ∧ Below W.heap.size W W3 := by
  obtain ⟨hbn, hFz, hXz⟩ := two_new W
  obtain ⟨W1, h1⟩ : ∃ W1, (W.alloc (.cells #[.int .i64 0, .int .u64 0, .int .i64 0, .int .i64 0, .int .u8 0, .int .u8 0, .int .u8 0, .int .u8 0, .int .u8 0, .int .u8 0, .int .u8 0, .int .u8 0, .int .u8 0, .int .u8 0, .int .u8 0, .int .u8 0, .int .u8 0, .int .u8 0, .int .u8 0, .int .u8 0, .int .u8 0, .int .u8 0, .int .u8 0, .int .u8 0, .int .u8 0, .int .u8 0, .int .u8 0, .int .u8 0, .int .u8 0, .int .u8 0, .int .u8 0, .int .u8 0, .int .u8 0, .int .u8 0, .int .u8 0, .int .u8 0, .int .i64 0, .int .i64 0, .int .i64 0, .int .i64 0, .slice none 0 0, .string ⟨#[]⟩] 30)).alloc (.cells #[.int .i64 0, .int .i64 0] 33) = W1 := ⟨_, rfl⟩
  rw [h1] at hbn hFz hXz
  refine ⟨W1, W1.setRow W.heap.size F.arr, (W1.setRow W.heap.size F.arr).setRow (W.heap.size + 1) (fv x y), h1, ?_⟩
  clear h1
  have hFa := put_at F hT hFz
  have ho1 := Fr.only_row W1 W.heap.size F.arr
  have hXa := keep_fault hXz ho1 (fun e => by omega)
  have ho2 := Fr.only_row (W1.setRow W.heap.size F.arr) (W.heap.size + 1) (fv x y)
  exact ⟨put_frame F hT hFz, put_fault x y hXa, hFa.only ho2 (fun e => by omega), set_fault x y hXa, below_setRow (below_setRow hbn (Nat.le_refl _) _) (Nat.le_succ _) _⟩
theorem dec_ret {W : World} {g g2 : Nat} {tmps : Array Value} {F : Fr} {x y : Int} (hp : tmps.getD 2 undef = .pointer (some ⟨g, 0, none⟩)) (hq : tmps.getD 3 undef = .pointer (some ⟨g2, 0, none⟩)) (hF : F.at_ 30 W g) (hX : W.heap[g2]? = some (.cells (fv x y) 33 (0, 0))) :
    (results Tryz.f4 tmps).run Tryz.prog W = .ok (.tuple #[.agg F.arr, .agg (fv x y)]) W :=
  results_cell_row2 (P := Tryz.prog) (fn := Tryz.f4) (p := 2) (q := 3) rfl tmps W g g2 30 33 F.arr (fv x y) (0, 0) (0, 0) _ _ hp hF.blk Tryz.underlying30 rfl (by rw [Fr.arr_size F hF.tool]; kernel_rfl) hq hX Tryz.underlying33 rfl (fv_size x y)
theorem dec_bad {w W : World} {xs : List Int} {x y : Int} (h : Hid (decF xs = (noF, x, y))) (hb : Below w.heap.size w W) : DecPost w xs (.returned (.tuple #[.agg (kF 0).arr, .agg (fv x y)])) W :=
  ⟨kF 0, x, y, rfl, Lib.hid ⟨by rw [h.out], by rw [h.out]; rfl⟩, ⟨rfl, rt_none _ rfl rfl rfl⟩, fun a e => (by cases e), hb⟩
attribute [-go_sem] Instr.loadAt Instr.storeAt
section
variable {A : Option Addr} {n cap : Nat} {xs : List Int} {w : World}
set_option maxHeartbeats 8000000 in
set_option maxRecDepth 100000 in
theorem Decode_any (hx : RB w A n xs) (hc : n ≤ cap) : Calls Tryz.prog 4 #[.slice A n cap] w (DecPost w xs) := by
  have HXL := Lib.hid hx.len
  have HBY := Lib.hid hx.byt
  obtain ⟨hb0, hF0, hf0⟩ := two_new w
  have hbd : ∀ (x : Int) (W : World), (Instr.build 33 #[(0, .int .i64 x)]).run Tryz.prog W = .ok (.agg #[.int .i64 x, .int .i64 0]) W := fun x W => by kernel_rfl
  have hb2 : ∀ (x y : Int) (W : World), (Instr.build 33 #[(0, .int .i64 x), (1, .int .i64 y)]).run Tryz.prog W = .ok (.agg #[.int .i64 x, .int .i64 y]) W := fun x y W => by kernel_rfl
  have hz : ∀ W : World, (Instr.build 33 #[]).run Tryz.prog W = .ok (.agg #[.int .i64 0, .int .i64 0]) W := fun W => by kernel_rfl
  go_enter Tryz.func4, Tryz.ntmps4
  go_upto_region 1 with (fail)
  generalize (w.alloc (.cells #[.int .i64 0, .int .u64 0, .int .i64 0, .int .i64 0, .int .u8 0, .int .u8 0, .int .u8 0, .int .u8 0, .int .u8 0, .int .u8 0, .int .u8 0, .int .u8 0, .int .u8 0, .int .u8 0, .int .u8 0, .int .u8 0, .int .u8 0, .int .u8 0, .int .u8 0, .int .u8 0, .int .u8 0, .int .u8 0, .int .u8 0, .int .u8 0, .int .u8 0, .int .u8 0, .int .u8 0, .int .u8 0, .int .u8 0, .int .u8 0, .int .u8 0, .int .u8 0, .int .u8 0, .int .u8 0, .int .u8 0, .int .u8 0, .int .i64 0, .int .i64 0, .int .i64 0, .int .i64 0, .slice none 0 0, .string ⟨#[]⟩] 30)).alloc (.cells #[.int .i64 0, .int .i64 0] 33) = w1 at *
  obtain ⟨g, hg⟩ : ∃ g, w.heap.size = g := ⟨_, rfl⟩
  obtain ⟨g2, hg2⟩ : ∃ g2, w.heap.size + 1 = g2 := ⟨_, rfl⟩
  have HG := Lib.hid hg
  have HG2 := Lib.hid hg2
  have hgg : g ≠ g2 := by omega
  rw [hg] at hF0
  rw [hg2] at hf0
  rw [hg2, hg]
  have hxb := hx.below hb0
  clear hg hg2 hx
  go_wp2_with fail
  refine (Need_any A n cap xs _ hxb hc).mono ?_
  rintro e w2 ⟨m, k, x, rfl, HN, hb1⟩
  have hF1 := hF0.below hb1
  have hX1 := (hb1.block _ (lt_of_block hf0)).trans hf0
  have hbw := below_step hb0 hb1
  have hx1 := hxb.below hb1
  have HWX := hbw.size
  clear hb0 hb1 hf0 hF0 hxb
  by_cases h0 : x = 0
  · subst h0
    by_cases hm : m = 0 ∨ n < m
    · have hdm : decide ((n : Int) < (m : Int)) = decide (n < m) := by simp
      have HD : Hid (decF xs = (noF, 4, (n : Int))) := Lib.hid (by unfold decF; rw [HN.out, if_neg (by simp), if_pos (by rw [HXL.out]; exact hm), HXL.out])
      have sF := same_zero hF1
      have sX := put_fault 4 (n : Int) hX1
      have hXn := set_fault 4 (n : Int) hX1
      have hFn := hF1.only (Fr.only_row w2 g2 (fv 4 (n : Int))) hgg
      have hbn := below_setRow (cs := fv 4 (n : Int)) hbw (g := g2) (by have := HG2.out; omega)
      by_cases hm0 : m = 0
      · have bm : ((m : Int) == 0) = true := by rw [beq_iff_eq]; omega
        clear hm hm0 hdm
        go_wp2_with fail
        try simp only [Exit.inBlock, Exit.then]
        exact bodyPost_ret (v := .tuple #[.agg (kF 0).arr, .agg (fv 4 (n : Int))]) (dec_ret rfl rfl hFn hXn) rfl (dec_bad HD hbn)
      · have bm : ((m : Int) == 0) = false := by rw [beq_eq_false_iff_ne]; omega
        have hlt : (n : Int) < (m : Int) := by omega
        clear hm hm0 hdm
        go_wp2_with fail
        try simp only [Exit.inBlock, Exit.then]
        exact bodyPost_ret (v := .tuple #[.agg (kF 0).arr, .agg (fv 4 (n : Int))]) (dec_ret rfl rfl hFn hXn) rfl (dec_bad HD hbn)
    · have bm : ((m : Int) == 0) = false := by rw [beq_eq_false_iff_ne]; omega
      have hlt : ¬ (n : Int) < (m : Int) := by omega
      by_cases hm2 : m < n
      · have hgt : (n : Int) > (m : Int) := by omega
        have HD : Hid (decF xs = (noF, 6, (m : Int))) := Lib.hid (by unfold decF; rw [HN.out, if_neg (by simp), if_neg (by rw [HXL.out]; exact hm), if_pos (by rw [HXL.out]; exact hm2)])
        have sF := same_zero hF1
        have sX := put_fault 6 (m : Int) hX1
        have hXn := set_fault 6 (m : Int) hX1
        have hFn := hF1.only (Fr.only_row w2 g2 (fv 6 (m : Int))) hgg
        have hbn := below_setRow (cs := fv 6 (m : Int)) hbw (g := g2) (by have := HG2.out; omega)
        clear hm hm2
        go_wp2_with fail
        try simp only [Exit.inBlock, Exit.then]
        exact bodyPost_ret (v := .tuple #[.agg (kF 0).arr, .agg (fv 6 (m : Int))]) (dec_ret rfl rfl hFn hXn) rfl (dec_bad HD hbn)
      · have hmn : m = n := by omega
        have hgt : ¬ (n : Int) > (m : Int) := by omega
        have hl : n ≤ 140737488355000 := by
          obtain ⟨m0, hh0, hm0⟩ := need_head HN.out (fun e => hm (.inl e))
          have := headF_facts HBY.out hh0
          omega
        have HM := Lib.hid hm
        have HMN := Lib.hid hmn
        clear hm hm2 hmn
        go_wp2_with fail
        refine (Open_any A n cap xs _ hx1 hc hl).mono ?_
        rintro e w3 ⟨v, ys, x, rfl, hO, HO, hb3⟩
        have hF2 := hF1.below hb3
        have hX2 := (hb3.block _ (lt_of_block hX1)).trans hX1
        have hbx := below_step hbw hb3
        have hx2 := hx1.below hb3
        clear hF1 hX1 hx1
        by_cases h1 : x = 0
        · subst h1
          obtain ⟨A2, c2, rfl, hR2, hc2⟩ := hO.reads'
          have HOT := Lib.hid (open_take HO.out.symm)
          obtain ⟨N, hN⟩ : ∃ N, ys.length = N := ⟨_, rfl⟩
          have HNL := Lib.hid hN
          rw [hN] at hR2 hc2 ⊢
          clear hO hN
          go_wp2_with fail
          refine (head_any A n cap xs _ hx2 hc).mono ?_
          rintro e w4 ⟨m1, k1, x1, rfl, HH, hb4⟩
          obtain ⟨m0, hh0, hm0⟩ := need_head HN.out (fun e => HM.out (.inl e))
          have he := HH.out.symm.trans hh0
          cases he
          have hfa := headF_facts HBY.out HH.out
          have hF3 := hF2.below hb4
          have hX3 := (hb4.block _ (lt_of_block hX2)).trans hX2
          have hby := below_step hbx hb4
          have hR3 := hR2.below hb4
          have hyl : N = n - 4 := by rw [← HNL.out]; have e := HOT.out; rw [HXL.out] at e; rw [e.1, List.length_take, HXL.out]; omega
          have hk2 : k ≤ N := by have := HMN.out; omega
          have hn2 : N ≤ 4194304 := by have := HMN.out; omega
          clear hF2 hX2 hbx hx2 hR2 hfa hm0 hh0 hb4 hyl
          go_wp2_with fail
          refine (read_any hR3 hn2 k hk2).mono ?_
          rintro e w5 ⟨F, x, y, rfl, hT, HRD, hok, hb5⟩
          obtain ⟨w6, w7, w8, s0, s1, s2, hFb, hXb, hbq⟩ := two_put w5 F hT x y
          have HFB := Lib.hid hFb
          have HXB := Lib.hid hXb
          have HBQ := Lib.hid hbq
          clear hFb hXb hbq
          go_upto_region 13 with (fail)
          clear s0 s1 s2
          have hbq := HBQ.out
          have hgl := hF3.lt
          have hF4 := (hF3.below hb5).below hbq
          have hbz := below_step (below_step hby hb5) hbq
          have hX4a := (hb5.block _ (lt_of_block hX3)).trans hX3
          have hX4 := (hbq.block _ (lt_of_block hX4a)).trans hX4a
          clear hX4a hF3 hX3
          have hF5 := HFB.out
          have hX5 := HXB.out
          have hg3 : ¬ w5.heap.size + 1 = g := by have := hb5.size; omega
          have HD : Hid (decF xs = readF ys k) := Lib.hid (by
            have e := HO.out
            unfold decF; rw [HN.out, if_neg (by simp), if_neg (by rw [HXL.out]; exact HM.out), if_neg (by rw [HXL.out, HMN.out]; simp), ← e, if_neg (by simp)])
          have hok2 : x = 0 → F.ok w8 ∧ (∀ a, F.A = some a → w.heap.size ≤ a.block ∧ ¬ a.block = g) := fun h0 => ⟨(hok h0).1.below hbq, fun a e => by have := (hok h0).2 a e; have := hby.size; omega⟩
          have HOK := Lib.hid hok2
          obtain ⟨g3, hg3e⟩ : ∃ g3, w5.heap.size = g3 := ⟨_, rfl⟩
          obtain ⟨g4, hg4e⟩ : ∃ g4, w5.heap.size + 1 = g4 := ⟨_, rfl⟩
          rw [hg4e] at hX5 hg3
          rw [hg3e] at hF5
          rw [hg4e, hg3e]
          clear HFB HXB HBQ hbq hok hok2 hb5 hby hR3 hgl hg3e hg4e hk2 hn2
          have hdr := below_drew (Below.refl w8.heap.size w8)
          have eX0 := get_fault hX5
          have hF4d := hF4.below hdr
          have hX4d := (hdr.block _ (lt_of_block hX4)).trans hX4
          have hF5d := hF5.below hdr
          have hX5d := (hdr.block _ (lt_of_block hX5)).trans hX5
          have hbzd := below_step hbz hdr
          have hg2g : g2 ≠ g := fun e => hgg e.symm
          by_cases hx0 : x = 0
          · have hy0 : y = 0 := (HRD.out.2 hx0).2
            have HRR := Lib.hid (HRD.out.2 hx0).1
            have HR2 := HRD
            have hok3 := HOK.out hx0
            subst hx0
            subst hy0
            have heq := run_fault_ne 0 0 true rfl
            have e1 := get_frame hF5d
            have e2 := get_fault hX5d
            have s1 := put_frame F hT hF4d
            have sX : (Instr.storeAt 33 (.pointer (some ⟨g2, 0, none⟩)) (.agg #[.int .i64 0, .int .i64 0])).run Tryz.prog w8.drew = .ok () w8.drew := same_fault hX4d
            have ho1 := Fr.only_row w8.drew g F.arr
            have hXg4 := keep_fault hX5d ho1 hg3
            have hXg2 := keep_fault hX4d ho1 hg2g
            have e3 := get_fault hXg4
            have sX2 : (Instr.storeAt 33 (.pointer (some ⟨g2, 0, none⟩)) (.agg #[.int .i64 0, .int .i64 0])).run Tryz.prog (w8.drew.setRow g F.arr) = .ok () (w8.drew.setRow g F.arr) := same_fault hXg2
            have hFg := put_at F hT hF4d
            have hbg := below_setRow (cs := F.arr) hbzd (g := g) (by have := HG.out; omega)
            have hokg : F.ok (w8.drew.setRow g F.arr) := ⟨hT, (hok3.1.below hdr).args.apart ho1 (fun a e => (hok3.2 a e).2)⟩
            have HP : Hid (DecPost w xs (.returned (.tuple #[.agg F.arr, .agg (fv 0 0)])) (w8.drew.setRow g F.arr)) := Lib.hid ⟨F, 0, 0, rfl, Lib.hid ⟨by rw [HD.out]; exact HR2.out.1, by rw [HD.out]; exact HRR.out⟩, hokg, fun a e => (hok3.2 a e).1, hbg⟩
            clear hok3 hokg ho1 HOK
            generalize w8.drew.setRow g F.arr = w9 at *
            go_wp2_with fail
            go_region_law (fail)
            all_goals
              try go_wp2_with fail
              try simp only [Exit.inBlock, Exit.then]
              exact bodyPost_ret (v := .tuple #[.agg F.arr, .agg (fv 0 0)]) (dec_ret rfl rfl hFg hXg2) rfl HP.out
          · have heq := run_fault_ne x y false (by rw [Bool.and_eq_false_iff]; left; rw [beq_eq_false_iff_ne]; exact hx0)
            have HD2 : Hid (decF xs = (noF, x, y)) := Lib.hid (by
              rw [HD.out]
              have e := HRD.out.1
              refine Prod.ext ?_ e
              have hh := readF_none (p := ys) (head := k) (by rw [e]; exact hx0)
              exact hh)
            have e2 := get_fault hX5d
            have sF := same_zero hF4d
            have s1 := put_fault x y hX4d
            have ho1 := Fr.only_row w8.drew g2 (fv x y)
            have hFq := hF4d.only ho1 hgg
            have sF2 := same_zero hFq
            have hXq := set_fault x y hX4d
            have hbq := below_setRow (cs := fv x y) hbzd (g := g2) (by have := HG2.out; omega)
            have HP : Hid (DecPost w xs (.returned (.tuple #[.agg (kF 0).arr, .agg (fv x y)])) (w8.drew.setRow g2 (fv x y))) := Lib.hid (dec_bad HD2 hbq)
            clear hx0 ho1 HOK
            generalize w8.drew.setRow g2 (fv x y) = w9 at *
            go_wp2_with fail
            go_region_law (fail)
            all_goals
              try go_wp2_with fail
              try simp only [Exit.inBlock, Exit.then]
              exact bodyPost_ret (v := .tuple #[.agg (kF 0).arr, .agg (fv x y)]) (dec_ret rfl rfl hFq hXq) rfl HP.out
        · have b1 : (x != 0) = true := by simpa using h1
          have HD : Hid (decF xs = (noF, 71, (m : Int) - 4)) := Lib.hid (by
            have e := HO.out
            unfold decF; rw [HN.out, if_neg (by simp), if_neg (by rw [HXL.out]; exact HM.out), if_neg (by rw [HXL.out, HMN.out]; simp), if_pos (by rw [← e]; exact h1)])
          have hwr : IntKind.i64.wrap ((m : Int) - 4) = (m : Int) - 4 := IntWalk.i64_in _ ⟨by have := HMN.out; omega, by have := HMN.out; omega⟩
          have sF := same_zero hF2
          have sX := put_fault 71 ((m : Int) - 4) hX2
          have hXn := set_fault 71 ((m : Int) - 4) hX2
          have hFn := hF2.only (Fr.only_row w3 g2 (fv 71 ((m : Int) - 4))) hgg
          have hbn := below_setRow (cs := fv 71 ((m : Int) - 4)) hbx (g := g2) (by have := HG2.out; omega)
          clear h1
          go_wp2_with fail
          try simp only [Exit.inBlock, Exit.then]
          exact bodyPost_ret (v := .tuple #[.agg (kF 0).arr, .agg (fv 71 ((m : Int) - 4))]) (dec_ret rfl rfl hFn hXn) rfl (dec_bad HD hbn)
  · have b0 : (x != 0) = true := by simpa using h0
    have HD : Hid (decF xs = (noF, x, 0)) := Lib.hid (by unfold decF; rw [HN.out, if_pos h0])
    have sF := same_zero hF1
    have sX := put_fault x 0 hX1
    have hXn := set_fault x 0 hX1
    have hFn := hF1.only (Fr.only_row w2 g2 (fv x 0)) hgg
    have hbn := below_setRow (cs := fv x 0) hbw (g := g2) (by have := HG2.out; omega)
    clear h0
    go_wp2_with fail
    try simp only [Exit.inBlock, Exit.then]
    exact bodyPost_ret (v := .tuple #[.agg (kF 0).arr, .agg (fv x 0)]) (dec_ret rfl rfl hFn hXn) rfl (dec_bad HD hbn)
end
end Go.Proofs.YtelfephmjkipoaaGreat
end
/-! Decoded bytes are the one form of the frame that they say: the plain law. -/
section
namespace Go.Proofs.YtelfephmjkipoaaGreat
open Go.RowKit Go.Kit CrcM Go.Proofs.YtelfephmjkipoaaGreatW.PrintWords
theorem head_num {xs : List Int} {m k : Nat} (h : headF xs = (m, k, 0)) (hk : k ≠ 0 ∨ m ≠ 0) : num xs 0 = (m, k, 0) ∧ m ≤ 2097152 ∧ m ≠ 0 := by
  obtain ⟨p, q, x, hN⟩ : ∃ p q x, num xs 0 = (p, q, x) := ⟨_, _, _, rfl⟩
  unfold headF at h
  rw [hN] at h
  dsimp only at h
  split at h
  · cases h; omega
  split at h
  · next h0 => exact absurd (congrArg (fun p => p.2.2) h) h0
  · next h0 =>
    have h0 := Classical.not_not.mp h0
    split at h
    · exact absurd (congrArg (fun p => p.2.2) h) (by show ¬ (3 : Int) = 0; decide)
    split at h
    · exact absurd (congrArg (fun p => p.2.2) h) (by show ¬ (70 : Int) = 0; decide)
    · cases h
      exact ⟨by rw [hN, h0], by omega, by assumption⟩
theorem need_k {xs : List Int} {m k : Nat} (h : needF xs = (m, k, 0)) (hm : m ≠ 0) : k ≠ 0 := by
  unfold needF at h
  split at h
  · exact absurd (congrArg Prod.fst h).symm hm
  · next hn =>
    have e : (headF xs).2.1 = k := congrArg (fun p => p.2.1) h
    rw [← e]
    exact fun e => hn (.inr e)
theorem seal_of_open {xs ys : List Int} (h : openR xs = (ys, 0)) : xs = sealed ys := by
  unfold openR at h
  split at h
  · cases h
  split at h
  · next h4 he => cases h; unfold sealed; rw [he, List.take_append_drop]
  · cases h
theorem dec_form {xs : List Int} (hb : Byt xs) {f : Fr} {y : Int} (h : decF xs = (f, 0, y)) : chkF f = 0 ∧ encF f = xs ∧ ReadOk f := by
  obtain ⟨m, k, e, hN⟩ : ∃ m k e, needF xs = (m, k, e) := ⟨_, _, _, rfl⟩
  obtain ⟨ys, er, hO⟩ : ∃ ys er, openR xs = (ys, er) := ⟨_, _, rfl⟩
  unfold decF at h
  rw [hN, hO] at h
  dsimp only at h
  split at h
  · next h0 => exact absurd (congrArg (fun p => p.2.1) h) h0
  next h0 =>
  have h0 := Classical.not_not.mp h0
  subst h0
  split at h
  · exact absurd (congrArg (fun p => p.2.1) h) (by show ¬ (4 : Int) = 0; decide)
  next hm =>
  split at h
  · exact absurd (congrArg (fun p => p.2.1) h) (by show ¬ (6 : Int) = 0; decide)
  next hm2 =>
  split at h
  · exact absurd (congrArg (fun p => p.2.1) h) (by show ¬ (71 : Int) = 0; decide)
  next h1 =>
  have h1 := Classical.not_not.mp h1
  subst h1
  obtain ⟨m0, hh, hm0⟩ := need_head hN (fun e => hm (.inl e))
  have hs := seal_of_open hO
  obtain ⟨ht, h4⟩ := open_take hO
  have hyb : Byt ys := by rw [ht]; exact hb.take _
  have hyl : ys.length = xs.length - 4 := by rw [ht, List.length_take]; omega
  have hk : k ≤ ys.length := by omega
  have hm0' : k ≠ 0 ∨ m0 ≠ 0 := by
    exact .inl (need_k hN (fun e => hm (.inl e)))
  obtain ⟨hn, hn1, hn2⟩ := head_num hh hm0'
  obtain ⟨g1, g2⟩ := num_form hb hn
  obtain ⟨hd, hmay, hro⟩ := read_form hyb hk h
  rw [List.drop_zero] at g1
  have htk : ys.take k = sh m0 := by rw [ht, List.take_take, Nat.min_eq_left (by omega)]; exact g1
  have hy : ys = sh m0 ++ bodyF f := by rw [← htk, ← hd, List.take_append_drop]
  have hlen : (bodyF f).length = m0 := by rw [← hd, List.length_drop]; omega
  have hc : chkF f = 0 := chk_ok hmay (by have := body_le f hmay; omega)
  refine ⟨hc, ?_, hro⟩
  unfold encF
  rw [if_neg (by rw [hc]; decide), hlen, ← hy, ← hs]
theorem core_wf {f g : Fr} (h : g.core = f) (ho : ReadOk f) (hk : 1 ≤ f.k ∧ f.k ≤ 6) : g.wf := by
  subst h
  have h1 := ho.hello
  have h2 := ho.resp
  have e := ho.only
  have hv : g.core.v = (onlyF g.core).v := by have t := congrArg Fr.v e; exact t
  have hs : g.core.s = (onlyF g.core).s := by have t := congrArg Fr.s e; exact t
  have ht : g.core.st = (onlyF g.core).st := by have t := congrArg Fr.st e; exact t
  have b1 : -9223372036854775808 ≤ g.core.v ∧ g.core.v ≤ 9223372036854775807 := by
    by_cases hc : g.core.k = 1
    · have := h1 hc; omega
    · rw [hv, show (onlyF g.core).v = if g.core.k = 1 then g.core.v else 0 from rfl, if_neg hc]; omega
  have b2 : -9223372036854775808 ≤ g.core.s ∧ g.core.s ≤ 9223372036854775807 := by
    by_cases hc : g.core.k = 1
    · have := h1 hc; omega
    · rw [hs, show (onlyF g.core).s = if g.core.k = 1 then g.core.s else 0 from rfl, if_neg hc]; omega
  have b3 : -9223372036854775808 ≤ g.core.st ∧ g.core.st ≤ 9223372036854775807 := by
    by_cases hc : g.core.k = 3
    · have := h2 hc; omega
    · rw [ht, show (onlyF g.core).st = if g.core.k = 3 then g.core.st else 0 from rfl, if_neg hc]; omega
  have m1 := ho.mo
  have m2 := ho.fu
  have m3 := ho.di
  exact ⟨ho.id.1, ho.id.2, ⟨by show _ ≤ g.core.k; omega, by show g.core.k ≤ _; omega⟩, b1, b2, b3, ⟨by show _ ≤ g.core.mo; omega, by show g.core.mo ≤ _; omega⟩, ⟨by show _ ≤ g.core.fu; omega, by show g.core.fu ≤ _; omega⟩, ⟨by show _ ≤ g.core.di; omega, by show g.core.di ≤ _; omega⟩, ho.byt⟩
end Go.Proofs.YtelfephmjkipoaaGreat
end
/-! The law's alive; the walk of FrameWrites. -/
section
namespace Go.Proofs.YtelfephmjkipoaaGreat
open Go.RowKit Go.Kit Go.Proofs.YtelfephmjkipoaaGreatW.PrintWords
theorem bye_ok (w : World) : byeF.ok w := ⟨rfl, RT.nil w⟩
theorem byt_zeros (n : Nat) : Byt (List.replicate n 0) := fun x hx => by
  have := (List.mem_replicate.1 hx).2
  omega
theorem bye_wf : byeF.wf := ⟨by decide, by decide, ⟨by decide, by decide⟩, ⟨by decide, by decide⟩, ⟨by decide, by decide⟩, ⟨by decide, by decide⟩, ⟨by decide, by decide⟩, ⟨by decide, by decide⟩, ⟨by decide, by decide⟩, byt_zeros 32⟩
theorem bye_may : May byeF := ⟨by decide, by decide, rfl, by decide, by decide, by decide, by decide, fun e => absurd e (by decide), fun e => absurd e (by decide), fun s hs => by cases hs⟩
theorem bye_body : bodyF byeF = [5] := by
  unfold bodyF layF
  rw [if_neg (by decide), if_neg (by decide), if_neg (by decide), if_neg (by decide), if_neg (by decide), List.append_nil]
  exact sh_small (by decide)
theorem bye_chk : chkF byeF = 0 := chk_ok bye_may (by rw [bye_body]; decide)
theorem bye_len : (encF byeF).length = 6 := by
  unfold encF
  rw [bye_chk, if_neg (by decide), sealed_length, bye_body, List.length_append]
  rw [show ([5] : List Int).length = 1 from rfl, sh_small (by decide)]
  rfl
attribute [-go_sem] Instr.build
set_option maxHeartbeats 4000000 in
set_option maxRecDepth 100000 in
theorem alive_any (w : World) : Calls Tryz.prog 7 #[] w fun e w' => e = .returned (.bool true) ∧ Below w.heap.size w w' := by
  have hbl := bye_built
  have cE := fun W => Encode_any (f := byeF) (w := W) (bye_ok W) bye_wf (fun s hs => by cases hs)
  have cR := fun W => rEncode_any (f := byeF) (w := W) (bye_ok W) bye_wf (fun s hs => by cases hs)
  have cB := Bye_any
  rw [bye_chk] at cE cR
  have HL := Lib.hid bye_len
  obtain ⟨L, hL⟩ : ∃ L, encF byeF = L := ⟨_, rfl⟩
  rw [hL] at cE cR HL
  unfold Fr.val at cE cR cB
  generalize byeF.arr = FA at *
  clear hL
  go_enter Tryz.func7, Tryz.ntmps7
  go_wp2_with fail
  refine (cB _).mono ?_
  rintro e w1 ⟨rfl, hb1⟩
  go_wp2_with fail
  refine (cE _).mono ?_
  rintro e w2 ⟨v2, rfl, hO2, hb2⟩
  obtain ⟨A2, c2, rfl, hR2, _⟩ := hO2.reads'
  have hb3 := below_step hb1 hb2
  go_wp2_with fail
  refine (cR _).mono ?_
  rintro e w3 ⟨v3, rfl, hO3, hb4⟩
  obtain ⟨A3, c3, rfl, hR3, _⟩ := hO3.reads'
  have hb5 := below_step hb3 hb4
  have hR4 := hR2.below hb4
  obtain ⟨n, hn⟩ : ∃ n, L.length = n := ⟨_, rfl⟩
  rw [hn] at HL hO2 hO3 hR2 hR3 hR4 ⊢
  have h6 : ((n : Int) == 6) = true := by rw [beq_iff_eq, HL.out]; rfl
  clear hO2 hO3 hR2 hb1 hb2 hb3 hb4 hn cE cR cB
  go_wp2_with fail
  refine (Equal_same hR4 hR3 rfl).mono ?_
  rintro e w4 ⟨rfl, rfl⟩
  go_wp2_with fail
  go_ret
  exact ⟨rfl, hb5⟩
attribute [-go_sem] Instr.loadAt
end Go.Proofs.YtelfephmjkipoaaGreat
end
