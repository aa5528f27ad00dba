/- Contracts of functions that the laws reach (texts laid together, part 5): each says of its call what it answers and what it leaves of memory; the conditions stand in each statement. -/
import Derived.Test.YtelfephmjkipoaaMb4
import Derived.Test.YtelfephmjkipoaaMb2
import Derived.Deep.QuietTactic
import Derived.BigQuiet
set_option linter.unusedVariables false
/-! The contracts of the document's Encode and of Need. -/
section
namespace Go.Proofs.Ytelfephmjkipoaa
open Go.RowKit Go.Kit Go.Proofs.YtelfephmjkipoaaW.PrintWords
section
variable {f : Fr} {w : World}
attribute [-go_sem] Instr.loadAt
set_option maxHeartbeats 8000000 in
set_option maxRecDepth 100000 in
theorem rEncode_any (hf : f.ok w) (hw : f.wf) (ha : ∀ s ∈ f.args, s.size ≤ 9223372036854775807) : Calls Try.prog 21 #[f.val] w fun e w' => ∃ v, e = .returned (.tuple #[v, .int .i64 (chkF f)]) ∧ OB 5 w' w.heap.size v (encF f) ∧ Below w.heap.size w w' := by
  have hb := below_alloc (Below.refl _ w) (.cells f.arr 29)
  have hF := boxed hf.tool w
  have hif : (Try.prog.info? 29).map (·.size) = some f.cells.length := by rw [frame_size]; have := Fr.arr_size f hf.tool; simp [Fr.arr] at this; rw [this]
  have cC : ∀ W, Below w.heap.size w W → Calls Try.prog 37 #[.agg f.arr] W (fun e w' => e = .returned (.int .i64 (chkF f)) ∧ Below W.heap.size W w') := fun W hbw => rCheck_any (hf.below hbw) hw ha
  have cB : chkF f = 0 → ∀ W, Below w.heap.size w W → Calls Try.prog 38 #[.agg f.arr] W (Laid W (bodyF f)) := fun hc W hbw => by
    obtain ⟨hm, h2, _⟩ := chk_facts hc
    exact rbody_any hm.k1 hm.k6 (hf.below hbw) hw (may_lay hm hf.args.len h2)
  obtain ⟨c, hc⟩ : ∃ c, chkF f = c := ⟨_, rfl⟩
  have HE : Hid (encF f = if c ≠ 0 then [] else sealed (sh (bodyF f).length ++ bodyF f)) := Lib.hid (by unfold encF; rw [hc])
  have HC := Lib.hid hc
  rw [hc] at cC ⊢
  clear hc hf hw ha
  show Calls Try.prog _ #[.agg f.arr] w _
  go_enter Try.func21, Try.ntmps21
  go_upto_region 1 with (fail)
  generalize w.alloc (.cells f.arr 29) = w1 at *
  obtain ⟨g, hg⟩ : ∃ g, w.heap.size = g := ⟨_, rfl⟩
  rw [hg] at hF ⊢
  clear hg
  have e2 := load_frame f hif w1 g hF
  go_wp2_with fail
  refine (cC w1 hb).mono ?_
  rintro e w2 ⟨rfl, hb2⟩
  have hb3 := below_step hb hb2
  have hF2 := hF.below hb2
  clear e2 hb hb2 hF cC
  by_cases h0 : c = 0
  · subst h0
    have e2 := load_frame f hif w2 g hF2
    have HL := Lib.hid (chk_facts HC.out).2.2
    go_wp2_with fail
    refine (cB HC.out w2 hb3).mono ?_
    rintro e w3 ⟨v3, rfl, hO3, hb4⟩
    have hb5 := below_step hb3 hb4
    obtain ⟨A3, c3, rfl, hR3, _⟩ := hO3.reads'
    obtain ⟨m, hm⟩ : ∃ m, (bodyF f).length = m := ⟨_, rfl⟩
    have hml : m ≤ 2097152 := by rw [← hm]; exact HL.out
    have hwm := u64_nn (x := (m : Int)) (by omega) (by omega)
    rw [hm] at hO3 hR3 HE ⊢
    have HM := Lib.hid hm
    clear e2 hb3 hb4 hF2 cB hm
    go_wp2_with fail
    refine (rUint_of (m : Int) (by omega) (by omega) w3).mono ?_
    rintro e w4 ⟨v4, rfl, hO4, hb6⟩
    have hb7 := below_step hb5 hb6
    have hR4 := hR3.below hb6
    have hO5 := hO4.less hb5.size
    rw [Int.toNat_natCast] at hO5
    have hls := sh_ten (n := m) (by omega)
    have HLS := Lib.hid hls
    clear hO4 hO3 hR3 hb5 hb6 hls
    go_wp2_with (at_builtin; refine push_row (w0 := w) w.heap.size rfl (.tmp 16) (.tmp 17) 38 (bodyF f) A3 m c3 rfl Try.underlying38 u8_info rfl rfl hO5 hR4 hb7 hb7.size (by have := HLS.out; omega) ?_)
    intro v6 w6 hO6 hb8 _ _
    obtain ⟨A6, c6, rfl, hR6, _⟩ := hO6.reads'
    obtain ⟨m6, hm6⟩ : ∃ q, (sh m ++ bodyF f).length = q := ⟨_, rfl⟩
    rw [hm6] at hO6 hR6 ⊢
    have hm6l : m6 ≤ 2097162 := by rw [← hm6, List.length_append, HM.out]; have := HLS.out; omega
    clear hm6 hR4 hO5 hb7
    go_wp2_with fail
    refine (rSeal_any A6 m6 c6 (sh m ++ bodyF f) w6 hR6 (by omega)).mono ?_
    rintro e w7 ⟨v7, rfl, hO7, hb9⟩
    have hb10 := below_step hb8 hb9
    have hO8 : OB 5 w7 w.heap.size v7 (encF f) := by
      rw [HE.out, if_neg (by decide)]
      exact hO7.less hb8.size
    go_wp2_with fail
    go_ret2
    exact ⟨_, rfl, hO8, hb10⟩
  · have h0b : (c != 0) = true := by simpa using h0
    have hO8 : OB 5 w2 w.heap.size (.slice none 0 0) (encF f) := by
      rw [HE.out, if_pos h0]
      exact OB.nil _ _ _
    clear h0
    go_wp2_with fail
    go_ret2
    exact ⟨_, rfl, hO8, hb3⟩
end
theorem need_of {xs : List Int} {m k : Nat} {x : Int} (h : headF xs = (m, k, x)) : needF xs = if x ≠ 0 ∨ k = 0 then (0, 0, x) else (m + k + 4, k, 0) := by unfold needF; rw [h]
theorem byte_only {W W1 : World} {r n c : Nat} {A : Option Addr} {D : Rd} (h : QR W r A n c D) (hb : Below W.heap.size W W1) : QR W1 r A n c D := h.below hb
set_option maxHeartbeats 8000000 in
set_option maxRecDepth 100000 in
theorem rNeed_any (A : Option Addr) (n cap : Nat) (xs : List Int) (w : World) (hx : RB w A n xs) (hl : n ≤ 140737488355328) :
    Calls Try.prog 29 #[.slice A n cap] w fun e w' => ∃ (m k : Nat) (x : Int), e = .returned (.tuple #[.int .i64 (m : Int), .int .i64 (k : Int), .int .i64 x]) ∧ Hid (needF xs = (m, k, x)) ∧ Below w.heap.size w w' := by
  go_enter Try.func29, Try.ntmps29
  go_wp2_with fail
  refine (rNew_any A n cap xs _ hx hl).mono ?_
  rintro e w6 ⟨Aq, d, rfl, hRq, hd, hAq, hb6⟩
  have hbl := below_alloc (Below.refl w6.heap.size w6) (.cells #[.slice Aq n d, .int .i64 0, .int .i64 0, .int .i64 0] 81)
  have hqk := heap_alloc_new w6 (.cells #[.slice Aq n d, .int .i64 0, .int .i64 0, .int .i64 0] 81)
  have hRq7 := hRq.below hbl
  have hb7 := below_step hb6 hbl
  go_wp2_with fail
  generalize w6.alloc (.cells #[.slice Aq n d, .int .i64 0, .int .i64 0, .int .i64 0] 81) = w7 at *
  have hq7 : QR w7 w6.heap.size Aq n d (Rd.new xs) := ⟨hqk, hRq7, hd, hl, Nat.zero_le _, fun _ => rfl, fun a e => Nat.ne_of_lt (hAq a e).2, fun a e => Nat.lt_of_lt_of_le (hAq a e).2 hbl.size⟩
  have hqn : w.heap.size ≤ w6.heap.size := hb6.size
  generalize w6.heap.size = q at hq7 hqn ⊢
  clear hRq hRq7 hqk hAq hbl hb6
  have hok := hq7.ok
  refine (rRUint_any hq7).mono ?_
  rintro e w8 ⟨D1, v, rfl, HU, hq8, ho8⟩
  have hb8 := Below.only hb7 ho8 hb7.size (fun k e => by rw [e]; exact hqn)
  have HUU := HU.out
  have q1 := hq8.q1
  have q2 := hq8.q2
  clear hq7 ho8 hb7 HU
  rcases uintS_cases hok rfl with ⟨m, k, hN, hu, hm, hk, hk1⟩ | ⟨m, k, x, hx0, hN, hu⟩
  · rw [show (Rd.new xs).bs = xs from rfl, show (Rd.new xs).at_ = 0 from rfl] at hN
    rw [hu] at HUU
    cases HUU
    have HNX := Lib.hid hN
    have hk10 : k ≤ 10 := by have := num_facts hx.byt (Nat.zero_le xs.length); rw [hN] at this; exact this.2.2.1
    rw [show (((Rd.new xs).to ((Rd.new xs).at_ + k)).at_ : Int) = (k : Int) from by show ((0 + k : Nat) : Int) = _; rw [Nat.zero_add]] at q1
    rw [show ((Rd.new xs).to ((Rd.new xs).at_ + k)).why = 0 from rfl] at q2
    clear hN hu hok hk hq8
    by_cases hbig : 2097152 < v
    · have hbig2 : (2097152 : Int) < (v : Int) := by omega
      have HF : Hid (needF xs = (0, 0, 3)) := Lib.hid (by
        rw [need_of (show headF xs = (0, 0, 3) by unfold headF; rw [HNX.out, if_neg (by simp), if_neg (by simp), if_pos hbig]), if_pos (.inr rfl)])
      go_wp2_with fail
      go_ret3
      exact ⟨0, 0, 3, rfl, HF, hb8⟩
    · have hbig2 : ¬ (2097152 : Int) < (v : Int) := by omega
      by_cases hz : v = 0
      · have hz2 : ((v : Int) == 0) = true := by rw [beq_iff_eq]; omega
        have HF : Hid (needF xs = (0, 0, 70)) := Lib.hid (by
          rw [need_of (show headF xs = (0, 0, 70) by unfold headF; rw [HNX.out, if_neg (by simp), if_neg (by simp), if_neg hbig, if_pos hz]), if_pos (.inr rfl)])
        clear hz
        go_wp2_with fail
        go_ret3
        exact ⟨0, 0, 70, rfl, HF, hb8⟩
      · have hz2 : ((v : Int) == 0) = false := by rw [beq_eq_false_iff_ne]; omega
        have HF : Hid (needF xs = (v + k + 4, k, 0)) := Lib.hid (by
          rw [need_of (show headF xs = (v, k, 0) by unfold headF; rw [HNX.out, if_neg (by simp), if_neg (by simp), if_neg hbig, if_neg hz]), if_neg (by simp; omega)])
        have w1 : IntKind.i64.wrap (v : Int) = (v : Int) := IntWalk.i64_in _ ⟨by omega, by omega⟩
        have w2 : IntKind.i64.wrap ((k : Int) + (v : Int)) = (k : Int) + (v : Int) := IntWalk.i64_in _ ⟨by omega, by omega⟩
        have w3 : IntKind.i64.wrap ((k : Int) + (v : Int) + 4) = ((v + k + 4 : Nat) : Int) := by rw [IntWalk.i64_in _ ⟨by omega, by omega⟩]; push_cast; omega
        have hb9 := fun j => pw_below_drewN hb8 j
        clear hz hbig hm hk1 hk10
        go_wp2_with fail
        go_quiet (fail)
        go_wp2_with fail
        go_ret3
        exact ⟨v + k + 4, k, 0, rfl, HF, hb9 _⟩
  · rw [show (Rd.new xs).bs = xs from rfl, show (Rd.new xs).at_ = 0 from rfl] at hN
    rw [hu] at HUU
    cases HUU
    have HNX := Lib.hid hN
    rw [show ((Rd.new xs).fail x (Rd.new xs).at_).why = x from rfl] at q2
    clear hN hu hok hq8 q1
    by_cases h4 : x = 4
    · subst h4
      have HF : Hid (needF xs = (0, 0, 0)) := Lib.hid (by
        rw [need_of (show headF xs = (0, 0, 0) by unfold headF; rw [HNX.out, if_pos rfl]), if_pos (.inr rfl)])
      clear hx0
      go_wp2_with fail
      go_ret3
      exact ⟨0, 0, 0, rfl, HF, hb8⟩
    · have h4b : (x == 4) = false := by rw [beq_eq_false_iff_ne]; exact h4
      have h0b : (x != 0) = true := by simpa using hx0
      have HF : Hid (needF xs = (0, 0, x)) := Lib.hid (by
        rw [need_of (show headF xs = (0, 0, x) by unfold headF; rw [HNX.out, if_neg h4, if_pos hx0]), if_pos (.inl hx0)])
      have hb9 := fun j => pw_below_drewN hb8 j
      clear h4 hx0
      go_wp2_with fail
      go_quiet (fail)
      go_wp2_with fail
      go_ret3
      exact ⟨0, 0, x, rfl, HF, hb9 _⟩
end Go.Proofs.Ytelfephmjkipoaa
end
/-! The law's alive; the walk of FrameWrites. -/
section
namespace Go.Proofs.Ytelfephmjkipoaa
open Go.RowKit Go.Kit Go.Proofs.YtelfephmjkipoaaW.PrintWords
theorem bye_ok (w : World) : byeF.ok w := ⟨rfl, RT.nil w⟩
theorem byt_zeros (n : Nat) : Byt (List.replicate n 0) := fun x hx => by
  have := (List.mem_replicate.1 hx).2
  omega
theorem bye_wf : byeF.wf := ⟨by decide, by decide, ⟨by decide, by decide⟩, ⟨by decide, by decide⟩, ⟨by decide, by decide⟩, ⟨by decide, by decide⟩, ⟨by decide, by decide⟩, ⟨by decide, by decide⟩, ⟨by decide, by decide⟩, byt_zeros 32⟩
theorem bye_may : May byeF := ⟨by decide, by decide, rfl, by decide, by decide, by decide, by decide, fun e => absurd e (by decide), fun e => absurd e (by decide), fun s hs => by cases hs⟩
theorem bye_body : bodyF byeF = [5] := by
  unfold bodyF layF
  rw [if_neg (by decide), if_neg (by decide), if_neg (by decide), if_neg (by decide), if_neg (by decide), List.append_nil]
  exact sh_small (by decide)
theorem bye_chk : chkF byeF = 0 := chk_ok bye_may (by rw [bye_body]; decide)
theorem bye_len : (encF byeF).length = 6 := by
  unfold encF
  rw [bye_chk, if_neg (by decide), sealed_length, bye_body, List.length_append]
  rw [show ([5] : List Int).length = 1 from rfl, sh_small (by decide)]
  rfl
attribute [-go_sem] Instr.build
set_option maxHeartbeats 4000000 in
set_option maxRecDepth 100000 in
theorem alive_any (w : World) : Calls Try.prog 25 #[] w fun e w' => e = .returned (.bool true) ∧ Below w.heap.size w w' := by
  have hbl := bye_built
  have cE := fun W => Encode_any (f := byeF) (w := W) (bye_ok W) bye_wf (fun s hs => by cases hs)
  have cR := fun W => rEncode_any (f := byeF) (w := W) (bye_ok W) bye_wf (fun s hs => by cases hs)
  have cB := Bye_any
  rw [bye_chk] at cE cR
  have HL := Lib.hid bye_len
  obtain ⟨L, hL⟩ : ∃ L, encF byeF = L := ⟨_, rfl⟩
  rw [hL] at cE cR HL
  unfold Fr.val at cE cR cB
  generalize byeF.arr = FA at *
  clear hL
  go_enter Try.func25, Try.ntmps25
  go_wp2_with fail
  refine (cB _).mono ?_
  rintro e w1 ⟨rfl, hb1⟩
  go_wp2_with fail
  refine (cE _).mono ?_
  rintro e w2 ⟨v2, rfl, hO2, hb2⟩
  obtain ⟨A2, c2, rfl, hR2, _⟩ := hO2.reads'
  have hb3 := below_step hb1 hb2
  go_wp2_with fail
  refine (cR _).mono ?_
  rintro e w3 ⟨v3, rfl, hO3, hb4⟩
  obtain ⟨A3, c3, rfl, hR3, _⟩ := hO3.reads'
  have hb5 := below_step hb3 hb4
  have hR4 := hR2.below hb4
  obtain ⟨n, hn⟩ : ∃ n, L.length = n := ⟨_, rfl⟩
  rw [hn] at HL hO2 hO3 hR2 hR3 hR4 ⊢
  have h6 : ((n : Int) == 6) = true := by rw [beq_iff_eq, HL.out]; rfl
  clear hO2 hO3 hR2 hb1 hb2 hb3 hb4 hn cE cR cB
  go_wp2_with fail
  refine (Equal_same hR4 hR3 rfl).mono ?_
  rintro e w4 ⟨rfl, rfl⟩
  go_wp2_with fail
  go_ret
  exact ⟨rfl, hb5⟩
attribute [-go_sem] Instr.loadAt
set_option maxHeartbeats 8000000 in
set_option maxRecDepth 100000 in
theorem FrameWrites_walk (f : Fr) (w : World) (hf : f.ok w) (hw : f.wf) (ha : ∀ s ∈ f.args, s.size ≤ 9223372036854775807) :
    Calls Try.prog 5 #[f.val] w fun e w' => e = .returned (.bool true) ∧ Below w.heap.size w w' := by
  have hb := below_alloc (Below.refl _ w) (.cells f.arr 29)
  have hF := boxed hf.tool w
  have hif : (Try.prog.info? 29).map (·.size) = some f.cells.length := by rw [frame_size]; have := Fr.arr_size f hf.tool; simp [Fr.arr] at this; rw [this]
  have cE := fun W (hbw : Below w.heap.size w W) => Encode_any (hf.below hbw) hw ha
  have cR := fun W (hbw : Below w.heap.size w W) => rEncode_any (hf.below hbw) hw ha
  have cS := fun W (hbw : Below w.heap.size w W) => fSize_any (hf.below hbw) hw ha
  have cC := fun W (hbw : Below w.heap.size w W) => Check_any (hf.below hbw) hw ha
  obtain ⟨L, hL⟩ : ∃ L, encF f = L := ⟨_, rfl⟩
  obtain ⟨c, hc⟩ : ∃ c, chkF f = c := ⟨_, rfl⟩
  rw [hL, hc] at cE cR cS
  rw [hc] at cC
  unfold Fr.val at cE cR cS cC
  clear hL hc hf hw ha
  show Calls Try.prog _ #[.agg f.arr] w _
  go_enter Try.func5, Try.ntmps5
  go_upto_region 1 with (fail)
  generalize w.alloc (.cells f.arr 29) = w1 at *
  obtain ⟨g, hg⟩ : ∃ g, w.heap.size = g := ⟨_, rfl⟩
  rw [hg] at hF ⊢
  clear hg
  have e1 := load_frame f hif w1 g hF
  go_wp2_with fail
  refine (cE w1 hb).mono ?_
  rintro e w2 ⟨v2, rfl, hO2, hb2⟩
  obtain ⟨A2, c2, rfl, hR2, _⟩ := hO2.reads'
  have hb3 := below_step hb hb2
  have hF3 := hF.below hb2
  have e2 := load_frame f hif w2 g hF3
  clear e1 hb hb2 hF hO2 cE
  go_wp2_with fail
  refine (cR w2 hb3).mono ?_
  rintro e w3 ⟨v3, rfl, hO3, hb4⟩
  obtain ⟨A3, c3, rfl, hR3, _⟩ := hO3.reads'
  have hb5 := below_step hb3 hb4
  have hF4 := hF3.below hb4
  have hR4 := hR2.below hb4
  have e3 := load_frame f hif w3 g hF4
  clear e2 hb3 hb4 hF3 hR2 hO3 cR
  go_wp2_with fail
  refine (cS w3 hb5).mono ?_
  rintro e w4 ⟨rfl, hb6⟩
  have hb7 := below_step hb5 hb6
  have hF5 := hF4.below hb6
  have hR5 := hR4.below hb6
  have hR6 := hR3.below hb6
  have e4 := load_frame f hif w4 g hF5
  clear e3 hb5 hb6 hF4 hR3 hR4 cS
  obtain ⟨n, hn⟩ : ∃ n, L.length = n := ⟨_, rfl⟩
  rw [hn] at hR5 hR6 ⊢
  clear hn
  go_wp2_with fail
  refine (Equal_same hR5 hR6 rfl).mono ?_
  rintro e w5 ⟨rfl, rfl⟩
  go_wp2_with fail
  refine (cC _ hb7).mono ?_
  rintro e w6 ⟨rfl, hb8⟩
  have hb9 := below_step hb7 hb8
  clear e4
  go_wp2_with fail
  refine (alive_any _).mono ?_
  rintro e w7 ⟨rfl, hb10⟩
  have hb11 := below_step hb9 hb10
  go_wp2_with fail
  go_ret
  exact ⟨rfl, hb11⟩
end Go.Proofs.Ytelfephmjkipoaa
end
/-! The walk of FrameNeeds. -/
section
namespace Go.Proofs.Ytelfephmjkipoaa
open Go.RowKit Go.Kit Go.Proofs.YtelfephmjkipoaaW.PrintWords
attribute [local go_sem] Go.Proofs.YtelfephmjkipoaaW.PrintMore.max_two Go.Proofs.YtelfephmjkipoaaW.PrintMore.min_two
attribute [-go_sem] run_slice_h run_slice_any
set_option maxHeartbeats 8000000 in
set_option maxRecDepth 100000 in
theorem FrameNeeds_walk (A : Option Addr) (n cap : Nat) (xs : List Int) (w : World) (hx : RB w A n xs) (hc : n ≤ cap) (hl : n ≤ 140737488355328) :
    Calls Try.prog 7 #[.slice A n cap] w fun e w' => e = .returned (.bool true) ∧ Below w.heap.size w w' := by
  obtain ⟨t, ht⟩ : ∃ t : Nat, t = min n 12 := ⟨_, rfl⟩
  have hmin : Builtin.min2 (.int .i64 (n : Int)) (.int .i64 12) = pure (.int .i64 (t : Int)) := min2_is (by omega)
  have htn : t ≤ n := by omega
  have ht12 : t ≤ 12 := by omega
  clear ht
  go_enter Try.func7, Try.ntmps7
  go_wp2_with fail
  go_loopg [3] (t + 1) (fun gk v3 w' => ∃ i : Nat, v3 = .int .i64 (i : Int) ∧ Below w.heap.size w w' ∧ Hid (i + gk = t + 1))
  case atStart => exact ⟨0, rfl, Below.refl _ _, Lib.hid (by omega)⟩
  case round =>
    obtain ⟨i, rfl, hb, HG⟩ := hrel
    by_cases hi : i ≤ t
    · have hi2 : (i : Int) ≤ (t : Int) := by omega
      have hsl := head_bytes A n cap i (by omega)
      have hxi := RB.take_ (hx.below hb) i (by omega)
      go_wp2_with fail
      refine (Need_any A i cap _ _ hxi (by omega)).mono ?_
      rintro e w1 ⟨m, k, x, rfl, HN, hb1⟩
      have hb2 := below_step hb hb1
      have hxj := hxi.below hb1
      clear hxi hb hb1
      go_wp2_with fail
      refine (rNeed_any A i cap _ _ hxj (by omega)).mono ?_
      rintro e w2 ⟨m2, k2, x2, rfl, HN2, hb3⟩
      have hb4 := below_step hb2 hb3
      have hE := HN.out.symm.trans HN2.out
      cases hE
      clear hb2 hb3 hxj hsl HN2
      go_wp2_with fail
      go_roundg (gk - 1)
      case measure => have := HG.out; omega
      case rel => exact ⟨i + 1, by simp, hb4, Lib.hid (by have := HG.out; omega)⟩
    · have hi2 : ¬ (i : Int) ≤ (t : Int) := by omega
      have hxi := hx.below hb
      go_wp2_with fail
      refine (Need_any A n cap _ _ hxi hc).mono ?_
      rintro e w1 ⟨m, k, x, rfl, HN, hb1⟩
      have hb2 := below_step hb hb1
      have hxj := hxi.below hb1
      clear hxi hb hb1
      go_wp2_with fail
      refine (rNeed_any A n cap _ _ hxj (by omega)).mono ?_
      rintro e w2 ⟨m2, k2, x2, rfl, HN2, hb3⟩
      have hb4 := below_step hb2 hb3
      have hE := HN.out.symm.trans HN2.out
      cases hE
      clear hb2 hb3 hxj HN2
      go_wp2_with fail
      refine (alive_any _).mono ?_
      rintro e w3 ⟨rfl, hb5⟩
      have hb6 := below_step hb4 hb5
      go_wp2_with fail
      go_ret
      exact ⟨rfl, hb6⟩
end Go.Proofs.Ytelfephmjkipoaa
end
