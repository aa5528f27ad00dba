/- Contracts of functions that the law reaches (texts laid together, part 4): each says of its call what it answers and what it leaves of memory; the conditions stand in each statement. -/
import Derived.Test.YtpjpgcjhdbiepaaGreatMpStreamFrames3
import Derived.Test.YtpjpgcjhdbiepaaGreatWWords
import Derived.WalkKit
import Derived.Lib.Hide
import Derived.Laws.BitsAllLaws
import Derived.Deep.WholeRow
import Derived.Deep.CutBlock
import Derived.Deep.Cut
import Derived.Deep.LoopGhost
import Derived.Laws.CopyOwn
import Derived.Lib.SlBytesConst
import Derived.ChangeKeysEq
import Derived.Laws.StructEq
import Derived.Test.YtpjpgcjhdbiepaaGreatWMore
import Derived.Laws.Bits64b
import Derived.IntWalk
import Derived.Test.YtpjpgcjhdbiepaaGreatProg
import Derived.Test.YtpjpgcjhdbiepaaGreatWGuard
import Derived.Deep.MidRow
import Derived.Deep.RegionHeld3
import Derived.Deep.RegionLaw
import Derived.Deep.DeepMust
import Derived.Laws.Cover3
import Derived.Test.YtpjpgcjhdbiepaaGreatWEqStruct
import Derived.StillTailTactics
import Derived.Recover
import Derived.WalkLawsBesides
import Derived.Deep.RegionWith
import Derived.RegionTactic
import Derived.BigRegion
import Derived.Deep.QuietTactic
import Derived.BigQuiet
import Derived.Laws.CopyRow
set_option linter.unusedVariables false
/-! The contracts of the document's Check and Encode. (mk_frzc.py) -/
section
namespace Go.Proofs.YtpjpgcjhdbiepaaGreat
open Go.RowKit Go.Kit Go.Proofs.YtpjpgcjhdbiepaaGreatW.PrintWords
section
variable {f : Fr} {w : World}
theorem same_sym2 (f g : Fr) (s : Bool) (h : g.same f = s) : f.same g = s := by rw [same_sym]; exact h
theorem ne_true {b : Bool} (h : b = false) : ¬ b = true := by rw [h]; exact Bool.false_ne_true
/-- The round of the document's Check. -/
def CkLoop (f : Fr) (w4 : World) (gk : Nat) (v3 v4 : Value) (w' : World) : Prop := ∃ (i : Nat) (b : Bool), v4 = .int .i64 (i : Int) ∧ v3 = .bool b ∧ w' = w4 ∧
  Hid (i ≤ f.n ∧ (b = false → ∀ j, j < i → ∀ s, f.args[j]? = some s → s.size ≤ 4096) ∧ (b = true → ∃ s ∈ f.args, 4096 < s.size) ∧ gk = f.n - i)
/-- The loads of a frame's fields. -/
structure Lds (f : Fr) (g : Nat) (W : World) : Prop where
  k : (Instr.loadAt 3 (.pointer (some ⟨g, 0, none⟩))).run Tryz.prog W = .ok (.int .i64 f.k) W
  v : (Instr.loadAt 3 (.pointer (some ⟨g, 2, none⟩))).run Tryz.prog W = .ok (.int .i64 f.v) W
  s : (Instr.loadAt 3 (.pointer (some ⟨g, 3, none⟩))).run Tryz.prog W = .ok (.int .i64 f.s) W
  st : (Instr.loadAt 3 (.pointer (some ⟨g, 36, none⟩))).run Tryz.prog W = .ok (.int .i64 f.st) W
  mo : (Instr.loadAt 3 (.pointer (some ⟨g, 37, none⟩))).run Tryz.prog W = .ok (.int .i64 f.mo) W
  fu : (Instr.loadAt 3 (.pointer (some ⟨g, 38, none⟩))).run Tryz.prog W = .ok (.int .i64 f.fu) W
  di : (Instr.loadAt 3 (.pointer (some ⟨g, 39, none⟩))).run Tryz.prog W = .ok (.int .i64 f.di) W
  args : (Instr.loadAt 46 (.pointer (some ⟨g, 40, none⟩))).run Tryz.prog W = .ok (.slice f.A f.n f.c) W
  body : (Instr.loadAt 9 (.pointer (some ⟨g, 41, none⟩))).run Tryz.prog W = .ok (.string f.body) W
theorem lds {W : World} {g : Nat} (h : f.at_ 48 W g) : Lds f g W :=
  ⟨load_int h.c0, load_int h.c2, load_int h.c3, load_int h.c36, load_int h.c37, load_int h.c38, load_int h.c39, load_txts h.c40, load_str h.c41⟩
theorem load_s {W : World} {a : Addr} {v : Value} (h : W.cell? a = some v) : (Instr.loadAt 9 (.pointer (some a))).run Tryz.prog W = .ok v W := load_str h
attribute [-go_sem] Instr.loadAt
set_option maxHeartbeats 16000000 in
set_option maxRecDepth 100000 in
theorem rCheck_any (hf : f.ok w) (hw : f.wf) (ha : ∀ s ∈ f.args, s.size ≤ 9223372036854775807) : Calls Tryz.prog 38 #[f.val] w fun e w' => e = .returned (.int .i64 (chkF f)) ∧ Below w.heap.size w w' := by
  have hb := below_alloc (Below.refl _ w) (.cells f.arr 48)
  have hF := boxed hf.tool w
  have hmx := hf.args.max
  have hif : (Tryz.prog.info? 48).map (·.size) = some f.cells.length := by rw [frame_size]; have := Fr.arr_size f hf.tool; simp [Fr.arr] at this; rw [this]
  show Calls Tryz.prog _ #[.agg f.arr] w _
  obtain ⟨c, hc⟩ : ∃ c, chkF f = c := ⟨_, rfl⟩
  rw [hc]
  have HC := Lib.hid hc
  clear hc
  have HOK := Lib.hid hf
  have HWF := Lib.hid hw
  have HHA := Lib.hid ha
  clear hf hw ha
  go_enter Tryz.func38, Tryz.ntmps38
  go_upto_region 1 with (fail)
  generalize w.alloc (.cells f.arr 48) = w1 at *
  obtain ⟨g, hg⟩ : ∃ g, w.heap.size = g := ⟨_, rfl⟩
  rw [hg] at hF ⊢
  clear hg
  have hl0 : ∀ W, f.at_ 48 W g → (Instr.loadAt 3 (.pointer (some ⟨g, 0, none⟩))).run Tryz.prog W = .ok (.int .i64 f.k) W := fun W h => load_int h.c0
  have hl1 : ∀ W, f.at_ 48 W g → (Instr.loadAt 48 (.pointer (some ⟨g, 0, none⟩))).run Tryz.prog W = .ok (.agg f.arr) W := fun W h => load_frame f hif W _ h
  have hl2 : ∀ W, f.at_ 48 W g → (Instr.loadAt 46 (.pointer (some ⟨g, 40, none⟩))).run Tryz.prog W = .ok (.slice f.A f.n f.c) W := fun W h => load_txts h.c40
  have hbd : Below w.heap.size w w1.drew := below_step hb (below_drew (Below.refl _ _))
  have hFd : f.at_ 48 w1.drew g := hF.below (below_drew (Below.refl _ _))
  by_cases k1 : f.k < 1
  · have d1 : decide (f.k < 1) = true := decide_eq_true k1
    have HX : Hid (c = 70) := Lib.hid (by rw [← HC.out]; exact chk_no (fun h => by have := h.k1; omega))
    refine wp_region_held_drew (S := fun W => f.at_ 48 W g) (by kernel_rfl) (hFd) (fun hHeld => ?_)
    refine wpAnyH_take (i := 0) (v := (.pointer (some ⟨g, 0, none⟩))) (oi := ⟨_, _, _, _, _, _⟩) rfl (by kernel_rfl) (by kernel_rfl) (by kernel_rfl) (fun _ _ _ h => h) (Or.inl ⟨by kernel_rfl, fun W hS => ?_⟩) (by assumption) ?_
    · dsimp only at hS; go_split_ands; go_simp
    simp only [Act.put, List.setIfInBounds_toArray, List.set_cons_zero, List.set_cons_succ]
    refine wpAnyH_take (i := 1) (v := (.int .i64 f.k)) (oi := ⟨_, _, _, _, _, _⟩) rfl (by kernel_rfl) (by kernel_rfl) (by kernel_rfl) (fun _ _ _ h => h) (Or.inl ⟨by kernel_rfl, fun W hS => ?_⟩) (by assumption) ?_
    · dsimp only at hS; go_split_ands; go_simp
    simp only [Act.put, List.setIfInBounds_toArray, List.set_cons_zero, List.set_cons_succ]
    refine wpAnyH_take (i := 2) (v := (.bool true)) (oi := ⟨_, _, _, _, _, _⟩) rfl (by kernel_rfl) (by kernel_rfl) (by kernel_rfl) (fun _ _ _ h => h) (Or.inl ⟨by kernel_rfl, fun W hS => ?_⟩) (by assumption) ?_
    · dsimp only at hS; go_split_ands; go_simp
    simp only [Act.put, List.setIfInBounds_toArray, List.set_cons_zero, List.set_cons_succ]
    refine wpAnyH_take (i := 3) (v := (.bool true)) (oi := ⟨_, _, _, _, _, _⟩) rfl (by kernel_rfl) (by kernel_rfl) (by kernel_rfl) (fun _ _ _ h => h) (Or.inl ⟨by kernel_rfl, fun W hS => ?_⟩) (by assumption) ?_
    · dsimp only at hS; go_split_ands; go_simp
    simp only [Act.put, List.setIfInBounds_toArray, List.set_cons_zero, List.set_cons_succ]
    refine wpAnyH_ready (rs := [4]) (by kernel_rfl) (by decide) (AllReadyH.cons (o := ⟨_, _, _, _, _, _⟩) rfl (fun K hK => ?_) AllReadyH.nil)
    rw [if_neg (ne_true (by kernel_rfl))]
    refine hK.out _ _ (hHeld) (fun hHeld => ?_)
    clear hK K
    try simp only [Act.put, List.setIfInBounds_toArray, List.set_cons_zero, List.set_cons_succ]
    refine wpAnyH_ready (rs := [5]) (by kernel_rfl) (by decide) (AllReadyH.cons (o := ⟨_, _, _, _, _, _⟩) rfl (fun K hK => ?_) AllReadyH.nil)
    rw [if_neg (ne_true (by kernel_rfl))]
    refine hK.out _ _ (hHeld) (fun hHeld => ?_)
    clear hK K
    try simp only [Act.put, List.setIfInBounds_toArray, List.set_cons_zero, List.set_cons_succ]
    refine wpAnyH_ready (rs := [6]) (by kernel_rfl) (by decide) (AllReadyH.cons (o := ⟨_, _, _, _, _, _⟩) rfl (fun K hK => ?_) AllReadyH.nil)
    rw [if_neg (ne_true (by kernel_rfl))]
    refine hK.out _ _ (hHeld) (fun hHeld => ?_)
    clear hK K
    try simp only [Act.put, List.setIfInBounds_toArray, List.set_cons_zero, List.set_cons_succ]
    refine wpAnyH_take (i := 7) (v := (.bool true)) (oi := ⟨_, _, _, _, _, _⟩) rfl (by kernel_rfl) (by kernel_rfl) (by kernel_rfl) (fun _ _ _ h => h) (Or.inl ⟨by kernel_rfl, fun W hS => ?_⟩) (by assumption) ?_
    · dsimp only at hS; go_split_ands; go_simp
    simp only [Act.put, List.setIfInBounds_toArray, List.set_cons_zero, List.set_cons_succ]
    refine wpAnyH_take (i := 8) (v := (.bool true)) (oi := ⟨_, _, _, _, _, _⟩) rfl (by kernel_rfl) (by kernel_rfl) (by kernel_rfl) (fun _ _ _ h => h) (Or.inl ⟨by kernel_rfl, fun W hS => ?_⟩) (by assumption) ?_
    · dsimp only at hS; go_split_ands; go_simp
    simp only [Act.put, List.setIfInBounds_toArray, List.set_cons_zero, List.set_cons_succ]
    refine wpAnyH_ready (rs := [9, 10]) (by kernel_rfl) (by decide) (AllReadyH.cons (o := ⟨_, _, _, _, _, _⟩) rfl (fun K hK => ?_) (AllReadyH.cons (o := ⟨_, _, _, _, _, _⟩) rfl (fun K hK => ?_) AllReadyH.nil))
    · skip
      rw [if_neg (ne_true (by kernel_rfl))]
      refine hK.out _ _ (hHeld) (fun hHeld => ?_)
      clear hK K
      try simp only [Act.put, List.setIfInBounds_toArray, List.set_cons_zero, List.set_cons_succ]
      refine wpAnyH_ready (rs := [10]) (by kernel_rfl) (by decide) (AllReadyH.cons (o := ⟨_, _, _, _, _, _⟩) rfl (fun K hK => ?_) AllReadyH.nil)
      rw [if_neg (ne_true (by kernel_rfl))]
      refine hK.out _ _ (hHeld) (fun hHeld => ?_)
      clear hK K
      try simp only [Act.put, List.setIfInBounds_toArray, List.set_cons_zero, List.set_cons_succ]
      refine wpAnyH_ready (rs := [11]) (by kernel_rfl) (by decide) (AllReadyH.cons (o := ⟨_, _, _, _, _, _⟩) rfl (fun K hK => ?_) AllReadyH.nil)
      rw [if_neg (ne_true (by kernel_rfl))]
      refine hK.out _ _ (hHeld) (fun hHeld => ?_)
      clear hK K
      try simp only [Act.put, List.setIfInBounds_toArray, List.set_cons_zero, List.set_cons_succ]
      refine wpAnyH_ready (rs := [12]) (by kernel_rfl) (by decide) (AllReadyH.cons (o := ⟨_, _, _, _, _, _⟩) rfl (fun K hK => ?_) AllReadyH.nil)
      rw [if_neg (ne_true (by kernel_rfl))]
      refine hK.out _ _ (hHeld) (fun hHeld => ?_)
      clear hK K
      try simp only [Act.put, List.setIfInBounds_toArray, List.set_cons_zero, List.set_cons_succ]
      refine wpAnyH_ready (rs := [13]) (by kernel_rfl) (by decide) (AllReadyH.cons (o := ⟨_, _, _, _, _, _⟩) rfl (fun K hK => ?_) AllReadyH.nil)
      rw [if_neg (ne_true (by kernel_rfl))]
      refine hK.out _ _ (hHeld) (fun hHeld => ?_)
      clear hK K
      try simp only [Act.put, List.setIfInBounds_toArray, List.set_cons_zero, List.set_cons_succ]
      refine wpAnyH_take (i := 14) (v := (.bool true)) (oi := ⟨_, _, _, _, _, _⟩) rfl (by kernel_rfl) (by kernel_rfl) (by kernel_rfl) (fun _ _ _ h => h) (Or.inl ⟨by kernel_rfl, fun W hS => ?_⟩) (by assumption) ?_
      · dsimp only at hS; go_split_ands; go_simp
      simp only [Act.put, List.setIfInBounds_toArray, List.set_cons_zero, List.set_cons_succ]
      refine wpAnyH_take (i := 15) (v := (.bool true)) (oi := ⟨_, _, _, _, _, _⟩) rfl (by kernel_rfl) (by kernel_rfl) (by kernel_rfl) (fun _ _ _ h => h) (Or.inl ⟨by kernel_rfl, fun W hS => ?_⟩) (by assumption) ?_
      · dsimp only at hS; go_split_ands; go_simp
      simp only [Act.put, List.setIfInBounds_toArray, List.set_cons_zero, List.set_cons_succ]
      refine wpAnyH_ready (rs := [16]) (by kernel_rfl) (by decide) (AllReadyH.cons (o := ⟨_, _, _, _, _, _⟩) rfl (fun K hK => ?_) AllReadyH.nil)
      rw [if_neg (ne_true (by kernel_rfl))]
      refine hK.out _ _ (hHeld) (fun hHeld => ?_)
      clear hK K
      try simp only [Act.put, List.setIfInBounds_toArray, List.set_cons_zero, List.set_cons_succ]
      refine wpAnyH_ready (rs := [17]) (by kernel_rfl) (by decide) (AllReadyH.cons (o := ⟨_, _, _, _, _, _⟩) rfl (fun K hK => ?_) AllReadyH.nil)
      rw [if_neg (ne_true (by kernel_rfl))]
      refine hK.out _ _ (hHeld) (fun hHeld => ?_)
      clear hK K
      try simp only [Act.put, List.setIfInBounds_toArray, List.set_cons_zero, List.set_cons_succ]
      refine wpAnyH_ready (rs := [18]) (by kernel_rfl) (by decide) (AllReadyH.cons (o := ⟨_, _, _, _, _, _⟩) rfl (fun K hK => ?_) AllReadyH.nil)
      rw [if_neg (ne_true (by kernel_rfl))]
      refine hK.out _ _ (hHeld) (fun hHeld => ?_)
      clear hK K
      try simp only [Act.put, List.setIfInBounds_toArray, List.set_cons_zero, List.set_cons_succ]
      refine wpAnyH_ready (rs := [19]) (by kernel_rfl) (by decide) (AllReadyH.cons (o := ⟨_, _, _, _, _, _⟩) rfl (fun K hK => ?_) AllReadyH.nil)
      rw [if_neg (ne_true (by kernel_rfl))]
      refine hK.out _ _ (hHeld) (fun hHeld => ?_)
      clear hK K
      try simp only [Act.put, List.setIfInBounds_toArray, List.set_cons_zero, List.set_cons_succ]
      refine wpAnyH_take (i := 20) (v := (.bool true)) (oi := ⟨_, _, _, _, _, _⟩) rfl (by kernel_rfl) (by kernel_rfl) (by kernel_rfl) (fun _ _ _ h => h) (Or.inl ⟨by kernel_rfl, fun W hS => ?_⟩) (by assumption) ?_
      · dsimp only at hS; go_split_ands; go_simp
      simp only [Act.put, List.setIfInBounds_toArray, List.set_cons_zero, List.set_cons_succ]
      refine wpAnyH_take (i := 21) (v := (.bool true)) (oi := ⟨_, _, _, _, _, _⟩) rfl (by kernel_rfl) (by kernel_rfl) (by kernel_rfl) (fun _ _ _ h => h) (Or.inl ⟨by kernel_rfl, fun W hS => ?_⟩) (by assumption) ?_
      · dsimp only at hS; go_split_ands; go_simp
      simp only [Act.put, List.setIfInBounds_toArray, List.set_cons_zero, List.set_cons_succ]
      refine wpAnyH_done (by kernel_rfl) ?_ _
      try simp only [Act.put, List.setIfInBounds_toArray, List.set_cons_zero, List.set_cons_succ]
      have L := lds hFd
      have l0 := L.k; have l1 := L.v; have l2 := L.s; have l3 := L.st; have l4 := L.mo; have l5 := L.fu; have l6 := L.di; have l7 := L.args; have l8 := L.body
      clear L
      go_wp2_with fail
      go_loopg [3, 4] 1 (fun gk v3 v4 w' => v3 = .bool true ∧ v4 = .int .i64 0 ∧ w' = w1.drew)
      case atStart => exact ⟨rfl, rfl, rfl⟩
      case round =>
        obtain ⟨rfl, rfl, rfl⟩ := hrel
        go_wp2_with fail
        all_goals
          go_ret
          exact ⟨by rw [HX.out]; rfl, hbd⟩
    · skip
      rw [if_neg (ne_true (by kernel_rfl))]
      refine hK.out _ _ (hHeld) (fun hHeld => ?_)
      clear hK K
      try simp only [Act.put, List.setIfInBounds_toArray, List.set_cons_zero, List.set_cons_succ]
      refine wpAnyH_ready (rs := [9, 11]) (by kernel_rfl) (by decide) (AllReadyH.cons (o := ⟨_, _, _, _, _, _⟩) rfl (fun K hK => ?_) (AllReadyH.cons (o := ⟨_, _, _, _, _, _⟩) rfl (fun K hK => ?_) AllReadyH.nil))
      · skip
        rw [if_neg (ne_true (by kernel_rfl))]
        refine hK.out _ _ (hHeld) (fun hHeld => ?_)
        clear hK K
        try simp only [Act.put, List.setIfInBounds_toArray, List.set_cons_zero, List.set_cons_succ]
        refine wpAnyH_ready (rs := [11]) (by kernel_rfl) (by decide) (AllReadyH.cons (o := ⟨_, _, _, _, _, _⟩) rfl (fun K hK => ?_) AllReadyH.nil)
        rw [if_neg (ne_true (by kernel_rfl))]
        refine hK.out _ _ (hHeld) (fun hHeld => ?_)
        clear hK K
        try simp only [Act.put, List.setIfInBounds_toArray, List.set_cons_zero, List.set_cons_succ]
        refine wpAnyH_ready (rs := [12]) (by kernel_rfl) (by decide) (AllReadyH.cons (o := ⟨_, _, _, _, _, _⟩) rfl (fun K hK => ?_) AllReadyH.nil)
        rw [if_neg (ne_true (by kernel_rfl))]
        refine hK.out _ _ (hHeld) (fun hHeld => ?_)
        clear hK K
        try simp only [Act.put, List.setIfInBounds_toArray, List.set_cons_zero, List.set_cons_succ]
        refine wpAnyH_ready (rs := [13]) (by kernel_rfl) (by decide) (AllReadyH.cons (o := ⟨_, _, _, _, _, _⟩) rfl (fun K hK => ?_) AllReadyH.nil)
        rw [if_neg (ne_true (by kernel_rfl))]
        refine hK.out _ _ (hHeld) (fun hHeld => ?_)
        clear hK K
        try simp only [Act.put, List.setIfInBounds_toArray, List.set_cons_zero, List.set_cons_succ]
        refine wpAnyH_take (i := 14) (v := (.bool true)) (oi := ⟨_, _, _, _, _, _⟩) rfl (by kernel_rfl) (by kernel_rfl) (by kernel_rfl) (fun _ _ _ h => h) (Or.inl ⟨by kernel_rfl, fun W hS => ?_⟩) (by assumption) ?_
        · dsimp only at hS; go_split_ands; go_simp
        simp only [Act.put, List.setIfInBounds_toArray, List.set_cons_zero, List.set_cons_succ]
        refine wpAnyH_take (i := 15) (v := (.bool true)) (oi := ⟨_, _, _, _, _, _⟩) rfl (by kernel_rfl) (by kernel_rfl) (by kernel_rfl) (fun _ _ _ h => h) (Or.inl ⟨by kernel_rfl, fun W hS => ?_⟩) (by assumption) ?_
        · dsimp only at hS; go_split_ands; go_simp
        simp only [Act.put, List.setIfInBounds_toArray, List.set_cons_zero, List.set_cons_succ]
        refine wpAnyH_ready (rs := [16]) (by kernel_rfl) (by decide) (AllReadyH.cons (o := ⟨_, _, _, _, _, _⟩) rfl (fun K hK => ?_) AllReadyH.nil)
        rw [if_neg (ne_true (by kernel_rfl))]
        refine hK.out _ _ (hHeld) (fun hHeld => ?_)
        clear hK K
        try simp only [Act.put, List.setIfInBounds_toArray, List.set_cons_zero, List.set_cons_succ]
        refine wpAnyH_ready (rs := [17]) (by kernel_rfl) (by decide) (AllReadyH.cons (o := ⟨_, _, _, _, _, _⟩) rfl (fun K hK => ?_) AllReadyH.nil)
        rw [if_neg (ne_true (by kernel_rfl))]
        refine hK.out _ _ (hHeld) (fun hHeld => ?_)
        clear hK K
        try simp only [Act.put, List.setIfInBounds_toArray, List.set_cons_zero, List.set_cons_succ]
        refine wpAnyH_ready (rs := [18]) (by kernel_rfl) (by decide) (AllReadyH.cons (o := ⟨_, _, _, _, _, _⟩) rfl (fun K hK => ?_) AllReadyH.nil)
        rw [if_neg (ne_true (by kernel_rfl))]
        refine hK.out _ _ (hHeld) (fun hHeld => ?_)
        clear hK K
        try simp only [Act.put, List.setIfInBounds_toArray, List.set_cons_zero, List.set_cons_succ]
        refine wpAnyH_ready (rs := [19]) (by kernel_rfl) (by decide) (AllReadyH.cons (o := ⟨_, _, _, _, _, _⟩) rfl (fun K hK => ?_) AllReadyH.nil)
        rw [if_neg (ne_true (by kernel_rfl))]
        refine hK.out _ _ (hHeld) (fun hHeld => ?_)
        clear hK K
        try simp only [Act.put, List.setIfInBounds_toArray, List.set_cons_zero, List.set_cons_succ]
        refine wpAnyH_take (i := 20) (v := (.bool true)) (oi := ⟨_, _, _, _, _, _⟩) rfl (by kernel_rfl) (by kernel_rfl) (by kernel_rfl) (fun _ _ _ h => h) (Or.inl ⟨by kernel_rfl, fun W hS => ?_⟩) (by assumption) ?_
        · dsimp only at hS; go_split_ands; go_simp
        simp only [Act.put, List.setIfInBounds_toArray, List.set_cons_zero, List.set_cons_succ]
        refine wpAnyH_take (i := 21) (v := (.bool true)) (oi := ⟨_, _, _, _, _, _⟩) rfl (by kernel_rfl) (by kernel_rfl) (by kernel_rfl) (fun _ _ _ h => h) (Or.inl ⟨by kernel_rfl, fun W hS => ?_⟩) (by assumption) ?_
        · dsimp only at hS; go_split_ands; go_simp
        simp only [Act.put, List.setIfInBounds_toArray, List.set_cons_zero, List.set_cons_succ]
        refine wpAnyH_done (by kernel_rfl) ?_ _
        try simp only [Act.put, List.setIfInBounds_toArray, List.set_cons_zero, List.set_cons_succ]
        have L := lds hFd
        have l0 := L.k; have l1 := L.v; have l2 := L.s; have l3 := L.st; have l4 := L.mo; have l5 := L.fu; have l6 := L.di; have l7 := L.args; have l8 := L.body
        clear L
        go_wp2_with fail
        go_loopg [3, 4] 1 (fun gk v3 v4 w' => v3 = .bool true ∧ v4 = .int .i64 0 ∧ w' = w1.drew)
        case atStart => exact ⟨rfl, rfl, rfl⟩
        case round =>
          obtain ⟨rfl, rfl, rfl⟩ := hrel
          go_wp2_with fail
          all_goals
            go_ret
            exact ⟨by rw [HX.out]; rfl, hbd⟩
      · skip
        rw [if_neg (ne_true (by kernel_rfl))]
        refine hK.out _ _ (hHeld) (fun hHeld => ?_)
        clear hK K
        try simp only [Act.put, List.setIfInBounds_toArray, List.set_cons_zero, List.set_cons_succ]
        refine wpAnyH_ready (rs := [9]) (by kernel_rfl) (by decide) (AllReadyH.cons (o := ⟨_, _, _, _, _, _⟩) rfl (fun K hK => ?_) AllReadyH.nil)
        rw [if_neg (ne_true (by kernel_rfl))]
        refine hK.out _ _ (hHeld) (fun hHeld => ?_)
        clear hK K
        try simp only [Act.put, List.setIfInBounds_toArray, List.set_cons_zero, List.set_cons_succ]
        refine wpAnyH_ready (rs := [12]) (by kernel_rfl) (by decide) (AllReadyH.cons (o := ⟨_, _, _, _, _, _⟩) rfl (fun K hK => ?_) AllReadyH.nil)
        rw [if_neg (ne_true (by kernel_rfl))]
        refine hK.out _ _ (hHeld) (fun hHeld => ?_)
        clear hK K
        try simp only [Act.put, List.setIfInBounds_toArray, List.set_cons_zero, List.set_cons_succ]
        refine wpAnyH_ready (rs := [13]) (by kernel_rfl) (by decide) (AllReadyH.cons (o := ⟨_, _, _, _, _, _⟩) rfl (fun K hK => ?_) AllReadyH.nil)
        rw [if_neg (ne_true (by kernel_rfl))]
        refine hK.out _ _ (hHeld) (fun hHeld => ?_)
        clear hK K
        try simp only [Act.put, List.setIfInBounds_toArray, List.set_cons_zero, List.set_cons_succ]
        refine wpAnyH_take (i := 14) (v := (.bool true)) (oi := ⟨_, _, _, _, _, _⟩) rfl (by kernel_rfl) (by kernel_rfl) (by kernel_rfl) (fun _ _ _ h => h) (Or.inl ⟨by kernel_rfl, fun W hS => ?_⟩) (by assumption) ?_
        · dsimp only at hS; go_split_ands; go_simp
        simp only [Act.put, List.setIfInBounds_toArray, List.set_cons_zero, List.set_cons_succ]
        refine wpAnyH_take (i := 15) (v := (.bool true)) (oi := ⟨_, _, _, _, _, _⟩) rfl (by kernel_rfl) (by kernel_rfl) (by kernel_rfl) (fun _ _ _ h => h) (Or.inl ⟨by kernel_rfl, fun W hS => ?_⟩) (by assumption) ?_
        · dsimp only at hS; go_split_ands; go_simp
        simp only [Act.put, List.setIfInBounds_toArray, List.set_cons_zero, List.set_cons_succ]
        refine wpAnyH_ready (rs := [16]) (by kernel_rfl) (by decide) (AllReadyH.cons (o := ⟨_, _, _, _, _, _⟩) rfl (fun K hK => ?_) AllReadyH.nil)
        rw [if_neg (ne_true (by kernel_rfl))]
        refine hK.out _ _ (hHeld) (fun hHeld => ?_)
        clear hK K
        try simp only [Act.put, List.setIfInBounds_toArray, List.set_cons_zero, List.set_cons_succ]
        refine wpAnyH_ready (rs := [17]) (by kernel_rfl) (by decide) (AllReadyH.cons (o := ⟨_, _, _, _, _, _⟩) rfl (fun K hK => ?_) AllReadyH.nil)
        rw [if_neg (ne_true (by kernel_rfl))]
        refine hK.out _ _ (hHeld) (fun hHeld => ?_)
        clear hK K
        try simp only [Act.put, List.setIfInBounds_toArray, List.set_cons_zero, List.set_cons_succ]
        refine wpAnyH_ready (rs := [18]) (by kernel_rfl) (by decide) (AllReadyH.cons (o := ⟨_, _, _, _, _, _⟩) rfl (fun K hK => ?_) AllReadyH.nil)
        rw [if_neg (ne_true (by kernel_rfl))]
        refine hK.out _ _ (hHeld) (fun hHeld => ?_)
        clear hK K
        try simp only [Act.put, List.setIfInBounds_toArray, List.set_cons_zero, List.set_cons_succ]
        refine wpAnyH_ready (rs := [19]) (by kernel_rfl) (by decide) (AllReadyH.cons (o := ⟨_, _, _, _, _, _⟩) rfl (fun K hK => ?_) AllReadyH.nil)
        rw [if_neg (ne_true (by kernel_rfl))]
        refine hK.out _ _ (hHeld) (fun hHeld => ?_)
        clear hK K
        try simp only [Act.put, List.setIfInBounds_toArray, List.set_cons_zero, List.set_cons_succ]
        refine wpAnyH_take (i := 20) (v := (.bool true)) (oi := ⟨_, _, _, _, _, _⟩) rfl (by kernel_rfl) (by kernel_rfl) (by kernel_rfl) (fun _ _ _ h => h) (Or.inl ⟨by kernel_rfl, fun W hS => ?_⟩) (by assumption) ?_
        · dsimp only at hS; go_split_ands; go_simp
        simp only [Act.put, List.setIfInBounds_toArray, List.set_cons_zero, List.set_cons_succ]
        refine wpAnyH_take (i := 21) (v := (.bool true)) (oi := ⟨_, _, _, _, _, _⟩) rfl (by kernel_rfl) (by kernel_rfl) (by kernel_rfl) (fun _ _ _ h => h) (Or.inl ⟨by kernel_rfl, fun W hS => ?_⟩) (by assumption) ?_
        · dsimp only at hS; go_split_ands; go_simp
        simp only [Act.put, List.setIfInBounds_toArray, List.set_cons_zero, List.set_cons_succ]
        refine wpAnyH_done (by kernel_rfl) ?_ _
        try simp only [Act.put, List.setIfInBounds_toArray, List.set_cons_zero, List.set_cons_succ]
        have L := lds hFd
        have l0 := L.k; have l1 := L.v; have l2 := L.s; have l3 := L.st; have l4 := L.mo; have l5 := L.fu; have l6 := L.di; have l7 := L.args; have l8 := L.body
        clear L
        go_wp2_with fail
        go_loopg [3, 4] 1 (fun gk v3 v4 w' => v3 = .bool true ∧ v4 = .int .i64 0 ∧ w' = w1.drew)
        case atStart => exact ⟨rfl, rfl, rfl⟩
        case round =>
          obtain ⟨rfl, rfl, rfl⟩ := hrel
          go_wp2_with fail
          all_goals
            go_ret
            exact ⟨by rw [HX.out]; rfl, hbd⟩
  have d1 : decide (f.k < 1) = false := decide_eq_false k1
  by_cases k6 : 6 < f.k
  · have d6 : decide (6 < f.k) = true := decide_eq_true k6
    have HX : Hid (c = 70) := Lib.hid (by rw [← HC.out]; exact chk_no (fun h => by have := h.k6; omega))
    refine wp_region_held_drew (S := fun W => f.at_ 48 W g) (by kernel_rfl) (hFd) (fun hHeld => ?_)
    refine wpAnyH_take (i := 0) (v := (.pointer (some ⟨g, 0, none⟩))) (oi := ⟨_, _, _, _, _, _⟩) rfl (by kernel_rfl) (by kernel_rfl) (by kernel_rfl) (fun _ _ _ h => h) (Or.inl ⟨by kernel_rfl, fun W hS => ?_⟩) (by assumption) ?_
    · dsimp only at hS; go_split_ands; go_simp
    simp only [Act.put, List.setIfInBounds_toArray, List.set_cons_zero, List.set_cons_succ]
    refine wpAnyH_take (i := 1) (v := (.int .i64 f.k)) (oi := ⟨_, _, _, _, _, _⟩) rfl (by kernel_rfl) (by kernel_rfl) (by kernel_rfl) (fun _ _ _ h => h) (Or.inl ⟨by kernel_rfl, fun W hS => ?_⟩) (by assumption) ?_
    · dsimp only at hS; go_split_ands; go_simp
    simp only [Act.put, List.setIfInBounds_toArray, List.set_cons_zero, List.set_cons_succ]
    refine wpAnyH_take (i := 2) (v := (.bool false)) (oi := ⟨_, _, _, _, _, _⟩) rfl (by kernel_rfl) (by kernel_rfl) (by kernel_rfl) (fun _ _ _ h => h) (Or.inl ⟨by kernel_rfl, fun W hS => ?_⟩) (by assumption) ?_
    · dsimp only at hS; go_split_ands; go_simp
    simp only [Act.put, List.setIfInBounds_toArray, List.set_cons_zero, List.set_cons_succ]
    refine wpAnyH_take (i := 3) (v := (.bool false)) (oi := ⟨_, _, _, _, _, _⟩) rfl (by kernel_rfl) (by kernel_rfl) (by kernel_rfl) (fun _ _ _ h => h) (Or.inl ⟨by kernel_rfl, fun W hS => ?_⟩) (by assumption) ?_
    · dsimp only at hS; go_split_ands; go_simp
    simp only [Act.put, List.setIfInBounds_toArray, List.set_cons_zero, List.set_cons_succ]
    refine wpAnyH_take (i := 4) (v := (.pointer (some ⟨g, 0, none⟩))) (oi := ⟨_, _, _, _, _, _⟩) rfl (by kernel_rfl) (by kernel_rfl) (by kernel_rfl) (fun _ _ _ h => h) (Or.inl ⟨by kernel_rfl, fun W hS => ?_⟩) (by assumption) ?_
    · dsimp only at hS; go_split_ands; go_simp
    simp only [Act.put, List.setIfInBounds_toArray, List.set_cons_zero, List.set_cons_succ]
    refine wpAnyH_take (i := 5) (v := (.int .i64 f.k)) (oi := ⟨_, _, _, _, _, _⟩) rfl (by kernel_rfl) (by kernel_rfl) (by kernel_rfl) (fun _ _ _ h => h) (Or.inl ⟨by kernel_rfl, fun W hS => ?_⟩) (by assumption) ?_
    · dsimp only at hS; go_split_ands; go_simp
    simp only [Act.put, List.setIfInBounds_toArray, List.set_cons_zero, List.set_cons_succ]
    refine wpAnyH_take (i := 6) (v := (.bool true)) (oi := ⟨_, _, _, _, _, _⟩) rfl (by kernel_rfl) (by kernel_rfl) (by kernel_rfl) (fun _ _ _ h => h) (Or.inl ⟨by kernel_rfl, fun W hS => ?_⟩) (by assumption) ?_
    · dsimp only at hS; go_split_ands; go_simp
    simp only [Act.put, List.setIfInBounds_toArray, List.set_cons_zero, List.set_cons_succ]
    refine wpAnyH_take (i := 7) (v := (.bool true)) (oi := ⟨_, _, _, _, _, _⟩) rfl (by kernel_rfl) (by kernel_rfl) (by kernel_rfl) (fun _ _ _ h => h) (Or.inl ⟨by kernel_rfl, fun W hS => ?_⟩) (by assumption) ?_
    · dsimp only at hS; go_split_ands; go_simp
    simp only [Act.put, List.setIfInBounds_toArray, List.set_cons_zero, List.set_cons_succ]
    refine wpAnyH_take (i := 8) (v := (.bool true)) (oi := ⟨_, _, _, _, _, _⟩) rfl (by kernel_rfl) (by kernel_rfl) (by kernel_rfl) (fun _ _ _ h => h) (Or.inl ⟨by kernel_rfl, fun W hS => ?_⟩) (by assumption) ?_
    · dsimp only at hS; go_split_ands; go_simp
    simp only [Act.put, List.setIfInBounds_toArray, List.set_cons_zero, List.set_cons_succ]
    refine wpAnyH_ready (rs := [9, 10]) (by kernel_rfl) (by decide) (AllReadyH.cons (o := ⟨_, _, _, _, _, _⟩) rfl (fun K hK => ?_) (AllReadyH.cons (o := ⟨_, _, _, _, _, _⟩) rfl (fun K hK => ?_) AllReadyH.nil))
    · skip
      rw [if_neg (ne_true (by kernel_rfl))]
      refine hK.out _ _ (hHeld) (fun hHeld => ?_)
      clear hK K
      try simp only [Act.put, List.setIfInBounds_toArray, List.set_cons_zero, List.set_cons_succ]
      refine wpAnyH_ready (rs := [10]) (by kernel_rfl) (by decide) (AllReadyH.cons (o := ⟨_, _, _, _, _, _⟩) rfl (fun K hK => ?_) AllReadyH.nil)
      rw [if_neg (ne_true (by kernel_rfl))]
      refine hK.out _ _ (hHeld) (fun hHeld => ?_)
      clear hK K
      try simp only [Act.put, List.setIfInBounds_toArray, List.set_cons_zero, List.set_cons_succ]
      refine wpAnyH_ready (rs := [11]) (by kernel_rfl) (by decide) (AllReadyH.cons (o := ⟨_, _, _, _, _, _⟩) rfl (fun K hK => ?_) AllReadyH.nil)
      rw [if_neg (ne_true (by kernel_rfl))]
      refine hK.out _ _ (hHeld) (fun hHeld => ?_)
      clear hK K
      try simp only [Act.put, List.setIfInBounds_toArray, List.set_cons_zero, List.set_cons_succ]
      refine wpAnyH_ready (rs := [12]) (by kernel_rfl) (by decide) (AllReadyH.cons (o := ⟨_, _, _, _, _, _⟩) rfl (fun K hK => ?_) AllReadyH.nil)
      rw [if_neg (ne_true (by kernel_rfl))]
      refine hK.out _ _ (hHeld) (fun hHeld => ?_)
      clear hK K
      try simp only [Act.put, List.setIfInBounds_toArray, List.set_cons_zero, List.set_cons_succ]
      refine wpAnyH_ready (rs := [13]) (by kernel_rfl) (by decide) (AllReadyH.cons (o := ⟨_, _, _, _, _, _⟩) rfl (fun K hK => ?_) AllReadyH.nil)
      rw [if_neg (ne_true (by kernel_rfl))]
      refine hK.out _ _ (hHeld) (fun hHeld => ?_)
      clear hK K
      try simp only [Act.put, List.setIfInBounds_toArray, List.set_cons_zero, List.set_cons_succ]
      refine wpAnyH_take (i := 14) (v := (.bool true)) (oi := ⟨_, _, _, _, _, _⟩) rfl (by kernel_rfl) (by kernel_rfl) (by kernel_rfl) (fun _ _ _ h => h) (Or.inl ⟨by kernel_rfl, fun W hS => ?_⟩) (by assumption) ?_
      · dsimp only at hS; go_split_ands; go_simp
      simp only [Act.put, List.setIfInBounds_toArray, List.set_cons_zero, List.set_cons_succ]
      refine wpAnyH_take (i := 15) (v := (.bool true)) (oi := ⟨_, _, _, _, _, _⟩) rfl (by kernel_rfl) (by kernel_rfl) (by kernel_rfl) (fun _ _ _ h => h) (Or.inl ⟨by kernel_rfl, fun W hS => ?_⟩) (by assumption) ?_
      · dsimp only at hS; go_split_ands; go_simp
      simp only [Act.put, List.setIfInBounds_toArray, List.set_cons_zero, List.set_cons_succ]
      refine wpAnyH_ready (rs := [16]) (by kernel_rfl) (by decide) (AllReadyH.cons (o := ⟨_, _, _, _, _, _⟩) rfl (fun K hK => ?_) AllReadyH.nil)
      rw [if_neg (ne_true (by kernel_rfl))]
      refine hK.out _ _ (hHeld) (fun hHeld => ?_)
      clear hK K
      try simp only [Act.put, List.setIfInBounds_toArray, List.set_cons_zero, List.set_cons_succ]
      refine wpAnyH_ready (rs := [17]) (by kernel_rfl) (by decide) (AllReadyH.cons (o := ⟨_, _, _, _, _, _⟩) rfl (fun K hK => ?_) AllReadyH.nil)
      rw [if_neg (ne_true (by kernel_rfl))]
      refine hK.out _ _ (hHeld) (fun hHeld => ?_)
      clear hK K
      try simp only [Act.put, List.setIfInBounds_toArray, List.set_cons_zero, List.set_cons_succ]
      refine wpAnyH_ready (rs := [18]) (by kernel_rfl) (by decide) (AllReadyH.cons (o := ⟨_, _, _, _, _, _⟩) rfl (fun K hK => ?_) AllReadyH.nil)
      rw [if_neg (ne_true (by kernel_rfl))]
      refine hK.out _ _ (hHeld) (fun hHeld => ?_)
      clear hK K
      try simp only [Act.put, List.setIfInBounds_toArray, List.set_cons_zero, List.set_cons_succ]
      refine wpAnyH_ready (rs := [19]) (by kernel_rfl) (by decide) (AllReadyH.cons (o := ⟨_, _, _, _, _, _⟩) rfl (fun K hK => ?_) AllReadyH.nil)
      rw [if_neg (ne_true (by kernel_rfl))]
      refine hK.out _ _ (hHeld) (fun hHeld => ?_)
      clear hK K
      try simp only [Act.put, List.setIfInBounds_toArray, List.set_cons_zero, List.set_cons_succ]
      refine wpAnyH_take (i := 20) (v := (.bool true)) (oi := ⟨_, _, _, _, _, _⟩) rfl (by kernel_rfl) (by kernel_rfl) (by kernel_rfl) (fun _ _ _ h => h) (Or.inl ⟨by kernel_rfl, fun W hS => ?_⟩) (by assumption) ?_
      · dsimp only at hS; go_split_ands; go_simp
      simp only [Act.put, List.setIfInBounds_toArray, List.set_cons_zero, List.set_cons_succ]
      refine wpAnyH_take (i := 21) (v := (.bool true)) (oi := ⟨_, _, _, _, _, _⟩) rfl (by kernel_rfl) (by kernel_rfl) (by kernel_rfl) (fun _ _ _ h => h) (Or.inl ⟨by kernel_rfl, fun W hS => ?_⟩) (by assumption) ?_
      · dsimp only at hS; go_split_ands; go_simp
      simp only [Act.put, List.setIfInBounds_toArray, List.set_cons_zero, List.set_cons_succ]
      refine wpAnyH_done (by kernel_rfl) ?_ _
      try simp only [Act.put, List.setIfInBounds_toArray, List.set_cons_zero, List.set_cons_succ]
      have L := lds hFd
      have l0 := L.k; have l1 := L.v; have l2 := L.s; have l3 := L.st; have l4 := L.mo; have l5 := L.fu; have l6 := L.di; have l7 := L.args; have l8 := L.body
      clear L
      go_wp2_with fail
      go_loopg [3, 4] 1 (fun gk v3 v4 w' => v3 = .bool true ∧ v4 = .int .i64 0 ∧ w' = w1.drew)
      case atStart => exact ⟨rfl, rfl, rfl⟩
      case round =>
        obtain ⟨rfl, rfl, rfl⟩ := hrel
        go_wp2_with fail
        all_goals
          go_ret
          exact ⟨by rw [HX.out]; rfl, hbd⟩
    · skip
      rw [if_neg (ne_true (by kernel_rfl))]
      refine hK.out _ _ (hHeld) (fun hHeld => ?_)
      clear hK K
      try simp only [Act.put, List.setIfInBounds_toArray, List.set_cons_zero, List.set_cons_succ]
      refine wpAnyH_ready (rs := [9, 11]) (by kernel_rfl) (by decide) (AllReadyH.cons (o := ⟨_, _, _, _, _, _⟩) rfl (fun K hK => ?_) (AllReadyH.cons (o := ⟨_, _, _, _, _, _⟩) rfl (fun K hK => ?_) AllReadyH.nil))
      · skip
        rw [if_neg (ne_true (by kernel_rfl))]
        refine hK.out _ _ (hHeld) (fun hHeld => ?_)
        clear hK K
        try simp only [Act.put, List.setIfInBounds_toArray, List.set_cons_zero, List.set_cons_succ]
        refine wpAnyH_ready (rs := [11]) (by kernel_rfl) (by decide) (AllReadyH.cons (o := ⟨_, _, _, _, _, _⟩) rfl (fun K hK => ?_) AllReadyH.nil)
        rw [if_neg (ne_true (by kernel_rfl))]
        refine hK.out _ _ (hHeld) (fun hHeld => ?_)
        clear hK K
        try simp only [Act.put, List.setIfInBounds_toArray, List.set_cons_zero, List.set_cons_succ]
        refine wpAnyH_ready (rs := [12]) (by kernel_rfl) (by decide) (AllReadyH.cons (o := ⟨_, _, _, _, _, _⟩) rfl (fun K hK => ?_) AllReadyH.nil)
        rw [if_neg (ne_true (by kernel_rfl))]
        refine hK.out _ _ (hHeld) (fun hHeld => ?_)
        clear hK K
        try simp only [Act.put, List.setIfInBounds_toArray, List.set_cons_zero, List.set_cons_succ]
        refine wpAnyH_ready (rs := [13]) (by kernel_rfl) (by decide) (AllReadyH.cons (o := ⟨_, _, _, _, _, _⟩) rfl (fun K hK => ?_) AllReadyH.nil)
        rw [if_neg (ne_true (by kernel_rfl))]
        refine hK.out _ _ (hHeld) (fun hHeld => ?_)
        clear hK K
        try simp only [Act.put, List.setIfInBounds_toArray, List.set_cons_zero, List.set_cons_succ]
        refine wpAnyH_take (i := 14) (v := (.bool true)) (oi := ⟨_, _, _, _, _, _⟩) rfl (by kernel_rfl) (by kernel_rfl) (by kernel_rfl) (fun _ _ _ h => h) (Or.inl ⟨by kernel_rfl, fun W hS => ?_⟩) (by assumption) ?_
        · dsimp only at hS; go_split_ands; go_simp
        simp only [Act.put, List.setIfInBounds_toArray, List.set_cons_zero, List.set_cons_succ]
        refine wpAnyH_take (i := 15) (v := (.bool true)) (oi := ⟨_, _, _, _, _, _⟩) rfl (by kernel_rfl) (by kernel_rfl) (by kernel_rfl) (fun _ _ _ h => h) (Or.inl ⟨by kernel_rfl, fun W hS => ?_⟩) (by assumption) ?_
        · dsimp only at hS; go_split_ands; go_simp
        simp only [Act.put, List.setIfInBounds_toArray, List.set_cons_zero, List.set_cons_succ]
        refine wpAnyH_ready (rs := [16]) (by kernel_rfl) (by decide) (AllReadyH.cons (o := ⟨_, _, _, _, _, _⟩) rfl (fun K hK => ?_) AllReadyH.nil)
        rw [if_neg (ne_true (by kernel_rfl))]
        refine hK.out _ _ (hHeld) (fun hHeld => ?_)
        clear hK K
        try simp only [Act.put, List.setIfInBounds_toArray, List.set_cons_zero, List.set_cons_succ]
        refine wpAnyH_ready (rs := [17]) (by kernel_rfl) (by decide) (AllReadyH.cons (o := ⟨_, _, _, _, _, _⟩) rfl (fun K hK => ?_) AllReadyH.nil)
        rw [if_neg (ne_true (by kernel_rfl))]
        refine hK.out _ _ (hHeld) (fun hHeld => ?_)
        clear hK K
        try simp only [Act.put, List.setIfInBounds_toArray, List.set_cons_zero, List.set_cons_succ]
        refine wpAnyH_ready (rs := [18]) (by kernel_rfl) (by decide) (AllReadyH.cons (o := ⟨_, _, _, _, _, _⟩) rfl (fun K hK => ?_) AllReadyH.nil)
        rw [if_neg (ne_true (by kernel_rfl))]
        refine hK.out _ _ (hHeld) (fun hHeld => ?_)
        clear hK K
        try simp only [Act.put, List.setIfInBounds_toArray, List.set_cons_zero, List.set_cons_succ]
        refine wpAnyH_ready (rs := [19]) (by kernel_rfl) (by decide) (AllReadyH.cons (o := ⟨_, _, _, _, _, _⟩) rfl (fun K hK => ?_) AllReadyH.nil)
        rw [if_neg (ne_true (by kernel_rfl))]
        refine hK.out _ _ (hHeld) (fun hHeld => ?_)
        clear hK K
        try simp only [Act.put, List.setIfInBounds_toArray, List.set_cons_zero, List.set_cons_succ]
        refine wpAnyH_take (i := 20) (v := (.bool true)) (oi := ⟨_, _, _, _, _, _⟩) rfl (by kernel_rfl) (by kernel_rfl) (by kernel_rfl) (fun _ _ _ h => h) (Or.inl ⟨by kernel_rfl, fun W hS => ?_⟩) (by assumption) ?_
        · dsimp only at hS; go_split_ands; go_simp
        simp only [Act.put, List.setIfInBounds_toArray, List.set_cons_zero, List.set_cons_succ]
        refine wpAnyH_take (i := 21) (v := (.bool true)) (oi := ⟨_, _, _, _, _, _⟩) rfl (by kernel_rfl) (by kernel_rfl) (by kernel_rfl) (fun _ _ _ h => h) (Or.inl ⟨by kernel_rfl, fun W hS => ?_⟩) (by assumption) ?_
        · dsimp only at hS; go_split_ands; go_simp
        simp only [Act.put, List.setIfInBounds_toArray, List.set_cons_zero, List.set_cons_succ]
        refine wpAnyH_done (by kernel_rfl) ?_ _
        try simp only [Act.put, List.setIfInBounds_toArray, List.set_cons_zero, List.set_cons_succ]
        have L := lds hFd
        have l0 := L.k; have l1 := L.v; have l2 := L.s; have l3 := L.st; have l4 := L.mo; have l5 := L.fu; have l6 := L.di; have l7 := L.args; have l8 := L.body
        clear L
        go_wp2_with fail
        go_loopg [3, 4] 1 (fun gk v3 v4 w' => v3 = .bool true ∧ v4 = .int .i64 0 ∧ w' = w1.drew)
        case atStart => exact ⟨rfl, rfl, rfl⟩
        case round =>
          obtain ⟨rfl, rfl, rfl⟩ := hrel
          go_wp2_with fail
          all_goals
            go_ret
            exact ⟨by rw [HX.out]; rfl, hbd⟩
      · skip
        rw [if_neg (ne_true (by kernel_rfl))]
        refine hK.out _ _ (hHeld) (fun hHeld => ?_)
        clear hK K
        try simp only [Act.put, List.setIfInBounds_toArray, List.set_cons_zero, List.set_cons_succ]
        refine wpAnyH_ready (rs := [9]) (by kernel_rfl) (by decide) (AllReadyH.cons (o := ⟨_, _, _, _, _, _⟩) rfl (fun K hK => ?_) AllReadyH.nil)
        rw [if_neg (ne_true (by kernel_rfl))]
        refine hK.out _ _ (hHeld) (fun hHeld => ?_)
        clear hK K
        try simp only [Act.put, List.setIfInBounds_toArray, List.set_cons_zero, List.set_cons_succ]
        refine wpAnyH_ready (rs := [12]) (by kernel_rfl) (by decide) (AllReadyH.cons (o := ⟨_, _, _, _, _, _⟩) rfl (fun K hK => ?_) AllReadyH.nil)
        rw [if_neg (ne_true (by kernel_rfl))]
        refine hK.out _ _ (hHeld) (fun hHeld => ?_)
        clear hK K
        try simp only [Act.put, List.setIfInBounds_toArray, List.set_cons_zero, List.set_cons_succ]
        refine wpAnyH_ready (rs := [13]) (by kernel_rfl) (by decide) (AllReadyH.cons (o := ⟨_, _, _, _, _, _⟩) rfl (fun K hK => ?_) AllReadyH.nil)
        rw [if_neg (ne_true (by kernel_rfl))]
        refine hK.out _ _ (hHeld) (fun hHeld => ?_)
        clear hK K
        try simp only [Act.put, List.setIfInBounds_toArray, List.set_cons_zero, List.set_cons_succ]
        refine wpAnyH_take (i := 14) (v := (.bool true)) (oi := ⟨_, _, _, _, _, _⟩) rfl (by kernel_rfl) (by kernel_rfl) (by kernel_rfl) (fun _ _ _ h => h) (Or.inl ⟨by kernel_rfl, fun W hS => ?_⟩) (by assumption) ?_
        · dsimp only at hS; go_split_ands; go_simp
        simp only [Act.put, List.setIfInBounds_toArray, List.set_cons_zero, List.set_cons_succ]
        refine wpAnyH_take (i := 15) (v := (.bool true)) (oi := ⟨_, _, _, _, _, _⟩) rfl (by kernel_rfl) (by kernel_rfl) (by kernel_rfl) (fun _ _ _ h => h) (Or.inl ⟨by kernel_rfl, fun W hS => ?_⟩) (by assumption) ?_
        · dsimp only at hS; go_split_ands; go_simp
        simp only [Act.put, List.setIfInBounds_toArray, List.set_cons_zero, List.set_cons_succ]
        refine wpAnyH_ready (rs := [16]) (by kernel_rfl) (by decide) (AllReadyH.cons (o := ⟨_, _, _, _, _, _⟩) rfl (fun K hK => ?_) AllReadyH.nil)
        rw [if_neg (ne_true (by kernel_rfl))]
        refine hK.out _ _ (hHeld) (fun hHeld => ?_)
        clear hK K
        try simp only [Act.put, List.setIfInBounds_toArray, List.set_cons_zero, List.set_cons_succ]
        refine wpAnyH_ready (rs := [17]) (by kernel_rfl) (by decide) (AllReadyH.cons (o := ⟨_, _, _, _, _, _⟩) rfl (fun K hK => ?_) AllReadyH.nil)
        rw [if_neg (ne_true (by kernel_rfl))]
        refine hK.out _ _ (hHeld) (fun hHeld => ?_)
        clear hK K
        try simp only [Act.put, List.setIfInBounds_toArray, List.set_cons_zero, List.set_cons_succ]
        refine wpAnyH_ready (rs := [18]) (by kernel_rfl) (by decide) (AllReadyH.cons (o := ⟨_, _, _, _, _, _⟩) rfl (fun K hK => ?_) AllReadyH.nil)
        rw [if_neg (ne_true (by kernel_rfl))]
        refine hK.out _ _ (hHeld) (fun hHeld => ?_)
        clear hK K
        try simp only [Act.put, List.setIfInBounds_toArray, List.set_cons_zero, List.set_cons_succ]
        refine wpAnyH_ready (rs := [19]) (by kernel_rfl) (by decide) (AllReadyH.cons (o := ⟨_, _, _, _, _, _⟩) rfl (fun K hK => ?_) AllReadyH.nil)
        rw [if_neg (ne_true (by kernel_rfl))]
        refine hK.out _ _ (hHeld) (fun hHeld => ?_)
        clear hK K
        try simp only [Act.put, List.setIfInBounds_toArray, List.set_cons_zero, List.set_cons_succ]
        refine wpAnyH_take (i := 20) (v := (.bool true)) (oi := ⟨_, _, _, _, _, _⟩) rfl (by kernel_rfl) (by kernel_rfl) (by kernel_rfl) (fun _ _ _ h => h) (Or.inl ⟨by kernel_rfl, fun W hS => ?_⟩) (by assumption) ?_
        · dsimp only at hS; go_split_ands; go_simp
        simp only [Act.put, List.setIfInBounds_toArray, List.set_cons_zero, List.set_cons_succ]
        refine wpAnyH_take (i := 21) (v := (.bool true)) (oi := ⟨_, _, _, _, _, _⟩) rfl (by kernel_rfl) (by kernel_rfl) (by kernel_rfl) (fun _ _ _ h => h) (Or.inl ⟨by kernel_rfl, fun W hS => ?_⟩) (by assumption) ?_
        · dsimp only at hS; go_split_ands; go_simp
        simp only [Act.put, List.setIfInBounds_toArray, List.set_cons_zero, List.set_cons_succ]
        refine wpAnyH_done (by kernel_rfl) ?_ _
        try simp only [Act.put, List.setIfInBounds_toArray, List.set_cons_zero, List.set_cons_succ]
        have L := lds hFd
        have l0 := L.k; have l1 := L.v; have l2 := L.s; have l3 := L.st; have l4 := L.mo; have l5 := L.fu; have l6 := L.di; have l7 := L.args; have l8 := L.body
        clear L
        go_wp2_with fail
        go_loopg [3, 4] 1 (fun gk v3 v4 w' => v3 = .bool true ∧ v4 = .int .i64 0 ∧ w' = w1.drew)
        case atStart => exact ⟨rfl, rfl, rfl⟩
        case round =>
          obtain ⟨rfl, rfl, rfl⟩ := hrel
          go_wp2_with fail
          all_goals
            go_ret
            exact ⟨by rw [HX.out]; rfl, hbd⟩
  have d6 : decide (6 < f.k) = false := decide_eq_false k6
  have hO := own_core (f := f) (by omega) (by omega)
  obtain ⟨s, hs⟩ : ∃ s, (ownG f).same f = s := ⟨_, rfl⟩
  have HSI : Hid (s = true ↔ f.core = onlyF f) := Lib.hid (by rw [← hs, same_iff, hO]; exact eq_comm)
  have HKK : Hid (1 ≤ f.k ∧ f.k ≤ 6) := Lib.hid (by omega)
  have c1 : ∀ W, Calls Tryz.prog 47 #[.agg f.arr] W (fun e w' => e = .returned (.agg (ownG f).arr) ∧ Below W.heap.size W w') := fun W => ronly_any f HOK.out.tool (fun a b c d e => by have := HKK.out; omega) W
  have c2 : ∀ W, Below w.heap.size w W → Calls Tryz.prog 24 #[.agg f.arr, .agg (ownG f).arr] W (fun e w' => e = .returned (.bool s) ∧ Below W.heap.size W w') := fun W hbw => by
    refine rSame_is f (ownG f) s (same_sym2 _ _ _ hs) W (HOK.out.below hbw) ⟨own_tool HOK.out.tool, ?_⟩
    unfold ownG onlyG
    rcases (by have := HKK.out; omega : f.k = 1 ∨ f.k = 2 ∨ f.k = 3 ∨ f.k = 4 ∨ f.k = 5 ∨ f.k = 6) with h | h | h | h | h | h <;> simp [h, only1, only2, only3, only4, only6, noF]
    · exact RT.nil W
    · exact HOK.out.args.below hbw
    · exact RT.nil W
    · exact RT.nil W
    · exact RT.nil W
    · exact RT.nil W
  clear hs hO k1 k6
  have keep : ∀ {W W1 : World}, (Below w.heap.size w W ∧ f.at_ 48 W g) → Below W.heap.size W W1 → (Below w.heap.size w W1 ∧ f.at_ 48 W1 g) := fun h hk => ⟨below_step h.1 hk, h.2.below hk⟩
  cases s with
  | false =>
    have HX : Hid (c = 70) := Lib.hid (by rw [← HC.out]; exact chk_no (fun h => by have := HSI.out.2 h.only; cases this))
    have hcO : Calls Tryz.prog 47 #[.agg f.arr] w1.drew fun e w' => ∃ v, e = .returned v ∧ v = .agg (ownG f).arr ∧ Below w1.drew.heap.size w1.drew w' := (c1 _).mono fun e w' h => ⟨_, h.1, rfl, h.2⟩
    have hcS : ∀ W, Below w.heap.size w W → Calls Tryz.prog 24 #[.agg f.arr, .agg (ownG f).arr] W fun e w' => ∃ v, e = .returned v ∧ v = .bool false ∧ Below W.heap.size W w' := fun W h => (c2 W h).mono fun e w' h => ⟨_, h.1, rfl, h.2⟩
    refine wp_region_held_drew (S := fun W => f.at_ 48 W g) (by kernel_rfl) (hFd) (fun hHeld => ?_)
    refine wpAnyH_take (i := 0) (v := (.pointer (some ⟨g, 0, none⟩))) (oi := ⟨_, _, _, _, _, _⟩) rfl (by kernel_rfl) (by kernel_rfl) (by kernel_rfl) (fun _ _ _ h => h) (Or.inl ⟨by kernel_rfl, fun W hS => ?_⟩) (by assumption) ?_
    · dsimp only at hS; go_split_ands; go_simp
    simp only [Act.put, List.setIfInBounds_toArray, List.set_cons_zero, List.set_cons_succ]
    refine wpAnyH_take (i := 1) (v := (.int .i64 f.k)) (oi := ⟨_, _, _, _, _, _⟩) rfl (by kernel_rfl) (by kernel_rfl) (by kernel_rfl) (fun _ _ _ h => h) (Or.inl ⟨by kernel_rfl, fun W hS => ?_⟩) (by assumption) ?_
    · dsimp only at hS; go_split_ands; go_simp
    simp only [Act.put, List.setIfInBounds_toArray, List.set_cons_zero, List.set_cons_succ]
    refine wpAnyH_take (i := 2) (v := (.bool false)) (oi := ⟨_, _, _, _, _, _⟩) rfl (by kernel_rfl) (by kernel_rfl) (by kernel_rfl) (fun _ _ _ h => h) (Or.inl ⟨by kernel_rfl, fun W hS => ?_⟩) (by assumption) ?_
    · dsimp only at hS; go_split_ands; go_simp
    simp only [Act.put, List.setIfInBounds_toArray, List.set_cons_zero, List.set_cons_succ]
    refine wpAnyH_take (i := 3) (v := (.bool false)) (oi := ⟨_, _, _, _, _, _⟩) rfl (by kernel_rfl) (by kernel_rfl) (by kernel_rfl) (fun _ _ _ h => h) (Or.inl ⟨by kernel_rfl, fun W hS => ?_⟩) (by assumption) ?_
    · dsimp only at hS; go_split_ands; go_simp
    simp only [Act.put, List.setIfInBounds_toArray, List.set_cons_zero, List.set_cons_succ]
    refine wpAnyH_take (i := 4) (v := (.pointer (some ⟨g, 0, none⟩))) (oi := ⟨_, _, _, _, _, _⟩) rfl (by kernel_rfl) (by kernel_rfl) (by kernel_rfl) (fun _ _ _ h => h) (Or.inl ⟨by kernel_rfl, fun W hS => ?_⟩) (by assumption) ?_
    · dsimp only at hS; go_split_ands; go_simp
    simp only [Act.put, List.setIfInBounds_toArray, List.set_cons_zero, List.set_cons_succ]
    refine wpAnyH_take (i := 5) (v := (.int .i64 f.k)) (oi := ⟨_, _, _, _, _, _⟩) rfl (by kernel_rfl) (by kernel_rfl) (by kernel_rfl) (fun _ _ _ h => h) (Or.inl ⟨by kernel_rfl, fun W hS => ?_⟩) (by assumption) ?_
    · dsimp only at hS; go_split_ands; go_simp
    simp only [Act.put, List.setIfInBounds_toArray, List.set_cons_zero, List.set_cons_succ]
    refine wpAnyH_take (i := 6) (v := (.bool false)) (oi := ⟨_, _, _, _, _, _⟩) rfl (by kernel_rfl) (by kernel_rfl) (by kernel_rfl) (fun _ _ _ h => h) (Or.inl ⟨by kernel_rfl, fun W hS => ?_⟩) (by assumption) ?_
    · dsimp only at hS; go_split_ands; go_simp
    simp only [Act.put, List.setIfInBounds_toArray, List.set_cons_zero, List.set_cons_succ]
    refine wpAnyH_take (i := 7) (v := (.bool false)) (oi := ⟨_, _, _, _, _, _⟩) rfl (by kernel_rfl) (by kernel_rfl) (by kernel_rfl) (fun _ _ _ h => h) (Or.inl ⟨by kernel_rfl, fun W hS => ?_⟩) (by assumption) ?_
    · dsimp only at hS; go_split_ands; go_simp
    simp only [Act.put, List.setIfInBounds_toArray, List.set_cons_zero, List.set_cons_succ]
    refine wpAnyH_take (i := 8) (v := (.bool false)) (oi := ⟨_, _, _, _, _, _⟩) rfl (by kernel_rfl) (by kernel_rfl) (by kernel_rfl) (fun _ _ _ h => h) (Or.inl ⟨by kernel_rfl, fun W hS => ?_⟩) (by assumption) ?_
    · dsimp only at hS; go_split_ands; go_simp
    simp only [Act.put, List.setIfInBounds_toArray, List.set_cons_zero, List.set_cons_succ]
    refine wpAnyH_take (i := 9) (v := (.agg f.arr)) (oi := ⟨_, _, _, _, _, _⟩) rfl (by kernel_rfl) (by kernel_rfl) (by kernel_rfl) (fun _ _ _ h => h) (Or.inl ⟨by kernel_rfl, fun W hS => ?_⟩) (by assumption) ?_
    · dsimp only at hS; go_split_ands; go_simp
    simp only [Act.put, List.setIfInBounds_toArray, List.set_cons_zero, List.set_cons_succ]
    refine wpAnyH_take (i := 10) (v := (.agg f.arr)) (oi := ⟨_, _, _, _, _, _⟩) rfl (by kernel_rfl) (by kernel_rfl) (by kernel_rfl) (fun _ _ _ h => h) (Or.inl ⟨by kernel_rfl, fun W hS => ?_⟩) (by assumption) ?_
    · dsimp only at hS; go_split_ands; go_simp
    simp only [Act.put, List.setIfInBounds_toArray, List.set_cons_zero, List.set_cons_succ]
    refine wpAnyH_ready (rs := [11]) (by kernel_rfl) (by decide) (AllReadyH.cons (o := ⟨_, _, _, _, _, _⟩) rfl (fun K hK => ?_) AllReadyH.nil)
    refine at_call ?_ ?_ hcO ?_
    · kernel_rfl
    · go_simp
    rintro v3 w3 ⟨rfl, hb3⟩
    have hF3 := hFd.below hb3
    have hbw3 := below_step hbd hb3
    refine hK.out _ _ (hF3) (fun hHeld => ?_)
    clear hK K
    try simp only [Act.put, List.setIfInBounds_toArray, List.set_cons_zero, List.set_cons_succ]
    refine wpAnyH_ready (rs := [12]) (by kernel_rfl) (by decide) (AllReadyH.cons (o := ⟨_, _, _, _, _, _⟩) rfl (fun K hK => ?_) AllReadyH.nil)
    refine at_call ?_ ?_ (hcS w3 hbw3) ?_
    · kernel_rfl
    · go_simp
    rintro v4 w4 ⟨rfl, hb4⟩
    have hF5 := hF3.below hb4
    have hb5 := below_step hbw3 hb4
    refine hK.out _ _ (hF5) (fun hHeld => ?_)
    clear hK K
    try simp only [Act.put, List.setIfInBounds_toArray, List.set_cons_zero, List.set_cons_succ]
    refine wpAnyH_take (i := 13) (v := (.bool true)) (oi := ⟨_, _, _, _, _, _⟩) rfl (by kernel_rfl) (by kernel_rfl) (by kernel_rfl) (fun _ _ _ h => h) (Or.inl ⟨by kernel_rfl, fun W hS => ?_⟩) (by assumption) ?_
    · dsimp only at hS; go_split_ands; go_simp
    simp only [Act.put, List.setIfInBounds_toArray, List.set_cons_zero, List.set_cons_succ]
    refine wpAnyH_take (i := 14) (v := (.bool true)) (oi := ⟨_, _, _, _, _, _⟩) rfl (by kernel_rfl) (by kernel_rfl) (by kernel_rfl) (fun _ _ _ h => h) (Or.inl ⟨by kernel_rfl, fun W hS => ?_⟩) (by assumption) ?_
    · dsimp only at hS; go_split_ands; go_simp
    simp only [Act.put, List.setIfInBounds_toArray, List.set_cons_zero, List.set_cons_succ]
    refine wpAnyH_take (i := 15) (v := (.bool true)) (oi := ⟨_, _, _, _, _, _⟩) rfl (by kernel_rfl) (by kernel_rfl) (by kernel_rfl) (fun _ _ _ h => h) (Or.inl ⟨by kernel_rfl, fun W hS => ?_⟩) (by assumption) ?_
    · dsimp only at hS; go_split_ands; go_simp
    simp only [Act.put, List.setIfInBounds_toArray, List.set_cons_zero, List.set_cons_succ]
    refine wpAnyH_ready (rs := [16]) (by kernel_rfl) (by decide) (AllReadyH.cons (o := ⟨_, _, _, _, _, _⟩) rfl (fun K hK => ?_) AllReadyH.nil)
    rw [if_neg (ne_true (by kernel_rfl))]
    refine hK.out _ _ (hHeld) (fun hHeld => ?_)
    clear hK K
    try simp only [Act.put, List.setIfInBounds_toArray, List.set_cons_zero, List.set_cons_succ]
    refine wpAnyH_ready (rs := [17]) (by kernel_rfl) (by decide) (AllReadyH.cons (o := ⟨_, _, _, _, _, _⟩) rfl (fun K hK => ?_) AllReadyH.nil)
    rw [if_neg (ne_true (by kernel_rfl))]
    refine hK.out _ _ (hHeld) (fun hHeld => ?_)
    clear hK K
    try simp only [Act.put, List.setIfInBounds_toArray, List.set_cons_zero, List.set_cons_succ]
    refine wpAnyH_ready (rs := [18]) (by kernel_rfl) (by decide) (AllReadyH.cons (o := ⟨_, _, _, _, _, _⟩) rfl (fun K hK => ?_) AllReadyH.nil)
    rw [if_neg (ne_true (by kernel_rfl))]
    refine hK.out _ _ (hHeld) (fun hHeld => ?_)
    clear hK K
    try simp only [Act.put, List.setIfInBounds_toArray, List.set_cons_zero, List.set_cons_succ]
    refine wpAnyH_ready (rs := [19]) (by kernel_rfl) (by decide) (AllReadyH.cons (o := ⟨_, _, _, _, _, _⟩) rfl (fun K hK => ?_) AllReadyH.nil)
    rw [if_neg (ne_true (by kernel_rfl))]
    refine hK.out _ _ (hHeld) (fun hHeld => ?_)
    clear hK K
    try simp only [Act.put, List.setIfInBounds_toArray, List.set_cons_zero, List.set_cons_succ]
    refine wpAnyH_take (i := 20) (v := (.bool true)) (oi := ⟨_, _, _, _, _, _⟩) rfl (by kernel_rfl) (by kernel_rfl) (by kernel_rfl) (fun _ _ _ h => h) (Or.inl ⟨by kernel_rfl, fun W hS => ?_⟩) (by assumption) ?_
    · dsimp only at hS; go_split_ands; go_simp
    simp only [Act.put, List.setIfInBounds_toArray, List.set_cons_zero, List.set_cons_succ]
    refine wpAnyH_take (i := 21) (v := (.bool true)) (oi := ⟨_, _, _, _, _, _⟩) rfl (by kernel_rfl) (by kernel_rfl) (by kernel_rfl) (fun _ _ _ h => h) (Or.inl ⟨by kernel_rfl, fun W hS => ?_⟩) (by assumption) ?_
    · dsimp only at hS; go_split_ands; go_simp
    simp only [Act.put, List.setIfInBounds_toArray, List.set_cons_zero, List.set_cons_succ]
    refine wpAnyH_done (by kernel_rfl) ?_ _
    try simp only [Act.put, List.setIfInBounds_toArray, List.set_cons_zero, List.set_cons_succ]
    have L := lds hF5
    have l0 := L.k; have l1 := L.v; have l2 := L.s; have l3 := L.st; have l4 := L.mo; have l5 := L.fu; have l6 := L.di; have l7 := L.args; have l8 := L.body
    clear L
    go_wp2_with fail
    go_loopg [3, 4] 1 (fun gk v3 v4 w' => v3 = .bool true ∧ v4 = .int .i64 0 ∧ w' = w4)
    case atStart => exact ⟨rfl, rfl, rfl⟩
    case round =>
      obtain ⟨rfl, rfl, rfl⟩ := hrel
      go_wp2_with fail
      all_goals
        go_ret
        exact ⟨by rw [HX.out]; rfl, hb5⟩
  | true =>
    have HCO := Lib.hid (HSI.out.1 rfl)
    have hn := HOK.out.args.len
    by_cases ha8 : 8 < f.n
    · have HX : Hid (c = 70) := Lib.hid (by rw [← HC.out]; exact chk_no (fun h => by have := h.many; omega))
      have ha9 : decide ((8 : Int) < (f.n : Int)) = true := decide_eq_true (by omega)
      clear hn ha8
      go_region_held3 (fun w' => Below w.heap.size w w' ∧ f.at_ 48 w' g)
        (first
          | assumption
          | exact ⟨hbd, hFd⟩
          | (go_split_ands; refine keep ⟨?_, ?_⟩ hb3 <;> assumption)
          | (go_split_ands; refine keep ⟨?_, ?_⟩ hb4 <;> assumption))
        (first
          | (go_at_call 47; (with_reducible refine (c1 _).mono ?_); rintro e w3 ⟨rfl, hb3⟩)
          | (go_at_call 24; go_split_ands; (with_reducible refine (c2 _ (by assumption)).mono ?_); rintro e w4 ⟨rfl, hb4⟩))
      all_goals
        go_split_ands
        have hF5 : f.at_ 48 w4 g := by assumption
        have hb5 : Below w.heap.size w w4 := by assumption
        have L := lds hF5
        have l0 := L.k; have l1 := L.v; have l2 := L.s; have l3 := L.st; have l4 := L.mo; have l5 := L.fu; have l6 := L.di; have l7 := L.args; have l8 := L.body
        clear L
        go_wp2_with fail
        go_loopg [3, 4] 1 (fun gk v3 v4 w' => v3 = .bool true ∧ v4 = .int .i64 0 ∧ w' = w4)
        case atStart => exact ⟨rfl, rfl, rfl⟩
        case round =>
          obtain ⟨rfl, rfl, rfl⟩ := hrel
          go_wp2_with fail
          all_goals
            go_ret
            exact ⟨by rw [HX.out]; rfl, hb5⟩
    have ha9 : decide ((8 : Int) < (f.n : Int)) = false := decide_eq_false (by omega)
    have HN8 : Hid (f.args.length ≤ 8) := Lib.hid (by omega)
    clear hn ha8
    go_region_held3 (fun w' => Below w.heap.size w w' ∧ f.at_ 48 w' g)
      (first
        | assumption
        | exact ⟨hbd, hFd⟩
        | (go_split_ands; refine keep ⟨?_, ?_⟩ hb3 <;> assumption)
        | (go_split_ands; refine keep ⟨?_, ?_⟩ hb4 <;> assumption))
      (first
        | (go_at_call 47; (with_reducible refine (c1 _).mono ?_); rintro e w3 ⟨rfl, hb3⟩)
        | (go_at_call 24; go_split_ands; (with_reducible refine (c2 _ (by assumption)).mono ?_); rintro e w4 ⟨rfl, hb4⟩))
    all_goals
      go_split_ands
      have hF5 : f.at_ 48 w4 g := by assumption
      have hb5 : Below w.heap.size w w4 := by assumption
      clear hb3 hb4 hl0 hl2 c1 c2 hbd hFd hb hF
      by_cases m1 : f.mo < 0
      · skip
        have HX : Hid (c = 70) := Lib.hid (by rw [← HC.out]; exact chk_no (fun h => by have := h.mo; omega))
        clear HOK HWF HHA
        have L := lds hF5
        have l0 := L.k; have l1 := L.v; have l2 := L.s; have l3 := L.st; have l4 := L.mo; have l5 := L.fu; have l6 := L.di; have l7 := L.args; have l8 := L.body
        clear L
        go_wp2_with fail
        go_loopg [3, 4] 1 (fun gk v3 v4 w' => v3 = .bool true ∧ v4 = .int .i64 0 ∧ w' = w4)
        case atStart => exact ⟨rfl, rfl, rfl⟩
        case round =>
          obtain ⟨rfl, rfl, rfl⟩ := hrel
          go_wp2_with fail
          all_goals
            go_ret
            exact ⟨by rw [HX.out]; rfl, hb5⟩
      by_cases m2 : f.fu < 0
      · skip
        have HX : Hid (c = 70) := Lib.hid (by rw [← HC.out]; exact chk_no (fun h => by have := h.fu; omega))
        clear HOK HWF HHA
        have L := lds hF5
        have l0 := L.k; have l1 := L.v; have l2 := L.s; have l3 := L.st; have l4 := L.mo; have l5 := L.fu; have l6 := L.di; have l7 := L.args; have l8 := L.body
        clear L
        go_wp2_with fail
        go_loopg [3, 4] 1 (fun gk v3 v4 w' => v3 = .bool true ∧ v4 = .int .i64 0 ∧ w' = w4)
        case atStart => exact ⟨rfl, rfl, rfl⟩
        case round =>
          obtain ⟨rfl, rfl, rfl⟩ := hrel
          go_wp2_with fail
          all_goals
            go_ret
            exact ⟨by rw [HX.out]; rfl, hb5⟩
      by_cases m3 : f.di < 0
      · skip
        have HX : Hid (c = 70) := Lib.hid (by rw [← HC.out]; exact chk_no (fun h => by have := h.di; omega))
        clear HOK HWF HHA
        have L := lds hF5
        have l0 := L.k; have l1 := L.v; have l2 := L.s; have l3 := L.st; have l4 := L.mo; have l5 := L.fu; have l6 := L.di; have l7 := L.args; have l8 := L.body
        clear L
        go_wp2_with fail
        go_loopg [3, 4] 1 (fun gk v3 v4 w' => v3 = .bool true ∧ v4 = .int .i64 0 ∧ w' = w4)
        case atStart => exact ⟨rfl, rfl, rfl⟩
        case round =>
          obtain ⟨rfl, rfl, rfl⟩ := hrel
          go_wp2_with fail
          all_goals
            go_ret
            exact ⟨by rw [HX.out]; rfl, hb5⟩
      by_cases e1 : f.k = 1
      · have b1 : (f.k == 1) = true := by rw [beq_iff_eq]; exact e1
        have b3 : (f.k == 3) = false := by rw [beq_eq_false_iff_ne]; omega
        by_cases v1 : f.v = 1
        · have bv : (f.v != 1) = false := by simp [v1]
          by_cases s1 : f.s < 1
          · skip
            have HX : Hid (c = 70) := Lib.hid (by rw [← HC.out]; exact chk_no (fun h => by have := (h.hello e1).2.1; omega))
            clear HOK HWF HHA
            have L := lds hF5
            have l0 := L.k; have l1 := L.v; have l2 := L.s; have l3 := L.st; have l4 := L.mo; have l5 := L.fu; have l6 := L.di; have l7 := L.args; have l8 := L.body
            clear L
            go_wp2_with fail
            go_loopg [3, 4] 1 (fun gk v3 v4 w' => v3 = .bool true ∧ v4 = .int .i64 0 ∧ w' = w4)
            case atStart => exact ⟨rfl, rfl, rfl⟩
            case round =>
              obtain ⟨rfl, rfl, rfl⟩ := hrel
              go_wp2_with fail
              all_goals
                go_ret
                exact ⟨by rw [HX.out]; rfl, hb5⟩
          by_cases s2 : 64 < f.s
          · skip
            have HX : Hid (c = 70) := Lib.hid (by rw [← HC.out]; exact chk_no (fun h => by have := (h.hello e1).2.2; omega))
            clear HOK HWF HHA
            have L := lds hF5
            have l0 := L.k; have l1 := L.v; have l2 := L.s; have l3 := L.st; have l4 := L.mo; have l5 := L.fu; have l6 := L.di; have l7 := L.args; have l8 := L.body
            clear L
            go_wp2_with fail
            go_loopg [3, 4] 1 (fun gk v3 v4 w' => v3 = .bool true ∧ v4 = .int .i64 0 ∧ w' = w4)
            case atStart => exact ⟨rfl, rfl, rfl⟩
            case round =>
              obtain ⟨rfl, rfl, rfl⟩ := hrel
              go_wp2_with fail
              all_goals
                go_ret
                exact ⟨by rw [HX.out]; rfl, hb5⟩
          have HP : Hid ((∀ s ∈ f.args, s.size ≤ 4096) → May f) := Lib.hid (fun he => ⟨HKK.out.1, HKK.out.2, HCO.out, HN8.out, by omega, by omega, by omega, fun _ => ⟨v1, by omega, by omega⟩, fun e => by omega, he⟩)
          have HOK2 := HOK
          have L := lds hF5
          have l0 := L.k; have l1 := L.v; have l2 := L.s; have l3 := L.st; have l4 := L.mo; have l5 := L.fu; have l6 := L.di; have l7 := L.args; have l8 := L.body
          clear L e1 v1
          go_wp2_with fail
          go_loopg [3, 4] f.n (fun gk v3 v4 w' => CkLoop f w4 gk v3 v4 w')
          case atStart => exact ⟨0, false, rfl, rfl, rfl, Lib.hid ⟨by omega, fun _ j hj => (by omega), fun e => (by cases e), by omega⟩⟩
          case round =>
            obtain ⟨i, b, rfl, rfl, rfl, HG⟩ := hrel
            cases b with
            | true =>
              have HX : Hid (c = 70) := Lib.hid (by
                rw [← HC.out]
                obtain ⟨s, hm, hl⟩ := HG.out.2.2.1 (by simp)
                exact chk_no (fun h => by have := h.each s hm; omega))
              go_wp2_with fail
              all_goals
                go_ret
                exact ⟨by rw [HX.out]; rfl, hb5⟩
            | false =>
              by_cases hi : i < f.n
              · obtain ⟨ad, s, HAE, hcell, HXX⟩ := (HOK2.out.args.below hb5).at_ i hi
                have hi2 : (i : Int) < (f.n : Int) := by omega
                have hls := load_s hcell
                have hsz := HHA.out s (List.mem_of_getElem? HXX.out)
                rw [HAE] at l7
                clear HAE
                by_cases hl : 4096 < s.size
                · have hl2 : (4096 : Int) < (s.size : Int) := by omega
                  have HL := Lib.hid hl
                  clear hl
                  go_wp2_with fail
                  go_roundg (gk - 1)
                  case measure => have := HG.out.2.2.2; have := HG.out.1; omega
                  case rel => exact ⟨i + 1, true, by simp, by simp, rfl, Lib.hid ⟨by omega, fun e => by (cases e), fun _ => ⟨s, List.mem_of_getElem? HXX.out, HL.out⟩, by have := HG.out.2.2.2; omega⟩⟩
                · have hl2 : ¬ (4096 : Int) < (s.size : Int) := by omega
                  have HL := Lib.hid hl
                  clear hl
                  go_wp2_with fail
                  go_roundg (gk - 1)
                  case measure => have := HG.out.2.2.2; have := HG.out.1; omega
                  case rel =>
                    refine ⟨i + 1, false, by simp, by simp, rfl, Lib.hid ⟨by omega, fun _ j hj s2 h2 => ?_, fun e => by (cases e), by have := HG.out.2.2.2; omega⟩⟩
                    rcases Nat.lt_or_ge j i with h | h
                    · exact HG.out.2.1 (by simp) j h s2 h2
                    · obtain rfl : j = i := by omega
                      rw [HXX.out] at h2
                      cases h2
                      have := HL.out
                      omega
              · have hi2 : ¬ (i : Int) < (f.n : Int) := by omega
                have HM : Hid (May f) := Lib.hid (HP.out (fun s hm => by
                  obtain ⟨j, hj, e⟩ := List.mem_iff_getElem.1 hm
                  have := HOK2.out.args.len
                  exact HG.out.2.1 (by simp) j (by omega) s (by rw [List.getElem?_eq_getElem hj, e])))
                clear hi
                by_cases hs : 2097152 < f.body.size
                · have HX : Hid (c = 3) := Lib.hid (by rw [← HC.out]; exact chk_long HM.out (.inl hs))
                  have hs2 : (2097152 : Int) < (f.body.size : Int) := by omega
                  clear hs
                  go_wp2_with fail
                  go_ret
                  exact ⟨by rw [HX.out]; rfl, hb5⟩
                · have hs2 : ¬ (2097152 : Int) < (f.body.size : Int) := by omega
                  have HS := Lib.hid hs
                  have e2 := hl1 _ hF5
                  clear hs
                  go_wp2_with fail
                  refine (rbody_any HM.out.k1 HM.out.k6 (HOK2.out.below hb5) HWF.out (may_lay HM.out HOK2.out.args.len (by have := HS.out; omega))).mono ?_
                  rintro e wd ⟨v, rfl, hOd, hbf⟩
                  have hbg := below_step hb5 hbf
                  obtain ⟨Ad, cd, rfl, hRd⟩ := hOd.reads
                  obtain ⟨nd, hnd⟩ : ∃ nd, (bodyF f).length = nd := ⟨_, rfl⟩
                  rw [hnd] at hOd hRd ⊢
                  by_cases hl : 2097152 < nd
                  · have HX : Hid (c = 3) := Lib.hid (by rw [← HC.out]; exact chk_long HM.out (.inr (by rw [hnd]; exact hl)))
                    have hl2 : (2097152 : Int) < (nd : Int) := by omega
                    clear hl hnd
                    go_wp2_with fail
                    go_ret
                    exact ⟨by rw [HX.out]; rfl, hbg⟩
                  · have HX : Hid (c = 0) := Lib.hid (by rw [← HC.out]; exact chk_ok HM.out (by rw [hnd]; have := HS.out; omega))
                    have hl2 : ¬ (2097152 : Int) < (nd : Int) := by omega
                    clear hl hnd
                    go_wp2_with fail
                    go_ret
                    exact ⟨by rw [HX.out]; rfl, hbg⟩
        · have bv : (f.v != 1) = true := by simpa using v1
          have HX : Hid (c = 70) := Lib.hid (by rw [← HC.out]; exact chk_no (fun h => by exact v1 (h.hello e1).1))
          clear HOK HWF HHA
          have L := lds hF5
          have l0 := L.k; have l1 := L.v; have l2 := L.s; have l3 := L.st; have l4 := L.mo; have l5 := L.fu; have l6 := L.di; have l7 := L.args; have l8 := L.body
          clear L
          go_wp2_with fail
          go_loopg [3, 4] 1 (fun gk v3 v4 w' => v3 = .bool true ∧ v4 = .int .i64 0 ∧ w' = w4)
          case atStart => exact ⟨rfl, rfl, rfl⟩
          case round =>
            obtain ⟨rfl, rfl, rfl⟩ := hrel
            go_wp2_with fail
            all_goals
              go_ret
              exact ⟨by rw [HX.out]; rfl, hb5⟩
      have b1 : (f.k == 1) = false := by rw [beq_eq_false_iff_ne]; exact e1
      by_cases e3 : f.k = 3
      · have b3 : (f.k == 3) = true := by rw [beq_iff_eq]; exact e3
        by_cases t1 : f.st < 1
        · skip
          have HX : Hid (c = 70) := Lib.hid (by rw [← HC.out]; exact chk_no (fun h => by have := (h.resp e3).1; omega))
          clear HOK HWF HHA
          have L := lds hF5
          have l0 := L.k; have l1 := L.v; have l2 := L.s; have l3 := L.st; have l4 := L.mo; have l5 := L.fu; have l6 := L.di; have l7 := L.args; have l8 := L.body
          clear L
          go_wp2_with fail
          go_loopg [3, 4] 1 (fun gk v3 v4 w' => v3 = .bool true ∧ v4 = .int .i64 0 ∧ w' = w4)
          case atStart => exact ⟨rfl, rfl, rfl⟩
          case round =>
            obtain ⟨rfl, rfl, rfl⟩ := hrel
            go_wp2_with fail
            all_goals
              go_ret
              exact ⟨by rw [HX.out]; rfl, hb5⟩
        by_cases t2 : 3 < f.st
        · skip
          have HX : Hid (c = 70) := Lib.hid (by rw [← HC.out]; exact chk_no (fun h => by have := (h.resp e3).2.1; omega))
          clear HOK HWF HHA
          have L := lds hF5
          have l0 := L.k; have l1 := L.v; have l2 := L.s; have l3 := L.st; have l4 := L.mo; have l5 := L.fu; have l6 := L.di; have l7 := L.args; have l8 := L.body
          clear L
          go_wp2_with fail
          go_loopg [3, 4] 1 (fun gk v3 v4 w' => v3 = .bool true ∧ v4 = .int .i64 0 ∧ w' = w4)
          case atStart => exact ⟨rfl, rfl, rfl⟩
          case round =>
            obtain ⟨rfl, rfl, rfl⟩ := hrel
            go_wp2_with fail
            all_goals
              go_ret
              exact ⟨by rw [HX.out]; rfl, hb5⟩
        by_cases t3 : f.st = 1
        · have bt : (f.st != 1) = false := by simp [t3]
          have HP : Hid ((∀ s ∈ f.args, s.size ≤ 4096) → May f) := Lib.hid (fun he => ⟨HKK.out.1, HKK.out.2, HCO.out, HN8.out, by omega, by omega, by omega, fun e => absurd e e1, fun _ => ⟨by omega, by omega, fun h => absurd t3 h⟩, he⟩)
          have HOK2 := HOK
          have L := lds hF5
          have l0 := L.k; have l1 := L.v; have l2 := L.s; have l3 := L.st; have l4 := L.mo; have l5 := L.fu; have l6 := L.di; have l7 := L.args; have l8 := L.body
          clear L e1 e3 t3
          go_wp2_with fail
          go_loopg [3, 4] f.n (fun gk v3 v4 w' => CkLoop f w4 gk v3 v4 w')
          case atStart => exact ⟨0, false, rfl, rfl, rfl, Lib.hid ⟨by omega, fun _ j hj => (by omega), fun e => (by cases e), by omega⟩⟩
          case round =>
            obtain ⟨i, b, rfl, rfl, rfl, HG⟩ := hrel
            cases b with
            | true =>
              have HX : Hid (c = 70) := Lib.hid (by
                rw [← HC.out]
                obtain ⟨s, hm, hl⟩ := HG.out.2.2.1 (by simp)
                exact chk_no (fun h => by have := h.each s hm; omega))
              go_wp2_with fail
              all_goals
                go_ret
                exact ⟨by rw [HX.out]; rfl, hb5⟩
            | false =>
              by_cases hi : i < f.n
              · obtain ⟨ad, s, HAE, hcell, HXX⟩ := (HOK2.out.args.below hb5).at_ i hi
                have hi2 : (i : Int) < (f.n : Int) := by omega
                have hls := load_s hcell
                have hsz := HHA.out s (List.mem_of_getElem? HXX.out)
                rw [HAE] at l7
                clear HAE
                by_cases hl : 4096 < s.size
                · have hl2 : (4096 : Int) < (s.size : Int) := by omega
                  have HL := Lib.hid hl
                  clear hl
                  go_wp2_with fail
                  go_roundg (gk - 1)
                  case measure => have := HG.out.2.2.2; have := HG.out.1; omega
                  case rel => exact ⟨i + 1, true, by simp, by simp, rfl, Lib.hid ⟨by omega, fun e => by (cases e), fun _ => ⟨s, List.mem_of_getElem? HXX.out, HL.out⟩, by have := HG.out.2.2.2; omega⟩⟩
                · have hl2 : ¬ (4096 : Int) < (s.size : Int) := by omega
                  have HL := Lib.hid hl
                  clear hl
                  go_wp2_with fail
                  go_roundg (gk - 1)
                  case measure => have := HG.out.2.2.2; have := HG.out.1; omega
                  case rel =>
                    refine ⟨i + 1, false, by simp, by simp, rfl, Lib.hid ⟨by omega, fun _ j hj s2 h2 => ?_, fun e => by (cases e), by have := HG.out.2.2.2; omega⟩⟩
                    rcases Nat.lt_or_ge j i with h | h
                    · exact HG.out.2.1 (by simp) j h s2 h2
                    · obtain rfl : j = i := by omega
                      rw [HXX.out] at h2
                      cases h2
                      have := HL.out
                      omega
              · have hi2 : ¬ (i : Int) < (f.n : Int) := by omega
                have HM : Hid (May f) := Lib.hid (HP.out (fun s hm => by
                  obtain ⟨j, hj, e⟩ := List.mem_iff_getElem.1 hm
                  have := HOK2.out.args.len
                  exact HG.out.2.1 (by simp) j (by omega) s (by rw [List.getElem?_eq_getElem hj, e])))
                clear hi
                by_cases hs : 2097152 < f.body.size
                · have HX : Hid (c = 3) := Lib.hid (by rw [← HC.out]; exact chk_long HM.out (.inl hs))
                  have hs2 : (2097152 : Int) < (f.body.size : Int) := by omega
                  clear hs
                  go_wp2_with fail
                  go_ret
                  exact ⟨by rw [HX.out]; rfl, hb5⟩
                · have hs2 : ¬ (2097152 : Int) < (f.body.size : Int) := by omega
                  have HS := Lib.hid hs
                  have e2 := hl1 _ hF5
                  clear hs
                  go_wp2_with fail
                  refine (rbody_any HM.out.k1 HM.out.k6 (HOK2.out.below hb5) HWF.out (may_lay HM.out HOK2.out.args.len (by have := HS.out; omega))).mono ?_
                  rintro e wd ⟨v, rfl, hOd, hbf⟩
                  have hbg := below_step hb5 hbf
                  obtain ⟨Ad, cd, rfl, hRd⟩ := hOd.reads
                  obtain ⟨nd, hnd⟩ : ∃ nd, (bodyF f).length = nd := ⟨_, rfl⟩
                  rw [hnd] at hOd hRd ⊢
                  by_cases hl : 2097152 < nd
                  · have HX : Hid (c = 3) := Lib.hid (by rw [← HC.out]; exact chk_long HM.out (.inr (by rw [hnd]; exact hl)))
                    have hl2 : (2097152 : Int) < (nd : Int) := by omega
                    clear hl hnd
                    go_wp2_with fail
                    go_ret
                    exact ⟨by rw [HX.out]; rfl, hbg⟩
                  · have HX : Hid (c = 0) := Lib.hid (by rw [← HC.out]; exact chk_ok HM.out (by rw [hnd]; have := HS.out; omega))
                    have hl2 : ¬ (2097152 : Int) < (nd : Int) := by omega
                    clear hl hnd
                    go_wp2_with fail
                    go_ret
                    exact ⟨by rw [HX.out]; rfl, hbg⟩
        · have bt : (f.st != 1) = true := by simpa using t3
          by_cases h0 : f.body.size = 0
          · have be : f.body.toList.isEmpty = true := by rw [body_empty]; exact decide_eq_true h0
            have be2 : (!f.body.toList.isEmpty) = false := by rw [be]; rfl
            have HP : Hid ((∀ s ∈ f.args, s.size ≤ 4096) → May f) := Lib.hid (fun he => ⟨HKK.out.1, HKK.out.2, HCO.out, HN8.out, by omega, by omega, by omega, fun e => absurd e e1, fun _ => ⟨by omega, by omega, fun _ => h0⟩, he⟩)
            have HOK2 := HOK
            have L := lds hF5
            have l0 := L.k; have l1 := L.v; have l2 := L.s; have l3 := L.st; have l4 := L.mo; have l5 := L.fu; have l6 := L.di; have l7 := L.args; have l8 := L.body
            clear L e1 e3 t3 h0
            go_wp2_with fail
            go_loopg [3, 4] f.n (fun gk v3 v4 w' => CkLoop f w4 gk v3 v4 w')
            case atStart => exact ⟨0, false, rfl, rfl, rfl, Lib.hid ⟨by omega, fun _ j hj => (by omega), fun e => (by cases e), by omega⟩⟩
            case round =>
              obtain ⟨i, b, rfl, rfl, rfl, HG⟩ := hrel
              cases b with
              | true =>
                have HX : Hid (c = 70) := Lib.hid (by
                  rw [← HC.out]
                  obtain ⟨s, hm, hl⟩ := HG.out.2.2.1 (by simp)
                  exact chk_no (fun h => by have := h.each s hm; omega))
                go_wp2_with fail
                all_goals
                  go_ret
                  exact ⟨by rw [HX.out]; rfl, hb5⟩
              | false =>
                by_cases hi : i < f.n
                · obtain ⟨ad, s, HAE, hcell, HXX⟩ := (HOK2.out.args.below hb5).at_ i hi
                  have hi2 : (i : Int) < (f.n : Int) := by omega
                  have hls := load_s hcell
                  have hsz := HHA.out s (List.mem_of_getElem? HXX.out)
                  rw [HAE] at l7
                  clear HAE
                  by_cases hl : 4096 < s.size
                  · have hl2 : (4096 : Int) < (s.size : Int) := by omega
                    have HL := Lib.hid hl
                    clear hl
                    go_wp2_with fail
                    go_roundg (gk - 1)
                    case measure => have := HG.out.2.2.2; have := HG.out.1; omega
                    case rel => exact ⟨i + 1, true, by simp, by simp, rfl, Lib.hid ⟨by omega, fun e => by (cases e), fun _ => ⟨s, List.mem_of_getElem? HXX.out, HL.out⟩, by have := HG.out.2.2.2; omega⟩⟩
                  · have hl2 : ¬ (4096 : Int) < (s.size : Int) := by omega
                    have HL := Lib.hid hl
                    clear hl
                    go_wp2_with fail
                    go_roundg (gk - 1)
                    case measure => have := HG.out.2.2.2; have := HG.out.1; omega
                    case rel =>
                      refine ⟨i + 1, false, by simp, by simp, rfl, Lib.hid ⟨by omega, fun _ j hj s2 h2 => ?_, fun e => by (cases e), by have := HG.out.2.2.2; omega⟩⟩
                      rcases Nat.lt_or_ge j i with h | h
                      · exact HG.out.2.1 (by simp) j h s2 h2
                      · obtain rfl : j = i := by omega
                        rw [HXX.out] at h2
                        cases h2
                        have := HL.out
                        omega
                · have hi2 : ¬ (i : Int) < (f.n : Int) := by omega
                  have HM : Hid (May f) := Lib.hid (HP.out (fun s hm => by
                    obtain ⟨j, hj, e⟩ := List.mem_iff_getElem.1 hm
                    have := HOK2.out.args.len
                    exact HG.out.2.1 (by simp) j (by omega) s (by rw [List.getElem?_eq_getElem hj, e])))
                  clear hi
                  by_cases hs : 2097152 < f.body.size
                  · have HX : Hid (c = 3) := Lib.hid (by rw [← HC.out]; exact chk_long HM.out (.inl hs))
                    have hs2 : (2097152 : Int) < (f.body.size : Int) := by omega
                    clear hs
                    go_wp2_with fail
                    go_ret
                    exact ⟨by rw [HX.out]; rfl, hb5⟩
                  · have hs2 : ¬ (2097152 : Int) < (f.body.size : Int) := by omega
                    have HS := Lib.hid hs
                    have e2 := hl1 _ hF5
                    clear hs
                    go_wp2_with fail
                    refine (rbody_any HM.out.k1 HM.out.k6 (HOK2.out.below hb5) HWF.out (may_lay HM.out HOK2.out.args.len (by have := HS.out; omega))).mono ?_
                    rintro e wd ⟨v, rfl, hOd, hbf⟩
                    have hbg := below_step hb5 hbf
                    obtain ⟨Ad, cd, rfl, hRd⟩ := hOd.reads
                    obtain ⟨nd, hnd⟩ : ∃ nd, (bodyF f).length = nd := ⟨_, rfl⟩
                    rw [hnd] at hOd hRd ⊢
                    by_cases hl : 2097152 < nd
                    · have HX : Hid (c = 3) := Lib.hid (by rw [← HC.out]; exact chk_long HM.out (.inr (by rw [hnd]; exact hl)))
                      have hl2 : (2097152 : Int) < (nd : Int) := by omega
                      clear hl hnd
                      go_wp2_with fail
                      go_ret
                      exact ⟨by rw [HX.out]; rfl, hbg⟩
                    · have HX : Hid (c = 0) := Lib.hid (by rw [← HC.out]; exact chk_ok HM.out (by rw [hnd]; have := HS.out; omega))
                      have hl2 : ¬ (2097152 : Int) < (nd : Int) := by omega
                      clear hl hnd
                      go_wp2_with fail
                      go_ret
                      exact ⟨by rw [HX.out]; rfl, hbg⟩
          · have be : f.body.toList.isEmpty = false := by rw [body_empty]; exact decide_eq_false h0
            have be2 : (!f.body.toList.isEmpty) = true := by rw [be]; rfl
            have HX : Hid (c = 70) := Lib.hid (by rw [← HC.out]; exact chk_no (fun h => by exact h0 ((h.resp e3).2.2 t3)))
            clear HOK HWF HHA
            have L := lds hF5
            have l0 := L.k; have l1 := L.v; have l2 := L.s; have l3 := L.st; have l4 := L.mo; have l5 := L.fu; have l6 := L.di; have l7 := L.args; have l8 := L.body
            clear L
            go_wp2_with fail
            go_loopg [3, 4] 1 (fun gk v3 v4 w' => v3 = .bool true ∧ v4 = .int .i64 0 ∧ w' = w4)
            case atStart => exact ⟨rfl, rfl, rfl⟩
            case round =>
              obtain ⟨rfl, rfl, rfl⟩ := hrel
              go_wp2_with fail
              all_goals
                go_ret
                exact ⟨by rw [HX.out]; rfl, hb5⟩
      have b3 : (f.k == 3) = false := by rw [beq_eq_false_iff_ne]; exact e3
      have HP : Hid ((∀ s ∈ f.args, s.size ≤ 4096) → May f) := Lib.hid (fun he => ⟨HKK.out.1, HKK.out.2, HCO.out, HN8.out, by omega, by omega, by omega, fun e => absurd e e1, fun e => absurd e e3, he⟩)
      have HOK2 := HOK
      have L := lds hF5
      have l0 := L.k; have l1 := L.v; have l2 := L.s; have l3 := L.st; have l4 := L.mo; have l5 := L.fu; have l6 := L.di; have l7 := L.args; have l8 := L.body
      clear L e1 e3
      go_wp2_with fail
      go_loopg [3, 4] f.n (fun gk v3 v4 w' => CkLoop f w4 gk v3 v4 w')
      case atStart => exact ⟨0, false, rfl, rfl, rfl, Lib.hid ⟨by omega, fun _ j hj => (by omega), fun e => (by cases e), by omega⟩⟩
      case round =>
        obtain ⟨i, b, rfl, rfl, rfl, HG⟩ := hrel
        cases b with
        | true =>
          have HX : Hid (c = 70) := Lib.hid (by
            rw [← HC.out]
            obtain ⟨s, hm, hl⟩ := HG.out.2.2.1 (by simp)
            exact chk_no (fun h => by have := h.each s hm; omega))
          go_wp2_with fail
          all_goals
            go_ret
            exact ⟨by rw [HX.out]; rfl, hb5⟩
        | false =>
          by_cases hi : i < f.n
          · obtain ⟨ad, s, HAE, hcell, HXX⟩ := (HOK2.out.args.below hb5).at_ i hi
            have hi2 : (i : Int) < (f.n : Int) := by omega
            have hls := load_s hcell
            have hsz := HHA.out s (List.mem_of_getElem? HXX.out)
            rw [HAE] at l7
            clear HAE
            by_cases hl : 4096 < s.size
            · have hl2 : (4096 : Int) < (s.size : Int) := by omega
              have HL := Lib.hid hl
              clear hl
              go_wp2_with fail
              go_roundg (gk - 1)
              case measure => have := HG.out.2.2.2; have := HG.out.1; omega
              case rel => exact ⟨i + 1, true, by simp, by simp, rfl, Lib.hid ⟨by omega, fun e => by (cases e), fun _ => ⟨s, List.mem_of_getElem? HXX.out, HL.out⟩, by have := HG.out.2.2.2; omega⟩⟩
            · have hl2 : ¬ (4096 : Int) < (s.size : Int) := by omega
              have HL := Lib.hid hl
              clear hl
              go_wp2_with fail
              go_roundg (gk - 1)
              case measure => have := HG.out.2.2.2; have := HG.out.1; omega
              case rel =>
                refine ⟨i + 1, false, by simp, by simp, rfl, Lib.hid ⟨by omega, fun _ j hj s2 h2 => ?_, fun e => by (cases e), by have := HG.out.2.2.2; omega⟩⟩
                rcases Nat.lt_or_ge j i with h | h
                · exact HG.out.2.1 (by simp) j h s2 h2
                · obtain rfl : j = i := by omega
                  rw [HXX.out] at h2
                  cases h2
                  have := HL.out
                  omega
          · have hi2 : ¬ (i : Int) < (f.n : Int) := by omega
            have HM : Hid (May f) := Lib.hid (HP.out (fun s hm => by
              obtain ⟨j, hj, e⟩ := List.mem_iff_getElem.1 hm
              have := HOK2.out.args.len
              exact HG.out.2.1 (by simp) j (by omega) s (by rw [List.getElem?_eq_getElem hj, e])))
            clear hi
            by_cases hs : 2097152 < f.body.size
            · have HX : Hid (c = 3) := Lib.hid (by rw [← HC.out]; exact chk_long HM.out (.inl hs))
              have hs2 : (2097152 : Int) < (f.body.size : Int) := by omega
              clear hs
              go_wp2_with fail
              go_ret
              exact ⟨by rw [HX.out]; rfl, hb5⟩
            · have hs2 : ¬ (2097152 : Int) < (f.body.size : Int) := by omega
              have HS := Lib.hid hs
              have e2 := hl1 _ hF5
              clear hs
              go_wp2_with fail
              refine (rbody_any HM.out.k1 HM.out.k6 (HOK2.out.below hb5) HWF.out (may_lay HM.out HOK2.out.args.len (by have := HS.out; omega))).mono ?_
              rintro e wd ⟨v, rfl, hOd, hbf⟩
              have hbg := below_step hb5 hbf
              obtain ⟨Ad, cd, rfl, hRd⟩ := hOd.reads
              obtain ⟨nd, hnd⟩ : ∃ nd, (bodyF f).length = nd := ⟨_, rfl⟩
              rw [hnd] at hOd hRd ⊢
              by_cases hl : 2097152 < nd
              · have HX : Hid (c = 3) := Lib.hid (by rw [← HC.out]; exact chk_long HM.out (.inr (by rw [hnd]; exact hl)))
                have hl2 : (2097152 : Int) < (nd : Int) := by omega
                clear hl hnd
                go_wp2_with fail
                go_ret
                exact ⟨by rw [HX.out]; rfl, hbg⟩
              · have HX : Hid (c = 0) := Lib.hid (by rw [← HC.out]; exact chk_ok HM.out (by rw [hnd]; have := HS.out; omega))
                have hl2 : ¬ (2097152 : Int) < (nd : Int) := by omega
                clear hl hnd
                go_wp2_with fail
                go_ret
                exact ⟨by rw [HX.out]; rfl, hbg⟩
end
end Go.Proofs.YtpjpgcjhdbiepaaGreat
end
/-! The document's reader in memory; fail, New, Uint, Int, Raw, Byte. -/
section
namespace Go.Kit
end Go.Kit
namespace Go.Proofs.YtpjpgcjhdbiepaaGreat
open Go.RowKit Go.Kit Go.Proofs.YtpjpgcjhdbiepaaGreatW.PrintWords
/-- The document's reader at q, over the bytes at A. -/
structure QR (w : World) (q : Nat) (A : Option Addr) (n c : Nat) (D : Rd) : Prop where
  qk : w.heap[q]? = some (.cells #[.slice A n c, .int .i64 (D.at_ : Int), .int .i64 D.why, .int .i64 D.wat] 129 (0, 0))
  row : RB w A n D.bs
  cap : n ≤ c
  max : n ≤ 140737488355328
  low : D.at_ ≤ n
  inv : D.why = 0 → D.wat = 0
  out : ∀ a, A = some a → a.block ≠ q
  old : ∀ a, A = some a → a.block < w.heap.size
/-- Its footprint. -/
def qrf (r : Nat) (A : Option Addr) (k : Nat) : Prop := k = r ∨ ∃ a, A = some a ∧ a.block = k
section
variable {w w1 : World} {q n c : Nat} {A : Option Addr} {D : Rd} {S : Nat → Prop}
theorem QR.q0 (h : QR w q A n c D) : w.cell? ⟨q, 0, none⟩ = some (.slice A n c) := cell_of_row w q 0 _ _ _ h.qk
theorem QR.q1 (h : QR w q A n c D) : w.cell? ⟨q, 1, none⟩ = some (.int .i64 (D.at_ : Int)) := cell_of_row w q 1 _ _ _ h.qk
theorem QR.q2 (h : QR w q A n c D) : w.cell? ⟨q, 2, none⟩ = some (.int .i64 D.why) := cell_of_row w q 2 _ _ _ h.qk
theorem QR.q3 (h : QR w q A n c D) : w.cell? ⟨q, 3, none⟩ = some (.int .i64 D.wat) := cell_of_row w q 3 _ _ _ h.qk
theorem QR.only (h : QR w q A n c D) (ho : Only w w1 S) (hs : Sep (qrf q A) S) : QR w1 q A n c D :=
  ⟨ho.kept h.qk (hs q (.inl rfl)), h.row.apart ho (fun a e => hs a.block (.inr ⟨a, e, rfl⟩)), h.cap, h.max, h.low, h.inv, h.out, fun a e => Nat.lt_of_lt_of_le (h.old a e) ho.size⟩
theorem QR.below (h : QR w q A n c D) (hb : Below w.heap.size w w1) : QR w1 q A n c D := ⟨(hb.block q (lt_of_block h.qk)).trans h.qk, h.row.below hb, h.cap, h.max, h.low, h.inv, h.out, fun a e => Nat.lt_of_lt_of_le (h.old a e) hb.size⟩
theorem QR.drewN (h : QR w q A n c D) (k : Nat) : QR (w.drewN k) q A n c D := h.below (pw_below_drewN (Below.refl _ _) k)
theorem QR.ok (h : QR w q A n c D) : D.ok := ⟨h.row.byt, by rw [h.row.len]; exact h.low, h.inv⟩
theorem only_q (w : World) (r j : Nat) (v : Value) : Only w (w.setCell ⟨r, j, none⟩ v) (fun k => k = r) := (Only.refl w _).set r j v (.inl rfl)
theorem QR.set1 (h : QR w q A n c D) (x : Int) (a : Nat) (hx : x = (a : Int)) (ha : a ≤ n) : QR (w.setCell ⟨q, 1, none⟩ (.int .i64 x)) q A n c (D.to a) :=
  ⟨by rw [hx]; exact heap_set_same w q 1 _ _ _ h.qk, h.row.apart (only_q w q 1 _) (fun a e => h.out a e), h.cap, h.max, ha, h.inv, h.out, fun a e => Nat.lt_of_lt_of_le (h.old a e) (only_q w q 1 _).size⟩
end
end Go.Proofs.YtpjpgcjhdbiepaaGreat
end
/-! The document's reader: New, Int, Raw, Byte, Fail, End. -/
section
namespace Go.Proofs.YtpjpgcjhdbiepaaGreat
open Go.RowKit Go.Kit Go.Proofs.YtpjpgcjhdbiepaaGreatW.PrintWords
section
variable {w w1 : World} {q n c : Nat} {A : Option Addr} {D : Rd} {S : Nat → Prop}
attribute [-go_sem] run_slice_lh run_slice_any
end
end Go.Proofs.YtpjpgcjhdbiepaaGreat
end
/-! The contracts of the document's Encode and of Need. -/
section
namespace Go.Proofs.YtpjpgcjhdbiepaaGreat
open Go.RowKit Go.Kit Go.Proofs.YtpjpgcjhdbiepaaGreatW.PrintWords
section
variable {f : Fr} {w : World}
attribute [-go_sem] Instr.loadAt
set_option maxHeartbeats 8000000 in
set_option maxRecDepth 100000 in
theorem rEncode_any (hf : f.ok w) (hw : f.wf) (ha : ∀ s ∈ f.args, s.size ≤ 9223372036854775807) : Calls Tryz.prog 20 #[f.val] w fun e w' => ∃ v, e = .returned (.tuple #[v, .int .i64 (chkF f)]) ∧ OB 5 w' w.heap.size v (encF f) ∧ Below w.heap.size w w' := by
  have hb := below_alloc (Below.refl _ w) (.cells f.arr 48)
  have hF := boxed hf.tool w
  have hif : (Tryz.prog.info? 48).map (·.size) = some f.cells.length := by rw [frame_size]; have := Fr.arr_size f hf.tool; simp [Fr.arr] at this; rw [this]
  have cC : ∀ W, Below w.heap.size w W → Calls Tryz.prog 38 #[.agg f.arr] W (fun e w' => e = .returned (.int .i64 (chkF f)) ∧ Below W.heap.size W w') := fun W hbw => rCheck_any (hf.below hbw) hw ha
  have cB : chkF f = 0 → ∀ W, Below w.heap.size w W → Calls Tryz.prog 39 #[.agg f.arr] W (Laid W (bodyF f)) := fun hc W hbw => by
    obtain ⟨hm, h2, _⟩ := chk_facts hc
    exact rbody_any hm.k1 hm.k6 (hf.below hbw) hw (may_lay hm hf.args.len h2)
  obtain ⟨c, hc⟩ : ∃ c, chkF f = c := ⟨_, rfl⟩
  have HE : Hid (encF f = if c ≠ 0 then [] else sealed (sh (bodyF f).length ++ bodyF f)) := Lib.hid (by unfold encF; rw [hc])
  have HC := Lib.hid hc
  rw [hc] at cC ⊢
  clear hc hf hw ha
  show Calls Tryz.prog _ #[.agg f.arr] w _
  go_enter Tryz.func20, Tryz.ntmps20
  go_upto_region 1 with (fail)
  generalize w.alloc (.cells f.arr 48) = w1 at *
  obtain ⟨g, hg⟩ : ∃ g, w.heap.size = g := ⟨_, rfl⟩
  rw [hg] at hF ⊢
  clear hg
  have e2 := load_frame f hif w1 g hF
  go_wp2_with fail
  refine (cC w1 hb).mono ?_
  rintro e w2 ⟨rfl, hb2⟩
  have hb3 := below_step hb hb2
  have hF2 := hF.below hb2
  clear e2 hb hb2 hF cC
  by_cases h0 : c = 0
  · subst h0
    have e2 := load_frame f hif w2 g hF2
    have HL := Lib.hid (chk_facts HC.out).2.2
    go_wp2_with fail
    refine (cB HC.out w2 hb3).mono ?_
    rintro e w3 ⟨v3, rfl, hO3, hb4⟩
    have hb5 := below_step hb3 hb4
    obtain ⟨A3, c3, rfl, hR3, _⟩ := hO3.reads'
    obtain ⟨m, hm⟩ : ∃ m, (bodyF f).length = m := ⟨_, rfl⟩
    have hml : m ≤ 2097152 := by rw [← hm]; exact HL.out
    have hwm := u64_nn (x := (m : Int)) (by omega) (by omega)
    rw [hm] at hO3 hR3 HE ⊢
    have HM := Lib.hid hm
    clear e2 hb3 hb4 hF2 cB hm
    go_wp2_with fail
    refine (rUint_of (m : Int) (by omega) (by omega) w3).mono ?_
    rintro e w4 ⟨v4, rfl, hO4, hb6⟩
    have hb7 := below_step hb5 hb6
    have hR4 := hR3.below hb6
    have hO5 := hO4.less hb5.size
    rw [Int.toNat_natCast] at hO5
    have hls := sh_ten (n := m) (by omega)
    have HLS := Lib.hid hls
    clear hO4 hO3 hR3 hb5 hb6 hls
    go_wp2_with (at_builtin; refine push_row (w0 := w) w.heap.size rfl (.tmp 16) (.tmp 17) 22 (bodyF f) A3 m c3 rfl Tryz.underlying22 u8_info rfl rfl hO5 hR4 hb7 hb7.size (by have := HLS.out; omega) ?_)
    intro v6 w6 hO6 hb8 _ _
    obtain ⟨A6, c6, rfl, hR6, _⟩ := hO6.reads'
    obtain ⟨m6, hm6⟩ : ∃ q, (sh m ++ bodyF f).length = q := ⟨_, rfl⟩
    rw [hm6] at hO6 hR6 ⊢
    have hm6l : m6 ≤ 2097162 := by rw [← hm6, List.length_append, HM.out]; have := HLS.out; omega
    clear hm6 hR4 hO5 hb7
    go_wp2_with fail
    refine (rSeal_any A6 m6 c6 (sh m ++ bodyF f) w6 hR6 (by omega)).mono ?_
    rintro e w7 ⟨v7, rfl, hO7, hb9⟩
    have hb10 := below_step hb8 hb9
    have hO8 : OB 5 w7 w.heap.size v7 (encF f) := by
      rw [HE.out, if_neg (by decide)]
      exact hO7.less hb8.size
    go_wp2_with fail
    go_ret2
    exact ⟨_, rfl, hO8, hb10⟩
  · have h0b : (c != 0) = true := by simpa using h0
    have hO8 : OB 5 w2 w.heap.size (.slice none 0 0) (encF f) := by
      rw [HE.out, if_pos h0]
      exact OB.nil _ _ _
    clear h0
    go_wp2_with fail
    go_ret2
    exact ⟨_, rfl, hO8, hb3⟩
end
end Go.Proofs.YtpjpgcjhdbiepaaGreat
end
/-! The law's alive; the walk of FrameWrites. -/
section
namespace Go.Proofs.YtpjpgcjhdbiepaaGreat
open Go.RowKit Go.Kit Go.Proofs.YtpjpgcjhdbiepaaGreatW.PrintWords
theorem bye_ok (w : World) : byeF.ok w := ⟨rfl, RT.nil w⟩
theorem byt_zeros (n : Nat) : Byt (List.replicate n 0) := fun x hx => by
  have := (List.mem_replicate.1 hx).2
  omega
theorem bye_wf : byeF.wf := ⟨by decide, by decide, ⟨by decide, by decide⟩, ⟨by decide, by decide⟩, ⟨by decide, by decide⟩, ⟨by decide, by decide⟩, ⟨by decide, by decide⟩, ⟨by decide, by decide⟩, ⟨by decide, by decide⟩, byt_zeros 32⟩
theorem bye_may : May byeF := ⟨by decide, by decide, rfl, by decide, by decide, by decide, by decide, fun e => absurd e (by decide), fun e => absurd e (by decide), fun s hs => by cases hs⟩
theorem bye_body : bodyF byeF = [5] := by
  unfold bodyF layF
  rw [if_neg (by decide), if_neg (by decide), if_neg (by decide), if_neg (by decide), if_neg (by decide), List.append_nil]
  exact sh_small (by decide)
theorem bye_chk : chkF byeF = 0 := chk_ok bye_may (by rw [bye_body]; decide)
theorem bye_len : (encF byeF).length = 6 := by
  unfold encF
  rw [bye_chk, if_neg (by decide), sealed_length, bye_body, List.length_append]
  rw [show ([5] : List Int).length = 1 from rfl, sh_small (by decide)]
  rfl
attribute [-go_sem] Instr.build
attribute [-go_sem] Instr.loadAt
end Go.Proofs.YtpjpgcjhdbiepaaGreat
end
/-! The deferred function of frame.read; reading a kind's fields. -/
section
namespace Go.Proofs.YtpjpgcjhdbiepaaGreat
open Go.RowKit Go.Kit Go.Proofs.YtpjpgcjhdbiepaaGreatW.PrintWords
theorem finS_bad {D : Rd} (h : D.why ≠ 0) (f : Fr) (head : Nat) : finS D f head = (D.why, D.wat) := by
  unfold finS; rw [endS_bad h, if_neg (fun e => h e.1)]
theorem count_le {D D1 : Rd} {most : Int} {v : Nat} (hm : 0 ≤ most) (h : countS D most = (D1, v)) : (v : Int) ≤ most := by
  unfold countS at h
  split at h
  · cases h; omega
  split at h
  · cases h; omega
  split at h
  · cases h; omega
  split at h
  · cases h; omega
  · cases h; omega
theorem kind_read {w : World} {r g n c : Nat} {A : Option Addr} {D : Rd} (k : Nat) (h1 : 1 ≤ k) (h6 : k ≤ 6) (h : RS w r A n c D) (hn : n ≤ 4398046511104) (hF : (kF (k : Int)).at_ 48 w g) (hs : ¬ rdf r A g) :
    Calls Tryz.prog (readN (k : Int)) #[.pointer (some ⟨r, 0, none⟩), .pointer (some ⟨g, 0, none⟩)] w (KindPost w r g n c A D k) := by
  rcases (by omega : k = 1 ∨ k = 2 ∨ k = 3 ∨ k = 4 ∨ k = 5 ∨ k = 6) with rfl | rfl | rfl | rfl | rfl | rfl
  · exact hello_read h hF hs
  · exact request_read h hn hF hs
  · exact response_read h hF hs
  · exact cancel_read h hF hs
  · exact bye_read h hF
  · exact note_read h hF hs
/-- A fault's two numbers as a row. -/
def fv (a b : Int) : Array Value := #[.int .i64 a, .int .i64 b]
theorem fv_size (a b : Int) : (Tryz.prog.info? 28).map (·.size) = some (fv a b).size := fault_size a b
theorem fv_one (a b : Int) : (fv a b).all (·.oneCell') = true := by simp [fv, Value.oneCell']
theorem load_fault {W : World} {g : Nat} {a b : Int} {t : TypeId} (h : W.heap[g]? = some (.cells (fv a b) t (0, 0))) : (Instr.loadAt 28 (.pointer (some ⟨g, 0, none⟩))).run Tryz.prog W = .ok (.agg (fv a b)) W :=
  run_loadAt_mid W g 0 28 (fv a b).toList _ (fun j v hj => by rw [Nat.zero_add, cell_of_row W g j _ _ _ h]; simpa using hj) Tryz.underlying28 rfl (by rw [Array.length_toList]; exact fv_size a b)
set_option maxRecDepth 100000 in
theorem catch_idle (p : Addr) (w : World) :
    CallsD Tryz.prog 88 #[.pointer (some p)] .returning w fun e u' w' => e = .returned (.tuple #[]) ∧ u' = .returning ∧ w' = w := by
  refine callsD_of_wpS Tryz.func88 rfl fun c₀ cs hu => ?_
  apply wpS_seq
  apply wpS_region
  simp [wpOpsS, go_sem, recoverD, hu, Tryz.ntmps88, Exit.thenS]
  refine wpS_of_wp ?_
  go_wp2_with fail
  cases c₀
  simp_all [bodyPostS, results, Tryz.results88]
theorem assert_fault (W : World) (v : Value) : (Instr.typeAssert (.iface 28 v) 20 28 true).run Tryz.prog W = .ok (.tuple #[v, .bool true]) W := by kernel_rfl
attribute [-go_sem] Instr.loadAt
set_option maxHeartbeats 4000000 in
set_option maxRecDepth 100000 in
theorem catch_raised (g : Nat) (a b : Int) (Z : Array Value) (older : List PanicEntry) (w : World) (hk : w.heap[g]? = some (.cells Z 28 (0, 0))) (hz : Z.size = 2) :
    CallsD Tryz.prog 88 #[.pointer (some ⟨g, 0, none⟩)] (.panicking ({ v := .iface 28 (.agg (fv a b)), recovered := false } :: older)) w fun e u' w' =>
      e = .returned (.tuple #[]) ∧ u' = .panicking ({ v := .iface 28 (.agg (fv a b)), recovered := true } :: older) ∧ w'.heap[g]? = some (.cells (fv a b) 28 (0, 0)) ∧ Only w w' (fun k => k = g) := by
  have hn := heap_alloc_new w (.cells #[.int .i64 0, .int .i64 0] 28)
  have hb1 := below_setRow (below_alloc (Below.refl w.heap.size w) (.cells #[.int .i64 0, .int .i64 0] 28)) (Nat.le_refl _) (fv a b)
  have hn2 := setRow_heap _ w.heap.size _ (fv a b) _ _ hn
  have hk2 := (hb1.block g (lt_of_block hk)).trans hk
  have hl := load_fault hn2
  have hta := assert_fault w (.agg (fv a b))
  have hs := fv_size a b
  have ho := fv_one a b
  have hz2 : Z.size = (fv a b).size := hz
  have h0 : (#[.int .i64 0, .int .i64 0] : Array Value).size = (fv a b).size := rfl
  generalize fv a b = FV at *
  refine callsD_of_wpS Tryz.func88 rfl fun c₀ cs hu => ?_
  apply wpS_seq
  apply wpS_region
  simp [wpOpsS, go_sem, recoverD, hu, Tryz.ntmps88, Exit.thenS, Array.replicate_succ, Array.replicate_zero]
  refine wpS_of_wp ?_
  go_wp2_with first
    | ((with_reducible show wpList _ _ _ (Oper.mk none _ _ _ _ _ :: _) _ _); refine wpList_store_row rfl 28 (.tmp 2) (.tmp 9) rfl w.heap.size FV rfl rfl 28 _ hn hs h0 ho ?_)
    | ((with_reducible show wpList _ _ _ (Oper.mk none _ _ _ _ _ :: _) _ _); refine wpList_store_row rfl 28 (.tmp 0) (.tmp 10) rfl g FV rfl rfl 28 _ hk2 hs hz2 ho ?_)
  refine ⟨rfl, _, rfl, .tuple #[], by simp [results, Tryz.results88], rfl, rfl, setRow_heap _ g _ FV _ _ hk2, ((Only.refl w _).below hb1).same (Fr.only_row _ g FV)⟩
end Go.Proofs.YtpjpgcjhdbiepaaGreat
end
/-! The contract of frame.read. (mk_frzi.py) -/
section
namespace Go.Proofs.YtpjpgcjhdbiepaaGreat
open Go.RowKit Go.Kit Go.Proofs.YtpjpgcjhdbiepaaGreatW.PrintWords
theorem count_zero {D D1 : Rd} {m : Int} {v : Nat} (h : countS D m = (D1, v)) (hw : D1.why ≠ 0) : v = 0 := by
  unfold countS at h
  split at h
  · cases h; rfl
  split at h
  · cases h; rfl
  split at h
  · cases h; rfl
  split at h
  · cases h; rfl
  · next h0 _ _ _ => cases h; exact absurd (Classical.not_not.mp h0) hw
theorem raw_head {xs : List Int} {head n : Nat} {D1 : Rd} {t : List Int} (hl : xs.length = n) (hh : head ≤ n) (h : rawS (Rd.new xs) (head : Int) = (D1, t)) : D1 = (Rd.new xs).to head := by
  unfold rawS at h
  rw [if_neg (by simp [Rd.new]), if_neg (by omega), if_neg (by show ¬ ((xs.length : Int) - ((0 : Nat) : Int)) < _; omega)] at h
  have h2 := congrArg Prod.fst h
  have h3 : (Rd.new xs).at_ + (head : Int).toNat = head := by show 0 + _ = _; omega
  dsimp only at h2
  rw [h3] at h2
  exact h2.symm
/-- What frame.read leaves. -/
def ReadPost (w : World) (xs : List Int) (head : Nat) (e : Ending) (w' : World) : Prop :=
  ∃ (F : Fr) (x y : Int), e = .returned (.tuple #[.agg F.arr, .agg (fv x y)]) ∧ F.tool.length = 32 ∧ Hid ((readF xs head).2 = (x, y) ∧ (x = 0 → F.core = (readF xs head).1 ∧ y = 0)) ∧ (x = 0 → F.ok w' ∧ OwnA w' w.heap.size F) ∧ Below w.heap.size w w'
theorem read_bad {xs : List Int} {head : Nat} {D : Rd} {f : Fr} (h : fieldsS ((Rd.new xs).to head) = (D, f)) (hw : D.why ≠ 0) : (readF xs head).2 = (D.why, D.wat) := by
  rw [readF_of h, finS_bad hw, if_pos hw]
theorem endS_inv {D : Rd} (h : D.why = 0 → D.wat = 0) : (endS D).why = 0 → (endS D).wat = 0 := by
  unfold endS
  split
  · intro e; exact absurd e (by show (6 : Int) ≠ 0; decide)
  · exact h
theorem read_fin {xs : List Int} {head : Nat} {D : Rd} {f : Fr} {x y : Int} (h : fieldsS ((Rd.new xs).to head) = (D, f)) (hi : D.why = 0 → D.wat = 0) (hf : finS D f head = (x, y)) :
    (readF xs head).2 = (x, y) ∧ (x = 0 → f = (readF xs head).1 ∧ y = 0) := by
  rw [readF_of h, hf]
  by_cases hx : x = 0
  · have hy : y = 0 := by
      unfold finS at hf
      split at hf
      · cases hf; exact absurd hx (by decide)
      · cases hf; exact endS_inv hi hx
    subst hx; subst hy
    rw [if_neg (by simp)]
    exact ⟨rfl, fun _ => ⟨rfl, rfl⟩⟩
  · rw [if_pos hx]
    exact ⟨rfl, fun e => absurd e hx⟩
theorem fields_kind {D0 D1 : Rd} {v : Nat} (h : countS D0 6 = (D1, v)) (hw : ¬ (D1.why = 0 ∧ v = 0)) : fieldsS D0 = kindS D1 v := by
  unfold fieldsS; rw [someS_some h hw]
theorem fields_none {D0 D1 : Rd} {v : Nat} (h : countS D0 6 = (D1, v)) (hw : D1.why = 0 ∧ v = 0) : (fieldsS D0).1 = D0.fail 70 D0.at_ := by
  obtain ⟨h1, rfl⟩ := hw
  unfold fieldsS
  rw [someS_none h h1]
  exact kindS_bad (by show (70 : Int) ≠ 0; decide) _
theorem pair_of {α β : Type} (p : α × β) : p = (p.1, p.2) := rfl
section
variable {W : World} {g g2 : Nat} {tmps : Array Value} {F : Fr} {x y : Int} {R : Ending → World → Prop}
theorem door_out (hp : tmps.getD 4 undef = .pointer (some ⟨g, 0, none⟩)) (hq : tmps.getD 5 undef = .pointer (some ⟨g2, 0, none⟩)) (hF : F.at_ 48 W g) (hX : W.heap[g2]? = some (.cells (fv x y) 28 (0, 0)))
    (hR : R (.returned (.tuple #[.agg F.arr, .agg (fv x y)])) W) : Leaves Tryz.prog Tryz.f70 tmps R [] .returning W :=
  ⟨_, results_cell_row2 (P := Tryz.prog) (fn := Tryz.f70) (p := 4) (q := 5) rfl tmps W g g2 48 28 F.arr (fv x y) (0, 0) (0, 0) _ _ hp hF.blk Tryz.underlying48 rfl (by rw [Fr.arr_size F hF.tool]; kernel_rfl) hq hX Tryz.underlying28 rfl (fv_size x y), hR⟩
theorem door_idle (hp : tmps.getD 4 undef = .pointer (some ⟨g, 0, none⟩)) (hq : tmps.getD 5 undef = .pointer (some ⟨g2, 0, none⟩)) (hF : F.at_ 48 W g) (hX : W.heap[g2]? = some (.cells (fv x y) 28 (0, 0)))
    (hR : R (.returned (.tuple #[.agg F.arr, .agg (fv x y)])) W) : Leaves Tryz.prog Tryz.f70 tmps R [{ target := .fn (.func 88) #[.pointer (some ⟨g2, 0, none⟩)], args := #[] }] .returning W := by
  refine leaves_cons (f := 88) (args := #[.pointer (some ⟨g2, 0, none⟩)]) (by simp) (by simp [go_sem]) ?_
  refine (catch_idle _ _).mono ?_
  rintro e u' w' ⟨rfl, rfl, rfl⟩
  exact door_out hp hq hF hX hR
theorem door_raised {Z : Array Value} (hp : tmps.getD 4 undef = .pointer (some ⟨g, 0, none⟩)) (hq : tmps.getD 5 undef = .pointer (some ⟨g2, 0, none⟩)) (hF : F.at_ 48 W g) (hX : W.heap[g2]? = some (.cells Z 28 (0, 0))) (hZ : Z.size = 2) (hgg : g ≠ g2)
    (hR : ∀ W', Only W W' (fun k => k = g2) → R (.returned (.tuple #[.agg F.arr, .agg (fv x y)])) W') : Leaves Tryz.prog Tryz.f70 tmps R [{ target := .fn (.func 88) #[.pointer (some ⟨g2, 0, none⟩)], args := #[] }] (.panicking (raisedF x y)) W := by
  refine leaves_cons (f := 88) (args := #[.pointer (some ⟨g2, 0, none⟩)]) (by simp) (by simp [go_sem]) ?_
  refine (catch_raised g2 x y Z [] W hX hZ).mono ?_
  rintro e u' w' ⟨rfl, rfl, hk, ho⟩
  have hs : settle (.panicking [{ v := .iface 28 (.agg (fv x y)), recovered := true }]) = .returning := by simp [settle]
  show Leaves _ _ _ _ _ (settle (.panicking [{ v := .iface 28 (.agg (fv x y)), recovered := true }])) _
  rw [hs]
  exact door_out hp hq (hF.only ho hgg) hk (hR w' ho)
end
theorem storeAt_all {P : Program} (W : World) (g : Nat) (ty t : TypeId) (cells cur : Array Value) (hg : W.heap[g]? = some (.cells cur t (0, 0))) (hfit : cur.size = cells.size) (hi : (P.info? ty).map (·.size) = some cells.size) (h1 : cells.all (·.oneCell') = true) :
    (Instr.storeAt ty (.pointer (some ⟨g, 0, none⟩)) (.agg cells)).run P W = .ok () (W.setRow g cells) := by
  have hst := run_storeCells_at (P := P) g 0 t cells.toList 0 cur W hg (by simp [hfit]) (fun v hv => (Array.all_eq_true_iff_forall_mem.1 h1) v (by simpa using hv))
  have he : (cur.toList.take 0 ++ cells.toList ++ cur.toList.drop (0 + cells.toList.length)).toArray = cells := by
    rw [List.drop_eq_nil_of_le (by simp [hfit])]; simp
  simp only [Instr.storeAt, Instr.sureAddr, Sem.run_bind, Sem.run_pure, Result.andThen_ok]
  cases hq : P.info? ty with
  | none => simp [hq] at hi
  | some i =>
    have hs : cells.size = i.size := by simp [hq] at hi; omega
    simp only [Nat.add_zero] at hst
    rw [he] at hst
    simp [storeVar, sizeOf, typeInfo, hq, Value.cells, hs, hst]
theorem same_frame {W : World} {g : Nat} {F : Fr} (h : F.at_ 48 W g) : (Instr.storeAt 48 (.pointer (some ⟨g, 0, none⟩)) (.agg F.arr)).run Tryz.prog W = .ok () W := by
  have e := storeAt_all (P := Tryz.prog) W g 48 48 F.arr F.arr h.blk rfl (by rw [Fr.arr_size F h.tool]; kernel_rfl) (arr_one F)
  rw [e, setRow_self W g F.arr _ _ h.blk]
theorem same_fault {W : World} {g : Nat} {x y : Int} (h : W.heap[g]? = some (.cells (fv x y) 28 (0, 0))) : (Instr.storeAt 28 (.pointer (some ⟨g, 0, none⟩)) (.agg (fv x y))).run Tryz.prog W = .ok () W := by
  have e := storeAt_all (P := Tryz.prog) W g 28 28 (fv x y) (fv x y) h rfl (fv_size x y) (fv_one x y)
  rw [e, setRow_self W g (fv x y) _ _ h]
theorem put_int (x : Int) (W : World) (a : Addr) (u : Value) (hc : W.cell? a = some u) (hf : W.frozen? a = false) : (Instr.storeAt 3 (.pointer (some a)) (.int .i64 x)).run Tryz.prog W = .ok () (W.setCell a (.int .i64 x)) := by go_simp
attribute [-go_sem] Instr.loadAt Instr.storeAt
section
variable {A : Option Addr} {n cap : Nat} {xs : List Int} {w : World}
set_option maxHeartbeats 8000000 in
set_option maxRecDepth 100000 in
theorem read_any (hx : RB w A n xs) (hl : n ≤ 4194304) (head : Nat) (hh : head ≤ n) : Calls Tryz.prog 70 #[.slice A n cap, .int .i64 (head : Int)] w (ReadPost w xs head) := by
  have HXL := Lib.hid hx.len
  have hb0 := below_alloc (below_alloc (Below.refl _ w) (.cells #[.int .i64 0, .int .u64 0, .int .i64 0, .int .i64 0, .int .u8 0, .int .u8 0, .int .u8 0, .int .u8 0, .int .u8 0, .int .u8 0, .int .u8 0, .int .u8 0, .int .u8 0, .int .u8 0, .int .u8 0, .int .u8 0, .int .u8 0, .int .u8 0, .int .u8 0, .int .u8 0, .int .u8 0, .int .u8 0, .int .u8 0, .int .u8 0, .int .u8 0, .int .u8 0, .int .u8 0, .int .u8 0, .int .u8 0, .int .u8 0, .int .u8 0, .int .u8 0, .int .u8 0, .int .u8 0, .int .u8 0, .int .u8 0, .int .i64 0, .int .i64 0, .int .i64 0, .int .i64 0, .slice none 0 0, .string ⟨#[]⟩] 48)) (.cells #[.int .i64 0, .int .i64 0] 28)
  have hg0 : ((w.alloc (.cells #[.int .i64 0, .int .u64 0, .int .i64 0, .int .i64 0, .int .u8 0, .int .u8 0, .int .u8 0, .int .u8 0, .int .u8 0, .int .u8 0, .int .u8 0, .int .u8 0, .int .u8 0, .int .u8 0, .int .u8 0, .int .u8 0, .int .u8 0, .int .u8 0, .int .u8 0, .int .u8 0, .int .u8 0, .int .u8 0, .int .u8 0, .int .u8 0, .int .u8 0, .int .u8 0, .int .u8 0, .int .u8 0, .int .u8 0, .int .u8 0, .int .u8 0, .int .u8 0, .int .u8 0, .int .u8 0, .int .u8 0, .int .u8 0, .int .i64 0, .int .i64 0, .int .i64 0, .int .i64 0, .slice none 0 0, .string ⟨#[]⟩] 48)).alloc (.cells #[.int .i64 0, .int .i64 0] 28)).heap[w.heap.size]? = some (.cells (kF 0).arr 48 (0, 0)) := (heap_alloc_old _ _ (by simp)).trans (heap_alloc_new w _)
  have hf0 : ((w.alloc (.cells #[.int .i64 0, .int .u64 0, .int .i64 0, .int .i64 0, .int .u8 0, .int .u8 0, .int .u8 0, .int .u8 0, .int .u8 0, .int .u8 0, .int .u8 0, .int .u8 0, .int .u8 0, .int .u8 0, .int .u8 0, .int .u8 0, .int .u8 0, .int .u8 0, .int .u8 0, .int .u8 0, .int .u8 0, .int .u8 0, .int .u8 0, .int .u8 0, .int .u8 0, .int .u8 0, .int .u8 0, .int .u8 0, .int .u8 0, .int .u8 0, .int .u8 0, .int .u8 0, .int .u8 0, .int .u8 0, .int .u8 0, .int .u8 0, .int .i64 0, .int .i64 0, .int .i64 0, .int .i64 0, .slice none 0 0, .string ⟨#[]⟩] 48)).alloc (.cells #[.int .i64 0, .int .i64 0] 28)).heap[w.heap.size + 1]? = some (.cells (fv 0 0) 28 (0, 0)) := by
    have := heap_alloc_new (w.alloc (.cells #[.int .i64 0, .int .u64 0, .int .i64 0, .int .i64 0, .int .u8 0, .int .u8 0, .int .u8 0, .int .u8 0, .int .u8 0, .int .u8 0, .int .u8 0, .int .u8 0, .int .u8 0, .int .u8 0, .int .u8 0, .int .u8 0, .int .u8 0, .int .u8 0, .int .u8 0, .int .u8 0, .int .u8 0, .int .u8 0, .int .u8 0, .int .u8 0, .int .u8 0, .int .u8 0, .int .u8 0, .int .u8 0, .int .u8 0, .int .u8 0, .int .u8 0, .int .u8 0, .int .u8 0, .int .u8 0, .int .u8 0, .int .u8 0, .int .i64 0, .int .i64 0, .int .i64 0, .int .i64 0, .slice none 0 0, .string ⟨#[]⟩] 48)) (.cells #[.int .i64 0, .int .i64 0] 28)
    simpa [fv] using this
  have hF0 : (kF 0).at_ 48 ((w.alloc (.cells #[.int .i64 0, .int .u64 0, .int .i64 0, .int .i64 0, .int .u8 0, .int .u8 0, .int .u8 0, .int .u8 0, .int .u8 0, .int .u8 0, .int .u8 0, .int .u8 0, .int .u8 0, .int .u8 0, .int .u8 0, .int .u8 0, .int .u8 0, .int .u8 0, .int .u8 0, .int .u8 0, .int .u8 0, .int .u8 0, .int .u8 0, .int .u8 0, .int .u8 0, .int .u8 0, .int .u8 0, .int .u8 0, .int .u8 0, .int .u8 0, .int .u8 0, .int .u8 0, .int .u8 0, .int .u8 0, .int .u8 0, .int .u8 0, .int .i64 0, .int .i64 0, .int .i64 0, .int .i64 0, .slice none 0 0, .string ⟨#[]⟩] 48)).alloc (.cells #[.int .i64 0, .int .i64 0] 28)) w.heap.size := ⟨hg0, rfl⟩
  have hmf : ∀ (fn : Fn) (first cap : Array Value) (w : World), (Instr.makeFunc fn first cap).run Tryz.prog w = .ok (.func fn first cap) w := fun _ _ _ _ => rfl
  clear hg0
  go_enter_defers Tryz.func70, Tryz.ntmps70
  go_upto_region 1 with (fail)
  generalize hw1 : (w.alloc (.cells #[.int .i64 0, .int .u64 0, .int .i64 0, .int .i64 0, .int .u8 0, .int .u8 0, .int .u8 0, .int .u8 0, .int .u8 0, .int .u8 0, .int .u8 0, .int .u8 0, .int .u8 0, .int .u8 0, .int .u8 0, .int .u8 0, .int .u8 0, .int .u8 0, .int .u8 0, .int .u8 0, .int .u8 0, .int .u8 0, .int .u8 0, .int .u8 0, .int .u8 0, .int .u8 0, .int .u8 0, .int .u8 0, .int .u8 0, .int .u8 0, .int .u8 0, .int .u8 0, .int .u8 0, .int .u8 0, .int .u8 0, .int .u8 0, .int .i64 0, .int .i64 0, .int .i64 0, .int .i64 0, .slice none 0 0, .string ⟨#[]⟩] 48)).alloc (.cells #[.int .i64 0, .int .i64 0] 28) = w1 at *
  go_upto_region 2 with (fail)
  clear hw1
  obtain ⟨g, hg⟩ : ∃ g, w.heap.size = g := ⟨_, rfl⟩
  obtain ⟨g2, hg2⟩ : ∃ g2, w.heap.size + 1 = g2 := ⟨_, rfl⟩
  have HG := Lib.hid hg
  have HG2 := Lib.hid hg2
  have hgg : g ≠ g2 := by omega
  rw [hg] at hF0
  rw [hg2] at hf0
  rw [hg2, hg]
  have hxb := hx.below hb0
  clear hg hg2 hx
  go_wp2_with fail
  refine (NewReader_any A n cap xs _ hxb (by omega)).mono ?_
  rintro e w2 ⟨r, A', c, rfl, hR, hnew, hb1⟩
  have hF1 := hF0.below hb1
  have hX1 := (hb1.block _ (lt_of_block hf0)).trans hf0
  have hbw := below_step hb0 hb1
  have hs : ¬ rdf r A' g := fun e => by have := hnew _ e; have := hF0.lt; omega
  have hs2 : ¬ rdf r A' g2 := fun e => by have := hnew _ e; have := lt_of_block hf0; omega
  have hr2 : ¬ g2 = r := fun e => hs2 (.inl e)
  have HRW : Hid (w.heap.size ≤ r) := Lib.hid (Nat.le_trans hb0.size (hnew r (.inl rfl)))
  clear hb0 hb1 hf0 hF0 hnew hxb
  go_wp2_with fail
  refine (Raw_any hR (head : Int) (by omega)).mono ?_
  rintro e w3 ⟨D0, v0, t0, rfl, HR, hO, hR1, ho⟩
  have HD0 := Lib.hid (raw_head HXL.out hh HR.out)
  have hF2 := hF1.only ho (notr hs)
  have hX2 := ho.kept hX1 hr2
  have hbx := Below.only hbw ho hbw.size (fun k e => e ▸ HRW.out)
  clear hR HR hO ho hF1 hX1 hbw hh
  go_wp2_with fail
  refine (part_any hR1 6 (by omega)).mono ?_
  rintro e w4 ⟨D1, v, HC, hR2, ho2, (⟨HV, rfl⟩ | ⟨HV, rfl⟩)⟩
  · have hF3 := hF2.only ho2 (notr hs)
    have hX3 := ho2.kept hX2 hr2
    have hby := Below.only hbx ho2 hbx.size (fun k e => e ▸ HRW.out)
    have q0 := put_int (v : Int) w4 _ _ hF3.c0 (hF3.fz 0)
    have hF4 := hF3.set0 (v : Int)
    have ho3 := Fr.only_at w4 g 0 (.int .i64 (v : Int))
    have hR4 := hR2.only ho3 (sepg hs)
    have hX4 := ho3.kept hX3 (fun e => hgg e.symm)
    have hbz := Below.only hby ho3 hby.size (fun k e => by have := HG.out; omega)
    replace hF4 : (kF (v : Int)).at_ 48 (w4.setCell ⟨g, 0, none⟩ (.int .i64 (v : Int))) g := hF4
    clear hR1 hF2 hX2 hbx ho2 hF3 hX3 hby ho3 hR2
    go_upto_region 5 with (fail)
    clear q0
    generalize w4.setCell ⟨g, 0, none⟩ (.int .i64 (v : Int)) = w5 at *
    have e0 := load_int hF4.c0
    by_cases hw : D1.why = 0
    · have hv1 : 1 ≤ v := by have := HV.out; omega
      have hv6 : v ≤ 6 := by have := count_le (by omega) HC.out; omega
      have hen := read_enters (v : Int) (by omega) (by omega)
      have HKF := fields_kind HC.out HV.out
      clear hw
      go_wp2_with fail
      refine (of_any (v : Int) (by omega) (by omega) _).mono ?_
      rintro e w6 ⟨rfl, hb6⟩
      have hbK := below_alloc (Below.refl w6.heap.size w6) (.cells #[.nilFunc, .nilFunc, .nilFunc, .nilFunc] 142)
      have hblk := heap_alloc_new w6 (.cells #[.nilFunc, .nilFunc, .nilFunc, .nilFunc] 142)
      have h4 : (#[.nilFunc, .nilFunc, .nilFunc, .nilFunc] : Array Value).size = (kV (v : Int)).size := rfl
      have hsz := kind_size (k := (v : Int))
      have hone := kind_one (v : Int)
      obtain ⟨KK, hKK⟩ : ∃ KK, kV (v : Int) = KK := ⟨_, rfl⟩
      have hk1 : KK[1]? = some (.func (.func (readN (v : Int))) #[] #[]) := by rw [← hKK]; rfl
      rw [hKK] at h4 hsz hone ⊢
      clear hKK e0
      go_upto_region 6 with ((with_reducible show wpList _ _ _ (Oper.mk none _ _ _ _ _ :: _) _ _); refine wpList_store_row rfl 142 (.tmp 7) (.tmp 22) rfl w6.heap.size KK rfl rfl 142 _ hblk hsz h4 hone ?_)
      have hb7 := below_setRow (below_step hb6 hbK) hb6.size KK
      have hK := setRow_heap _ w6.heap.size _ KK _ _ hblk
      have hF5 := hF4.below hb7
      have hR5 := hR4.below hb7
      have hX5 := (hb7.block _ (lt_of_block hX4)).trans hX4
      have hbq := below_step hbz hb7
      clear hF4 hR4 hX4 hbz hb7 hbK hblk h4 hsz hone hb6
      generalize (w6.alloc (.cells #[.nilFunc, .nilFunc, .nilFunc, .nilFunc] 142)).setRow w6.heap.size KK = w7 at *
      generalize w6.heap.size = gk at *
      have e1 := load_read (by rw [cell_of_row w7 gk 1 _ _ _ hK]; exact hk1)
      clear hK hk1
      go_wp2_with fail
      refine (kind_read v hv1 hv6 hR5 (by omega) hF5 hs).mono ?_
      rintro e w8 (⟨D2, F, rfl, HK, hR6, hF6, hok, hfr, ho6⟩ | ⟨F, rfl, HK, hF6, ho6⟩)
      · have hX6 := ho6.kept hX5 (fun e => e.elim hr2 (fun e => hgg e.symm))
        have hbr := Below.only hbq ho6 hbq.size (fun k e => e.elim (fun e => e ▸ HRW.out) (fun e => by have := HG.out; omega))
        have HKF2 : Hid (fieldsS ((Rd.new xs).to head) = (D2, F.core)) := Lib.hid (by rw [← HD0.out, HKF, HK.out])
        have hoa := hfr.less hbq.size
        have HFA : Hid (∀ a, F.A = some a → ¬ a.block = r ∧ ¬ a.block = g2) := Lib.hid (fun a e => by have := hfr.fresh a e; have := lt_of_block hR5.rk; have := lt_of_block hX5; omega)
        clear hbq ho6 hX5 hR5 hF5 HK HKF hfr e1 hen
        go_wp2_with fail
        refine (End_any hR6).mono ?_
        rintro e w9 ⟨rfl, hR7, ho7⟩
        have hF7 := hF6.only ho7 (notr hs)
        have hX7 := ho7.kept hX6 hr2
        have hbs := Below.only hbr ho7 hbr.size (fun k e => e ▸ HRW.out)
        obtain ⟨D3, hD3⟩ : ∃ D3, endS D2 = D3 := ⟨_, rfl⟩
        have hfin : finS D2 F.core head = if D3.why = 0 ∧ F.k = 3 ∧ F.st ≠ 1 ∧ F.body.size ≠ 0 then (70, (head : Int)) else (D3.why, D3.wat) := by unfold finS; rw [hD3]; rfl
        have HINV := Lib.hid hR6.inv
        have HIV3 : Hid (D3.why = 0 → D3.wat = 0) := Lib.hid (by rw [← hD3]; exact endS_inv HINV.out)
        rw [hD3] at hR7 ⊢
        clear hD3
        have hR8 := hR7
        clear hR8 hR6 hR7
        obtain ⟨x, hx⟩ : ∃ x, D3.why = x := ⟨_, rfl⟩
        obtain ⟨y, hy⟩ : ∃ y, D3.wat = y := ⟨_, rfl⟩
        rw [hx, hy] at hfin HIV3
        rw [hx, hy]
        have HFIN := Lib.hid hfin
        clear hx hy hfin
        have hsz2 := fv_size x y
        go_upto_region 9 with ((with_reducible show wpList _ _ _ (Oper.mk none _ _ _ _ _ :: _) _ _); refine wpList_store_row rfl 28 (.tmp 5) (.tmp 30) rfl g2 (fv x y) rfl rfl 28 _ hX7 hsz2 rfl (fv_one x y) ?_)
        have hX8 := setRow_heap _ g2 _ (fv x y) _ _ hX7
        have hF8 := hF7.only (Fr.only_row w9 g2 (fv x y)) hgg
        have hbt := below_setRow (cs := fv x y) hbs (g := g2) (by have := HG2.out; omega)
        have hok8 : F.ok (w9.setRow g2 (fv x y)) := ⟨hok.tool, (hok.args.apart ho7 (fun a e => (HFA.out a e).1)).apart (Fr.only_row w9 g2 (fv x y)) (fun a e => (HFA.out a e).2)⟩
        have hoa8 := (hoa.only ho7 (fun a e => (HFA.out a e).1)).only (Fr.only_row w9 g2 (fv x y)) (fun a e => (HFA.out a e).2)
        clear hF7 hbs hok hX7 ho7 hsz2 hoa
        generalize w9.setRow g2 (fv x y) = w10 at *
        have eX : (Instr.loadAt 28 (.pointer (some ⟨g2, 0, none⟩))).run Tryz.prog w10 = .ok (.agg #[.int .i64 x, .int .i64 y]) w10 := load_fault hX8
        have hif : (Tryz.prog.info? 48).map (·.size) = some F.cells.length := by have := Fr.arr_size F hF8.tool; rw [frame_size]; simp [Fr.arr] at this; rw [this]
        have hdr := below_drew (Below.refl w10.heap.size w10)
        have hFd := hF8.below hdr
        have hXd := (hdr.block _ (lt_of_block hX8)).trans hX8
        have eF := load_frame F hif w10.drew g hFd
        have eXd : (Instr.loadAt 28 (.pointer (some ⟨g2, 0, none⟩))).run Tryz.prog w10.drew = .ok (.agg #[.int .i64 x, .int .i64 y]) w10.drew := load_fault hXd
        have sF := same_frame hFd
        have sX : (Instr.storeAt 28 (.pointer (some ⟨g2, 0, none⟩)) (.agg #[.int .i64 x, .int .i64 y])).run Tryz.prog w10.drew = .ok () w10.drew := same_fault hXd
        have eK := load_int hF8.c0
        have eS := load_int hF8.c36
        have eB := load_str hF8.c41
        have hz : ∀ W : World, (Instr.build 28 #[]).run Tryz.prog W = .ok (.agg #[.int .i64 0, .int .i64 0]) W := fun W => by kernel_rfl
        have hbe := body_empty F.body
        have hqg : Tryz.prog.eqGuardType Tryz.prog.depth 28 = false := by kernel_rfl
        have hDone : ∀ (HP : finS D2 F.core head = (x, y)) , ReadPost w xs head (.returned (.tuple #[.agg F.arr, .agg (fv x y)])) w10.drew := fun HP => ⟨F, x, y, rfl, hF8.tool, Lib.hid (read_fin HKF2.out HINV.out HP), fun _ => ⟨hok8.below hdr, hoa8.below hdr⟩, below_step hbt hdr⟩
        have HDone := Lib.hid hDone
        clear hDone hif
        by_cases h0 : x = 0
        · have heq := run_fault x y true (by rw [h0, HIV3.out h0]; rfl)
          by_cases hk : F.k = 3
          · have bk : (F.k == 3) = true := by rw [beq_iff_eq]; exact hk
            by_cases hst : F.st = 1
            · have bs : (F.st != 1) = false := by simp [hst]
              have HP : Hid (finS D2 F.core head = (x, y)) := Lib.hid (by rw [HFIN.out, if_neg (fun e => e.2.2.1 hst)])
              clear hbe hk hst h0
              go_wp2_with fail
              go_region_law (fail)
              all_goals ((try go_wp2_with fail); exact door_idle (by rfl) (by rfl) hFd hXd (HDone.out HP.out))
            · have bs : (F.st != 1) = true := by simp [hst]
              by_cases hb0 : F.body.size = 0
              · have b0 : F.body.toList.isEmpty = true := by rw [hbe]; exact decide_eq_true hb0
                have HP : Hid (finS D2 F.core head = (x, y)) := Lib.hid (by rw [HFIN.out, if_neg (fun e => e.2.2.2 hb0)])
                clear hbe hk hst h0 hb0
                go_wp2_with fail
                go_region_law (fail)
                all_goals ((try go_wp2_with fail); exact door_idle (by rfl) (by rfl) hFd hXd (HDone.out HP.out))
              · have b0 : F.body.toList.isEmpty = false := by rw [hbe]; exact decide_eq_false hb0
                have HP : Hid (finS D2 F.core head = (70, (head : Int))) := Lib.hid (by rw [HFIN.out, if_pos ⟨h0, hk, hst, hb0⟩])
                clear hbe hk hst h0 hb0
                have hb2 : ∀ (x y : Int) (W : World), (Instr.build 28 #[(0, .int .i64 x), (1, .int .i64 y)]).run Tryz.prog W = .ok (.agg #[.int .i64 x, .int .i64 y]) W := fun x y W => by kernel_rfl
                have hszq := fv_size 70 (head : Int)
                clear sF sX eF eXd hFd hXd hdr
                go_upto_region 11 with ((with_reducible show wpList _ _ _ (Oper.mk none _ _ _ _ _ :: _) _ _); refine wpList_store_row rfl 28 (.tmp 5) (.tmp 50) rfl g2 (fv 70 (head : Int)) rfl rfl 28 _ hX8 hszq rfl (fv_one _ _) ?_)
                have hX9 := setRow_heap _ g2 _ (fv 70 (head : Int)) _ _ hX8
                have hF9 := hF8.only (Fr.only_row w10 g2 (fv 70 (head : Int))) hgg
                have hbu := below_setRow (cs := fv 70 (head : Int)) hbt (g := g2) (by have := HG2.out; omega)
                have hDone : ReadPost w xs head (.returned (.tuple #[.agg F.arr, .agg (fv 70 (head : Int))])) (w10.setRow g2 (fv 70 (head : Int))).drew := ⟨F, 70, (head : Int), rfl, hF9.tool, Lib.hid (read_fin HKF2.out HINV.out HP.out), fun e => absurd e (by decide), below_step hbu (below_drew (Below.refl _ _))⟩
                have HDone2 := Lib.hid hDone
                clear hF8 hbt hX8 hDone eX eK eS eB
                generalize w10.setRow g2 (fv 70 (head : Int)) = w11 at *
                have hdr := below_drew (Below.refl w11.heap.size w11)
                have hFd := hF9.below hdr
                have hXd := (hdr.block _ (lt_of_block hX9)).trans hX9
                have eXd := load_fault hXd
                have hif : (Tryz.prog.info? 48).map (·.size) = some F.cells.length := by have := Fr.arr_size F hF9.tool; rw [frame_size]; simp [Fr.arr] at this; rw [this]
                have eF := load_frame F hif w11.drew g hFd
                have sF := same_frame hFd
                have sX := same_fault hXd
                clear hif
                go_wp2_with fail
                go_region_law (fail)
                all_goals ((try go_wp2_with fail); exact door_idle (by rfl) (by rfl) hFd hXd HDone2.out)
          · have bk : (F.k == 3) = false := by rw [beq_eq_false_iff_ne]; exact hk
            have HP : Hid (finS D2 F.core head = (x, y)) := Lib.hid (by rw [HFIN.out, if_neg (fun e => hk e.2.1)])
            clear hbe hk h0
            go_wp2_with fail
            go_region_law (fail)
            all_goals ((try go_wp2_with fail); exact door_idle (by rfl) (by rfl) hFd hXd (HDone.out HP.out))
        · have heq := run_fault x y false (by rw [Bool.and_eq_false_iff]; left; rw [beq_eq_false_iff_ne]; exact h0)
          have HP : Hid (finS D2 F.core head = (x, y)) := Lib.hid (by rw [HFIN.out, if_neg (fun e => h0 e.1)])
          clear hbe h0
          go_wp2_with fail
          go_region_law (fail)
          all_goals ((try go_wp2_with fail); exact door_idle (by rfl) (by rfl) hFd hXd (HDone.out HP.out))
      · have hX6 := ho6.kept hX5 (fun e => e.elim hr2 (fun e => hgg e.symm))
        have hbr := Below.only hbq ho6 hbq.size (fun k e => e.elim (fun e => e ▸ HRW.out) (fun e => by have := HG.out; omega))
        have HB : Hid ((readF xs head).2 = ((70 : Int), (kindS D1 v).1.wat)) := Lib.hid (by
          have e2 : fieldsS ((Rd.new xs).to head) = ((kindS D1 v).1, (kindS D1 v).2) := by rw [← HD0.out, HKF]
          rw [read_bad e2 (by rw [HK.out]; decide), HK.out])
        refine door_raised (Z := fv 0 0) rfl rfl hF6 hX6 rfl hgg (fun W' ho' => ?_)
        exact ⟨F, 70, _, rfl, hF6.tool, Lib.hid ⟨HB.out, fun e => absurd e (by decide)⟩, fun e => absurd e (by decide), Below.only hbr ho' hbr.size (fun k e => by have := HG2.out; omega)⟩
    · have hv0 := count_zero HC.out hw
      subst hv0
      have HKF := fields_kind HC.out HV.out
      have HWB := Lib.hid hw
      go_wp2_with fail
      refine (of_bad (0 : Int) (by omega) _).mono ?_
      rintro e w6 ⟨rfl, hb6⟩
      have hbK := below_alloc (Below.refl w6.heap.size w6) (.cells #[.nilFunc, .nilFunc, .nilFunc, .nilFunc] 142)
      have hblk := heap_alloc_new w6 (.cells #[.nilFunc, .nilFunc, .nilFunc, .nilFunc] 142)
      have hsz : (Tryz.prog.info? 142).map (·.size) = some (#[.nilFunc, .nilFunc, .nilFunc, .nilFunc] : Array Value).size := kind_size4
      clear e0 hw
      go_upto_region 6 with ((with_reducible show wpList _ _ _ (Oper.mk none _ _ _ _ _ :: _) _ _); refine wpList_store_row rfl 142 (.tmp 7) (.tmp 22) rfl w6.heap.size #[.nilFunc, .nilFunc, .nilFunc, .nilFunc] rfl rfl 142 _ hblk hsz rfl (by simp [Value.oneCell']) ?_)
      have hb7 := below_setRow (below_step hb6 hbK) hb6.size #[.nilFunc, .nilFunc, .nilFunc, .nilFunc]
      have hF6 := hF4.below hb7
      have hR6 := hR4.below hb7
      have hX6 := (hb7.block _ (lt_of_block hX4)).trans hX4
      have hbr := below_step hbz hb7
      obtain ⟨F, hF⟩ : ∃ F, kF ((0 : Nat) : Int) = F := ⟨_, rfl⟩
      have HKF2 : Hid (fieldsS ((Rd.new xs).to head) = (D1, F.core)) := Lib.hid (by rw [← HD0.out, HKF, ← hF, pair_of (kindS D1 0), kindS_bad HWB.out]; rfl)
      have hok : F.ok ((w6.alloc (.cells #[.nilFunc, .nilFunc, .nilFunc, .nilFunc] 142)).setRow w6.heap.size #[.nilFunc, .nilFunc, .nilFunc, .nilFunc]) := by rw [← hF]; exact ⟨rfl, rt_none _ rfl rfl rfl⟩
      have hoa : OwnA ((w6.alloc (.cells #[.nilFunc, .nilFunc, .nilFunc, .nilFunc] 142)).setRow w6.heap.size #[.nilFunc, .nilFunc, .nilFunc, .nilFunc]) w.heap.size F := by rw [← hF]; exact OwnA.none _ _ ⟨rfl, rfl, rfl, rfl⟩
      have HFA : Hid (∀ a, F.A = some a → ¬ a.block = r ∧ ¬ a.block = g2) := Lib.hid (fun a e => by rw [← hF] at e; cases e)
      rw [hF] at hF6
      clear hF4 hR4 hX4 hbz hb7 hbK hblk hsz hb6 hF HKF
      generalize (w6.alloc (.cells #[.nilFunc, .nilFunc, .nilFunc, .nilFunc] 142)).setRow w6.heap.size #[.nilFunc, .nilFunc, .nilFunc, .nilFunc] = w8 at *
      obtain ⟨D2, hD2⟩ : ∃ D2, D1 = D2 := ⟨_, rfl⟩
      rw [hD2] at HKF2 hR6
      go_wp2_with fail
      refine (End_any hR6).mono ?_
      rintro e w9 ⟨rfl, hR7, ho7⟩
      have hF7 := hF6.only ho7 (notr hs)
      have hX7 := ho7.kept hX6 hr2
      have hbs := Below.only hbr ho7 hbr.size (fun k e => e ▸ HRW.out)
      obtain ⟨D3, hD3⟩ : ∃ D3, endS D2 = D3 := ⟨_, rfl⟩
      have hfin : finS D2 F.core head = if D3.why = 0 ∧ F.k = 3 ∧ F.st ≠ 1 ∧ F.body.size ≠ 0 then (70, (head : Int)) else (D3.why, D3.wat) := by unfold finS; rw [hD3]; rfl
      have HINV := Lib.hid hR6.inv
      have HIV3 : Hid (D3.why = 0 → D3.wat = 0) := Lib.hid (by rw [← hD3]; exact endS_inv HINV.out)
      rw [hD3] at hR7 ⊢
      clear hD3
      have hR8 := hR7
      clear hR8 hR6 hR7
      obtain ⟨x, hx⟩ : ∃ x, D3.why = x := ⟨_, rfl⟩
      obtain ⟨y, hy⟩ : ∃ y, D3.wat = y := ⟨_, rfl⟩
      rw [hx, hy] at hfin HIV3
      rw [hx, hy]
      have HFIN := Lib.hid hfin
      clear hx hy hfin
      have hsz2 := fv_size x y
      go_upto_region 9 with ((with_reducible show wpList _ _ _ (Oper.mk none _ _ _ _ _ :: _) _ _); refine wpList_store_row rfl 28 (.tmp 5) (.tmp 30) rfl g2 (fv x y) rfl rfl 28 _ hX7 hsz2 rfl (fv_one x y) ?_)
      have hX8 := setRow_heap _ g2 _ (fv x y) _ _ hX7
      have hF8 := hF7.only (Fr.only_row w9 g2 (fv x y)) hgg
      have hbt := below_setRow (cs := fv x y) hbs (g := g2) (by have := HG2.out; omega)
      have hok8 : F.ok (w9.setRow g2 (fv x y)) := ⟨hok.tool, (hok.args.apart ho7 (fun a e => (HFA.out a e).1)).apart (Fr.only_row w9 g2 (fv x y)) (fun a e => (HFA.out a e).2)⟩
      have hoa8 := (hoa.only ho7 (fun a e => (HFA.out a e).1)).only (Fr.only_row w9 g2 (fv x y)) (fun a e => (HFA.out a e).2)
      clear hF7 hbs hok hX7 ho7 hsz2 hoa
      generalize w9.setRow g2 (fv x y) = w10 at *
      have eX : (Instr.loadAt 28 (.pointer (some ⟨g2, 0, none⟩))).run Tryz.prog w10 = .ok (.agg #[.int .i64 x, .int .i64 y]) w10 := load_fault hX8
      have hif : (Tryz.prog.info? 48).map (·.size) = some F.cells.length := by have := Fr.arr_size F hF8.tool; rw [frame_size]; simp [Fr.arr] at this; rw [this]
      have hdr := below_drew (Below.refl w10.heap.size w10)
      have hFd := hF8.below hdr
      have hXd := (hdr.block _ (lt_of_block hX8)).trans hX8
      have eF := load_frame F hif w10.drew g hFd
      have eXd : (Instr.loadAt 28 (.pointer (some ⟨g2, 0, none⟩))).run Tryz.prog w10.drew = .ok (.agg #[.int .i64 x, .int .i64 y]) w10.drew := load_fault hXd
      have sF := same_frame hFd
      have sX : (Instr.storeAt 28 (.pointer (some ⟨g2, 0, none⟩)) (.agg #[.int .i64 x, .int .i64 y])).run Tryz.prog w10.drew = .ok () w10.drew := same_fault hXd
      have eK := load_int hF8.c0
      have eS := load_int hF8.c36
      have eB := load_str hF8.c41
      have hz : ∀ W : World, (Instr.build 28 #[]).run Tryz.prog W = .ok (.agg #[.int .i64 0, .int .i64 0]) W := fun W => by kernel_rfl
      have hbe := body_empty F.body
      have hqg : Tryz.prog.eqGuardType Tryz.prog.depth 28 = false := by kernel_rfl
      have hDone : ∀ (HP : finS D2 F.core head = (x, y)) , ReadPost w xs head (.returned (.tuple #[.agg F.arr, .agg (fv x y)])) w10.drew := fun HP => ⟨F, x, y, rfl, hF8.tool, Lib.hid (read_fin HKF2.out HINV.out HP), fun _ => ⟨hok8.below hdr, hoa8.below hdr⟩, below_step hbt hdr⟩
      have HDone := Lib.hid hDone
      clear hDone hif
      by_cases h0 : x = 0
      · have heq := run_fault x y true (by rw [h0, HIV3.out h0]; rfl)
        by_cases hk : F.k = 3
        · have bk : (F.k == 3) = true := by rw [beq_iff_eq]; exact hk
          by_cases hst : F.st = 1
          · have bs : (F.st != 1) = false := by simp [hst]
            have HP : Hid (finS D2 F.core head = (x, y)) := Lib.hid (by rw [HFIN.out, if_neg (fun e => e.2.2.1 hst)])
            clear hbe hk hst h0
            go_wp2_with fail
            go_region_law (fail)
            all_goals ((try go_wp2_with fail); exact door_idle (by rfl) (by rfl) hFd hXd (HDone.out HP.out))
          · have bs : (F.st != 1) = true := by simp [hst]
            by_cases hb0 : F.body.size = 0
            · have b0 : F.body.toList.isEmpty = true := by rw [hbe]; exact decide_eq_true hb0
              have HP : Hid (finS D2 F.core head = (x, y)) := Lib.hid (by rw [HFIN.out, if_neg (fun e => e.2.2.2 hb0)])
              clear hbe hk hst h0 hb0
              go_wp2_with fail
              go_region_law (fail)
              all_goals ((try go_wp2_with fail); exact door_idle (by rfl) (by rfl) hFd hXd (HDone.out HP.out))
            · have b0 : F.body.toList.isEmpty = false := by rw [hbe]; exact decide_eq_false hb0
              have HP : Hid (finS D2 F.core head = (70, (head : Int))) := Lib.hid (by rw [HFIN.out, if_pos ⟨h0, hk, hst, hb0⟩])
              clear hbe hk hst h0 hb0
              have hb2 : ∀ (x y : Int) (W : World), (Instr.build 28 #[(0, .int .i64 x), (1, .int .i64 y)]).run Tryz.prog W = .ok (.agg #[.int .i64 x, .int .i64 y]) W := fun x y W => by kernel_rfl
              have hszq := fv_size 70 (head : Int)
              clear sF sX eF eXd hFd hXd hdr
              go_upto_region 11 with ((with_reducible show wpList _ _ _ (Oper.mk none _ _ _ _ _ :: _) _ _); refine wpList_store_row rfl 28 (.tmp 5) (.tmp 50) rfl g2 (fv 70 (head : Int)) rfl rfl 28 _ hX8 hszq rfl (fv_one _ _) ?_)
              have hX9 := setRow_heap _ g2 _ (fv 70 (head : Int)) _ _ hX8
              have hF9 := hF8.only (Fr.only_row w10 g2 (fv 70 (head : Int))) hgg
              have hbu := below_setRow (cs := fv 70 (head : Int)) hbt (g := g2) (by have := HG2.out; omega)
              have hDone : ReadPost w xs head (.returned (.tuple #[.agg F.arr, .agg (fv 70 (head : Int))])) (w10.setRow g2 (fv 70 (head : Int))).drew := ⟨F, 70, (head : Int), rfl, hF9.tool, Lib.hid (read_fin HKF2.out HINV.out HP.out), fun e => absurd e (by decide), below_step hbu (below_drew (Below.refl _ _))⟩
              have HDone2 := Lib.hid hDone
              clear hF8 hbt hX8 hDone eX eK eS eB
              generalize w10.setRow g2 (fv 70 (head : Int)) = w11 at *
              have hdr := below_drew (Below.refl w11.heap.size w11)
              have hFd := hF9.below hdr
              have hXd := (hdr.block _ (lt_of_block hX9)).trans hX9
              have eXd := load_fault hXd
              have hif : (Tryz.prog.info? 48).map (·.size) = some F.cells.length := by have := Fr.arr_size F hF9.tool; rw [frame_size]; simp [Fr.arr] at this; rw [this]
              have eF := load_frame F hif w11.drew g hFd
              have sF := same_frame hFd
              have sX := same_fault hXd
              clear hif
              go_wp2_with fail
              go_region_law (fail)
              all_goals ((try go_wp2_with fail); exact door_idle (by rfl) (by rfl) hFd hXd HDone2.out)
        · have bk : (F.k == 3) = false := by rw [beq_eq_false_iff_ne]; exact hk
          have HP : Hid (finS D2 F.core head = (x, y)) := Lib.hid (by rw [HFIN.out, if_neg (fun e => hk e.2.1)])
          clear hbe hk h0
          go_wp2_with fail
          go_region_law (fail)
          all_goals ((try go_wp2_with fail); exact door_idle (by rfl) (by rfl) hFd hXd (HDone.out HP.out))
      · have heq := run_fault x y false (by rw [Bool.and_eq_false_iff]; left; rw [beq_eq_false_iff_ne]; exact h0)
        have HP : Hid (finS D2 F.core head = (x, y)) := Lib.hid (by rw [HFIN.out, if_neg (fun e => h0 e.1)])
        clear hbe h0
        go_wp2_with fail
        go_region_law (fail)
        all_goals ((try go_wp2_with fail); exact door_idle (by rfl) (by rfl) hFd hXd (HDone.out HP.out))
  · have hF3 := hF2.only ho2 (notr hs)
    have hX3 := ho2.kept hX2 hr2
    have hby := Below.only hbx ho2 hbx.size (fun k e => e ▸ HRW.out)
    have HB : Hid ((readF xs head).2 = ((70 : Int), (D0.at_ : Int))) := Lib.hid (by
      have e2 : fieldsS ((Rd.new xs).to head) = (D0.fail 70 D0.at_, (fieldsS D0).2) := by rw [← HD0.out, ← fields_none HC.out HV.out]
      exact read_bad e2 (by show (70 : Int) ≠ 0; decide))
    refine door_raised (Z := fv 0 0) rfl rfl hF3 hX3 rfl hgg (fun W' ho' => ?_)
    exact ⟨kF 0, 70, _, rfl, hF3.tool, Lib.hid ⟨HB.out, fun e => absurd e (by decide)⟩, fun e => absurd e (by decide), Below.only hby ho' hby.size (fun k e => by have := HG2.out; omega)⟩
end
end Go.Proofs.YtpjpgcjhdbiepaaGreat
end
/-! The contracts of Open and of the document's Open. -/
section
namespace Go.Proofs.YtpjpgcjhdbiepaaGreat
open Go.RowKit Go.Kit CrcM Go.Proofs.YtpjpgcjhdbiepaaGreatW.PrintWords

/-- What Open answers. -/
def openR (xs : List Int) : List Int × Int :=
  if xs.length < 4 then ([], 4) else if b4 (more 0#32 (xs.take (xs.length - 4))) = xs.drop (xs.length - 4) then (xs.take (xs.length - 4), 0) else ([], 71)
theorem openR_short {xs : List Int} (h : xs.length < 4) : openR xs = ([], 4) := if_pos h
theorem openR_good {xs : List Int} {N : Nat} (h : xs.length = N + 4) (e : b4 (more 0#32 (xs.take N)) = xs.drop N) : openR xs = (xs.take N, 0) := by
  unfold openR; rw [if_neg (by omega), show xs.length - 4 = N from by omega, if_pos e]
theorem openR_bad {xs : List Int} {N : Nat} (h : xs.length = N + 4) (e : b4 (more 0#32 (xs.take N)) ≠ xs.drop N) : openR xs = ([], 71) := by
  unfold openR; rw [if_neg (by omega), show xs.length - 4 = N from by omega, if_neg e]
theorem last_four {xs : List Int} {N : Nat} (h : xs.length = N + 4) : ∃ y0 y1 y2 y3, xs.drop N = [y0, y1, y2, y3] := by
  have hl : (xs.drop N).length = 4 := by rw [List.length_drop]; omega
  match hd : xs.drop N, hl with
  | [y0, y1, y2, y3], _ => exact ⟨y0, y1, y2, y3, rfl⟩
theorem RBs.drew {w : World} {A : Option Addr} {n : Nat} {L : List (List Int)} (h : RBs w A n L) : RBs w.drew A n L := ⟨h.len, h.max, fun i hi => by
  obtain ⟨ad, Ai, ci, xs, e, hc, hx, hr⟩ := h.at0 i hi
  exact ⟨ad, Ai, ci, xs, e, hc, hx, hr.drew⟩⟩
theorem Sum_of {A : Option Addr} {n : Nat} {xs : List Int} {w : World} (h : RBs w A n [xs]) (c : Nat) :
    Calls Tryz.prog 75 #[.slice A n c] w fun e w' => ∃ s : W, e = .returned (.int .u32 (s.toNat : Int)) ∧ Hid (s = more 0#32 xs) ∧ Below w.heap.size w w' := by
  refine (Sum_any _ n c [xs] _ h).mono ?_
  rintro e w1 ⟨rfl, hb1⟩
  exact ⟨_, rfl, Lib.hid (by simp), hb1⟩
theorem openS {w w1 : World} {a0 a1 a2 a3 : Addr} {v0 v1 v2 v3 : Value} (h0 : w.cell? a0 = some v0) (h1 : w.cell? a1 = some v1) (h2 : w.cell? a2 = some v2) (h3 : w.cell? a3 = some v3) (hb : Below w.heap.size w w1) :
    Below w.heap.size w w1 ∧ w1.cell? a0 = some v0 ∧ w1.cell? a1 = some v1 ∧ w1.cell? a2 = some v2 ∧ w1.cell? a3 = some v3 :=
  ⟨hb, pw_cell_below hb h0, pw_cell_below hb h1, pw_cell_below hb h2, pw_cell_below hb h3⟩
def sameL (l m : List Int) : Bool := decide (l = m)
set_option maxHeartbeats 2000000 in
set_option maxRecDepth 100000 in
theorem Open_any (A : Option Addr) (len cap : Nat) (xs : List Int) (w : World) (hx : RB w A len xs) (hcap : len ≤ cap) (hl : len ≤ 140737488355000) :
    Calls Tryz.prog 69 #[.slice A len cap] w fun e w' => ∃ v ys err, e = .returned (.tuple #[v, .int .i64 err]) ∧ OB 5 w' w.heap.size v ys ∧ Hid ((ys, err) = openR xs) ∧ Below w.heap.size w w' := by
  by_cases h4 : len < 4
  · have HF : Hid (([], 4) = openR xs) := (openR_short (by rw [hx.len]; exact h4)).symm
    go_enter Tryz.func69, Tryz.ntmps69
    go_wp2_with fail
    go_ret2
    exact ⟨_, _, _, rfl, OB.nil _ _ _, HF, Below.refl _ _⟩
  · obtain ⟨N, rfl⟩ : ∃ N, len = N + 4 := ⟨len - 4, by omega⟩
    obtain ⟨y0, y1, y2, y3, hd⟩ := last_four hx.len
    obtain ⟨ad, rfl, hcells⟩ := hx.rd.2.2 (by omega)
    have hget : ∀ j, xs.getD (N + j) 0 = (xs.drop N).getD j 0 := fun j => by simp [List.getD_eq_getElem?_getD, List.getElem?_drop]
    have c0 : w.cell? (ad.add N) = some (.int .u8 y0) := by rw [hcells N (by omega)]; have := hget 0; rw [Nat.add_zero] at this; rw [this, hd]; rfl
    have c1 : w.cell? ⟨(ad.add N).block, (ad.add N).off + 1, none⟩ = some (.int .u8 y1) := by rw [← add_field ad N 1 (by omega), hcells (N + 1) (by omega), hget 1, hd]; rfl
    have c2 : w.cell? ⟨(ad.add N).block, (ad.add N).off + 2, none⟩ = some (.int .u8 y2) := by rw [← add_field ad N 2 (by omega), hcells (N + 2) (by omega), hget 2, hd]; rfl
    have c3 : w.cell? ⟨(ad.add N).block, (ad.add N).off + 3, none⟩ = some (.int .u8 y3) := by rw [← add_field ad N 3 (by omega), hcells (N + 3) (by omega), hget 3, hd]; rfl
    have HD := Lib.hid hd
    clear hd hget hcells
    have hcN : ¬ cap = N := by omega
    go_enter Tryz.func69, Tryz.ntmps69
    go_wp2_with fail
    have hxN := RB.take_ hx N (by omega)
    have harr : ∀ (W : World) (a : Option Addr) (c : Nat), (Instr.arrayAt 110 (.slice a 4 c)).run Tryz.prog W = .ok (.pointer a) W := fun W a c => run_arrayAt W 110 5 4 a 4 c Tryz.underlying110 (by omega)
    have heq : ∀ (W : World) (x0 x1 x2 x3 : Int), (Op.equalIn 10000 110 (.agg #[.int .u8 x0, .int .u8 x1, .int .u8 x2, .int .u8 x3]) (.agg #[.int .u8 y0, .int .u8 y1, .int .u8 y2, .int .u8 y3])).run Tryz.prog W = .ok (sameL [x0, x1, x2, x3] [y0, y1, y2, y3]) W := by
      intro W x0 x1 x2 x3
      obtain ⟨i0, hi, hz0, hz1, hz2⟩ := info_parts u8_info
      exact run_equalIn_nums (P := Tryz.prog) (w := W) 9998 [x0, x1, x2, x3] [y0, y1, y2, y3] Tryz.underlying110 hi hz1 Tryz.underlying5 rfl rfl
    have b1 : (0 : Int) ≤ (N : Int) := by omega
    have b2 : (N : Int) ≤ (cap : Int) := by omega
    have b3 : (N : Int) ≤ (N : Int) + 4 := by omega
    have b4 : (N : Int) + 4 ≤ (cap : Int) := by omega
    go_region_held3 (fun w' => Below w.heap.size w w' ∧ w'.cell? (ad.add N) = some (.int .u8 y0) ∧ w'.cell? ⟨(ad.add N).block, (ad.add N).off + 1, none⟩ = some (.int .u8 y1) ∧ w'.cell? ⟨(ad.add N).block, (ad.add N).off + 2, none⟩ = some (.int .u8 y2) ∧ w'.cell? ⟨(ad.add N).block, (ad.add N).off + 3, none⟩ = some (.int .u8 y3))
      (first
        | assumption
        | (go_split_ands; refine ⟨?_, ?_, ?_, ?_, ?_⟩ <;> assumption)
        | exact openS c0 c1 c2 c3 (below_drew (Below.refl _ _))
        | (go_split_ands; refine openS c0 c1 c2 c3 (below_step ?_ hb3); assumption)
        | (go_split_ands; refine openS c0 c1 c2 c3 (below_step ?_ hb2); assumption)
        | (go_split_ands; refine openS c0 c1 c2 c3 (below_alloc ?_ _); assumption)
        | exact openS c0 c1 c2 c3 (below_drew (below_alloc (Below.refl _ _) _)))
      (first
        | (go_at_call 75; go_split_ands; go_must (refine (Sum_of (RBs.drew (RBs.one _ hxN)) _).mono ?_); rintro e w2 ⟨s, rfl, HS, hb2⟩)
        | (go_at_call 74; refine (Bytes_any s _ rfl _).mono ?_; rintro e w3 ⟨x0, x1, x2, x3, rfl, HB, hb3⟩))
    all_goals
      clear harr heq c0 c1 c2 c3 hcN
      go_split_ands
      by_cases hq : [x0, x1, x2, x3] = [y0, y1, y2, y3]
      · have HF : Hid ((xs.take N, 0) = openR xs) := (openR_good hx.len (by rw [← HS.out, HB.out, HD.out]; exact hq)).symm
        have hqd : sameL [x0, x1, x2, x3] [y0, y1, y2, y3] = true := decide_eq_true hq
        rw [hqd]
        clear hq hqd
        obtain ⟨i0, hi, hz0, hz1, hz2⟩ := info_parts u8_info
        have hmk := fun W => run_make_rowN 22 5 i0 _ Tryz.underlying22 hi hz0 N N (Nat.le_refl _) (by rw [hz2]; omega) (by omega) W (N : Int) (N : Int) rfl rfl
        simp only [hz1, Value.cells, Nat.mul_one, made_u8] at hmk
        clear hi hz0 hz1 hz2
        go_wp2_with (refine wpList_copy_bytes (w := w) rfl (.tmp 26) (.tmp 27) 22 5 rfl Tryz.underlying22 u8_size (some ad) N N (N + 4) cap xs _ rfl rfl ((hx.below (by assumption)).alloc _) (by omega) (heap_alloc_new _ _) (Nat.le_refl _) (by omega) (below_alloc (by assumption) _) (Below.size (by assumption)) ?_)
        intro w9 hO hb9
        go_wp2_with fail
        go_ret2
        exact ⟨_, _, _, rfl, hO, HF, hb9⟩
      · have HF : Hid (([], 71) = openR xs) := (openR_bad hx.len (by rw [← HS.out, HB.out, HD.out]; exact hq)).symm
        have hqd : sameL [x0, x1, x2, x3] [y0, y1, y2, y3] = false := decide_eq_false hq
        rw [hqd]
        clear hq hqd
        go_wp2_with fail
        go_ret2
        exact ⟨_, _, _, rfl, OB.nil _ _ _, HF, by assumption⟩
end Go.Proofs.YtpjpgcjhdbiepaaGreat
end
