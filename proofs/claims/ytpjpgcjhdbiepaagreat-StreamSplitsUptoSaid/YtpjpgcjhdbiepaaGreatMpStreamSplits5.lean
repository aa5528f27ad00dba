/- Contracts of functions that the law reaches (texts laid together, part 5): each says of its call what it answers and what it leaves of memory; the conditions stand in each statement. -/
import Derived.Test.YtpjpgcjhdbiepaaGreatMpStreamSplits4
import Derived.Test.YtpjpgcjhdbiepaaGreatWWords
import Derived.WalkKit
import Derived.Lib.Hide
import Derived.Laws.BitsAllLaws
import Derived.Deep.WholeRow
import Derived.Deep.CutBlock
import Derived.Deep.Cut
import Derived.Deep.LoopGhost
import Derived.Laws.CopyOwn
import Derived.Lib.SlBytesConst
import Derived.ChangeKeysEq
import Derived.Laws.StructEq
import Derived.Test.YtpjpgcjhdbiepaaGreatWMore
import Derived.Laws.Bits64b
import Derived.IntWalk
import Derived.Test.YtpjpgcjhdbiepaaGreatProg
import Derived.Test.YtpjpgcjhdbiepaaGreatWGuard
import Derived.Deep.MidRow
import Derived.Deep.RegionHeld3
import Derived.Deep.RegionLaw
import Derived.Deep.DeepMust
import Derived.Laws.Cover3
import Derived.Test.YtpjpgcjhdbiepaaGreatWEqStruct
import Derived.StillTailTactics
import Derived.Recover
import Derived.WalkLawsBesides
import Derived.Deep.RegionWith
import Derived.RegionTactic
import Derived.BigRegion
import Derived.Deep.QuietTactic
import Derived.BigQuiet
import Derived.Laws.CopyRow
set_option linter.unusedVariables false
set_option linter.unusedSimpArgs false
set_option linter.unusedSectionVars false
set_option linter.unnecessarySimpa false
section
namespace Go.Proofs.YtpjpgcjhdbiepaaGreat
open Go.RowKit Go.Kit Go.Proofs.YtpjpgcjhdbiepaaGreatW.PrintWords
section
variable {f : Fr} {w : World}
theorem same_sym2 (f g : Fr) (s : Bool) (h : g.same f = s) : f.same g = s := by rw [same_sym]; exact h
theorem ne_true {b : Bool} (h : b = false) : ¬ b = true := by rw [h]; exact Bool.false_ne_true
def CkLoop (f : Fr) (w4 : World) (gk : Nat) (v3 v4 : Value) (w' : World) : Prop := ∃ (i : Nat) (b : Bool), v4 = .int .i64 (i : Int) ∧ v3 = .bool b ∧ w' = w4 ∧
 Hid (i ≤ f.n ∧ (b = false → ∀ j, j < i → ∀ s, f.args[j]? = some s → s.size ≤ 4096) ∧ (b = true → ∃ s ∈ f.args, 4096 < s.size) ∧ gk = f.n - i)
structure Lds (f : Fr) (g : Nat) (W : World) : Prop where
 k : (Instr.loadAt 3 (.pointer (some ⟨g, 0, none⟩))).run Tryz.prog W = .ok (.int .i64 f.k) W
 v : (Instr.loadAt 3 (.pointer (some ⟨g, 2, none⟩))).run Tryz.prog W = .ok (.int .i64 f.v) W
 s : (Instr.loadAt 3 (.pointer (some ⟨g, 3, none⟩))).run Tryz.prog W = .ok (.int .i64 f.s) W
 st : (Instr.loadAt 3 (.pointer (some ⟨g, 36, none⟩))).run Tryz.prog W = .ok (.int .i64 f.st) W
 mo : (Instr.loadAt 3 (.pointer (some ⟨g, 37, none⟩))).run Tryz.prog W = .ok (.int .i64 f.mo) W
 fu : (Instr.loadAt 3 (.pointer (some ⟨g, 38, none⟩))).run Tryz.prog W = .ok (.int .i64 f.fu) W
 di : (Instr.loadAt 3 (.pointer (some ⟨g, 39, none⟩))).run Tryz.prog W = .ok (.int .i64 f.di) W
 args : (Instr.loadAt 46 (.pointer (some ⟨g, 40, none⟩))).run Tryz.prog W = .ok (.slice f.A f.n f.c) W
 body : (Instr.loadAt 9 (.pointer (some ⟨g, 41, none⟩))).run Tryz.prog W = .ok (.string f.body) W
theorem lds {W : World} {g : Nat} (h : f.at_ 48 W g) : Lds f g W :=
 ⟨load_int h.c0, load_int h.c2, load_int h.c3, load_int h.c36, load_int h.c37, load_int h.c38, load_int h.c39, load_txts h.c40, load_str h.c41⟩
theorem load_s {W : World} {a : Addr} {v : Value} (h : W.cell? a = some v) : (Instr.loadAt 9 (.pointer (some a))).run Tryz.prog W = .ok v W := load_str h
attribute [-go_sem] Instr.loadAt
set_option maxHeartbeats 16000000 in
set_option maxRecDepth 100000 in
theorem rCheck_any (hf : f.ok w) (hw : f.wf) (ha : ∀ s ∈ f.args, s.size ≤ 9223372036854775807) : Calls Tryz.prog 38 #[f.val] w fun e w' => e = .returned (.int .i64 (chkF f)) ∧ Below w.heap.size w w' := by
 have hb := below_alloc (Below.refl _ w) (.cells f.arr 48)
 have hF := boxed hf.tool w
 have hmx := hf.args.max
 have hif : (Tryz.prog.info? 48).map (·.size) = some f.cells.length := by rw [frame_size]; have := Fr.arr_size f hf.tool; simp [Fr.arr] at this; rw [this]
 show Calls Tryz.prog _ #[.agg f.arr] w _
 obtain ⟨c, hc⟩ : ∃ c, chkF f = c := ⟨_, rfl⟩
 rw [hc]
 have HC := Lib.hid hc
 clear hc
 have HOK := Lib.hid hf
 have HWF := Lib.hid hw
 have HHA := Lib.hid ha
 clear hf hw ha
 go_enter Tryz.func38, Tryz.ntmps38
 go_upto_region 1 with (fail)
 generalize w.alloc (.cells f.arr 48) = w1 at *
 obtain ⟨g, hg⟩ : ∃ g, w.heap.size = g := ⟨_, rfl⟩
 rw [hg] at hF ⊢
 clear hg
 have hl0 : ∀ W, f.at_ 48 W g → (Instr.loadAt 3 (.pointer (some ⟨g, 0, none⟩))).run Tryz.prog W = .ok (.int .i64 f.k) W := fun W h => load_int h.c0
 have hl1 : ∀ W, f.at_ 48 W g → (Instr.loadAt 48 (.pointer (some ⟨g, 0, none⟩))).run Tryz.prog W = .ok (.agg f.arr) W := fun W h => load_frame f hif W _ h
 have hl2 : ∀ W, f.at_ 48 W g → (Instr.loadAt 46 (.pointer (some ⟨g, 40, none⟩))).run Tryz.prog W = .ok (.slice f.A f.n f.c) W := fun W h => load_txts h.c40
 have hbd : Below w.heap.size w w1.drew := below_step hb (below_drew (Below.refl _ _))
 have hFd : f.at_ 48 w1.drew g := hF.below (below_drew (Below.refl _ _))
 by_cases k1 : f.k < 1
 ·have d1 : decide (f.k < 1) = true := decide_eq_true k1
  have HX : Hid (c = 70) := Lib.hid (by rw [← HC.out]; exact chk_no (fun h => by have := h.k1; omega))
  refine wp_region_held_drew (S := fun W => f.at_ 48 W g) (by kernel_rfl) (hFd) (fun hHeld => ?_)
  refine Go.Kit.tk 0 (.pointer (some ⟨g, 0, none⟩)) rfl ?_
  refine Go.Kit.tk 1 (.int .i64 f.k) rfl ?_
  refine Go.Kit.tk 2 (.bool true) rfl ?_
  refine Go.Kit.tk 3 (.bool true) rfl ?_
  refine wpAnyH_ready (rs := [4]) (by kernel_rfl) (by decide) (AllReadyH.cons (o := ⟨_, _, _, _, _, _⟩) rfl (fun K hK => ?_) AllReadyH.nil)
  rw [if_neg (ne_true (by kernel_rfl))]
  refine hK.out _ _ (hHeld) (fun hHeld => ?_)
  clear hK K
  try simp only [Act.put, List.setIfInBounds_toArray, List.set_cons_zero, List.set_cons_succ]
  refine wpAnyH_ready (rs := [5]) (by kernel_rfl) (by decide) (AllReadyH.cons (o := ⟨_, _, _, _, _, _⟩) rfl (fun K hK => ?_) AllReadyH.nil)
  rw [if_neg (ne_true (by kernel_rfl))]
  refine hK.out _ _ (hHeld) (fun hHeld => ?_)
  clear hK K
  try simp only [Act.put, List.setIfInBounds_toArray, List.set_cons_zero, List.set_cons_succ]
  refine wpAnyH_ready (rs := [6]) (by kernel_rfl) (by decide) (AllReadyH.cons (o := ⟨_, _, _, _, _, _⟩) rfl (fun K hK => ?_) AllReadyH.nil)
  rw [if_neg (ne_true (by kernel_rfl))]
  refine hK.out _ _ (hHeld) (fun hHeld => ?_)
  clear hK K
  try simp only [Act.put, List.setIfInBounds_toArray, List.set_cons_zero, List.set_cons_succ]
  refine Go.Kit.tk 7 (.bool true) rfl ?_
  refine Go.Kit.tk 8 (.bool true) rfl ?_
  refine wpAnyH_ready (rs := [9, 10]) (by kernel_rfl) (by decide) (AllReadyH.cons (o := ⟨_, _, _, _, _, _⟩) rfl (fun K hK => ?_) (AllReadyH.cons (o := ⟨_, _, _, _, _, _⟩) rfl (fun K hK => ?_) AllReadyH.nil))
  ·skip
   rw [if_neg (ne_true (by kernel_rfl))]
   refine hK.out _ _ (hHeld) (fun hHeld => ?_)
   clear hK K
   try simp only [Act.put, List.setIfInBounds_toArray, List.set_cons_zero, List.set_cons_succ]
   refine wpAnyH_ready (rs := [10]) (by kernel_rfl) (by decide) (AllReadyH.cons (o := ⟨_, _, _, _, _, _⟩) rfl (fun K hK => ?_) AllReadyH.nil)
   rw [if_neg (ne_true (by kernel_rfl))]
   refine hK.out _ _ (hHeld) (fun hHeld => ?_)
   clear hK K
   try simp only [Act.put, List.setIfInBounds_toArray, List.set_cons_zero, List.set_cons_succ]
   refine wpAnyH_ready (rs := [11]) (by kernel_rfl) (by decide) (AllReadyH.cons (o := ⟨_, _, _, _, _, _⟩) rfl (fun K hK => ?_) AllReadyH.nil)
   rw [if_neg (ne_true (by kernel_rfl))]
   refine hK.out _ _ (hHeld) (fun hHeld => ?_)
   clear hK K
   try simp only [Act.put, List.setIfInBounds_toArray, List.set_cons_zero, List.set_cons_succ]
   refine wpAnyH_ready (rs := [12]) (by kernel_rfl) (by decide) (AllReadyH.cons (o := ⟨_, _, _, _, _, _⟩) rfl (fun K hK => ?_) AllReadyH.nil)
   rw [if_neg (ne_true (by kernel_rfl))]
   refine hK.out _ _ (hHeld) (fun hHeld => ?_)
   clear hK K
   try simp only [Act.put, List.setIfInBounds_toArray, List.set_cons_zero, List.set_cons_succ]
   refine wpAnyH_ready (rs := [13]) (by kernel_rfl) (by decide) (AllReadyH.cons (o := ⟨_, _, _, _, _, _⟩) rfl (fun K hK => ?_) AllReadyH.nil)
   rw [if_neg (ne_true (by kernel_rfl))]
   refine hK.out _ _ (hHeld) (fun hHeld => ?_)
   clear hK K
   try simp only [Act.put, List.setIfInBounds_toArray, List.set_cons_zero, List.set_cons_succ]
   refine Go.Kit.tk 14 (.bool true) rfl ?_
   refine Go.Kit.tk 15 (.bool true) rfl ?_
   refine wpAnyH_ready (rs := [16]) (by kernel_rfl) (by decide) (AllReadyH.cons (o := ⟨_, _, _, _, _, _⟩) rfl (fun K hK => ?_) AllReadyH.nil)
   rw [if_neg (ne_true (by kernel_rfl))]
   refine hK.out _ _ (hHeld) (fun hHeld => ?_)
   clear hK K
   try simp only [Act.put, List.setIfInBounds_toArray, List.set_cons_zero, List.set_cons_succ]
   refine wpAnyH_ready (rs := [17]) (by kernel_rfl) (by decide) (AllReadyH.cons (o := ⟨_, _, _, _, _, _⟩) rfl (fun K hK => ?_) AllReadyH.nil)
   rw [if_neg (ne_true (by kernel_rfl))]
   refine hK.out _ _ (hHeld) (fun hHeld => ?_)
   clear hK K
   try simp only [Act.put, List.setIfInBounds_toArray, List.set_cons_zero, List.set_cons_succ]
   refine wpAnyH_ready (rs := [18]) (by kernel_rfl) (by decide) (AllReadyH.cons (o := ⟨_, _, _, _, _, _⟩) rfl (fun K hK => ?_) AllReadyH.nil)
   rw [if_neg (ne_true (by kernel_rfl))]
   refine hK.out _ _ (hHeld) (fun hHeld => ?_)
   clear hK K
   try simp only [Act.put, List.setIfInBounds_toArray, List.set_cons_zero, List.set_cons_succ]
   refine wpAnyH_ready (rs := [19]) (by kernel_rfl) (by decide) (AllReadyH.cons (o := ⟨_, _, _, _, _, _⟩) rfl (fun K hK => ?_) AllReadyH.nil)
   rw [if_neg (ne_true (by kernel_rfl))]
   refine hK.out _ _ (hHeld) (fun hHeld => ?_)
   clear hK K
   try simp only [Act.put, List.setIfInBounds_toArray, List.set_cons_zero, List.set_cons_succ]
   refine Go.Kit.tk 20 (.bool true) rfl ?_
   refine Go.Kit.tk 21 (.bool true) rfl ?_
   refine wpAnyH_done (by kernel_rfl) ?_ _
   try simp only [Act.put, List.setIfInBounds_toArray, List.set_cons_zero, List.set_cons_succ]
   have L := lds hFd
   have l0 := L.k; have l1 := L.v; have l2 := L.s; have l3 := L.st; have l4 := L.mo; have l5 := L.fu; have l6 := L.di; have l7 := L.args; have l8 := L.body
   clear L
   go_wp2_with fail
   go_loopg [3, 4] 1 (fun gk v3 v4 w' => v3 = .bool true ∧ v4 = .int .i64 0 ∧ w' = w1.drew)
   case atStart => exact ⟨rfl, rfl, rfl⟩
   case round =>
    obtain ⟨rfl, rfl, rfl⟩ := hrel
    go_wp2_with fail
    all_goals
     go_ret
     exact ⟨by rw [HX.out]; rfl, hbd⟩
  ·skip
   rw [if_neg (ne_true (by kernel_rfl))]
   refine hK.out _ _ (hHeld) (fun hHeld => ?_)
   clear hK K
   try simp only [Act.put, List.setIfInBounds_toArray, List.set_cons_zero, List.set_cons_succ]
   refine wpAnyH_ready (rs := [9, 11]) (by kernel_rfl) (by decide) (AllReadyH.cons (o := ⟨_, _, _, _, _, _⟩) rfl (fun K hK => ?_) (AllReadyH.cons (o := ⟨_, _, _, _, _, _⟩) rfl (fun K hK => ?_) AllReadyH.nil))
   ·skip
    rw [if_neg (ne_true (by kernel_rfl))]
    refine hK.out _ _ (hHeld) (fun hHeld => ?_)
    clear hK K
    try simp only [Act.put, List.setIfInBounds_toArray, List.set_cons_zero, List.set_cons_succ]
    refine wpAnyH_ready (rs := [11]) (by kernel_rfl) (by decide) (AllReadyH.cons (o := ⟨_, _, _, _, _, _⟩) rfl (fun K hK => ?_) AllReadyH.nil)
    rw [if_neg (ne_true (by kernel_rfl))]
    refine hK.out _ _ (hHeld) (fun hHeld => ?_)
    clear hK K
    try simp only [Act.put, List.setIfInBounds_toArray, List.set_cons_zero, List.set_cons_succ]
    refine wpAnyH_ready (rs := [12]) (by kernel_rfl) (by decide) (AllReadyH.cons (o := ⟨_, _, _, _, _, _⟩) rfl (fun K hK => ?_) AllReadyH.nil)
    rw [if_neg (ne_true (by kernel_rfl))]
    refine hK.out _ _ (hHeld) (fun hHeld => ?_)
    clear hK K
    try simp only [Act.put, List.setIfInBounds_toArray, List.set_cons_zero, List.set_cons_succ]
    refine wpAnyH_ready (rs := [13]) (by kernel_rfl) (by decide) (AllReadyH.cons (o := ⟨_, _, _, _, _, _⟩) rfl (fun K hK => ?_) AllReadyH.nil)
    rw [if_neg (ne_true (by kernel_rfl))]
    refine hK.out _ _ (hHeld) (fun hHeld => ?_)
    clear hK K
    try simp only [Act.put, List.setIfInBounds_toArray, List.set_cons_zero, List.set_cons_succ]
    refine Go.Kit.tk 14 (.bool true) rfl ?_
    refine Go.Kit.tk 15 (.bool true) rfl ?_
    refine wpAnyH_ready (rs := [16]) (by kernel_rfl) (by decide) (AllReadyH.cons (o := ⟨_, _, _, _, _, _⟩) rfl (fun K hK => ?_) AllReadyH.nil)
    rw [if_neg (ne_true (by kernel_rfl))]
    refine hK.out _ _ (hHeld) (fun hHeld => ?_)
    clear hK K
    try simp only [Act.put, List.setIfInBounds_toArray, List.set_cons_zero, List.set_cons_succ]
    refine wpAnyH_ready (rs := [17]) (by kernel_rfl) (by decide) (AllReadyH.cons (o := ⟨_, _, _, _, _, _⟩) rfl (fun K hK => ?_) AllReadyH.nil)
    rw [if_neg (ne_true (by kernel_rfl))]
    refine hK.out _ _ (hHeld) (fun hHeld => ?_)
    clear hK K
    try simp only [Act.put, List.setIfInBounds_toArray, List.set_cons_zero, List.set_cons_succ]
    refine wpAnyH_ready (rs := [18]) (by kernel_rfl) (by decide) (AllReadyH.cons (o := ⟨_, _, _, _, _, _⟩) rfl (fun K hK => ?_) AllReadyH.nil)
    rw [if_neg (ne_true (by kernel_rfl))]
    refine hK.out _ _ (hHeld) (fun hHeld => ?_)
    clear hK K
    try simp only [Act.put, List.setIfInBounds_toArray, List.set_cons_zero, List.set_cons_succ]
    refine wpAnyH_ready (rs := [19]) (by kernel_rfl) (by decide) (AllReadyH.cons (o := ⟨_, _, _, _, _, _⟩) rfl (fun K hK => ?_) AllReadyH.nil)
    rw [if_neg (ne_true (by kernel_rfl))]
    refine hK.out _ _ (hHeld) (fun hHeld => ?_)
    clear hK K
    try simp only [Act.put, List.setIfInBounds_toArray, List.set_cons_zero, List.set_cons_succ]
    refine Go.Kit.tk 20 (.bool true) rfl ?_
    refine Go.Kit.tk 21 (.bool true) rfl ?_
    refine wpAnyH_done (by kernel_rfl) ?_ _
    try simp only [Act.put, List.setIfInBounds_toArray, List.set_cons_zero, List.set_cons_succ]
    have L := lds hFd
    have l0 := L.k; have l1 := L.v; have l2 := L.s; have l3 := L.st; have l4 := L.mo; have l5 := L.fu; have l6 := L.di; have l7 := L.args; have l8 := L.body
    clear L
    go_wp2_with fail
    go_loopg [3, 4] 1 (fun gk v3 v4 w' => v3 = .bool true ∧ v4 = .int .i64 0 ∧ w' = w1.drew)
    case atStart => exact ⟨rfl, rfl, rfl⟩
    case round =>
     obtain ⟨rfl, rfl, rfl⟩ := hrel
     go_wp2_with fail
     all_goals
      go_ret
      exact ⟨by rw [HX.out]; rfl, hbd⟩
   ·skip
    rw [if_neg (ne_true (by kernel_rfl))]
    refine hK.out _ _ (hHeld) (fun hHeld => ?_)
    clear hK K
    try simp only [Act.put, List.setIfInBounds_toArray, List.set_cons_zero, List.set_cons_succ]
    refine wpAnyH_ready (rs := [9]) (by kernel_rfl) (by decide) (AllReadyH.cons (o := ⟨_, _, _, _, _, _⟩) rfl (fun K hK => ?_) AllReadyH.nil)
    rw [if_neg (ne_true (by kernel_rfl))]
    refine hK.out _ _ (hHeld) (fun hHeld => ?_)
    clear hK K
    try simp only [Act.put, List.setIfInBounds_toArray, List.set_cons_zero, List.set_cons_succ]
    refine wpAnyH_ready (rs := [12]) (by kernel_rfl) (by decide) (AllReadyH.cons (o := ⟨_, _, _, _, _, _⟩) rfl (fun K hK => ?_) AllReadyH.nil)
    rw [if_neg (ne_true (by kernel_rfl))]
    refine hK.out _ _ (hHeld) (fun hHeld => ?_)
    clear hK K
    try simp only [Act.put, List.setIfInBounds_toArray, List.set_cons_zero, List.set_cons_succ]
    refine wpAnyH_ready (rs := [13]) (by kernel_rfl) (by decide) (AllReadyH.cons (o := ⟨_, _, _, _, _, _⟩) rfl (fun K hK => ?_) AllReadyH.nil)
    rw [if_neg (ne_true (by kernel_rfl))]
    refine hK.out _ _ (hHeld) (fun hHeld => ?_)
    clear hK K
    try simp only [Act.put, List.setIfInBounds_toArray, List.set_cons_zero, List.set_cons_succ]
    refine Go.Kit.tk 14 (.bool true) rfl ?_
    refine Go.Kit.tk 15 (.bool true) rfl ?_
    refine wpAnyH_ready (rs := [16]) (by kernel_rfl) (by decide) (AllReadyH.cons (o := ⟨_, _, _, _, _, _⟩) rfl (fun K hK => ?_) AllReadyH.nil)
    rw [if_neg (ne_true (by kernel_rfl))]
    refine hK.out _ _ (hHeld) (fun hHeld => ?_)
    clear hK K
    try simp only [Act.put, List.setIfInBounds_toArray, List.set_cons_zero, List.set_cons_succ]
    refine wpAnyH_ready (rs := [17]) (by kernel_rfl) (by decide) (AllReadyH.cons (o := ⟨_, _, _, _, _, _⟩) rfl (fun K hK => ?_) AllReadyH.nil)
    rw [if_neg (ne_true (by kernel_rfl))]
    refine hK.out _ _ (hHeld) (fun hHeld => ?_)
    clear hK K
    try simp only [Act.put, List.setIfInBounds_toArray, List.set_cons_zero, List.set_cons_succ]
    refine wpAnyH_ready (rs := [18]) (by kernel_rfl) (by decide) (AllReadyH.cons (o := ⟨_, _, _, _, _, _⟩) rfl (fun K hK => ?_) AllReadyH.nil)
    rw [if_neg (ne_true (by kernel_rfl))]
    refine hK.out _ _ (hHeld) (fun hHeld => ?_)
    clear hK K
    try simp only [Act.put, List.setIfInBounds_toArray, List.set_cons_zero, List.set_cons_succ]
    refine wpAnyH_ready (rs := [19]) (by kernel_rfl) (by decide) (AllReadyH.cons (o := ⟨_, _, _, _, _, _⟩) rfl (fun K hK => ?_) AllReadyH.nil)
    rw [if_neg (ne_true (by kernel_rfl))]
    refine hK.out _ _ (hHeld) (fun hHeld => ?_)
    clear hK K
    try simp only [Act.put, List.setIfInBounds_toArray, List.set_cons_zero, List.set_cons_succ]
    refine Go.Kit.tk 20 (.bool true) rfl ?_
    refine Go.Kit.tk 21 (.bool true) rfl ?_
    refine wpAnyH_done (by kernel_rfl) ?_ _
    try simp only [Act.put, List.setIfInBounds_toArray, List.set_cons_zero, List.set_cons_succ]
    have L := lds hFd
    have l0 := L.k; have l1 := L.v; have l2 := L.s; have l3 := L.st; have l4 := L.mo; have l5 := L.fu; have l6 := L.di; have l7 := L.args; have l8 := L.body
    clear L
    go_wp2_with fail
    go_loopg [3, 4] 1 (fun gk v3 v4 w' => v3 = .bool true ∧ v4 = .int .i64 0 ∧ w' = w1.drew)
    case atStart => exact ⟨rfl, rfl, rfl⟩
    case round =>
     obtain ⟨rfl, rfl, rfl⟩ := hrel
     go_wp2_with fail
     all_goals
      go_ret
      exact ⟨by rw [HX.out]; rfl, hbd⟩
 have d1 : decide (f.k < 1) = false := decide_eq_false k1
 by_cases k6 : 6 < f.k
 ·have d6 : decide (6 < f.k) = true := decide_eq_true k6
  have HX : Hid (c = 70) := Lib.hid (by rw [← HC.out]; exact chk_no (fun h => by have := h.k6; omega))
  refine wp_region_held_drew (S := fun W => f.at_ 48 W g) (by kernel_rfl) (hFd) (fun hHeld => ?_)
  refine Go.Kit.tk 0 (.pointer (some ⟨g, 0, none⟩)) rfl ?_
  refine Go.Kit.tk 1 (.int .i64 f.k) rfl ?_
  refine Go.Kit.tk 2 (.bool false) rfl ?_
  refine Go.Kit.tk 3 (.bool false) rfl ?_
  refine Go.Kit.tk 4 (.pointer (some ⟨g, 0, none⟩)) rfl ?_
  refine Go.Kit.tk 5 (.int .i64 f.k) rfl ?_
  refine Go.Kit.tk 6 (.bool true) rfl ?_
  refine Go.Kit.tk 7 (.bool true) rfl ?_
  refine Go.Kit.tk 8 (.bool true) rfl ?_
  refine wpAnyH_ready (rs := [9, 10]) (by kernel_rfl) (by decide) (AllReadyH.cons (o := ⟨_, _, _, _, _, _⟩) rfl (fun K hK => ?_) (AllReadyH.cons (o := ⟨_, _, _, _, _, _⟩) rfl (fun K hK => ?_) AllReadyH.nil))
  ·skip
   rw [if_neg (ne_true (by kernel_rfl))]
   refine hK.out _ _ (hHeld) (fun hHeld => ?_)
   clear hK K
   try simp only [Act.put, List.setIfInBounds_toArray, List.set_cons_zero, List.set_cons_succ]
   refine wpAnyH_ready (rs := [10]) (by kernel_rfl) (by decide) (AllReadyH.cons (o := ⟨_, _, _, _, _, _⟩) rfl (fun K hK => ?_) AllReadyH.nil)
   rw [if_neg (ne_true (by kernel_rfl))]
   refine hK.out _ _ (hHeld) (fun hHeld => ?_)
   clear hK K
   try simp only [Act.put, List.setIfInBounds_toArray, List.set_cons_zero, List.set_cons_succ]
   refine wpAnyH_ready (rs := [11]) (by kernel_rfl) (by decide) (AllReadyH.cons (o := ⟨_, _, _, _, _, _⟩) rfl (fun K hK => ?_) AllReadyH.nil)
   rw [if_neg (ne_true (by kernel_rfl))]
   refine hK.out _ _ (hHeld) (fun hHeld => ?_)
   clear hK K
   try simp only [Act.put, List.setIfInBounds_toArray, List.set_cons_zero, List.set_cons_succ]
   refine wpAnyH_ready (rs := [12]) (by kernel_rfl) (by decide) (AllReadyH.cons (o := ⟨_, _, _, _, _, _⟩) rfl (fun K hK => ?_) AllReadyH.nil)
   rw [if_neg (ne_true (by kernel_rfl))]
   refine hK.out _ _ (hHeld) (fun hHeld => ?_)
   clear hK K
   try simp only [Act.put, List.setIfInBounds_toArray, List.set_cons_zero, List.set_cons_succ]
   refine wpAnyH_ready (rs := [13]) (by kernel_rfl) (by decide) (AllReadyH.cons (o := ⟨_, _, _, _, _, _⟩) rfl (fun K hK => ?_) AllReadyH.nil)
   rw [if_neg (ne_true (by kernel_rfl))]
   refine hK.out _ _ (hHeld) (fun hHeld => ?_)
   clear hK K
   try simp only [Act.put, List.setIfInBounds_toArray, List.set_cons_zero, List.set_cons_succ]
   refine Go.Kit.tk 14 (.bool true) rfl ?_
   refine Go.Kit.tk 15 (.bool true) rfl ?_
   refine wpAnyH_ready (rs := [16]) (by kernel_rfl) (by decide) (AllReadyH.cons (o := ⟨_, _, _, _, _, _⟩) rfl (fun K hK => ?_) AllReadyH.nil)
   rw [if_neg (ne_true (by kernel_rfl))]
   refine hK.out _ _ (hHeld) (fun hHeld => ?_)
   clear hK K
   try simp only [Act.put, List.setIfInBounds_toArray, List.set_cons_zero, List.set_cons_succ]
   refine wpAnyH_ready (rs := [17]) (by kernel_rfl) (by decide) (AllReadyH.cons (o := ⟨_, _, _, _, _, _⟩) rfl (fun K hK => ?_) AllReadyH.nil)
   rw [if_neg (ne_true (by kernel_rfl))]
   refine hK.out _ _ (hHeld) (fun hHeld => ?_)
   clear hK K
   try simp only [Act.put, List.setIfInBounds_toArray, List.set_cons_zero, List.set_cons_succ]
   refine wpAnyH_ready (rs := [18]) (by kernel_rfl) (by decide) (AllReadyH.cons (o := ⟨_, _, _, _, _, _⟩) rfl (fun K hK => ?_) AllReadyH.nil)
   rw [if_neg (ne_true (by kernel_rfl))]
   refine hK.out _ _ (hHeld) (fun hHeld => ?_)
   clear hK K
   try simp only [Act.put, List.setIfInBounds_toArray, List.set_cons_zero, List.set_cons_succ]
   refine wpAnyH_ready (rs := [19]) (by kernel_rfl) (by decide) (AllReadyH.cons (o := ⟨_, _, _, _, _, _⟩) rfl (fun K hK => ?_) AllReadyH.nil)
   rw [if_neg (ne_true (by kernel_rfl))]
   refine hK.out _ _ (hHeld) (fun hHeld => ?_)
   clear hK K
   try simp only [Act.put, List.setIfInBounds_toArray, List.set_cons_zero, List.set_cons_succ]
   refine Go.Kit.tk 20 (.bool true) rfl ?_
   refine Go.Kit.tk 21 (.bool true) rfl ?_
   refine wpAnyH_done (by kernel_rfl) ?_ _
   try simp only [Act.put, List.setIfInBounds_toArray, List.set_cons_zero, List.set_cons_succ]
   have L := lds hFd
   have l0 := L.k; have l1 := L.v; have l2 := L.s; have l3 := L.st; have l4 := L.mo; have l5 := L.fu; have l6 := L.di; have l7 := L.args; have l8 := L.body
   clear L
   go_wp2_with fail
   go_loopg [3, 4] 1 (fun gk v3 v4 w' => v3 = .bool true ∧ v4 = .int .i64 0 ∧ w' = w1.drew)
   case atStart => exact ⟨rfl, rfl, rfl⟩
   case round =>
    obtain ⟨rfl, rfl, rfl⟩ := hrel
    go_wp2_with fail
    all_goals
     go_ret
     exact ⟨by rw [HX.out]; rfl, hbd⟩
  ·skip
   rw [if_neg (ne_true (by kernel_rfl))]
   refine hK.out _ _ (hHeld) (fun hHeld => ?_)
   clear hK K
   try simp only [Act.put, List.setIfInBounds_toArray, List.set_cons_zero, List.set_cons_succ]
   refine wpAnyH_ready (rs := [9, 11]) (by kernel_rfl) (by decide) (AllReadyH.cons (o := ⟨_, _, _, _, _, _⟩) rfl (fun K hK => ?_) (AllReadyH.cons (o := ⟨_, _, _, _, _, _⟩) rfl (fun K hK => ?_) AllReadyH.nil))
   ·skip
    rw [if_neg (ne_true (by kernel_rfl))]
    refine hK.out _ _ (hHeld) (fun hHeld => ?_)
    clear hK K
    try simp only [Act.put, List.setIfInBounds_toArray, List.set_cons_zero, List.set_cons_succ]
    refine wpAnyH_ready (rs := [11]) (by kernel_rfl) (by decide) (AllReadyH.cons (o := ⟨_, _, _, _, _, _⟩) rfl (fun K hK => ?_) AllReadyH.nil)
    rw [if_neg (ne_true (by kernel_rfl))]
    refine hK.out _ _ (hHeld) (fun hHeld => ?_)
    clear hK K
    try simp only [Act.put, List.setIfInBounds_toArray, List.set_cons_zero, List.set_cons_succ]
    refine wpAnyH_ready (rs := [12]) (by kernel_rfl) (by decide) (AllReadyH.cons (o := ⟨_, _, _, _, _, _⟩) rfl (fun K hK => ?_) AllReadyH.nil)
    rw [if_neg (ne_true (by kernel_rfl))]
    refine hK.out _ _ (hHeld) (fun hHeld => ?_)
    clear hK K
    try simp only [Act.put, List.setIfInBounds_toArray, List.set_cons_zero, List.set_cons_succ]
    refine wpAnyH_ready (rs := [13]) (by kernel_rfl) (by decide) (AllReadyH.cons (o := ⟨_, _, _, _, _, _⟩) rfl (fun K hK => ?_) AllReadyH.nil)
    rw [if_neg (ne_true (by kernel_rfl))]
    refine hK.out _ _ (hHeld) (fun hHeld => ?_)
    clear hK K
    try simp only [Act.put, List.setIfInBounds_toArray, List.set_cons_zero, List.set_cons_succ]
    refine Go.Kit.tk 14 (.bool true) rfl ?_
    refine Go.Kit.tk 15 (.bool true) rfl ?_
    refine wpAnyH_ready (rs := [16]) (by kernel_rfl) (by decide) (AllReadyH.cons (o := ⟨_, _, _, _, _, _⟩) rfl (fun K hK => ?_) AllReadyH.nil)
    rw [if_neg (ne_true (by kernel_rfl))]
    refine hK.out _ _ (hHeld) (fun hHeld => ?_)
    clear hK K
    try simp only [Act.put, List.setIfInBounds_toArray, List.set_cons_zero, List.set_cons_succ]
    refine wpAnyH_ready (rs := [17]) (by kernel_rfl) (by decide) (AllReadyH.cons (o := ⟨_, _, _, _, _, _⟩) rfl (fun K hK => ?_) AllReadyH.nil)
    rw [if_neg (ne_true (by kernel_rfl))]
    refine hK.out _ _ (hHeld) (fun hHeld => ?_)
    clear hK K
    try simp only [Act.put, List.setIfInBounds_toArray, List.set_cons_zero, List.set_cons_succ]
    refine wpAnyH_ready (rs := [18]) (by kernel_rfl) (by decide) (AllReadyH.cons (o := ⟨_, _, _, _, _, _⟩) rfl (fun K hK => ?_) AllReadyH.nil)
    rw [if_neg (ne_true (by kernel_rfl))]
    refine hK.out _ _ (hHeld) (fun hHeld => ?_)
    clear hK K
    try simp only [Act.put, List.setIfInBounds_toArray, List.set_cons_zero, List.set_cons_succ]
    refine wpAnyH_ready (rs := [19]) (by kernel_rfl) (by decide) (AllReadyH.cons (o := ⟨_, _, _, _, _, _⟩) rfl (fun K hK => ?_) AllReadyH.nil)
    rw [if_neg (ne_true (by kernel_rfl))]
    refine hK.out _ _ (hHeld) (fun hHeld => ?_)
    clear hK K
    try simp only [Act.put, List.setIfInBounds_toArray, List.set_cons_zero, List.set_cons_succ]
    refine Go.Kit.tk 20 (.bool true) rfl ?_
    refine Go.Kit.tk 21 (.bool true) rfl ?_
    refine wpAnyH_done (by kernel_rfl) ?_ _
    try simp only [Act.put, List.setIfInBounds_toArray, List.set_cons_zero, List.set_cons_succ]
    have L := lds hFd
    have l0 := L.k; have l1 := L.v; have l2 := L.s; have l3 := L.st; have l4 := L.mo; have l5 := L.fu; have l6 := L.di; have l7 := L.args; have l8 := L.body
    clear L
    go_wp2_with fail
    go_loopg [3, 4] 1 (fun gk v3 v4 w' => v3 = .bool true ∧ v4 = .int .i64 0 ∧ w' = w1.drew)
    case atStart => exact ⟨rfl, rfl, rfl⟩
    case round =>
     obtain ⟨rfl, rfl, rfl⟩ := hrel
     go_wp2_with fail
     all_goals
      go_ret
      exact ⟨by rw [HX.out]; rfl, hbd⟩
   ·skip
    rw [if_neg (ne_true (by kernel_rfl))]
    refine hK.out _ _ (hHeld) (fun hHeld => ?_)
    clear hK K
    try simp only [Act.put, List.setIfInBounds_toArray, List.set_cons_zero, List.set_cons_succ]
    refine wpAnyH_ready (rs := [9]) (by kernel_rfl) (by decide) (AllReadyH.cons (o := ⟨_, _, _, _, _, _⟩) rfl (fun K hK => ?_) AllReadyH.nil)
    rw [if_neg (ne_true (by kernel_rfl))]
    refine hK.out _ _ (hHeld) (fun hHeld => ?_)
    clear hK K
    try simp only [Act.put, List.setIfInBounds_toArray, List.set_cons_zero, List.set_cons_succ]
    refine wpAnyH_ready (rs := [12]) (by kernel_rfl) (by decide) (AllReadyH.cons (o := ⟨_, _, _, _, _, _⟩) rfl (fun K hK => ?_) AllReadyH.nil)
    rw [if_neg (ne_true (by kernel_rfl))]
    refine hK.out _ _ (hHeld) (fun hHeld => ?_)
    clear hK K
    try simp only [Act.put, List.setIfInBounds_toArray, List.set_cons_zero, List.set_cons_succ]
    refine wpAnyH_ready (rs := [13]) (by kernel_rfl) (by decide) (AllReadyH.cons (o := ⟨_, _, _, _, _, _⟩) rfl (fun K hK => ?_) AllReadyH.nil)
    rw [if_neg (ne_true (by kernel_rfl))]
    refine hK.out _ _ (hHeld) (fun hHeld => ?_)
    clear hK K
    try simp only [Act.put, List.setIfInBounds_toArray, List.set_cons_zero, List.set_cons_succ]
    refine Go.Kit.tk 14 (.bool true) rfl ?_
    refine Go.Kit.tk 15 (.bool true) rfl ?_
    refine wpAnyH_ready (rs := [16]) (by kernel_rfl) (by decide) (AllReadyH.cons (o := ⟨_, _, _, _, _, _⟩) rfl (fun K hK => ?_) AllReadyH.nil)
    rw [if_neg (ne_true (by kernel_rfl))]
    refine hK.out _ _ (hHeld) (fun hHeld => ?_)
    clear hK K
    try simp only [Act.put, List.setIfInBounds_toArray, List.set_cons_zero, List.set_cons_succ]
    refine wpAnyH_ready (rs := [17]) (by kernel_rfl) (by decide) (AllReadyH.cons (o := ⟨_, _, _, _, _, _⟩) rfl (fun K hK => ?_) AllReadyH.nil)
    rw [if_neg (ne_true (by kernel_rfl))]
    refine hK.out _ _ (hHeld) (fun hHeld => ?_)
    clear hK K
    try simp only [Act.put, List.setIfInBounds_toArray, List.set_cons_zero, List.set_cons_succ]
    refine wpAnyH_ready (rs := [18]) (by kernel_rfl) (by decide) (AllReadyH.cons (o := ⟨_, _, _, _, _, _⟩) rfl (fun K hK => ?_) AllReadyH.nil)
    rw [if_neg (ne_true (by kernel_rfl))]
    refine hK.out _ _ (hHeld) (fun hHeld => ?_)
    clear hK K
    try simp only [Act.put, List.setIfInBounds_toArray, List.set_cons_zero, List.set_cons_succ]
    refine wpAnyH_ready (rs := [19]) (by kernel_rfl) (by decide) (AllReadyH.cons (o := ⟨_, _, _, _, _, _⟩) rfl (fun K hK => ?_) AllReadyH.nil)
    rw [if_neg (ne_true (by kernel_rfl))]
    refine hK.out _ _ (hHeld) (fun hHeld => ?_)
    clear hK K
    try simp only [Act.put, List.setIfInBounds_toArray, List.set_cons_zero, List.set_cons_succ]
    refine Go.Kit.tk 20 (.bool true) rfl ?_
    refine Go.Kit.tk 21 (.bool true) rfl ?_
    refine wpAnyH_done (by kernel_rfl) ?_ _
    try simp only [Act.put, List.setIfInBounds_toArray, List.set_cons_zero, List.set_cons_succ]
    have L := lds hFd
    have l0 := L.k; have l1 := L.v; have l2 := L.s; have l3 := L.st; have l4 := L.mo; have l5 := L.fu; have l6 := L.di; have l7 := L.args; have l8 := L.body
    clear L
    go_wp2_with fail
    go_loopg [3, 4] 1 (fun gk v3 v4 w' => v3 = .bool true ∧ v4 = .int .i64 0 ∧ w' = w1.drew)
    case atStart => exact ⟨rfl, rfl, rfl⟩
    case round =>
     obtain ⟨rfl, rfl, rfl⟩ := hrel
     go_wp2_with fail
     all_goals
      go_ret
      exact ⟨by rw [HX.out]; rfl, hbd⟩
 have d6 : decide (6 < f.k) = false := decide_eq_false k6
 have hO := own_core (f := f) (by omega) (by omega)
 obtain ⟨s, hs⟩ : ∃ s, (ownG f).same f = s := ⟨_, rfl⟩
 have HSI : Hid (s = true ↔ f.core = onlyF f) := Lib.hid (by rw [← hs, same_iff, hO]; exact eq_comm)
 have HKK : Hid (1 ≤ f.k ∧ f.k ≤ 6) := Lib.hid (by omega)
 have c1 : ∀ W, Calls Tryz.prog 47 #[.agg f.arr] W (fun e w' => e = .returned (.agg (ownG f).arr) ∧ Below W.heap.size W w') := fun W => ronly_any f HOK.out.tool (fun a b c d e => by have := HKK.out; omega) W
 have c2 : ∀ W, Below w.heap.size w W → Calls Tryz.prog 24 #[.agg f.arr, .agg (ownG f).arr] W (fun e w' => e = .returned (.bool s) ∧ Below W.heap.size W w') := fun W hbw => by
  refine rSame_is f (ownG f) s (same_sym2 _ _ _ hs) W (HOK.out.below hbw) ⟨own_tool HOK.out.tool, ?_⟩
  unfold ownG onlyG
  rcases (by have := HKK.out; omega : f.k = 1 ∨ f.k = 2 ∨ f.k = 3 ∨ f.k = 4 ∨ f.k = 5 ∨ f.k = 6) with h | h | h | h | h | h <;> simp [h, only1, only2, only3, only4, only6, noF]
  ·exact RT.nil W
  ·exact HOK.out.args.below hbw
  ·exact RT.nil W
  ·exact RT.nil W
  ·exact RT.nil W
  ·exact RT.nil W
 clear hs hO k1 k6
 have keep : ∀ {W W1 : World}, (Below w.heap.size w W ∧ f.at_ 48 W g) → Below W.heap.size W W1 → (Below w.heap.size w W1 ∧ f.at_ 48 W1 g) := fun h hk => ⟨below_step h.1 hk, h.2.below hk⟩
 cases s with
 | false =>
  have HX : Hid (c = 70) := Lib.hid (by rw [← HC.out]; exact chk_no (fun h => by have := HSI.out.2 h.only; cases this))
  have hcO : Calls Tryz.prog 47 #[.agg f.arr] w1.drew fun e w' => ∃ v, e = .returned v ∧ v = .agg (ownG f).arr ∧ Below w1.drew.heap.size w1.drew w' := (c1 _).mono fun e w' h => ⟨_, h.1, rfl, h.2⟩
  have hcS : ∀ W, Below w.heap.size w W → Calls Tryz.prog 24 #[.agg f.arr, .agg (ownG f).arr] W fun e w' => ∃ v, e = .returned v ∧ v = .bool false ∧ Below W.heap.size W w' := fun W h => (c2 W h).mono fun e w' h => ⟨_, h.1, rfl, h.2⟩
  refine wp_region_held_drew (S := fun W => f.at_ 48 W g) (by kernel_rfl) (hFd) (fun hHeld => ?_)
  refine Go.Kit.tk 0 (.pointer (some ⟨g, 0, none⟩)) rfl ?_
  refine Go.Kit.tk 1 (.int .i64 f.k) rfl ?_
  refine Go.Kit.tk 2 (.bool false) rfl ?_
  refine Go.Kit.tk 3 (.bool false) rfl ?_
  refine Go.Kit.tk 4 (.pointer (some ⟨g, 0, none⟩)) rfl ?_
  refine Go.Kit.tk 5 (.int .i64 f.k) rfl ?_
  refine Go.Kit.tk 6 (.bool false) rfl ?_
  refine Go.Kit.tk 7 (.bool false) rfl ?_
  refine Go.Kit.tk 8 (.bool false) rfl ?_
  refine Go.Kit.tk 9 (.agg f.arr) rfl ?_
  refine Go.Kit.tk 10 (.agg f.arr) rfl ?_
  refine wpAnyH_ready (rs := [11]) (by kernel_rfl) (by decide) (AllReadyH.cons (o := ⟨_, _, _, _, _, _⟩) rfl (fun K hK => ?_) AllReadyH.nil)
  refine at_call ?_ ?_ hcO ?_
  ·kernel_rfl
  ·go_simp
  rintro v3 w3 ⟨rfl, hb3⟩
  have hF3 := hFd.below hb3
  have hbw3 := below_step hbd hb3
  refine hK.out _ _ (hF3) (fun hHeld => ?_)
  clear hK K
  try simp only [Act.put, List.setIfInBounds_toArray, List.set_cons_zero, List.set_cons_succ]
  refine wpAnyH_ready (rs := [12]) (by kernel_rfl) (by decide) (AllReadyH.cons (o := ⟨_, _, _, _, _, _⟩) rfl (fun K hK => ?_) AllReadyH.nil)
  refine at_call ?_ ?_ (hcS w3 hbw3) ?_
  ·kernel_rfl
  ·go_simp
  rintro v4 w4 ⟨rfl, hb4⟩
  have hF5 := hF3.below hb4
  have hb5 := below_step hbw3 hb4
  refine hK.out _ _ (hF5) (fun hHeld => ?_)
  clear hK K
  try simp only [Act.put, List.setIfInBounds_toArray, List.set_cons_zero, List.set_cons_succ]
  refine Go.Kit.tk 13 (.bool true) rfl ?_
  refine Go.Kit.tk 14 (.bool true) rfl ?_
  refine Go.Kit.tk 15 (.bool true) rfl ?_
  refine wpAnyH_ready (rs := [16]) (by kernel_rfl) (by decide) (AllReadyH.cons (o := ⟨_, _, _, _, _, _⟩) rfl (fun K hK => ?_) AllReadyH.nil)
  rw [if_neg (ne_true (by kernel_rfl))]
  refine hK.out _ _ (hHeld) (fun hHeld => ?_)
  clear hK K
  try simp only [Act.put, List.setIfInBounds_toArray, List.set_cons_zero, List.set_cons_succ]
  refine wpAnyH_ready (rs := [17]) (by kernel_rfl) (by decide) (AllReadyH.cons (o := ⟨_, _, _, _, _, _⟩) rfl (fun K hK => ?_) AllReadyH.nil)
  rw [if_neg (ne_true (by kernel_rfl))]
  refine hK.out _ _ (hHeld) (fun hHeld => ?_)
  clear hK K
  try simp only [Act.put, List.setIfInBounds_toArray, List.set_cons_zero, List.set_cons_succ]
  refine wpAnyH_ready (rs := [18]) (by kernel_rfl) (by decide) (AllReadyH.cons (o := ⟨_, _, _, _, _, _⟩) rfl (fun K hK => ?_) AllReadyH.nil)
  rw [if_neg (ne_true (by kernel_rfl))]
  refine hK.out _ _ (hHeld) (fun hHeld => ?_)
  clear hK K
  try simp only [Act.put, List.setIfInBounds_toArray, List.set_cons_zero, List.set_cons_succ]
  refine wpAnyH_ready (rs := [19]) (by kernel_rfl) (by decide) (AllReadyH.cons (o := ⟨_, _, _, _, _, _⟩) rfl (fun K hK => ?_) AllReadyH.nil)
  rw [if_neg (ne_true (by kernel_rfl))]
  refine hK.out _ _ (hHeld) (fun hHeld => ?_)
  clear hK K
  try simp only [Act.put, List.setIfInBounds_toArray, List.set_cons_zero, List.set_cons_succ]
  refine Go.Kit.tk 20 (.bool true) rfl ?_
  refine Go.Kit.tk 21 (.bool true) rfl ?_
  refine wpAnyH_done (by kernel_rfl) ?_ _
  try simp only [Act.put, List.setIfInBounds_toArray, List.set_cons_zero, List.set_cons_succ]
  have L := lds hF5
  have l0 := L.k; have l1 := L.v; have l2 := L.s; have l3 := L.st; have l4 := L.mo; have l5 := L.fu; have l6 := L.di; have l7 := L.args; have l8 := L.body
  clear L
  go_wp2_with fail
  go_loopg [3, 4] 1 (fun gk v3 v4 w' => v3 = .bool true ∧ v4 = .int .i64 0 ∧ w' = w4)
  case atStart => exact ⟨rfl, rfl, rfl⟩
  case round =>
   obtain ⟨rfl, rfl, rfl⟩ := hrel
   go_wp2_with fail
   all_goals
    go_ret
    exact ⟨by rw [HX.out]; rfl, hb5⟩
 | true =>
  have HCO := Lib.hid (HSI.out.1 rfl)
  have hn := HOK.out.args.len
  by_cases ha8 : 8 < f.n
  ·have HX : Hid (c = 70) := Lib.hid (by rw [← HC.out]; exact chk_no (fun h => by have := h.many; omega))
   have ha9 : decide ((8 : Int) < (f.n : Int)) = true := decide_eq_true (by omega)
   clear hn ha8
   go_region_held3 (fun w' => Below w.heap.size w w' ∧ f.at_ 48 w' g)
    (first
     | assumption
     | exact ⟨hbd, hFd⟩
     | (go_split_ands; refine keep ⟨?_, ?_⟩ hb3 <;> assumption)
     | (go_split_ands; refine keep ⟨?_, ?_⟩ hb4 <;> assumption))
    (first
     | (go_at_call 47; (with_reducible refine (c1 _).mono ?_); rintro e w3 ⟨rfl, hb3⟩)
     | (go_at_call 24; go_split_ands; (with_reducible refine (c2 _ (by assumption)).mono ?_); rintro e w4 ⟨rfl, hb4⟩))
   all_goals
    go_split_ands
    have hF5 : f.at_ 48 w4 g := by assumption
    have hb5 : Below w.heap.size w w4 := by assumption
    have L := lds hF5
    have l0 := L.k; have l1 := L.v; have l2 := L.s; have l3 := L.st; have l4 := L.mo; have l5 := L.fu; have l6 := L.di; have l7 := L.args; have l8 := L.body
    clear L
    go_wp2_with fail
    go_loopg [3, 4] 1 (fun gk v3 v4 w' => v3 = .bool true ∧ v4 = .int .i64 0 ∧ w' = w4)
    case atStart => exact ⟨rfl, rfl, rfl⟩
    case round =>
     obtain ⟨rfl, rfl, rfl⟩ := hrel
     go_wp2_with fail
     all_goals
      go_ret
      exact ⟨by rw [HX.out]; rfl, hb5⟩
  have ha9 : decide ((8 : Int) < (f.n : Int)) = false := decide_eq_false (by omega)
  have HN8 : Hid (f.args.length ≤ 8) := Lib.hid (by omega)
  clear hn ha8
  go_region_held3 (fun w' => Below w.heap.size w w' ∧ f.at_ 48 w' g)
   (first
    | assumption
    | exact ⟨hbd, hFd⟩
    | (go_split_ands; refine keep ⟨?_, ?_⟩ hb3 <;> assumption)
    | (go_split_ands; refine keep ⟨?_, ?_⟩ hb4 <;> assumption))
   (first
    | (go_at_call 47; (with_reducible refine (c1 _).mono ?_); rintro e w3 ⟨rfl, hb3⟩)
    | (go_at_call 24; go_split_ands; (with_reducible refine (c2 _ (by assumption)).mono ?_); rintro e w4 ⟨rfl, hb4⟩))
  all_goals
   go_split_ands
   have hF5 : f.at_ 48 w4 g := by assumption
   have hb5 : Below w.heap.size w w4 := by assumption
   clear hb3 hb4 hl0 hl2 c1 c2 hbd hFd hb hF
   by_cases m1 : f.mo < 0
   ·skip
    have HX : Hid (c = 70) := Lib.hid (by rw [← HC.out]; exact chk_no (fun h => by have := h.mo; omega))
    clear HOK HWF HHA
    have L := lds hF5
    have l0 := L.k; have l1 := L.v; have l2 := L.s; have l3 := L.st; have l4 := L.mo; have l5 := L.fu; have l6 := L.di; have l7 := L.args; have l8 := L.body
    clear L
    go_wp2_with fail
    go_loopg [3, 4] 1 (fun gk v3 v4 w' => v3 = .bool true ∧ v4 = .int .i64 0 ∧ w' = w4)
    case atStart => exact ⟨rfl, rfl, rfl⟩
    case round =>
     obtain ⟨rfl, rfl, rfl⟩ := hrel
     go_wp2_with fail
     all_goals
      go_ret
      exact ⟨by rw [HX.out]; rfl, hb5⟩
   by_cases m2 : f.fu < 0
   ·skip
    have HX : Hid (c = 70) := Lib.hid (by rw [← HC.out]; exact chk_no (fun h => by have := h.fu; omega))
    clear HOK HWF HHA
    have L := lds hF5
    have l0 := L.k; have l1 := L.v; have l2 := L.s; have l3 := L.st; have l4 := L.mo; have l5 := L.fu; have l6 := L.di; have l7 := L.args; have l8 := L.body
    clear L
    go_wp2_with fail
    go_loopg [3, 4] 1 (fun gk v3 v4 w' => v3 = .bool true ∧ v4 = .int .i64 0 ∧ w' = w4)
    case atStart => exact ⟨rfl, rfl, rfl⟩
    case round =>
     obtain ⟨rfl, rfl, rfl⟩ := hrel
     go_wp2_with fail
     all_goals
      go_ret
      exact ⟨by rw [HX.out]; rfl, hb5⟩
   by_cases m3 : f.di < 0
   ·skip
    have HX : Hid (c = 70) := Lib.hid (by rw [← HC.out]; exact chk_no (fun h => by have := h.di; omega))
    clear HOK HWF HHA
    have L := lds hF5
    have l0 := L.k; have l1 := L.v; have l2 := L.s; have l3 := L.st; have l4 := L.mo; have l5 := L.fu; have l6 := L.di; have l7 := L.args; have l8 := L.body
    clear L
    go_wp2_with fail
    go_loopg [3, 4] 1 (fun gk v3 v4 w' => v3 = .bool true ∧ v4 = .int .i64 0 ∧ w' = w4)
    case atStart => exact ⟨rfl, rfl, rfl⟩
    case round =>
     obtain ⟨rfl, rfl, rfl⟩ := hrel
     go_wp2_with fail
     all_goals
      go_ret
      exact ⟨by rw [HX.out]; rfl, hb5⟩
   by_cases e1 : f.k = 1
   ·have b1 : (f.k == 1) = true := by rw [beq_iff_eq]; exact e1
    have b3 : (f.k == 3) = false := by rw [beq_eq_false_iff_ne]; omega
    by_cases v1 : f.v = 1
    ·have bv : (f.v != 1) = false := by simp [v1]
     by_cases s1 : f.s < 1
     ·skip
      have HX : Hid (c = 70) := Lib.hid (by rw [← HC.out]; exact chk_no (fun h => by have := (h.hello e1).2.1; omega))
      clear HOK HWF HHA
      have L := lds hF5
      have l0 := L.k; have l1 := L.v; have l2 := L.s; have l3 := L.st; have l4 := L.mo; have l5 := L.fu; have l6 := L.di; have l7 := L.args; have l8 := L.body
      clear L
      go_wp2_with fail
      go_loopg [3, 4] 1 (fun gk v3 v4 w' => v3 = .bool true ∧ v4 = .int .i64 0 ∧ w' = w4)
      case atStart => exact ⟨rfl, rfl, rfl⟩
      case round =>
       obtain ⟨rfl, rfl, rfl⟩ := hrel
       go_wp2_with fail
       all_goals
        go_ret
        exact ⟨by rw [HX.out]; rfl, hb5⟩
     by_cases s2 : 64 < f.s
     ·skip
      have HX : Hid (c = 70) := Lib.hid (by rw [← HC.out]; exact chk_no (fun h => by have := (h.hello e1).2.2; omega))
      clear HOK HWF HHA
      have L := lds hF5
      have l0 := L.k; have l1 := L.v; have l2 := L.s; have l3 := L.st; have l4 := L.mo; have l5 := L.fu; have l6 := L.di; have l7 := L.args; have l8 := L.body
      clear L
      go_wp2_with fail
      go_loopg [3, 4] 1 (fun gk v3 v4 w' => v3 = .bool true ∧ v4 = .int .i64 0 ∧ w' = w4)
      case atStart => exact ⟨rfl, rfl, rfl⟩
      case round =>
       obtain ⟨rfl, rfl, rfl⟩ := hrel
       go_wp2_with fail
       all_goals
        go_ret
        exact ⟨by rw [HX.out]; rfl, hb5⟩
     have HP : Hid ((∀ s ∈ f.args, s.size ≤ 4096) → May f) := Lib.hid (fun he => ⟨HKK.out.1, HKK.out.2, HCO.out, HN8.out, by omega, by omega, by omega, fun _ => ⟨v1, by omega, by omega⟩, fun e => by omega, he⟩)
     have HOK2 := HOK
     have L := lds hF5
     have l0 := L.k; have l1 := L.v; have l2 := L.s; have l3 := L.st; have l4 := L.mo; have l5 := L.fu; have l6 := L.di; have l7 := L.args; have l8 := L.body
     clear L e1 v1
     go_wp2_with fail
     go_loopg [3, 4] f.n (fun gk v3 v4 w' => CkLoop f w4 gk v3 v4 w')
     case atStart => exact ⟨0, false, rfl, rfl, rfl, Lib.hid ⟨by omega, fun _ j hj => (by omega), fun e => (by cases e), by omega⟩⟩
     case round =>
      obtain ⟨i, b, rfl, rfl, rfl, HG⟩ := hrel
      cases b with
      | true =>
       have HX : Hid (c = 70) := Lib.hid (by
        rw [← HC.out]
        obtain ⟨s, hm, hl⟩ := HG.out.2.2.1 (by simp)
        exact chk_no (fun h => by have := h.each s hm; omega))
       go_wp2_with fail
       all_goals
        go_ret
        exact ⟨by rw [HX.out]; rfl, hb5⟩
      | false =>
       by_cases hi : i < f.n
       ·obtain ⟨ad, s, HAE, hcell, HXX⟩ := (HOK2.out.args.below hb5).at_ i hi
        have hi2 : (i : Int) < (f.n : Int) := by omega
        have hls := load_s hcell
        have hsz := HHA.out s (List.mem_of_getElem? HXX.out)
        rw [HAE] at l7
        clear HAE
        by_cases hl : 4096 < s.size
        ·have hl2 : (4096 : Int) < (s.size : Int) := by omega
         have HL := Lib.hid hl
         clear hl
         go_wp2_with fail
         go_roundg (gk - 1)
         case measure => have := HG.out.2.2.2; have := HG.out.1; omega
         case rel => exact ⟨i + 1, true, by simp, by simp, rfl, Lib.hid ⟨by omega, fun e => by (cases e), fun _ => ⟨s, List.mem_of_getElem? HXX.out, HL.out⟩, by have := HG.out.2.2.2; omega⟩⟩
        ·have hl2 : ¬ (4096 : Int) < (s.size : Int) := by omega
         have HL := Lib.hid hl
         clear hl
         go_wp2_with fail
         go_roundg (gk - 1)
         case measure => have := HG.out.2.2.2; have := HG.out.1; omega
         case rel =>
          refine ⟨i + 1, false, by simp, by simp, rfl, Lib.hid ⟨by omega, fun _ j hj s2 h2 => ?_, fun e => by (cases e), by have := HG.out.2.2.2; omega⟩⟩
          rcases Nat.lt_or_ge j i with h | h
          ·exact HG.out.2.1 (by simp) j h s2 h2
          ·obtain rfl : j = i := by omega
           rw [HXX.out] at h2
           cases h2
           have := HL.out
           omega
       ·have hi2 : ¬ (i : Int) < (f.n : Int) := by omega
        have HM : Hid (May f) := Lib.hid (HP.out (fun s hm => by
         obtain ⟨j, hj, e⟩ := List.mem_iff_getElem.1 hm
         have := HOK2.out.args.len
         exact HG.out.2.1 (by simp) j (by omega) s (by rw [List.getElem?_eq_getElem hj, e])))
        clear hi
        by_cases hs : 2097152 < f.body.size
        ·have HX : Hid (c = 3) := Lib.hid (by rw [← HC.out]; exact chk_long HM.out (.inl hs))
         have hs2 : (2097152 : Int) < (f.body.size : Int) := by omega
         clear hs
         go_wp2_with fail
         go_ret
         exact ⟨by rw [HX.out]; rfl, hb5⟩
        ·have hs2 : ¬ (2097152 : Int) < (f.body.size : Int) := by omega
         have HS := Lib.hid hs
         have e2 := hl1 _ hF5
         clear hs
         go_wp2_with fail
         refine (rbody_any HM.out.k1 HM.out.k6 (HOK2.out.below hb5) HWF.out (may_lay HM.out HOK2.out.args.len (by have := HS.out; omega))).mono ?_
         rintro e wd ⟨v, rfl, hOd, hbf⟩
         have hbg := below_step hb5 hbf
         obtain ⟨Ad, cd, rfl, hRd⟩ := hOd.reads
         obtain ⟨nd, hnd⟩ : ∃ nd, (bodyF f).length = nd := ⟨_, rfl⟩
         rw [hnd] at hOd hRd ⊢
         by_cases hl : 2097152 < nd
         ·have HX : Hid (c = 3) := Lib.hid (by rw [← HC.out]; exact chk_long HM.out (.inr (by rw [hnd]; exact hl)))
          have hl2 : (2097152 : Int) < (nd : Int) := by omega
          clear hl hnd
          go_wp2_with fail
          go_ret
          exact ⟨by rw [HX.out]; rfl, hbg⟩
         ·have HX : Hid (c = 0) := Lib.hid (by rw [← HC.out]; exact chk_ok HM.out (by rw [hnd]; have := HS.out; omega))
          have hl2 : ¬ (2097152 : Int) < (nd : Int) := by omega
          clear hl hnd
          go_wp2_with fail
          go_ret
          exact ⟨by rw [HX.out]; rfl, hbg⟩
    ·have bv : (f.v != 1) = true := by simpa using v1
     have HX : Hid (c = 70) := Lib.hid (by rw [← HC.out]; exact chk_no (fun h => by exact v1 (h.hello e1).1))
     clear HOK HWF HHA
     have L := lds hF5
     have l0 := L.k; have l1 := L.v; have l2 := L.s; have l3 := L.st; have l4 := L.mo; have l5 := L.fu; have l6 := L.di; have l7 := L.args; have l8 := L.body
     clear L
     go_wp2_with fail
     go_loopg [3, 4] 1 (fun gk v3 v4 w' => v3 = .bool true ∧ v4 = .int .i64 0 ∧ w' = w4)
     case atStart => exact ⟨rfl, rfl, rfl⟩
     case round =>
      obtain ⟨rfl, rfl, rfl⟩ := hrel
      go_wp2_with fail
      all_goals
       go_ret
       exact ⟨by rw [HX.out]; rfl, hb5⟩
   have b1 : (f.k == 1) = false := by rw [beq_eq_false_iff_ne]; exact e1
   by_cases e3 : f.k = 3
   ·have b3 : (f.k == 3) = true := by rw [beq_iff_eq]; exact e3
    by_cases t1 : f.st < 1
    ·skip
     have HX : Hid (c = 70) := Lib.hid (by rw [← HC.out]; exact chk_no (fun h => by have := (h.resp e3).1; omega))
     clear HOK HWF HHA
     have L := lds hF5
     have l0 := L.k; have l1 := L.v; have l2 := L.s; have l3 := L.st; have l4 := L.mo; have l5 := L.fu; have l6 := L.di; have l7 := L.args; have l8 := L.body
     clear L
     go_wp2_with fail
     go_loopg [3, 4] 1 (fun gk v3 v4 w' => v3 = .bool true ∧ v4 = .int .i64 0 ∧ w' = w4)
     case atStart => exact ⟨rfl, rfl, rfl⟩
     case round =>
      obtain ⟨rfl, rfl, rfl⟩ := hrel
      go_wp2_with fail
      all_goals
       go_ret
       exact ⟨by rw [HX.out]; rfl, hb5⟩
    by_cases t2 : 3 < f.st
    ·skip
     have HX : Hid (c = 70) := Lib.hid (by rw [← HC.out]; exact chk_no (fun h => by have := (h.resp e3).2.1; omega))
     clear HOK HWF HHA
     have L := lds hF5
     have l0 := L.k; have l1 := L.v; have l2 := L.s; have l3 := L.st; have l4 := L.mo; have l5 := L.fu; have l6 := L.di; have l7 := L.args; have l8 := L.body
     clear L
     go_wp2_with fail
     go_loopg [3, 4] 1 (fun gk v3 v4 w' => v3 = .bool true ∧ v4 = .int .i64 0 ∧ w' = w4)
     case atStart => exact ⟨rfl, rfl, rfl⟩
     case round =>
      obtain ⟨rfl, rfl, rfl⟩ := hrel
      go_wp2_with fail
      all_goals
       go_ret
       exact ⟨by rw [HX.out]; rfl, hb5⟩
    by_cases t3 : f.st = 1
    ·have bt : (f.st != 1) = false := by simp [t3]
     have HP : Hid ((∀ s ∈ f.args, s.size ≤ 4096) → May f) := Lib.hid (fun he => ⟨HKK.out.1, HKK.out.2, HCO.out, HN8.out, by omega, by omega, by omega, fun e => absurd e e1, fun _ => ⟨by omega, by omega, fun h => absurd t3 h⟩, he⟩)
     have HOK2 := HOK
     have L := lds hF5
     have l0 := L.k; have l1 := L.v; have l2 := L.s; have l3 := L.st; have l4 := L.mo; have l5 := L.fu; have l6 := L.di; have l7 := L.args; have l8 := L.body
     clear L e1 e3 t3
     go_wp2_with fail
     go_loopg [3, 4] f.n (fun gk v3 v4 w' => CkLoop f w4 gk v3 v4 w')
     case atStart => exact ⟨0, false, rfl, rfl, rfl, Lib.hid ⟨by omega, fun _ j hj => (by omega), fun e => (by cases e), by omega⟩⟩
     case round =>
      obtain ⟨i, b, rfl, rfl, rfl, HG⟩ := hrel
      cases b with
      | true =>
       have HX : Hid (c = 70) := Lib.hid (by
        rw [← HC.out]
        obtain ⟨s, hm, hl⟩ := HG.out.2.2.1 (by simp)
        exact chk_no (fun h => by have := h.each s hm; omega))
       go_wp2_with fail
       all_goals
        go_ret
        exact ⟨by rw [HX.out]; rfl, hb5⟩
      | false =>
       by_cases hi : i < f.n
       ·obtain ⟨ad, s, HAE, hcell, HXX⟩ := (HOK2.out.args.below hb5).at_ i hi
        have hi2 : (i : Int) < (f.n : Int) := by omega
        have hls := load_s hcell
        have hsz := HHA.out s (List.mem_of_getElem? HXX.out)
        rw [HAE] at l7
        clear HAE
        by_cases hl : 4096 < s.size
        ·have hl2 : (4096 : Int) < (s.size : Int) := by omega
         have HL := Lib.hid hl
         clear hl
         go_wp2_with fail
         go_roundg (gk - 1)
         case measure => have := HG.out.2.2.2; have := HG.out.1; omega
         case rel => exact ⟨i + 1, true, by simp, by simp, rfl, Lib.hid ⟨by omega, fun e => by (cases e), fun _ => ⟨s, List.mem_of_getElem? HXX.out, HL.out⟩, by have := HG.out.2.2.2; omega⟩⟩
        ·have hl2 : ¬ (4096 : Int) < (s.size : Int) := by omega
         have HL := Lib.hid hl
         clear hl
         go_wp2_with fail
         go_roundg (gk - 1)
         case measure => have := HG.out.2.2.2; have := HG.out.1; omega
         case rel =>
          refine ⟨i + 1, false, by simp, by simp, rfl, Lib.hid ⟨by omega, fun _ j hj s2 h2 => ?_, fun e => by (cases e), by have := HG.out.2.2.2; omega⟩⟩
          rcases Nat.lt_or_ge j i with h | h
          ·exact HG.out.2.1 (by simp) j h s2 h2
          ·obtain rfl : j = i := by omega
           rw [HXX.out] at h2
           cases h2
           have := HL.out
           omega
       ·have hi2 : ¬ (i : Int) < (f.n : Int) := by omega
        have HM : Hid (May f) := Lib.hid (HP.out (fun s hm => by
         obtain ⟨j, hj, e⟩ := List.mem_iff_getElem.1 hm
         have := HOK2.out.args.len
         exact HG.out.2.1 (by simp) j (by omega) s (by rw [List.getElem?_eq_getElem hj, e])))
        clear hi
        by_cases hs : 2097152 < f.body.size
        ·have HX : Hid (c = 3) := Lib.hid (by rw [← HC.out]; exact chk_long HM.out (.inl hs))
         have hs2 : (2097152 : Int) < (f.body.size : Int) := by omega
         clear hs
         go_wp2_with fail
         go_ret
         exact ⟨by rw [HX.out]; rfl, hb5⟩
        ·have hs2 : ¬ (2097152 : Int) < (f.body.size : Int) := by omega
         have HS := Lib.hid hs
         have e2 := hl1 _ hF5
         clear hs
         go_wp2_with fail
         refine (rbody_any HM.out.k1 HM.out.k6 (HOK2.out.below hb5) HWF.out (may_lay HM.out HOK2.out.args.len (by have := HS.out; omega))).mono ?_
         rintro e wd ⟨v, rfl, hOd, hbf⟩
         have hbg := below_step hb5 hbf
         obtain ⟨Ad, cd, rfl, hRd⟩ := hOd.reads
         obtain ⟨nd, hnd⟩ : ∃ nd, (bodyF f).length = nd := ⟨_, rfl⟩
         rw [hnd] at hOd hRd ⊢
         by_cases hl : 2097152 < nd
         ·have HX : Hid (c = 3) := Lib.hid (by rw [← HC.out]; exact chk_long HM.out (.inr (by rw [hnd]; exact hl)))
          have hl2 : (2097152 : Int) < (nd : Int) := by omega
          clear hl hnd
          go_wp2_with fail
          go_ret
          exact ⟨by rw [HX.out]; rfl, hbg⟩
         ·have HX : Hid (c = 0) := Lib.hid (by rw [← HC.out]; exact chk_ok HM.out (by rw [hnd]; have := HS.out; omega))
          have hl2 : ¬ (2097152 : Int) < (nd : Int) := by omega
          clear hl hnd
          go_wp2_with fail
          go_ret
          exact ⟨by rw [HX.out]; rfl, hbg⟩
    ·have bt : (f.st != 1) = true := by simpa using t3
     by_cases h0 : f.body.size = 0
     ·have be : f.body.toList.isEmpty = true := by rw [body_empty]; exact decide_eq_true h0
      have be2 : (!f.body.toList.isEmpty) = false := by rw [be]; rfl
      have HP : Hid ((∀ s ∈ f.args, s.size ≤ 4096) → May f) := Lib.hid (fun he => ⟨HKK.out.1, HKK.out.2, HCO.out, HN8.out, by omega, by omega, by omega, fun e => absurd e e1, fun _ => ⟨by omega, by omega, fun _ => h0⟩, he⟩)
      have HOK2 := HOK
      have L := lds hF5
      have l0 := L.k; have l1 := L.v; have l2 := L.s; have l3 := L.st; have l4 := L.mo; have l5 := L.fu; have l6 := L.di; have l7 := L.args; have l8 := L.body
      clear L e1 e3 t3 h0
      go_wp2_with fail
      go_loopg [3, 4] f.n (fun gk v3 v4 w' => CkLoop f w4 gk v3 v4 w')
      case atStart => exact ⟨0, false, rfl, rfl, rfl, Lib.hid ⟨by omega, fun _ j hj => (by omega), fun e => (by cases e), by omega⟩⟩
      case round =>
       obtain ⟨i, b, rfl, rfl, rfl, HG⟩ := hrel
       cases b with
       | true =>
        have HX : Hid (c = 70) := Lib.hid (by
         rw [← HC.out]
         obtain ⟨s, hm, hl⟩ := HG.out.2.2.1 (by simp)
         exact chk_no (fun h => by have := h.each s hm; omega))
        go_wp2_with fail
        all_goals
         go_ret
         exact ⟨by rw [HX.out]; rfl, hb5⟩
       | false =>
        by_cases hi : i < f.n
        ·obtain ⟨ad, s, HAE, hcell, HXX⟩ := (HOK2.out.args.below hb5).at_ i hi
         have hi2 : (i : Int) < (f.n : Int) := by omega
         have hls := load_s hcell
         have hsz := HHA.out s (List.mem_of_getElem? HXX.out)
         rw [HAE] at l7
         clear HAE
         by_cases hl : 4096 < s.size
         ·have hl2 : (4096 : Int) < (s.size : Int) := by omega
          have HL := Lib.hid hl
          clear hl
          go_wp2_with fail
          go_roundg (gk - 1)
          case measure => have := HG.out.2.2.2; have := HG.out.1; omega
          case rel => exact ⟨i + 1, true, by simp, by simp, rfl, Lib.hid ⟨by omega, fun e => by (cases e), fun _ => ⟨s, List.mem_of_getElem? HXX.out, HL.out⟩, by have := HG.out.2.2.2; omega⟩⟩
         ·have hl2 : ¬ (4096 : Int) < (s.size : Int) := by omega
          have HL := Lib.hid hl
          clear hl
          go_wp2_with fail
          go_roundg (gk - 1)
          case measure => have := HG.out.2.2.2; have := HG.out.1; omega
          case rel =>
           refine ⟨i + 1, false, by simp, by simp, rfl, Lib.hid ⟨by omega, fun _ j hj s2 h2 => ?_, fun e => by (cases e), by have := HG.out.2.2.2; omega⟩⟩
           rcases Nat.lt_or_ge j i with h | h
           ·exact HG.out.2.1 (by simp) j h s2 h2
           ·obtain rfl : j = i := by omega
            rw [HXX.out] at h2
            cases h2
            have := HL.out
            omega
        ·have hi2 : ¬ (i : Int) < (f.n : Int) := by omega
         have HM : Hid (May f) := Lib.hid (HP.out (fun s hm => by
          obtain ⟨j, hj, e⟩ := List.mem_iff_getElem.1 hm
          have := HOK2.out.args.len
          exact HG.out.2.1 (by simp) j (by omega) s (by rw [List.getElem?_eq_getElem hj, e])))
         clear hi
         by_cases hs : 2097152 < f.body.size
         ·have HX : Hid (c = 3) := Lib.hid (by rw [← HC.out]; exact chk_long HM.out (.inl hs))
          have hs2 : (2097152 : Int) < (f.body.size : Int) := by omega
          clear hs
          go_wp2_with fail
          go_ret
          exact ⟨by rw [HX.out]; rfl, hb5⟩
         ·have hs2 : ¬ (2097152 : Int) < (f.body.size : Int) := by omega
          have HS := Lib.hid hs
          have e2 := hl1 _ hF5
          clear hs
          go_wp2_with fail
          refine (rbody_any HM.out.k1 HM.out.k6 (HOK2.out.below hb5) HWF.out (may_lay HM.out HOK2.out.args.len (by have := HS.out; omega))).mono ?_
          rintro e wd ⟨v, rfl, hOd, hbf⟩
          have hbg := below_step hb5 hbf
          obtain ⟨Ad, cd, rfl, hRd⟩ := hOd.reads
          obtain ⟨nd, hnd⟩ : ∃ nd, (bodyF f).length = nd := ⟨_, rfl⟩
          rw [hnd] at hOd hRd ⊢
          by_cases hl : 2097152 < nd
          ·have HX : Hid (c = 3) := Lib.hid (by rw [← HC.out]; exact chk_long HM.out (.inr (by rw [hnd]; exact hl)))
           have hl2 : (2097152 : Int) < (nd : Int) := by omega
           clear hl hnd
           go_wp2_with fail
           go_ret
           exact ⟨by rw [HX.out]; rfl, hbg⟩
          ·have HX : Hid (c = 0) := Lib.hid (by rw [← HC.out]; exact chk_ok HM.out (by rw [hnd]; have := HS.out; omega))
           have hl2 : ¬ (2097152 : Int) < (nd : Int) := by omega
           clear hl hnd
           go_wp2_with fail
           go_ret
           exact ⟨by rw [HX.out]; rfl, hbg⟩
     ·have be : f.body.toList.isEmpty = false := by rw [body_empty]; exact decide_eq_false h0
      have be2 : (!f.body.toList.isEmpty) = true := by rw [be]; rfl
      have HX : Hid (c = 70) := Lib.hid (by rw [← HC.out]; exact chk_no (fun h => by exact h0 ((h.resp e3).2.2 t3)))
      clear HOK HWF HHA
      have L := lds hF5
      have l0 := L.k; have l1 := L.v; have l2 := L.s; have l3 := L.st; have l4 := L.mo; have l5 := L.fu; have l6 := L.di; have l7 := L.args; have l8 := L.body
      clear L
      go_wp2_with fail
      go_loopg [3, 4] 1 (fun gk v3 v4 w' => v3 = .bool true ∧ v4 = .int .i64 0 ∧ w' = w4)
      case atStart => exact ⟨rfl, rfl, rfl⟩
      case round =>
       obtain ⟨rfl, rfl, rfl⟩ := hrel
       go_wp2_with fail
       all_goals
        go_ret
        exact ⟨by rw [HX.out]; rfl, hb5⟩
   have b3 : (f.k == 3) = false := by rw [beq_eq_false_iff_ne]; exact e3
   have HP : Hid ((∀ s ∈ f.args, s.size ≤ 4096) → May f) := Lib.hid (fun he => ⟨HKK.out.1, HKK.out.2, HCO.out, HN8.out, by omega, by omega, by omega, fun e => absurd e e1, fun e => absurd e e3, he⟩)
   have HOK2 := HOK
   have L := lds hF5
   have l0 := L.k; have l1 := L.v; have l2 := L.s; have l3 := L.st; have l4 := L.mo; have l5 := L.fu; have l6 := L.di; have l7 := L.args; have l8 := L.body
   clear L e1 e3
   go_wp2_with fail
   go_loopg [3, 4] f.n (fun gk v3 v4 w' => CkLoop f w4 gk v3 v4 w')
   case atStart => exact ⟨0, false, rfl, rfl, rfl, Lib.hid ⟨by omega, fun _ j hj => (by omega), fun e => (by cases e), by omega⟩⟩
   case round =>
    obtain ⟨i, b, rfl, rfl, rfl, HG⟩ := hrel
    cases b with
    | true =>
     have HX : Hid (c = 70) := Lib.hid (by
      rw [← HC.out]
      obtain ⟨s, hm, hl⟩ := HG.out.2.2.1 (by simp)
      exact chk_no (fun h => by have := h.each s hm; omega))
     go_wp2_with fail
     all_goals
      go_ret
      exact ⟨by rw [HX.out]; rfl, hb5⟩
    | false =>
     by_cases hi : i < f.n
     ·obtain ⟨ad, s, HAE, hcell, HXX⟩ := (HOK2.out.args.below hb5).at_ i hi
      have hi2 : (i : Int) < (f.n : Int) := by omega
      have hls := load_s hcell
      have hsz := HHA.out s (List.mem_of_getElem? HXX.out)
      rw [HAE] at l7
      clear HAE
      by_cases hl : 4096 < s.size
      ·have hl2 : (4096 : Int) < (s.size : Int) := by omega
       have HL := Lib.hid hl
       clear hl
       go_wp2_with fail
       go_roundg (gk - 1)
       case measure => have := HG.out.2.2.2; have := HG.out.1; omega
       case rel => exact ⟨i + 1, true, by simp, by simp, rfl, Lib.hid ⟨by omega, fun e => by (cases e), fun _ => ⟨s, List.mem_of_getElem? HXX.out, HL.out⟩, by have := HG.out.2.2.2; omega⟩⟩
      ·have hl2 : ¬ (4096 : Int) < (s.size : Int) := by omega
       have HL := Lib.hid hl
       clear hl
       go_wp2_with fail
       go_roundg (gk - 1)
       case measure => have := HG.out.2.2.2; have := HG.out.1; omega
       case rel =>
        refine ⟨i + 1, false, by simp, by simp, rfl, Lib.hid ⟨by omega, fun _ j hj s2 h2 => ?_, fun e => by (cases e), by have := HG.out.2.2.2; omega⟩⟩
        rcases Nat.lt_or_ge j i with h | h
        ·exact HG.out.2.1 (by simp) j h s2 h2
        ·obtain rfl : j = i := by omega
         rw [HXX.out] at h2
         cases h2
         have := HL.out
         omega
     ·have hi2 : ¬ (i : Int) < (f.n : Int) := by omega
      have HM : Hid (May f) := Lib.hid (HP.out (fun s hm => by
       obtain ⟨j, hj, e⟩ := List.mem_iff_getElem.1 hm
       have := HOK2.out.args.len
       exact HG.out.2.1 (by simp) j (by omega) s (by rw [List.getElem?_eq_getElem hj, e])))
      clear hi
      by_cases hs : 2097152 < f.body.size
      ·have HX : Hid (c = 3) := Lib.hid (by rw [← HC.out]; exact chk_long HM.out (.inl hs))
       have hs2 : (2097152 : Int) < (f.body.size : Int) := by omega
       clear hs
       go_wp2_with fail
       go_ret
       exact ⟨by rw [HX.out]; rfl, hb5⟩
      ·have hs2 : ¬ (2097152 : Int) < (f.body.size : Int) := by omega
       have HS := Lib.hid hs
       have e2 := hl1 _ hF5
       clear hs
       go_wp2_with fail
       refine (rbody_any HM.out.k1 HM.out.k6 (HOK2.out.below hb5) HWF.out (may_lay HM.out HOK2.out.args.len (by have := HS.out; omega))).mono ?_
       rintro e wd ⟨v, rfl, hOd, hbf⟩
       have hbg := below_step hb5 hbf
       obtain ⟨Ad, cd, rfl, hRd⟩ := hOd.reads
       obtain ⟨nd, hnd⟩ : ∃ nd, (bodyF f).length = nd := ⟨_, rfl⟩
       rw [hnd] at hOd hRd ⊢
       by_cases hl : 2097152 < nd
       ·have HX : Hid (c = 3) := Lib.hid (by rw [← HC.out]; exact chk_long HM.out (.inr (by rw [hnd]; exact hl)))
        have hl2 : (2097152 : Int) < (nd : Int) := by omega
        clear hl hnd
        go_wp2_with fail
        go_ret
        exact ⟨by rw [HX.out]; rfl, hbg⟩
       ·have HX : Hid (c = 0) := Lib.hid (by rw [← HC.out]; exact chk_ok HM.out (by rw [hnd]; have := HS.out; omega))
        have hl2 : ¬ (2097152 : Int) < (nd : Int) := by omega
        clear hl hnd
        go_wp2_with fail
        go_ret
        exact ⟨by rw [HX.out]; rfl, hbg⟩
end
end Go.Proofs.YtpjpgcjhdbiepaaGreat
end
section
namespace Go.Kit
theorem add_shift {acc k x : Nat} (h : acc < 128 ^ k) (hk : k < 9 ∨ k = 9 ∧ x ≤ 1) : IntKind.u64.wrap ((acc : Int) + IntKind.u64.wrap ((x : Int) % 128 * 2 ^ (7 * k))) = ((acc + x % 128 * 128 ^ k : Nat) : Int) := by
 have e2 : (2 : Nat) ^ (7 * k) = 128 ^ k := by rw [Nat.pow_mul]
 have hs := acc_step (x := x) h
 have e4 : acc + x % 128 * 128 ^ k < 18446744073709551616 := by
  rcases hk with hk | ⟨rfl, hx⟩
  ·have e3 : 128 ^ (k + 1) ≤ 128 ^ 9 := Nat.pow_le_pow_right (by omega) (by omega)
   have e4 : (128 : Nat) ^ 9 < 18446744073709551616 := by decide
   omega
  ·have h6 := Nat.mul_le_mul_right (128 ^ 9) (show x % 128 ≤ 1 by omega)
   have e3 : (128 : Nat) ^ 9 = 9223372036854775808 := by decide
   rw [e3] at h h6 ⊢
   omega
 have e5 : ((x : Int) % 128 * 2 ^ (7 * k)) = ((x % 128 * 128 ^ k : Nat) : Int) := by
  rw [← e2]; push_cast; rfl
 rw [e5, IntWalk.u64_in ((x % 128 * 128 ^ k : Nat) : Int) ⟨by omega, by omega⟩, IntWalk.u64_in _ ⟨by omega, by omega⟩]
 omega
end Go.Kit
namespace Go.Proofs.YtpjpgcjhdbiepaaGreat
open Go.RowKit Go.Kit Go.Proofs.YtpjpgcjhdbiepaaGreatW.PrintWords
set_option maxHeartbeats 4000000 in
set_option maxRecDepth 100000 in
theorem rshort_any {w : World} {A : Option Addr} {n c : Nat} {bs : List Int} (hR : RB w A n bs) (hm : n ≤ 140737488355328) (a : Nat) (ha : a ≤ n) : Calls Tryz.prog 92 #[.slice A n c, .int .i64 (a : Int)] w fun e w' => ∃ (m k : Nat) (x : Int), e = .returned (.tuple #[.int .u64 (m : Int), .int .i64 (k : Int), .int .i64 x]) ∧ Hid (num bs a = (m, k, x)) ∧ w' = w := by
 have HL := Lib.hid hR.len
 have HR := Lib.hid hR
 clear hR
 go_enter Tryz.func92, Tryz.ntmps92
 go_wp2_with fail
 go_loopg [7, 8] (n - a) (fun gk v7 v8 w' => ∃ (k acc : Nat), v8 = .int .i64 (k : Int) ∧ v7 = .int .u64 (acc : Int) ∧ w' = w ∧ Hid (k ≤ 9 ∧ acc < 128 ^ k ∧ a + k ≤ n ∧ num bs a = numR (bs.drop (a + k)) k acc ∧ gk = n - a - k))
 case atStart => exact ⟨0, 0, rfl, rfl, rfl, by omega, by decide, by omega, rfl, rfl⟩
 case round =>
  obtain ⟨k, acc, rfl, rfl, rfl, HG⟩ := hrel
  have hk9 : k ≤ 9 := HG.out.1
  by_cases hlt : a + k < n
  ·have hi2 : (a : Int) + (k : Int) < (n : Int) := by omega
   obtain ⟨ad, x, rfl, hc, hx0, hx1, HX⟩ := HR.out.at_ (a + k) hlt
   have hnat : ((a : Int) + (k : Int)).toNat = a + k := by omega
   obtain ⟨xn, rfl⟩ := Int.eq_ofNat_of_zero_le hx0
   have hxn : xn < 256 := by omega
   have hk10 : (k : Int) < 10 := by omega
   have hwr : IntKind.u64.wrap ((xn : Int) % 128) = (xn : Int) % 128 := IntWalk.u64_in _ ⟨by omega, by omega⟩
   have HST := Lib.hid (numR_step HX.out k acc)
   by_cases hwd : k = 9 ∧ 1 < xn
   ·have hkb : ((k : Int) == 9) = true := by rw [beq_iff_eq]; omega
    have hx2 : (1 : Int) < (xn : Int) := by omega
    have HF : Hid (num bs a = (0, 0, 10)) := Lib.hid (by rw [HG.out.2.2.2.1, HST.out, if_pos ⟨hwd.1, hx2⟩])
    clear hwd
    go_wp2_with fail
    go_ret3
    exact ⟨_, _, _, rfl, HF, rfl⟩
   ·obtain ⟨acc1, hacc1⟩ : ∃ acc1, acc1 = acc + xn % 128 * 128 ^ k := ⟨_, rfl⟩
    have hor : IntKind.u64.wrap ((acc : Int) + IntKind.u64.wrap ((xn : Int) % 128 * 2 ^ (7 * k))) = (acc1 : Int) := by rw [hacc1]; exact add_shift HG.out.2.1 (by omega)
    have HA1 := Lib.hid hacc1
    clear hacc1
    have hstep : ∀ P, P = num bs a → P = (if (xn : Int) < 128 then (if (xn : Int) = 0 ∧ 0 < k then (0, 0, 5) else (acc1, k + 1, 0)) else numR (bs.drop (a + k + 1)) (k + 1) acc1) := fun P hP => by
     rw [hP, HG.out.2.2.2.1, HST.out, if_neg (by omega), HA1.out]; rfl
    have HN := Lib.hid (hstep _ rfl)
    clear hstep
    by_cases hk : k = 9
    ·have hkb : ((k : Int) == 9) = true := by rw [beq_iff_eq]; omega
     have hx2 : (xn : Int) ≤ 1 := by omega
     have hx8 : (xn : Int) < 128 := by omega
     have hk1 : (0 : Int) < (k : Int) := by omega
     by_cases hx00 : xn = 0
     ·have hxb : ((xn : Int) == 0) = true := by rw [beq_iff_eq]; omega
      have HF : Hid (num bs a = (0, 0, 5)) := Lib.hid (by rw [HN.out, if_pos hx8, if_pos ⟨by omega, by omega⟩])
      clear hk hx00 hwd
      go_wp2_with fail
      go_ret3
      exact ⟨_, _, _, rfl, HF, rfl⟩
     ·have hxb : ((xn : Int) == 0) = false := by rw [beq_eq_false_iff_ne]; omega
      have HF : Hid (num bs a = (acc1, k + 1, 0)) := Lib.hid (by rw [HN.out, if_pos hx8, if_neg (by omega)])
      clear hk hx00 hwd
      go_wp2_with fail
      go_ret3
      exact ⟨_, _, _, rfl, HF, rfl⟩
    ·have hkb : ((k : Int) == 9) = false := by rw [beq_eq_false_iff_ne]; omega
     clear hwd
     by_cases hx8 : (xn : Int) < 128
     ·by_cases hx00 : xn = 0
      ·have hxb : ((xn : Int) == 0) = true := by rw [beq_iff_eq]; omega
       by_cases hk0 : k = 0
       ·have hk1 : (k : Int) ≤ 0 := by omega
        have HF : Hid (num bs a = (acc1, k + 1, 0)) := Lib.hid (by rw [HN.out, if_pos hx8, if_neg (by omega)])
        clear hk0 hx00
        go_wp2_with fail
        go_ret3
        exact ⟨_, _, _, rfl, HF, rfl⟩
       ·have hk1 : (0 : Int) < (k : Int) := by omega
        have HF : Hid (num bs a = (0, 0, 5)) := Lib.hid (by rw [HN.out, if_pos hx8, if_pos ⟨by omega, by omega⟩])
        clear hk0 hx00
        go_wp2_with fail
        go_ret3
        exact ⟨_, _, _, rfl, HF, rfl⟩
      ·have hxb : ((xn : Int) == 0) = false := by rw [beq_eq_false_iff_ne]; omega
       have HF : Hid (num bs a = (acc1, k + 1, 0)) := Lib.hid (by rw [HN.out, if_pos hx8, if_neg (by omega)])
       clear hx00
       go_wp2_with fail
       go_ret3
       exact ⟨_, _, _, rfl, HF, rfl⟩
     ·go_wp2_with fail
      go_roundg (n - a - (k + 1))
      case measure => have := HG.out.2.2.2.2; omega
      case rel => exact ⟨k + 1, acc1, by simp, rfl, rfl, by omega, by rw [HA1.out]; exact acc_step HG.out.2.1, by omega, by rw [HN.out, if_neg (by omega)]; rfl, by have := HG.out.2.2.2.2; omega⟩
  ·have HF : Hid (num bs a = (0, 0, 4)) := Lib.hid (by rw [HG.out.2.2.2.1, numR_end (by rw [HL.out]; omega)])
   have hi2 : (n : Int) ≤ (a : Int) + (k : Int) := by omega
   go_wp2_with fail
   go_ret3
   exact ⟨_, _, _, rfl, HF, rfl⟩
end Go.Proofs.YtpjpgcjhdbiepaaGreat
end
section
namespace Go.Kit
theorem numQ {D : Rd} (hok : D.ok) {m k : Nat} {x : Int} (h : num D.bs D.at_ = (m, k, x)) : m < 18446744073709551616 ∧ D.at_ + k ≤ D.bs.length ∧ k ≤ 10 ∧ (x = 0 → 1 ≤ k) ∧ (x = 0 ∨ x = 4 ∨ x = 5 ∨ x = 10) := by
 have := num_facts hok.1 hok.2.1
 rw [h] at this
 exact this
end Go.Kit
namespace Go.Proofs.YtpjpgcjhdbiepaaGreat
open Go.RowKit Go.Kit Go.Proofs.YtpjpgcjhdbiepaaGreatW.PrintWords
theorem rshort_at {w : World} {A : Option Addr} {n c : Nat} {bs : List Int} (hR : RB w A n bs) (hm : n ≤ 140737488355328) (a : Nat) (ha : a ≤ n) {m k : Nat} {x : Int} (hN : num bs a = (m, k, x)) :
  Calls Tryz.prog 92 #[.slice A n c, .int .i64 (a : Int)] w fun e w' => e = .returned (.tuple #[.int .u64 (m : Int), .int .i64 (k : Int), .int .i64 x]) ∧ w' = w := by
 refine (rshort_any hR hm a ha).mono ?_
 rintro e w1 ⟨m', k', x', rfl, HN, rfl⟩
 have := HN.out
 rw [hN] at this
 cases this
 exact ⟨rfl, rfl⟩
structure QR (w : World) (q : Nat) (A : Option Addr) (n c : Nat) (D : Rd) : Prop where
 qk : w.heap[q]? = some (.cells #[.slice A n c, .int .i64 (D.at_ : Int), .int .i64 D.why, .int .i64 D.wat] 129 (0, 0))
 row : RB w A n D.bs
 cap : n ≤ c
 max : n ≤ 140737488355328
 low : D.at_ ≤ n
 inv : D.why = 0 → D.wat = 0
 out : ∀ a, A = some a → a.block ≠ q
 old : ∀ a, A = some a → a.block < w.heap.size
def qrf (r : Nat) (A : Option Addr) (k : Nat) : Prop := k = r ∨ ∃ a, A = some a ∧ a.block = k
section
variable {w w1 : World} {q n c : Nat} {A : Option Addr} {D : Rd} {S : Nat → Prop}
theorem QR.q0 (h : QR w q A n c D) : w.cell? ⟨q, 0, none⟩ = some (.slice A n c) := cell_of_row w q 0 _ _ _ h.qk
theorem QR.q1 (h : QR w q A n c D) : w.cell? ⟨q, 1, none⟩ = some (.int .i64 (D.at_ : Int)) := cell_of_row w q 1 _ _ _ h.qk
theorem QR.q2 (h : QR w q A n c D) : w.cell? ⟨q, 2, none⟩ = some (.int .i64 D.why) := cell_of_row w q 2 _ _ _ h.qk
theorem QR.q3 (h : QR w q A n c D) : w.cell? ⟨q, 3, none⟩ = some (.int .i64 D.wat) := cell_of_row w q 3 _ _ _ h.qk
theorem QR.fq (h : QR w q A n c D) (j : Nat) : w.frozen? ⟨q, j, none⟩ = false := frozen_of_row w q j _ _ h.qk
theorem QR.only (h : QR w q A n c D) (ho : Only w w1 S) (hs : Sep (qrf q A) S) : QR w1 q A n c D :=
 ⟨ho.kept h.qk (hs q (.inl rfl)), h.row.apart ho (fun a e => hs a.block (.inr ⟨a, e, rfl⟩)), h.cap, h.max, h.low, h.inv, h.out, fun a e => Nat.lt_of_lt_of_le (h.old a e) ho.size⟩
theorem QR.below (h : QR w q A n c D) (hb : Below w.heap.size w w1) : QR w1 q A n c D := ⟨(hb.block q (lt_of_block h.qk)).trans h.qk, h.row.below hb, h.cap, h.max, h.low, h.inv, h.out, fun a e => Nat.lt_of_lt_of_le (h.old a e) hb.size⟩
theorem QR.drewN (h : QR w q A n c D) (k : Nat) : QR (w.drewN k) q A n c D := h.below (pw_below_drewN (Below.refl _ _) k)
theorem QR.oldF (h : QR w q A n c D) : Old w (qrf q A) := fun k hk => by
 rcases hk with rfl | ⟨a, e, rfl⟩
 ·exact lt_of_block h.qk
 ·exact h.old a e
theorem QR.ok (h : QR w q A n c D) : D.ok := ⟨h.row.byt, by rw [h.row.len]; exact h.low, h.inv⟩
theorem only_q (w : World) (r j : Nat) (v : Value) : Only w (w.setCell ⟨r, j, none⟩ v) (fun k => k = r) := (Only.refl w _).set r j v (.inl rfl)
theorem QR.set1 (h : QR w q A n c D) (x : Int) (a : Nat) (hx : x = (a : Int)) (ha : a ≤ n) : QR (w.setCell ⟨q, 1, none⟩ (.int .i64 x)) q A n c (D.to a) :=
 ⟨by rw [hx]; exact heap_set_same w q 1 _ _ _ h.qk, h.row.apart (only_q w q 1 _) (fun a e => h.out a e), h.cap, h.max, ha, h.inv, h.out, fun a e => Nat.lt_of_lt_of_le (h.old a e) (only_q w q 1 _).size⟩
theorem QR.set23 (h : QR w q A n c D) (e : Int) (a : Nat) (he : e ≠ 0) : QR ((w.setCell ⟨q, 2, none⟩ (.int .i64 e)).setCell ⟨q, 3, none⟩ (.int .i64 (a : Int))) q A n c (D.fail e a) := by
 have h3 := heap_set_same w q 2 _ _ (.int .i64 e) h.qk
 have h4 := heap_set_same _ q 3 _ _ (.int .i64 (a : Int)) h3
 exact ⟨h4, (h.row.apart (only_q w q 2 _) (fun a e => h.out a e)).apart (only_q _ q 3 _) (fun a e => h.out a e), h.cap, h.max, h.low, fun h0 => absurd h0 he, h.out, fun a e => Nat.lt_of_lt_of_le (h.old a e) (((only_q w q 2 (.int .i64 _)).set q 3 _ (.inl rfl)).size)⟩
set_option maxHeartbeats 1000000 in
theorem rfail_any (h : QR w q A n c D) (e : Int) (a : Nat) (he : e ≠ 0) : Calls Tryz.prog 83 #[.pointer (some ⟨q, 0, none⟩), .int .i64 e, .int .i64 (a : Int)] w fun x w' => x = .returned (.tuple #[]) ∧ QR w' q A n c (D.fail e a) ∧ Only w w' (fun k => k = q) := by
 have h2 := h.q2
 have h3 := h.q3
 have f2 := h.fq 2
 have f3 := h.fq 3
 go_enter Tryz.func83, Tryz.ntmps83
 go_wp2_with fail
 refine bodyPost_end (v := .tuple #[]) (by simp [results, Tryz.results83, go_sem]) rfl ⟨rfl, h.set23 e a he, ((Only.refl w (fun k => k = q)).set q 2 _ (.inl rfl)).set q 3 _ (.inl rfl)⟩
set_option maxHeartbeats 1000000 in
theorem rRUint_any (h : QR w q A n c D) : Calls Tryz.prog 71 #[.pointer (some ⟨q, 0, none⟩)] w fun e w' => ∃ D1 v, e = .returned (.int .u64 ((v : Nat) : Int)) ∧ Hid (uintS D = (D1, v)) ∧ QR w' q A n c D1 ∧ Only w w' (fun k => k = q) := by
 have h0 := h.q0
 have h1 := h.q1
 have h2 := h.q2
 have hf1 := h.fq 1
 have hm := h.max
 by_cases hw : D.why = 0
 ·have HW := Lib.hid hw
  have hwb : (D.why != 0) = false := by simp [hw]
  clear hw
  go_enter Tryz.func71, Tryz.ntmps71
  obtain ⟨m, k, x, HN⟩ : ∃ m k x, Hid (num D.bs D.at_ = (m, k, x)) := ⟨_, _, _, rfl⟩
  obtain ⟨g1, g2, g3, g4, g5⟩ := numQ h.ok HN.out
  rw [h.row.len] at g2
  have hlo := h.low
  go_wp2_with fail
  go_quiet ((go_at_call 92; exact (rshort_at (h.row.drewN _) hm D.at_ hlo HN.out).mono fun e w' ⟨he, hw⟩ => ⟨he, _, hw⟩))
  replace h := h.drewN nq
  have h1 := h.q1
  have hf1 := h.fq 1
  by_cases hx : x = 0
  ·have HF : Hid (uintS D = (D.to (D.at_ + k), m)) := Lib.hid (by
    unfold uintS
    rw [if_neg (by rw [HW.out]; simp), HN.out]
    rw [if_neg (by simpa using hx)])
   have hxb : (x != 0) = false := by simp [hx]
   have hs := h.set1 ((D.at_ : Int) + (k : Int)) (D.at_ + k) (by omega) g2
   have ho := ((Only.refl w (fun k => k = q)).drewN nq).set q 1 (.int .i64 ((D.at_ : Int) + (k : Int))) (.inl rfl)
   clear hx g1 g4 g5
   go_wp2_with fail
   go_ret
   exact ⟨_, _, rfl, HF, hs, ho⟩
  ·have HF : Hid (uintS D = (D.fail x D.at_, 0)) := Lib.hid (by
    unfold uintS
    rw [if_neg (by rw [HW.out]; simp), HN.out]
    rw [if_pos (by simpa using hx)])
   have hxb : (x != 0) = true := by simp [hx]
   have HX := Lib.hid hx
   have ho := ((Only.refl w (fun k => k = q)).drewN nq)
   clear hx g1 g2 g3 g4 g5
   go_wp2_with fail
   refine (rfail_any h x D.at_ HX.out).mono ?_
   rintro e w4 ⟨rfl, hs, ho2⟩
   replace ho := ho.same ho2
   go_wp2_with fail
   go_ret
   exact ⟨_, 0, rfl, HF, hs, ho⟩
 ·have HF : Hid (uintS D = (D, 0)) := Lib.hid (by unfold uintS; rw [if_pos hw])
  have hwb : (D.why != 0) = true := by simp [hw]
  clear hw
  go_enter Tryz.func71, Tryz.ntmps71
  go_wp2_with fail
  go_ret
  exact ⟨_, 0, rfl, HF, h, Only.refl _ _⟩
end
end Go.Proofs.YtpjpgcjhdbiepaaGreat
end
section
namespace Go.Proofs.YtpjpgcjhdbiepaaGreat
open Go.RowKit Go.Kit Go.Proofs.YtpjpgcjhdbiepaaGreatW.PrintWords
section
variable {w w1 : World} {q n c : Nat} {A : Option Addr} {D : Rd} {S : Nat → Prop}
attribute [-go_sem] run_slice_lh run_slice_any
set_option maxHeartbeats 2000000 in
set_option maxRecDepth 100000 in
theorem rRaw_any (h : QR w q A n c D) (m : Int) (hm1 : m ≤ 9223372036854775807) : Calls Tryz.prog 79 #[.pointer (some ⟨q, 0, none⟩), .int .i64 m] w fun e w' => ∃ D1 v xs, e = .returned v ∧ Hid (rawS D m = (D1, xs)) ∧ OB 5 w' w.heap.size v xs ∧ QR w' q A n c D1 ∧ Only w w' (fun k => k = q) := by
 have h0 := h.q0
 have h1 := h.q1
 have h2 := h.q2
 have hf1 := h.fq 1
 have hm := h.max
 have hlo := h.low
 by_cases hw : D.why = 0
 ·have HW := Lib.hid hw
  have HL := Lib.hid h.row.len
  have hwb : (D.why != 0) = false := by simp [hw]
  clear hw
  go_enter Tryz.func79, Tryz.ntmps79
  by_cases hneg : m < 0
  ·have HF : Hid (rawS D m = (D.fail 1 D.at_, [])) := Lib.hid (by
    unfold rawS
    rw [if_neg (by rw [HW.out]; simp), if_pos hneg])
   go_wp2_with fail
   refine (rfail_any h 1 D.at_ (by decide)).mono ?_
   rintro e w4 ⟨rfl, hs, ho⟩
   go_wp2_with fail
   go_ret
   exact ⟨_, _, [], rfl, HF, OB.nil _ _ _, hs, ho⟩
  ·have hw0 : IntKind.i64.wrap ((n : Int) - (D.at_ : Int)) = (n : Int) - (D.at_ : Int) := IntWalk.i64_in _ ⟨by omega, by omega⟩
   go_wp2_with fail
   go_quiet (fail)
   have ho := (Only.refl w (fun k => k = q)).drewN nq
   replace h := h.drewN nq
   have h1 := h.q1
   have hf1 := h.fq 1
   by_cases hx : (n : Int) - (D.at_ : Int) < m
   ·have HF : Hid (rawS D m = (D.fail 4 D.at_, [])) := Lib.hid (by
     unfold rawS
     rw [if_neg (by rw [HW.out]; simp), if_neg (by omega), if_pos (by rw [HL.out]; exact hx)])
    go_wp2_with fail
    refine (rfail_any h 4 D.at_ (by decide)).mono ?_
    rintro e w4 ⟨rfl, hs, ho2⟩
    have ho3 := ho.same ho2
    go_wp2_with fail
    go_ret
    exact ⟨_, _, [], rfl, HF, OB.nil _ _ _, hs, ho3⟩
   ·obtain ⟨mn, rfl⟩ := Int.eq_ofNat_of_zero_le (show 0 ≤ m by omega)
    have HF : Hid (rawS D (mn : Int) = (D.to (D.at_ + mn), (D.bs.drop D.at_).take mn)) := Lib.hid (by
     unfold rawS
     rw [if_neg (by rw [HW.out]; simp), if_neg (by omega), if_neg (by rw [HL.out]; exact hx)]
     rfl)
    have hs := h.set1 ((D.at_ : Int) + (mn : Int)) (D.at_ + mn) (by omega) (by omega)
    replace ho := ho.set q 1 (.int .i64 ((D.at_ : Int) + (mn : Int))) (.inl rfl)
    have hsub : (D.at_ : Int) + (mn : Int) - (mn : Int) = (D.at_ : Int) := by omega
    have hxx : (mn : Int) ≤ (n : Int) - (D.at_ : Int) := by omega
    clear hx
    go_wp2_with fail
    generalize (w.drewN nq).setCell ⟨q, 1, none⟩ (.int .i64 ((D.at_ : Int) + (mn : Int))) = wz at *
    have d0 := hs.q0
    have d1 : wz.cell? ⟨q, 1, none⟩ = some (.int .i64 ((D.at_ : Int) + (mn : Int))) := hs.q1
    clear h1 hf1 h0 h2
    have hcc := hs.cap
    obtain ⟨A', hcut, hA', hAb⟩ := mid_bytes A n c D.at_ (D.at_ + mn) (by omega) (by omega) hcc
    replace hcut := hcut (D.at_ : Int) ((D.at_ : Int) + (mn : Int)) rfl (by omega)
    have hrm := hA' _ _ hs.row
    have hmn : D.at_ + mn - D.at_ = mn := by omega
    rw [hmn] at hcut hrm
    clear hA' hAb hmn
    have hrd := hrm.drew
    have hsd := hs.drewN 1
    have hod := ho.drewN 1
    clear hrm hs ho h
    go_still_tail 14, (by kernel_rfl)
    clear d0 d1
    change wpList _ _ _ _ _ wz.drew
    change QR wz.drew q A n c _ at hsd
    change Only w wz.drew _ at hod
    generalize wz.drew = wv at *
    go_wp2_with fail
    rw [hcut]
    have hrd2 : RB wv A' mn ((D.bs.drop D.at_).take mn) := hrd
    go_wp2_with (at_builtin; refine push_row (w0 := wv) wv.heap.size rfl (.const (.slice none 0 0)) (.tmp 58) 22 ((D.bs.drop D.at_).take mn) A' mn _ rfl Tryz.underlying22 u8_info rfl rfl (OB.nil _ _ _) hrd2 (Below.refl _ _) (Nat.le_refl _) (by simp; omega) ?_)
    intro v w4 hO hb _ _
    have hs := hsd.below hb
    have ho2 := hod.below hb
    replace hO := hO.less hod.size
    go_wp2_with fail
    go_ret
    exact ⟨_, v, _, rfl, HF, hO, hs, ho2⟩
 ·have HF : Hid (rawS D m = (D, [])) := Lib.hid (by unfold rawS; rw [if_pos hw])
  have hwb : (D.why != 0) = true := by simp [hw]
  clear hw
  go_enter Tryz.func79, Tryz.ntmps79
  go_wp2_with fail
  go_ret
  exact ⟨_, _, [], rfl, HF, OB.nil _ _ _, h, Only.refl _ _⟩
set_option maxHeartbeats 1000000 in
theorem rFail_any (h : QR w q A n c D) (x : Int) : Calls Tryz.prog 101 #[.pointer (some ⟨q, 0, none⟩), .int .i64 x] w fun e w' => e = .returned (.tuple #[]) ∧ QR w' q A n c (failS D x) ∧ Only w w' (fun k => k = q) := by
 have h1 := h.q1
 have h2 := h.q2
 by_cases hw : D.why = 0
 ·have hwb : (D.why == 0) = true := by simp [hw]
  by_cases hx : x = 0
  ·have HF : failS D x = D := by unfold failS; rw [if_neg (by rw [hx]; simp)]
   rw [HF]
   have hxb : (x != 0) = false := by simp [hx]
   clear hx HF hw
   go_enter Tryz.func101, Tryz.ntmps101
   go_wp2_with fail
   refine bodyPost_end (v := .tuple #[]) (by simp [results, Tryz.results101, go_sem]) rfl ⟨rfl, h, Only.refl _ _⟩
  ·have HF : failS D x = D.fail x D.at_ := by unfold failS; rw [if_pos ⟨hw, hx⟩]
   rw [HF]
   have hxb : (x != 0) = true := by simp [hx]
   have HX := Lib.hid hx
   clear hx HF hw
   go_enter Tryz.func101, Tryz.ntmps101
   go_wp2_with fail
   refine (rfail_any h x D.at_ HX.out).mono ?_
   rintro e w4 ⟨rfl, hs, ho⟩
   go_wp2_with fail
   refine bodyPost_end (v := .tuple #[]) (by simp [results, Tryz.results101, go_sem]) rfl ⟨rfl, hs, ho⟩
 ·have HF : failS D x = D := by unfold failS; rw [if_neg (by rintro ⟨h1, _⟩; exact hw h1)]
  rw [HF]
  have hwb : (D.why == 0) = false := by simp [hw]
  clear HF hw
  go_enter Tryz.func101, Tryz.ntmps101
  go_wp2_with fail
  refine bodyPost_end (v := .tuple #[]) (by simp [results, Tryz.results101, go_sem]) rfl ⟨rfl, h, Only.refl _ _⟩
set_option maxHeartbeats 1000000 in
theorem rEnd_any (h : QR w q A n c D) : Calls Tryz.prog 67 #[.pointer (some ⟨q, 0, none⟩)] w fun e w' => e = .returned (.tuple #[.int .i64 (endS D).why, .int .i64 (endS D).wat]) ∧ QR w' q A n c (endS D) ∧ Only w w' (fun k => k = q) := by
 have h0 := h.q0
 have h1 := h.q1
 have h2 := h.q2
 have h3 := h.q3
 have HL := Lib.hid h.row.len
 obtain ⟨D1, hD1⟩ : ∃ D1, endS D = D1 := ⟨_, rfl⟩
 rw [hD1]
 have HD := Lib.hid hD1
 clear hD1
 by_cases hw : D.why = 0
 ·have HW := Lib.hid hw
  have hwb : (D.why == 0) = true := by simp [hw]
  clear hw
  by_cases hl : D.at_ < n
  ·obtain rfl : D1 = D.fail 6 D.at_ := HD.out.symm.trans (by unfold endS; rw [if_pos ⟨HW.out, by rw [HL.out]; exact hl⟩])
   have hl2 : (D.at_ : Int) < (n : Int) := by omega
   go_enter Tryz.func67, Tryz.ntmps67
   go_wp2_with fail
   go_quiet (fail)
   have ho := (Only.refl w (fun k => k = q)).drewN nq
   replace h := h.drewN nq
   have d1 := h.q1
   go_wp2_with fail
   refine (rfail_any h 6 D.at_ (by decide)).mono ?_
   rintro e w4 ⟨rfl, hs, ho2⟩
   replace ho := ho.same ho2
   have e2 := hs.q2
   have e3 := hs.q3
   go_wp2_with fail
   go_quiet (fail)
   replace hs := hs.drewN nq
   replace ho := ho.drewN nq
   go_wp2_with fail
   go_ret2
   exact ⟨rfl, hs, ho⟩
  ·obtain rfl : D1 = D := HD.out.symm.trans (by unfold endS; rw [if_neg (by rintro ⟨_, h2⟩; rw [HL.out] at h2; exact hl h2)])
   have hl2 : ¬ (D1.at_ : Int) < (n : Int) := by omega
   go_enter Tryz.func67, Tryz.ntmps67
   go_wp2_with fail
   go_quiet (fail)
   have ho := (Only.refl w (fun k => k = q)).drewN nq
   replace h := h.drewN nq
   clear h0 h1 h2 h3
   generalize w.drewN nq = wy at *
   have e2 := h.q2
   have e3 := h.q3
   go_wp2_with fail
   go_quiet (fail)
   replace h := h.drewN nq
   replace ho := ho.drewN nq
   go_wp2_with fail
   go_ret2
   exact ⟨rfl, h, ho⟩
 ·obtain rfl : D1 = D := HD.out.symm.trans (by unfold endS; rw [if_neg (by rintro ⟨h1, _⟩; exact hw h1)])
  have hwb : (D1.why == 0) = false := by simp [hw]
  clear hw
  go_enter Tryz.func67, Tryz.ntmps67
  go_wp2_with fail
  go_quiet (fail)
  have ho := (Only.refl w (fun k => k = q)).drewN nq
  replace h := h.drewN nq
  clear h0 h1 h2 h3
  generalize w.drewN nq = wy at *
  have e2 := h.q2
  have e3 := h.q3
  go_wp2_with fail
  go_quiet (fail)
  replace h := h.drewN nq
  replace ho := ho.drewN nq
  go_wp2_with fail
  go_ret2
  exact ⟨rfl, h, ho⟩
end
end Go.Proofs.YtpjpgcjhdbiepaaGreat
end
section
namespace Go.Proofs.YtpjpgcjhdbiepaaGreat
open Go.RowKit Go.Kit Go.Proofs.YtpjpgcjhdbiepaaGreatW.PrintWords
def qV (A : Option Addr) (n c : Nat) : Array Value := #[.slice A n c, .int .i64 0, .int .i64 0, .int .i64 0]
theorem q_size (A : Option Addr) (n c : Nat) : (Tryz.prog.info? 129).map (·.size) = some (qV A n c).size := by
 have h : (Tryz.prog.info? 129).map (·.size) = some 4 := by kernel_rfl
 exact h
set_option maxHeartbeats 2000000 in
theorem rNew_any (A : Option Addr) (n cap : Nat) (xs : List Int) (w : World) (hx : RB w A n xs) (hl : n ≤ 140737488355328) :
  Calls Tryz.prog 65 #[.slice A n cap] w fun e w' => ∃ A' c, e = .returned (.agg #[.slice A' n c, .int .i64 0, .int .i64 0, .int .i64 0]) ∧ RB w' A' n xs ∧ n ≤ c ∧ (∀ a, A' = some a → w.heap.size ≤ a.block ∧ a.block < w'.heap.size) ∧ Below w.heap.size w w' := by
 have HL := Lib.hid hx.len
 have hbel := below_alloc (Below.refl w.heap.size w) (.cells #[.slice none 0 0, .int .i64 0, .int .i64 0, .int .i64 0] 129)
 have hz := heap_alloc_new w (.cells #[.slice none 0 0, .int .i64 0, .int .i64 0, .int .i64 0] 129)
 have hx1 := hx.below hbel
 go_enter Tryz.func65, Tryz.ntmps65
 go_upto_region 1 with (fail)
 show Code.wp _ _ _ _ (w.alloc (.cells #[.slice none 0 0, .int .i64 0, .int .i64 0, .int .i64 0] 129))
 generalize w.alloc (.cells #[.slice none 0 0, .int .i64 0, .int .i64 0, .int .i64 0] 129) = w1 at *
 have hs1 := hbel.size
 go_wp2_with (at_builtin; refine push_row (w0 := w) w.heap.size rfl (.const (.slice none 0 0)) (.tmp 3) 22 xs A n cap rfl Tryz.underlying22 u8_info rfl rfl (OB.nil _ _ _) hx1 hbel hs1 (by simp; omega) ?_)
 intro v w2 hO hb2 hg _
 have hz2 : w2.heap[w.heap.size]? = some (.cells #[.slice none 0 0, .int .i64 0, .int .i64 0, .int .i64 0] 129 (0, 0)) := (hg.block _ (lt_of_block hz) (by simp [Value.ownBlock])).trans hz
 obtain ⟨A', c, rfl, hR, hc⟩ := hO.reads'
 have hnb := hO.not_block hz2 (by decide)
 have hold := hO.old
 have hfrom := hO.from
 rw [HL.out] at hR hc hnb hold hfrom ⊢
 clear hO
 generalize hgg : w.heap.size = g at hz2 hnb ⊢
 have HGG := Lib.hid hgg
 clear hgg
 go_wp2_with (with_reducible show wpList _ _ _ (Oper.mk none _ _ _ _ _ :: _) _ _; refine wpList_store_row rfl 129 (.tmp 2) (.tmp 5) rfl g (qV A' n c) rfl rfl 129 _ hz2 (q_size _ _ _) rfl (by simp [qV, Value.oneCell']) ?_)
 have hbg : Only w2 (w2.setRow g (qV A' n c)) (fun k => k = g) := ⟨rfl, rfl, rfl, by simp [World.setRow], fun k _ hk => setRow_other w2 g k _ hk⟩
 have hR3 : RB (w2.setRow g (qV A' n c)) A' n xs := hR.apart hbg (fun a e h => hnb (by rw [e]; exact congrArg some h))
 exact bodyPost_ret (v := .agg (qV A' n c)) (results_cell_row rfl _ _ g 129 (qV A' n c) (0, 0) _ rfl (setRow_heap _ _ _ _ _ _ hz2) Tryz.underlying129 rfl (q_size _ _ _)) rfl
  ⟨A', c, rfl, hR3, hc, fun a e => ⟨hfrom a.block (by rw [e]; rfl), Nat.lt_of_lt_of_le (hold a.block (by rw [e]; rfl)) hbg.size⟩, below_setRow hb2 (by rw [HGG.out]; exact Nat.le_refl _) _⟩
section
variable {w w1 : World} {q n c : Nat} {A : Option Addr} {D : Rd} {S : Nat → Prop}
set_option maxHeartbeats 2000000 in
theorem rCount_any (h : QR w q A n c D) (most : Int) (hmo : most ≤ 9223372036854775807) : Calls Tryz.prog 80 #[.pointer (some ⟨q, 0, none⟩), .int .i64 most] w fun e w' => ∃ D1 v, e = .returned (.int .i64 ((v : Nat) : Int)) ∧ Hid (countS D most = (D1, v)) ∧ QR w' q A n c D1 ∧ Only w w' (fun k => k = q) := by
 have h1 := h.q1
 have h2 := h.q2
 have hf1 := h.fq 1
 by_cases hw : D.why = 0
 ·have HW := Lib.hid hw
  have hwb : (D.why == 0) = true := by simp [hw]
  clear hw
  go_enter Tryz.func80, Tryz.ntmps80
  by_cases hneg : most < 0
  ·have HF : Hid (countS D most = (D.fail 1 D.at_, 0)) := Lib.hid (by
    unfold countS
    rw [if_neg (by rw [HW.out]; simp), if_pos hneg])
   go_wp2_with fail
   refine (rfail_any h 1 D.at_ (by decide)).mono ?_
   rintro e w2 ⟨rfl, hs, ho⟩
   go_wp2_with fail
   refine (rRUint_any hs).mono ?_
   rintro e w3 ⟨D1, v, rfl, HU, hs2, ho2⟩
   have hU := HU.out
   rw [uintS_bad (by simp [Rd.fail])] at hU
   cases hU
   have e2 : w3.cell? ⟨q, 2, none⟩ = some (.int .i64 1) := hs2.q2
   replace ho := ho.same ho2
   go_wp2_with fail
   go_ret
   exact ⟨_, 0, rfl, HF, hs2, ho⟩
  ·have hneg2 : ¬ most < 0 := hneg
   have hwm : IntKind.u64.wrap most = most := IntWalk.u64_in _ ⟨by omega, by omega⟩
   have hok := h.ok
   have HL := Lib.hid h.row.len
   go_wp2_with fail
   refine (rRUint_any h).mono ?_
   rintro e w3 ⟨D1, v, rfl, HU, hs, ho⟩
   rcases uintS_cases hok HW.out with ⟨m, k, hN, hU, hmb, hk1, hk2⟩ | ⟨m, k, x, hx, hN, hU⟩
   ·rw [HU.out] at hU
    cases hU
    have e2 : w3.cell? ⟨q, 2, none⟩ = some (.int .i64 D.why) := hs.q2
    have e1 := hs.q1
    have f1 := hs.fq 1
    by_cases hmm : most < (v : Int)
    ·have HF : Hid (countS D most = (D.fail 11 D.at_, 0)) := Lib.hid (by
      unfold countS
      rw [if_neg (by rw [HW.out]; simp), if_neg (by omega), hN, if_neg (by simp), if_pos hmm])
     have hs3 := hs.set1 (D.at_ : Int) D.at_ rfl h.low
     have ho3 := ho.set q 1 (.int .i64 (D.at_ : Int)) (.inl rfl)
     clear hN hmb hk1 hk2
     go_wp2_with fail
     refine (rfail_any hs3 11 D.at_ (by decide)).mono ?_
     rintro e w4 ⟨rfl, hs4, ho4⟩
     replace ho4 := ho3.same ho4
     go_wp2_with fail
     go_ret
     exact ⟨_, 0, rfl, HF, hs4, ho4⟩
    ·have HF : Hid (countS D most = (D.to (D.at_ + k), v)) := Lib.hid (by
      unfold countS
      rw [if_neg (by rw [HW.out]; simp), if_neg (by omega), hN, if_neg (by simp), if_neg hmm])
     have hm2 : (v : Int) ≤ 9223372036854775807 := by omega
     have hm3 : wrap64 (v : Int) = (v : Int) := by unfold wrap64; omega
     have hm4 : IntKind.i64.wrap (v : Int) = (v : Int) := IntWalk.i64_in _ ⟨by omega, by omega⟩
     clear hN hmb hk1 hk2
     go_wp2_with fail
     go_ret
     exact ⟨_, v, rfl, HF, hs, ho⟩
   ·rw [HU.out] at hU
    cases hU
    have e2 : w3.cell? ⟨q, 2, none⟩ = some (.int .i64 x) := hs.q2
    have hxb : (x == 0) = false := by simp [hx]
    have HF : Hid (countS D most = (D.fail x D.at_, 0)) := Lib.hid (by
     unfold countS
     rw [if_neg (by rw [HW.out]; simp), if_neg (by omega), hN, if_pos hx])
    clear hx hN
    go_wp2_with fail
    go_ret
    exact ⟨_, 0, rfl, HF, hs, ho⟩
 ·have HF : Hid (countS D most = (D, 0)) := Lib.hid (by unfold countS; rw [if_pos hw])
  have hwb : (D.why == 0) = false := by simp [hw]
  have HW := Lib.hid hw
  clear hw
  go_enter Tryz.func80, Tryz.ntmps80
  go_wp2_with fail
  refine (rRUint_any h).mono ?_
  rintro e w3 ⟨D1, v, rfl, HU, hs, ho⟩
  have hU := HU.out
  rw [uintS_bad HW.out] at hU
  cases hU
  have e2 := hs.q2
  go_wp2_with fail
  go_ret
  exact ⟨_, 0, rfl, HF, hs, ho⟩
end
end Go.Proofs.YtpjpgcjhdbiepaaGreat
end
section
namespace Go.Proofs.YtpjpgcjhdbiepaaGreat
open Go.RowKit Go.Kit Go.Proofs.YtpjpgcjhdbiepaaGreatW.PrintWords
section
variable {f : Fr} {w : World}
attribute [-go_sem] Instr.loadAt
set_option maxHeartbeats 8000000 in
set_option maxRecDepth 100000 in
theorem rEncode_any (hf : f.ok w) (hw : f.wf) (ha : ∀ s ∈ f.args, s.size ≤ 9223372036854775807) : Calls Tryz.prog 20 #[f.val] w fun e w' => ∃ v, e = .returned (.tuple #[v, .int .i64 (chkF f)]) ∧ OB 5 w' w.heap.size v (encF f) ∧ Below w.heap.size w w' := by
 have hb := below_alloc (Below.refl _ w) (.cells f.arr 48)
 have hF := boxed hf.tool w
 have hif : (Tryz.prog.info? 48).map (·.size) = some f.cells.length := by rw [frame_size]; have := Fr.arr_size f hf.tool; simp [Fr.arr] at this; rw [this]
 have cC : ∀ W, Below w.heap.size w W → Calls Tryz.prog 38 #[.agg f.arr] W (fun e w' => e = .returned (.int .i64 (chkF f)) ∧ Below W.heap.size W w') := fun W hbw => rCheck_any (hf.below hbw) hw ha
 have cB : chkF f = 0 → ∀ W, Below w.heap.size w W → Calls Tryz.prog 39 #[.agg f.arr] W (Laid W (bodyF f)) := fun hc W hbw => by
  obtain ⟨hm, h2, _⟩ := chk_facts hc
  exact rbody_any hm.k1 hm.k6 (hf.below hbw) hw (may_lay hm hf.args.len h2)
 obtain ⟨c, hc⟩ : ∃ c, chkF f = c := ⟨_, rfl⟩
 have HE : Hid (encF f = if c ≠ 0 then [] else sealed (sh (bodyF f).length ++ bodyF f)) := Lib.hid (by unfold encF; rw [hc])
 have HC := Lib.hid hc
 rw [hc] at cC ⊢
 clear hc hf hw ha
 show Calls Tryz.prog _ #[.agg f.arr] w _
 go_enter Tryz.func20, Tryz.ntmps20
 go_upto_region 1 with (fail)
 generalize w.alloc (.cells f.arr 48) = w1 at *
 obtain ⟨g, hg⟩ : ∃ g, w.heap.size = g := ⟨_, rfl⟩
 rw [hg] at hF ⊢
 clear hg
 have e2 := load_frame f hif w1 g hF
 go_wp2_with fail
 refine (cC w1 hb).mono ?_
 rintro e w2 ⟨rfl, hb2⟩
 have hb3 := below_step hb hb2
 have hF2 := hF.below hb2
 clear e2 hb hb2 hF cC
 by_cases h0 : c = 0
 ·subst h0
  have e2 := load_frame f hif w2 g hF2
  have HL := Lib.hid (chk_facts HC.out).2.2
  go_wp2_with fail
  refine (cB HC.out w2 hb3).mono ?_
  rintro e w3 ⟨v3, rfl, hO3, hb4⟩
  have hb5 := below_step hb3 hb4
  obtain ⟨A3, c3, rfl, hR3, _⟩ := hO3.reads'
  obtain ⟨m, hm⟩ : ∃ m, (bodyF f).length = m := ⟨_, rfl⟩
  have hml : m ≤ 2097152 := by rw [← hm]; exact HL.out
  have hwm := u64_nn (x := (m : Int)) (by omega) (by omega)
  rw [hm] at hO3 hR3 HE ⊢
  have HM := Lib.hid hm
  clear e2 hb3 hb4 hF2 cB hm
  go_wp2_with fail
  refine (rUint_of (m : Int) (by omega) (by omega) w3).mono ?_
  rintro e w4 ⟨v4, rfl, hO4, hb6⟩
  have hb7 := below_step hb5 hb6
  have hR4 := hR3.below hb6
  have hO5 := hO4.less hb5.size
  rw [Int.toNat_natCast] at hO5
  have hls := sh_ten (n := m) (by omega)
  have HLS := Lib.hid hls
  clear hO4 hO3 hR3 hb5 hb6 hls
  go_wp2_with (at_builtin; refine push_row (w0 := w) w.heap.size rfl (.tmp 16) (.tmp 17) 22 (bodyF f) A3 m c3 rfl Tryz.underlying22 u8_info rfl rfl hO5 hR4 hb7 hb7.size (by have := HLS.out; omega) ?_)
  intro v6 w6 hO6 hb8 _ _
  obtain ⟨A6, c6, rfl, hR6, _⟩ := hO6.reads'
  obtain ⟨m6, hm6⟩ : ∃ q, (sh m ++ bodyF f).length = q := ⟨_, rfl⟩
  rw [hm6] at hO6 hR6 ⊢
  have hm6l : m6 ≤ 2097162 := by rw [← hm6, List.length_append, HM.out]; have := HLS.out; omega
  clear hm6 hR4 hO5 hb7
  go_wp2_with fail
  refine (rSeal_any A6 m6 c6 (sh m ++ bodyF f) w6 hR6 (by omega)).mono ?_
  rintro e w7 ⟨v7, rfl, hO7, hb9⟩
  have hb10 := below_step hb8 hb9
  have hO8 : OB 5 w7 w.heap.size v7 (encF f) := by
   rw [HE.out, if_neg (by decide)]
   exact hO7.less hb8.size
  go_wp2_with fail
  go_ret2
  exact ⟨_, rfl, hO8, hb10⟩
 ·have h0b : (c != 0) = true := by simpa using h0
  have hO8 : OB 5 w2 w.heap.size (.slice none 0 0) (encF f) := by
   rw [HE.out, if_pos h0]
   exact OB.nil _ _ _
  clear h0
  go_wp2_with fail
  go_ret2
  exact ⟨_, rfl, hO8, hb3⟩
end
theorem need_of {xs : List Int} {m k : Nat} {x : Int} (h : headF xs = (m, k, x)) : needF xs = if x ≠ 0 ∨ k = 0 then (0, 0, x) else (m + k + 4, k, 0) := by unfold needF; rw [h]
set_option maxHeartbeats 8000000 in
set_option maxRecDepth 100000 in
theorem rNeed_any (A : Option Addr) (n cap : Nat) (xs : List Int) (w : World) (hx : RB w A n xs) (hl : n ≤ 140737488355328) :
  Calls Tryz.prog 57 #[.slice A n cap] w fun e w' => ∃ (m k : Nat) (x : Int), e = .returned (.tuple #[.int .i64 (m : Int), .int .i64 (k : Int), .int .i64 x]) ∧ Hid (needF xs = (m, k, x)) ∧ Below w.heap.size w w' := by
 go_enter Tryz.func57, Tryz.ntmps57
 go_wp2_with fail
 refine (rNew_any A n cap xs _ hx hl).mono ?_
 rintro e w6 ⟨Aq, d, rfl, hRq, hd, hAq, hb6⟩
 have hbl := below_alloc (Below.refl w6.heap.size w6) (.cells #[.slice Aq n d, .int .i64 0, .int .i64 0, .int .i64 0] 129)
 have hqk := heap_alloc_new w6 (.cells #[.slice Aq n d, .int .i64 0, .int .i64 0, .int .i64 0] 129)
 have hRq7 := hRq.below hbl
 have hb7 := below_step hb6 hbl
 go_wp2_with fail
 generalize w6.alloc (.cells #[.slice Aq n d, .int .i64 0, .int .i64 0, .int .i64 0] 129) = w7 at *
 have hq7 : QR w7 w6.heap.size Aq n d (Rd.new xs) := ⟨hqk, hRq7, hd, hl, Nat.zero_le _, fun _ => rfl, fun a e => Nat.ne_of_lt (hAq a e).2, fun a e => Nat.lt_of_lt_of_le (hAq a e).2 hbl.size⟩
 have hqn : w.heap.size ≤ w6.heap.size := hb6.size
 generalize w6.heap.size = q at hq7 hqn ⊢
 clear hRq hRq7 hqk hAq hbl hb6
 have hok := hq7.ok
 refine (rRUint_any hq7).mono ?_
 rintro e w8 ⟨D1, v, rfl, HU, hq8, ho8⟩
 have hb8 := Below.only hb7 ho8 hb7.size (fun k e => by rw [e]; exact hqn)
 have HUU := HU.out
 have q1 := hq8.q1
 have q2 := hq8.q2
 clear hq7 ho8 hb7 HU
 rcases uintS_cases hok rfl with ⟨m, k, hN, hu, hm, hk, hk1⟩ | ⟨m, k, x, hx0, hN, hu⟩
 ·rw [show (Rd.new xs).bs = xs from rfl, show (Rd.new xs).at_ = 0 from rfl] at hN
  rw [hu] at HUU
  cases HUU
  have HNX := Lib.hid hN
  have hk10 : k ≤ 10 := by have := num_facts hx.byt (Nat.zero_le xs.length); rw [hN] at this; exact this.2.2.1
  rw [show (((Rd.new xs).to ((Rd.new xs).at_ + k)).at_ : Int) = (k : Int) from by show ((0 + k : Nat) : Int) = _; rw [Nat.zero_add]] at q1
  rw [show ((Rd.new xs).to ((Rd.new xs).at_ + k)).why = 0 from rfl] at q2
  clear hN hu hok hk hq8
  by_cases hbig : 2097152 < v
  ·have hbig2 : (2097152 : Int) < (v : Int) := by omega
   have HF : Hid (needF xs = (0, 0, 3)) := Lib.hid (by
    rw [need_of (show headF xs = (0, 0, 3) by unfold headF; rw [HNX.out, if_neg (by simp), if_neg (by simp), if_pos hbig]), if_pos (.inr rfl)])
   go_wp2_with fail
   go_ret3
   exact ⟨0, 0, 3, rfl, HF, hb8⟩
  ·have hbig2 : ¬ (2097152 : Int) < (v : Int) := by omega
   by_cases hz : v = 0
   ·have hz2 : ((v : Int) == 0) = true := by rw [beq_iff_eq]; omega
    have HF : Hid (needF xs = (0, 0, 70)) := Lib.hid (by
     rw [need_of (show headF xs = (0, 0, 70) by unfold headF; rw [HNX.out, if_neg (by simp), if_neg (by simp), if_neg hbig, if_pos hz]), if_pos (.inr rfl)])
    clear hz
    go_wp2_with fail
    go_ret3
    exact ⟨0, 0, 70, rfl, HF, hb8⟩
   ·have hz2 : ((v : Int) == 0) = false := by rw [beq_eq_false_iff_ne]; omega
    have HF : Hid (needF xs = (v + k + 4, k, 0)) := Lib.hid (by
     rw [need_of (show headF xs = (v, k, 0) by unfold headF; rw [HNX.out, if_neg (by simp), if_neg (by simp), if_neg hbig, if_neg hz]), if_neg (by simp; omega)])
    have w1 : IntKind.i64.wrap (v : Int) = (v : Int) := IntWalk.i64_in _ ⟨by omega, by omega⟩
    have w2 : IntKind.i64.wrap ((k : Int) + (v : Int)) = (k : Int) + (v : Int) := IntWalk.i64_in _ ⟨by omega, by omega⟩
    have w3 : IntKind.i64.wrap ((k : Int) + (v : Int) + 4) = ((v + k + 4 : Nat) : Int) := by rw [IntWalk.i64_in _ ⟨by omega, by omega⟩]; push_cast; omega
    have hb9 := fun j => pw_below_drewN hb8 j
    clear hz hbig hm hk1 hk10
    go_wp2_with fail
    go_quiet (fail)
    go_wp2_with fail
    go_ret3
    exact ⟨v + k + 4, k, 0, rfl, HF, hb9 _⟩
 ·rw [show (Rd.new xs).bs = xs from rfl, show (Rd.new xs).at_ = 0 from rfl] at hN
  rw [hu] at HUU
  cases HUU
  have HNX := Lib.hid hN
  rw [show ((Rd.new xs).fail x (Rd.new xs).at_).why = x from rfl] at q2
  clear hN hu hok hq8 q1
  by_cases h4 : x = 4
  ·subst h4
   have HF : Hid (needF xs = (0, 0, 0)) := Lib.hid (by
    rw [need_of (show headF xs = (0, 0, 0) by unfold headF; rw [HNX.out, if_pos rfl]), if_pos (.inr rfl)])
   clear hx0
   go_wp2_with fail
   go_ret3
   exact ⟨0, 0, 0, rfl, HF, hb8⟩
  ·have h4b : (x == 4) = false := by rw [beq_eq_false_iff_ne]; exact h4
   have h0b : (x != 0) = true := by simpa using hx0
   have HF : Hid (needF xs = (0, 0, x)) := Lib.hid (by
    rw [need_of (show headF xs = (0, 0, x) by unfold headF; rw [HNX.out, if_neg h4, if_pos hx0]), if_pos (.inl hx0)])
   have hb9 := fun j => pw_below_drewN hb8 j
   clear h4 hx0
   go_wp2_with fail
   go_quiet (fail)
   go_wp2_with fail
   go_ret3
   exact ⟨0, 0, x, rfl, HF, hb9 _⟩
end Go.Proofs.YtpjpgcjhdbiepaaGreat
end
section
namespace Go.Proofs.YtpjpgcjhdbiepaaGreat
open Go.RowKit Go.Kit Go.Proofs.YtpjpgcjhdbiepaaGreatW.PrintWords
theorem bye_ok (w : World) : byeF.ok w := ⟨rfl, RT.nil w⟩
theorem byt_zeros (n : Nat) : Byt (List.replicate n 0) := fun x hx => by
 have := (List.mem_replicate.1 hx).2
 omega
theorem bye_wf : byeF.wf := ⟨by decide, by decide, ⟨by decide, by decide⟩, ⟨by decide, by decide⟩, ⟨by decide, by decide⟩, ⟨by decide, by decide⟩, ⟨by decide, by decide⟩, ⟨by decide, by decide⟩, ⟨by decide, by decide⟩, byt_zeros 32⟩
theorem bye_may : May byeF := ⟨by decide, by decide, rfl, by decide, by decide, by decide, by decide, fun e => absurd e (by decide), fun e => absurd e (by decide), fun s hs => by cases hs⟩
theorem bye_body : bodyF byeF = [5] := by
 unfold bodyF layF
 rw [if_neg (by decide), if_neg (by decide), if_neg (by decide), if_neg (by decide), if_neg (by decide), List.append_nil]
 exact sh_small (by decide)
theorem bye_chk : chkF byeF = 0 := chk_ok bye_may (by rw [bye_body]; decide)
theorem bye_len : (encF byeF).length = 6 := by
 unfold encF
 rw [bye_chk, if_neg (by decide), sealed_length, bye_body, List.length_append]
 rw [show ([5] : List Int).length = 1 from rfl, sh_small (by decide)]
 rfl
attribute [-go_sem] Instr.build
attribute [-go_sem] Instr.loadAt
end Go.Proofs.YtpjpgcjhdbiepaaGreat
end
section
namespace Go.Proofs.YtpjpgcjhdbiepaaGreat
open Go.RowKit Go.Kit Go.Proofs.YtpjpgcjhdbiepaaGreatW.PrintWords
theorem load_errno {W : World} {a : Addr} {v : Value} (h : W.cell? a = some v) : (Instr.loadAt 24 (.pointer (some a))).run Tryz.prog W = .ok v W := by go_simp
theorem load_why {W : World} {g : Nat} {a b : Int} (h : W.heap[g]? = some (.cells (fv a b) 28 (0, 0))) : (Instr.loadAt 24 (.pointer (some ⟨g, 0, none⟩))).run Tryz.prog W = .ok (.int .i64 a) W := load_errno (by rw [cell_of_row W g 0 _ _ _ h]; rfl)
attribute [-go_sem] Instr.loadAt Instr.storeAt Instr.build
section
variable {A : Option Addr} {n cap : Nat} {xs : List Int} {w : World}
end
end Go.Proofs.YtpjpgcjhdbiepaaGreat
end
section
namespace Go.Proofs.YtpjpgcjhdbiepaaGreat
open Go.RowKit Go.Kit CrcM Go.Proofs.YtpjpgcjhdbiepaaGreatW.PrintWords
attribute [local go_sem] Go.Proofs.YtpjpgcjhdbiepaaGreatW.PrintMore.max_two Go.Proofs.YtpjpgcjhdbiepaaGreatW.PrintMore.min_two Go.Proofs.YtpjpgcjhdbiepaaGreatW.PrintMore.max_three
attribute [-go_sem] Instr.loadAt Instr.storeAt Instr.build run_slice_h run_slice_any
end Go.Proofs.YtpjpgcjhdbiepaaGreat
end
section
namespace Go.Proofs.YtpjpgcjhdbiepaaGreat
open Go.RowKit Go.Kit CrcM Go.Proofs.YtpjpgcjhdbiepaaGreatW.PrintWords
def dV (s : Sm) (want : Int) (v : Value) : Array Value := #[.int .i64 (s.most : Int), .int .i64 want, v, .int .i64 (s.came : Int), .int .i64 (s.whole : Int), .int .i64 s.why, .int .i64 s.wat]
structure Db (w : World) (d : Nat) (v : Value) (want : Int) (s : Sm) : Prop where
 blk : w.heap[d]? = some (.cells (dV s want v) 76 (0, 0))
 row : OB 5 w 0 v s.rest
structure Dc (w : World) (d : Nat) (v : Value) (want : Int) (s : Sm) : Prop extends Db w d v want s where
 ok : s.ok
 wnt : s.why = 0 → want = ((needS s.most s.rest).1 : Int)
 many : s.rest.length ≤ s.most + 14
def dfp (d : Nat) (v : Value) (k : Nat) : Prop := k = d ∨ rf v k
section
variable {w w1 : World} {d : Nat} {v : Value} {want : Int} {s : Sm} {S : Nat → Prop}
theorem Db.c0 (h : Db w d v want s) : w.cell? ⟨d, 0, none⟩ = some (.int .i64 (s.most : Int)) := cell_of_row w d 0 _ _ _ h.blk
theorem Db.c1 (h : Db w d v want s) : w.cell? ⟨d, 1, none⟩ = some (.int .i64 want) := cell_of_row w d 1 _ _ _ h.blk
theorem Db.c2 (h : Db w d v want s) : w.cell? ⟨d, 2, none⟩ = some v := cell_of_row w d 2 _ _ _ h.blk
theorem Db.c3 (h : Db w d v want s) : w.cell? ⟨d, 3, none⟩ = some (.int .i64 (s.came : Int)) := cell_of_row w d 3 _ _ _ h.blk
theorem Db.c4 (h : Db w d v want s) : w.cell? ⟨d, 4, none⟩ = some (.int .i64 (s.whole : Int)) := cell_of_row w d 4 _ _ _ h.blk
theorem Db.c5 (h : Db w d v want s) : w.cell? ⟨d, 5, none⟩ = some (.int .i64 s.why) := cell_of_row w d 5 _ _ _ h.blk
theorem Db.c6 (h : Db w d v want s) : w.cell? ⟨d, 6, none⟩ = some (.int .i64 s.wat) := cell_of_row w d 6 _ _ _ h.blk
theorem Db.fz (h : Db w d v want s) (j : Nat) : w.frozen? ⟨d, j, none⟩ = false := frozen_of_row w d j _ _ h.blk
theorem Db.poison (h : Db w d v want s) : (Instr.loadAt 28 (.pointer (some ⟨d, 5, none⟩))).run Tryz.prog w = .ok (.agg #[.int .i64 s.why, .int .i64 s.wat]) w :=
 run_loadAt_mid w d 5 28 [.int .i64 s.why, .int .i64 s.wat] _ (fun j u hj => by
  match j, hj with
  | 0, hj => simp at hj; subst hj; exact h.c5
  | 1, hj => simp at hj; subst hj; exact h.c6
  | j + 2, hj => simp at hj) Tryz.underlying28 rfl (fv_size s.why s.wat)
theorem Db.typed (h : Db w d v want s) : ∀ k, dfp d v k → ∃ cs t, w.heap[k]? = some (.cells cs t (0, 0)) ∧ t ≠ 48 ∧ t ≠ 9 := fun k hk => by
 rcases hk with rfl | hk
 ·exact ⟨_, _, h.blk, by decide, by decide⟩
 ·obtain ⟨cs, hc⟩ := own_typed h.row.own hk
  exact ⟨cs, _, hc, by decide, by decide⟩
theorem Db.apart (h : Db w d v want s) : ¬ rf v d := own_not h.row.own h.blk (by decide)
theorem Db.old (h : Db w d v want s) : Old w (dfp d v) := fun k hk => by
 rcases hk with rfl | hk
 ·exact lt_of_block h.blk
 ·exact (own_new h.row.own k hk).2
theorem Db.only (h : Db w d v want s) (ho : Only w w1 S) (hs : Sep (dfp d v) S) : Db w1 d v want s := ⟨ho.kept h.blk (hs d (.inl rfl)), h.row.only ho (fun k hk => hs k (.inr hk))⟩
theorem Db.below (h : Db w d v want s) (hb : Below w.heap.size w w1) : Db w1 d v want s := ⟨(hb.block _ (lt_of_block h.blk)).trans h.blk, h.row.below hb⟩
theorem Dc.only (h : Dc w d v want s) (ho : Only w w1 S) (hs : Sep (dfp d v) S) : Dc w1 d v want s := ⟨h.toDb.only ho hs, h.ok, h.wnt, h.many⟩
theorem Dc.below (h : Dc w d v want s) (hb : Below w.heap.size w w1) : Dc w1 d v want s := ⟨h.toDb.below hb, h.ok, h.wnt, h.many⟩
theorem storeAt_mid {P : Program} (W : World) (g o : Nat) (ty t : TypeId) (cells cur : Array Value) (hg : W.heap[g]? = some (.cells cur t (0, 0))) (hfit : o + cells.size ≤ cur.size) (hi : (P.info? ty).map (·.size) = some cells.size) (h1 : cells.all (·.oneCell') = true) :
  (Instr.storeAt ty (.pointer (some ⟨g, o, none⟩)) (.agg cells)).run P W = .ok () (W.setRow g (cur.toList.take o ++ cells.toList ++ cur.toList.drop (o + cells.size)).toArray) := by
 have hst := run_storeCells_at (P := P) g o t cells.toList 0 cur W hg (by simpa using hfit) (fun v hv => (Array.all_eq_true_iff_forall_mem.1 h1) v (by simpa using hv))
 simp only [Nat.add_zero, Array.length_toList] at hst
 simp only [Instr.storeAt, Instr.sureAddr, Sem.run_bind, Sem.run_pure, Result.andThen_ok]
 cases hq : P.info? ty with
 | none => simp [hq] at hi
 | some i =>
  have hs : cells.size = i.size := by simp [hq] at hi; omega
  simp [storeVar, sizeOf, typeInfo, hq, Value.cells, hs, hst]
theorem Db.spoil (h : Db w d v want s) (e a : Int) : (Instr.storeAt 28 (.pointer (some ⟨d, 5, none⟩)) (.agg #[.int .i64 e, .int .i64 ((s.came : Int) - s.rest.length + a)])).run Tryz.prog w = .ok () (w.setRow d (dV (s.bad e a) want v)) :=
 storeAt_mid (P := Tryz.prog) w d 5 28 76 #[.int .i64 e, .int .i64 ((s.came : Int) - s.rest.length + a)] _ h.blk (by simp [dV]) (fv_size e _) (by simp [Value.oneCell'])
end
theorem neq_fault (x y : Int) (b : Bool) (hb : ((x == 0) && (y == 0)) = b) (W : World) : (binOp .neq 28 (.agg #[.int .i64 x, .int .i64 y]) (.agg #[.int .i64 0, .int .i64 0])).run Tryz.prog W = .ok (.bool !b) W := run_fault_ne x y b hb W
section
variable {w : World} {d : Nat} {v : Value} {want : Int} {s : Sm}
theorem dmade_any (h : Dc w d v want s) : Calls Tryz.prog 25 #[.pointer (some ⟨d, 0, none⟩)] w fun e w' => e = .returned (.bool true) ∧ w' = w := by
 have h0 := h.toDb.c0
 have h1 : decide (0 < s.most) = true := decide_eq_true h.ok.one
 clear h
 go_enter Tryz.func25, Tryz.ntmps25
 go_wp2_with fail
 go_ret
 exact ⟨rfl, rfl⟩
theorem dhead_any (A : Option Addr) (n c : Nat) (xs : List Int) (w : World) (hx : RB w A n xs) (hn : n ≤ 140737488355328) : Calls Tryz.prog 54 #[.slice A n c] w fun e w' => e = .returned (.int .i64 (headsN xs : Int)) ∧ w' = w := by
 have HX := Lib.hid hx
 have HL := Lib.hid hx.len
 clear hx
 go_enter Tryz.func54, Tryz.ntmps54
 go_wp2_with fail
 go_loopg [3] n (fun gk v3 w' => ∃ i : Nat, v3 = .int .i64 (i : Int) ∧ w' = w ∧ Hid (i + gk = n ∧ ∀ j, j < i → ∃ x, xs[j]? = some x ∧ 128 ≤ x))
 case atStart => exact ⟨0, rfl, rfl, Lib.hid ⟨by omega, fun j hj => by omega⟩⟩
 case round =>
  obtain ⟨i, rfl, rfl, HG⟩ := hrel
  by_cases hi : i < n
  ·obtain ⟨ad, x, rfl, hc, hx0, hx1, HXi⟩ := HX.out.at_ i hi
   have hi2 : (i : Int) < (n : Int) := by omega
   by_cases h128 : 128 ≤ x
   ·go_wp2_with fail
    go_roundg (gk - 1)
    case measure => have := HG.out.1; omega
    case rel =>
     refine ⟨i + 1, by simp, rfl, Lib.hid ⟨by have := HG.out.1; omega, fun j hj => ?_⟩⟩
     rcases Nat.lt_succ_iff_lt_or_eq.1 hj with h | h
     ·exact HG.out.2 j h
     ·subst h; exact ⟨x, HXi.out, h128⟩
   ·have HR : Hid (headsN xs = i + 1) := Lib.hid (heads_take HG.out.2 (.inr ⟨x, HXi.out, by omega⟩))
    clear hi
    go_wp2_with fail
    go_ret
    exact ⟨by rw [HR.out]; rfl, rfl⟩
  ·have hi2 : ¬ (i : Int) < (n : Int) := by omega
   have HR : Hid (headsN xs = i + 1) := Lib.hid (heads_take HG.out.2 (.inl (by have := HG.out.1; have := HL.out; omega)))
   have hin : i ≤ n := by have := HG.out.1; omega
   clear hi
   go_wp2_with fail
   go_ret
   exact ⟨by rw [HR.out]; rfl, rfl⟩
end
end Go.Proofs.YtpjpgcjhdbiepaaGreat
end
section
namespace Go.Proofs.YtpjpgcjhdbiepaaGreat
open Go.RowKit Go.Kit CrcM Go.Proofs.YtpjpgcjhdbiepaaGreatW.PrintWords
theorem load_bytes_cell {W : World} {a : Addr} {v : Value} (h : W.cell? a = some v) : (Instr.loadAt 22 (.pointer (some a))).run Tryz.prog W = .ok v W := by go_simp
theorem put_bytes_cell (A : Option Addr) (n c : Nat) (W : World) (a : Addr) (u : Value) (hc : W.cell? a = some u) (hf : W.frozen? a = false) : (Instr.storeAt 22 (.pointer (some a)) (.slice A n c)).run Tryz.prog W = .ok () (W.setCell a (.slice A n c)) := by go_simp
theorem build_fault (x y : Int) (W : World) : (Instr.build 28 #[(0, .int .i64 x), (1, .int .i64 y)]).run Tryz.prog W = .ok (.agg #[.int .i64 x, .int .i64 y]) W := by kernel_rfl
theorem build_fault0 (W : World) : (Instr.build 28 #[]).run Tryz.prog W = .ok (.agg #[.int .i64 0, .int .i64 0]) W := by kernel_rfl
attribute [-go_sem] Instr.loadAt Instr.storeAt Instr.build
section
variable {w : World} {d : Nat} {v : Value} {want : Int} {s : Sm}
theorem Db.bad (h : Db w d v want s) (e a : Int) : Db (w.setRow d (dV (s.bad e a) want v)) d v want (s.bad e a) ∧ Only w (w.setRow d (dV (s.bad e a) want v)) (fun k => k = d) :=
 ⟨⟨setRow_heap _ _ _ _ _ _ h.blk, h.row.only (Fr.only_row w d _) (fun k hk e => h.apart (e ▸ hk))⟩, Fr.only_row w d _⟩
set_option maxHeartbeats 4000000 in
set_option maxRecDepth 100000 in
theorem spoil_any (h : Db w d v want s) (hl : s.rest.length ≤ s.came) (hc : s.came ≤ 1152921504606846976) (e a : Int) (ha : 0 ≤ a) (ha2 : a ≤ 1152921504606846976) :
  Calls Tryz.prog 55 #[.pointer (some ⟨d, 0, none⟩), .int .i64 e, .int .i64 a] w fun x w' => x = .returned (.tuple #[]) ∧ Db w' d v want (s.bad e a) ∧ Only w w' (fun k => k = d) := by
 have hdr := below_drew (Below.refl w.heap.size w)
 have hd := h.below hdr
 obtain ⟨hb1, hb2⟩ := hd.bad e a
 have HB := Lib.hid hb1
 have HO := Lib.hid ((Only.of_below hdr (fun k => k = d)).same hb2)
 have sp := hd.spoil e a
 obtain ⟨A, c, rfl, hR, _⟩ := h.row.reads'
 have e3 := load_cell_int hd.c3
 have e2 := load_bytes_cell hd.c2
 obtain ⟨w1, hw1⟩ : ∃ w1, w.drew.setRow d (dV (s.bad e a) want (.slice A s.rest.length c)) = w1 := ⟨_, rfl⟩
 rw [hw1] at HB HO sp
 clear hw1
 obtain ⟨n, hn⟩ : ∃ n, s.rest.length = n := ⟨_, rfl⟩
 obtain ⟨m, hm⟩ : ∃ m, s.came = m := ⟨_, rfl⟩
 rw [hn, hm] at hl sp
 rw [hm] at hc e3
 rw [hn] at e2
 have hbf := build_fault
 have k1 : IntKind.i64.wrap ((m : Int) - (n : Int)) = (m : Int) - (n : Int) := by rw [IntKind.wrap_i64]; omega
 have k2 : IntKind.i64.wrap ((m : Int) - (n : Int) + a) = (m : Int) - (n : Int) + a := by rw [IntKind.wrap_i64]; omega
 clear h hR hb1 hb2 hn hm hd hdr
 go_enter Tryz.func55, Tryz.ntmps55
 go_wp2_with fail
 go_region_law (fail)
 all_goals
  go_wp2_with fail
  refine bodyPost_end (v := .tuple #[]) (by simp [results, Tryz.results55, go_sem]) rfl ⟨rfl, HB.out, HO.out⟩
end
end Go.Proofs.YtpjpgcjhdbiepaaGreat
end
section
namespace Go.Proofs.YtpjpgcjhdbiepaaGreat
open Go.RowKit Go.Kit CrcM Go.Proofs.YtpjpgcjhdbiepaaGreatW.PrintWords
structure Wat (D : Rd) (bs : List Int) : Prop where
 same : D.bs = bs
 byt : Byt bs
 low : D.at_ ≤ bs.length
 wat0 : 0 ≤ D.wat
 wat1 : D.wat ≤ bs.length
section
variable {D : Rd} {bs : List Int}
theorem Wat.fail (h : Wat D bs) (e : Int) {a : Nat} (ha : a ≤ bs.length) : Wat (D.fail e a) bs := ⟨h.same, h.byt, h.low, by show (0 : Int) ≤ (a : Int); omega, by show (a : Int) ≤ _; omega⟩
theorem Wat.to (h : Wat D bs) {a : Nat} (ha : a ≤ bs.length) : Wat (D.to a) bs := ⟨h.same, h.byt, ha, h.wat0, h.wat1⟩
theorem Wat.num (h : Wat D bs) : D.at_ + (num D.bs D.at_).2.1 ≤ bs.length := by
 have := (num_facts (bs := D.bs) (by rw [h.same]; exact h.byt) (a := D.at_) (by rw [h.same]; exact h.low)).2.1
 rw [h.same] at this ⊢; exact this
theorem Wat.uint (h : Wat D bs) : Wat (uintS D).1 bs := by
 unfold uintS
 split
 ·exact h
 split
 ·exact h.fail _ h.low
 ·exact h.to h.num
theorem Wat.count (h : Wat D bs) (m : Int) : Wat (countS D m).1 bs := by
 unfold countS
 split
 ·exact h
 split
 ·exact h.fail _ h.low
 split
 ·exact h.fail _ h.low
 split
 ·exact h.fail _ h.low
 ·exact h.to h.num
theorem Wat.some_ (h : Wat D bs) (m : Int) : Wat (someS D m).1 bs := by
 unfold someS
 split
 ·exact h.fail _ h.low
 ·exact h.count m
theorem Wat.raw (h : Wat D bs) (n : Int) : Wat (rawS D n).1 bs := by
 unfold rawS
 split
 ·exact h
 split
 ·exact h.fail _ h.low
 split
 ·exact h.fail _ h.low
 ·next h1 h2 h3 => exact h.to (by rw [h.same] at h3; omega)
theorem Wat.text (h : Wat D bs) (m : Int) : Wat (textS D m).1 bs := by
 unfold textS
 split
 ·exact h
 split
 ·exact h.fail _ h.low
 obtain ⟨s, en, x, hT⟩ : ∃ s en x, textAt D.bs D.at_ m = (s, en, x) := ⟨_, _, _, rfl⟩
 split
 ·exact h.fail _ h.low
 ·next h3 =>
  have h3 := Classical.not_not.mp h3
  rw [hT] at h3 ⊢
  have hT2 := hT
  rw [h.same] at hT2
  exact h.to ((textAt_facts h.byt h.low hT2).1 h3).1
theorem lstR_at {bs : List Int} (hb : Byt bs) (each : Int) : ∀ (n a : Nat) (acc : List ByteArray), a ≤ bs.length → (lstR bs each n a acc).2.1 ≤ bs.length
 | 0, a, acc, ha => ha
 | n + 1, a, acc, ha => by
  obtain ⟨s, en, x, hT⟩ : ∃ s en x, textAt bs a each = (s, en, x) := ⟨_, _, _, rfl⟩
  rw [lstR, hT]
  split
  ·exact ha
  ·next h =>
   have h := Classical.not_not.mp h
   exact lstR_at hb each n en _ ((textAt_facts hb ha hT).1 h).1
theorem Wat.list (h : Wat D bs) (m e : Int) : Wat (listS D m e).1 bs := by
 unfold listS
 split
 ·exact h
 split
 ·exact h.fail _ h.low
 split
 ·exact h.fail _ h.low
 split
 ·exact h.fail _ h.low
 have hl : (lstR D.bs e (Go.Kit.num D.bs D.at_).1 (D.at_ + (Go.Kit.num D.bs D.at_).2.1) []).2.1 ≤ bs.length := by
  have h1 := h.num
  rw [h.same] at h1 ⊢
  exact lstR_at h.byt e _ _ _ h1
 split
 ·exact h.fail _ hl
 ·exact h.to hl
theorem Wat.end_ (h : Wat D bs) : Wat (endS D) bs := by
 unfold endS
 split
 ·exact h.fail _ h.low
 ·exact h
theorem Wat.kind (h : Wat D bs) (k : Nat) : Wat (kindS D k).1 bs := by
 unfold kindS
 split
 ·unfold helloS; exact ((h.some_ 1).some_ 64).raw 32
 split
 ·unfold requestS; exact ((((h.uint.count 2147483648).count 2147483648).count 2147483648).list 8 4096).text 2097152
 split
 ·unfold responseS; exact (h.uint.some_ 3).text 2097152
 split
 ·unfold cancelS; exact h.uint
 split
 ·unfold noteS; exact h.text 2097152
 ·exact h
end
theorem read_at {p : List Int} {head : Nat} (hb : Byt p) (hh : head ≤ p.length) : 0 ≤ (readF p head).2.2 ∧ (readF p head).2.2 ≤ p.length := by
 have h0 : Wat ((Rd.new p).to head) p := ⟨rfl, hb, hh, by show (0 : Int) ≤ 0; omega, by show (0 : Int) ≤ _; omega⟩
 have h1 : Wat (fieldsS ((Rd.new p).to head)).1 p := (h0.some_ 6).kind _
 obtain ⟨D, f, hF⟩ : ∃ D f, fieldsS ((Rd.new p).to head) = (D, f) := ⟨_, _, rfl⟩
 rw [hF] at h1
 have h2 := h1.end_
 rw [readF_of hF]
 unfold finS
 have w0 := h2.wat0
 have w1 := h2.wat1
 by_cases hc : (endS D).why = 0 ∧ f.k = 3 ∧ f.st ≠ 1 ∧ f.body.size ≠ 0
 ·rw [if_pos hc, if_pos (by show (70 : Int) ≠ 0; decide)]
  dsimp only; omega
 ·rw [if_neg hc]
  dsimp only
  split
  ·exact ⟨w0, w1⟩
  ·dsimp only; omega
theorem dec_zero2 {xs : List Int} : (decF xs).2.1 = 0 → (decF xs).2.2 = 0 := by
 unfold decF
 split
 ·exact fun _ => rfl
 split
 ·exact fun e => absurd e (by show ¬ (4 : Int) = 0; decide)
 split
 ·exact fun e => absurd e (by show ¬ (6 : Int) = 0; decide)
 split
 ·exact fun e => absurd e (by show ¬ (71 : Int) = 0; decide)
 ·obtain ⟨D, f, hF⟩ : ∃ D f, fieldsS ((Rd.new (openR xs).1).to (needF xs).2.1) = (D, f) := ⟨_, _, rfl⟩
  rw [readF_of hF]
  split
  ·next h => exact fun e => absurd e h
  ·exact fun _ => rfl
theorem dec_at {xs : List Int} (hb : Byt xs) : 0 ≤ (decF xs).2.2 ∧ (decF xs).2.2 ≤ xs.length := by
 obtain ⟨m, k, e, hN⟩ : ∃ m k e, needF xs = (m, k, e) := ⟨_, _, _, rfl⟩
 unfold decF
 rw [hN]
 dsimp only
 split
 ·dsimp only; omega
 next he =>
 have he := Classical.not_not.mp he
 subst he
 split
 ·dsimp only; omega
 next h1 =>
 split
 ·dsimp only; omega
 next h2 =>
 obtain ⟨m0, hh, hm0⟩ := need_head hN (fun e => h1 (.inl e))
 split
 ·dsimp only; omega
 ·next ho =>
  have ho := Classical.not_not.mp ho
  obtain ⟨ys, er, hO⟩ : ∃ ys er, openR xs = (ys, er) := ⟨_, _, rfl⟩
  rw [hO] at ho ⊢
  dsimp only at ho ⊢
  subst ho
  obtain ⟨ht, h4⟩ := open_take hO
  have hyl : ys.length = xs.length - 4 := by rw [ht, List.length_take]; omega
  have := read_at (p := ys) (head := k) (by rw [ht]; exact hb.take _) (by omega)
  omega
end Go.Proofs.YtpjpgcjhdbiepaaGreat
end
