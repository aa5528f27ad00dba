/- The walk of FrameSame. -/
import Derived.Test.YtelfephmjkipoaaFrB
import Derived.Deep.RegionHeld3
import Derived.Deep.DeepMust
import Derived.Laws.Cover3
namespace Go.Proofs.Ytelfephmjkipoaa
open Go.RowKit Go.Kit Go.Proofs.YtelfephmjkipoaaW.PrintWords
theorem sameT_self (l : List ByteArray) : sameT l l = true := decide_eq_true rfl
theorem same_self (f : Fr) : f.same f = true := by simp [Fr.same, sameT_self]
theorem beq_sym (a b : Int) : (a == b) = (b == a) := by rw [Bool.eq_iff_iff, beq_iff_eq, beq_iff_eq]; exact eq_comm
theorem same_sym (f g : Fr) : f.same g = g.same f := by
  have h1 : decide (f.tool = g.tool) = decide (g.tool = f.tool) := by rw [decide_eq_decide]; exact eq_comm
  have h2 : sameT f.args g.args = sameT g.args f.args := by unfold sameT; rw [decide_eq_decide]; exact eq_comm
  have h3 : (f.body.toList == g.body.toList) = (g.body.toList == f.body.toList) := by rw [Bool.eq_iff_iff, beq_iff_eq, beq_iff_eq]; exact eq_comm
  unfold Fr.same
  rw [h1, h2, h3, beq_sym f.k, beq_sym f.id, beq_sym f.v, beq_sym f.s, beq_sym f.st, beq_sym f.mo, beq_sym f.fu, beq_sym f.di]
theorem Same_is (f g : Fr) (s : Bool) (h : f.same g = s) (w : World) (hf : f.ok w) (hg : g.ok w) :
    Calls Try.prog 12 #[f.val, g.val] w fun e w' => e = .returned (.bool s) ∧ Below w.heap.size w w' :=
  (Same_any f g w hf hg).mono fun e w' ⟨t, he, ht, hb⟩ => ⟨by rw [he, ht.out, h], hb⟩
theorem rSame_is (f g : Fr) (s : Bool) (h : f.same g = s) (w : World) (hf : f.ok w) (hg : g.ok w) :
    Calls Try.prog 13 #[f.val, g.val] w fun e w' => e = .returned (.bool s) ∧ Below w.heap.size w w' :=
  (rSame_any f g w hf hg).mono fun e w' ⟨t, he, ht, hb⟩ => ⟨by rw [he, ht.out, h], hb⟩
theorem load_frame (f : Fr) (hi : (Try.prog.info? 29).map (·.size) = some f.cells.length) (W : World) (ga : Nat) (h : f.at_ 29 W ga) :
    (Instr.loadAt 29 (.pointer (some ⟨ga, 0, none⟩))).run Try.prog W = .ok (.agg f.arr) W :=
  run_loadAt_mid W ga 0 29 f.cells _ (h.range 0 _ (fun j v h => by rw [Nat.zero_add]; exact h)) Try.underlying29 rfl hi
theorem keepS {f g : Fr} {w W W1 : World} {ga gb : Nat} {t : TypeId} (hF : f.at_ t W ga) (hG : g.at_ t W gb) (hb : Below w.heap.size w W) (hk : Below W.heap.size W W1) :
    Below w.heap.size w W1 ∧ f.at_ t W1 ga ∧ g.at_ t W1 gb := ⟨below_step hb hk, hF.below hk, hG.below hk⟩
attribute [-go_sem] Instr.loadAt
set_option maxHeartbeats 8000000 in
set_option maxRecDepth 100000 in
theorem FrameSame_walk (f g : Fr) (w : World) (hf : f.ok w) (hg : g.ok w) :
    Calls Try.prog 3 #[f.val, g.val] w fun e w' => e = .returned (.bool true) ∧ Below w.heap.size w w' := by
  obtain ⟨s, hs⟩ : ∃ s, f.same g = s := ⟨_, rfl⟩
  have cAB : ∀ W, f.ok W → g.ok W → Calls Try.prog 12 #[.agg f.arr, .agg g.arr] W (fun e w' => e = .returned (.bool s) ∧ Below W.heap.size W w') := Same_is f g s hs
  have cRAB : ∀ W, f.ok W → g.ok W → Calls Try.prog 13 #[.agg f.arr, .agg g.arr] W (fun e w' => e = .returned (.bool s) ∧ Below W.heap.size W w') := rSame_is f g s hs
  have cAA : ∀ W, f.ok W → f.ok W → Calls Try.prog 12 #[.agg f.arr, .agg f.arr] W (fun e w' => e = .returned (.bool true) ∧ Below W.heap.size W w') := Same_is f f true (same_self f)
  have cBB : ∀ W, g.ok W → g.ok W → Calls Try.prog 12 #[.agg g.arr, .agg g.arr] W (fun e w' => e = .returned (.bool true) ∧ Below W.heap.size W w') := Same_is g g true (same_self g)
  have cBA : ∀ W, g.ok W → f.ok W → Calls Try.prog 12 #[.agg g.arr, .agg f.arr] W (fun e w' => e = .returned (.bool s) ∧ Below W.heap.size W w') := Same_is g f s (by rw [same_sym]; exact hs)
  have hu := Try.underlying29
  have hsz : (Try.prog.info? 29).map (·.size) = some 42 := by kernel_rfl
  have hif : (Try.prog.info? 29).map (·.size) = some f.cells.length := by rw [hsz]; have := Fr.arr_size f hf.tool; simp [Fr.arr] at this; rw [this]
  have hig : (Try.prog.info? 29).map (·.size) = some g.cells.length := by rw [hsz]; have := Fr.arr_size g hg.tool; simp [Fr.arr] at this; rw [this]
  clear hs hsz
  show Calls Try.prog _ #[.agg f.arr, .agg g.arr] w _
  go_enter Try.func3, Try.ntmps3
  have hF : f.at_ 29 ((w.alloc (.cells f.arr 29)).alloc (.cells g.arr 29)) w.heap.size := Fr.at_.below ⟨heap_alloc_new w _, hf.tool⟩ (below_alloc (Below.refl _ _) _)
  have hG : g.at_ 29 ((w.alloc (.cells f.arr 29)).alloc (.cells g.arr 29)) (w.heap.size + 1) := ⟨by simpa using heap_alloc_new (w.alloc (.cells f.arr 29)) (.cells g.arr 29), hg.tool⟩
  have hb := below_alloc (below_alloc (Below.refl _ w) (.cells f.arr 29)) (.cells g.arr 29)
  go_upto_region 1 with (fail)
  generalize (w.alloc (.cells f.arr 29)).alloc (.cells g.arr 29) = w2 at *
  generalize w.heap.size + 1 = g2 at *
  have hl1 : ∀ W, f.at_ 29 W w.heap.size → (Instr.loadAt 29 (.pointer (some ⟨w.heap.size, 0, none⟩))).run Try.prog W = .ok (.agg f.arr) W := fun W h => load_frame f hif W _ h
  have hl2 : ∀ W, g.at_ 29 W g2 → (Instr.loadAt 29 (.pointer (some ⟨g2, 0, none⟩))).run Try.prog W = .ok (.agg g.arr) W := fun W h => load_frame g hig W _ h
  generalize f.arr = FA at *
  generalize g.arr = GA at *
  clear hif hig hu
  go_region_held3 (fun w' => Below w.heap.size w w' ∧ f.at_ 29 w' w.heap.size ∧ g.at_ 29 w' g2)
    (first
      | assumption
      | (refine keepS hF hG hb ?_; exact below_drew (Below.refl _ _))
      | (refine keepS hF hG hb ?_; exact Below.refl _ _)
      | (go_split_ands; refine keepS ?_ ?_ ?_ hb3 <;> assumption))
    (first
      | (go_at_call 12; go_split_ands; with_reducible refine (cAB _ (hf.below (by assumption)) (hg.below (by assumption))).mono ?_; rintro e w3 ⟨rfl, hb3⟩)
      | (go_at_call 12; go_split_ands; with_reducible refine (cAA _ (hf.below (by assumption)) (hf.below (by assumption))).mono ?_; rintro e w3 ⟨rfl, hb3⟩)
      | (go_at_call 12; go_split_ands; with_reducible refine (cBB _ (hg.below (by assumption)) (hg.below (by assumption))).mono ?_; rintro e w3 ⟨rfl, hb3⟩)
      | (go_at_call 12; go_split_ands; with_reducible refine (cBA _ (hg.below (by assumption)) (hf.below (by assumption))).mono ?_; rintro e w3 ⟨rfl, hb3⟩)
      | (go_at_call 13; go_split_ands; with_reducible refine (cRAB _ (hf.below (by assumption)) (hg.below (by assumption))).mono ?_; rintro e w3 ⟨rfl, hb3⟩))
  all_goals
    go_split_ands
    go_wp2_with fail
    go_ret
    exact ⟨rfl, by assumption⟩
end Go.Proofs.Ytelfephmjkipoaa
