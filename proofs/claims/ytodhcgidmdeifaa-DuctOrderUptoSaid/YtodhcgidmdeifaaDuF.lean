/- The contract of a duct's Count. -/
import Derived.Test.YtodhcgidmdeifaaDuP
namespace Go.Proofs.Ytodhcgidmdeifaa
open Go.RowKit Go.Kit Go.Proofs.YtodhcgidmdeifaaW.PrintWords
def countV (D : Dk) : Array Value := #[.int .i64 D.ci, .int .i64 D.co, .int .i64 D.ct, .int .i64 D.cl]
theorem count_size (D : Dk) : (Try.prog.info? 41).map (·.size) = some (countV D).size := by
  have h : (Try.prog.info? 41).map (·.size) = some 4 := by kernel_rfl
  exact h
section
variable {w : World} {d b n c : Nat} {A : Option Addr} {D : Dk}
set_option maxHeartbeats 1000000 in
theorem Count_any (h : DS w d b A n c D) : Calls Try.prog 24 #[.pointer (some ⟨d, 0, none⟩)] w fun e w' => e = .returned (.agg (countV D)) ∧ Below w.heap.size w w' := by
  have H := Lib.hid h
  have hbel := below_alloc (Below.refl w.heap.size w) (.cells #[.int .i64 0, .int .i64 0, .int .i64 0, .int .i64 0] 41)
  have hz := heap_alloc_new w (.cells #[.int .i64 0, .int .i64 0, .int .i64 0, .int .i64 0] 41)
  clear h
  go_enter Try.func24, Try.ntmps24
  go_upto_region 1 with (fail)
  show Code.wp _ _ _ _ (w.alloc (.cells #[.int .i64 0, .int .i64 0, .int .i64 0, .int .i64 0] 41))
  generalize w.alloc (.cells #[.int .i64 0, .int .i64 0, .int .i64 0, .int .i64 0] 41) = w1 at *
  have hS := H.out.below hbel
  have h2 := hS.d2
  have h3 := hS.d3
  have h4 := hS.d4
  have h5 := hS.d5
  clear hS
  go_wp2_with (with_reducible show wpList _ _ _ (Oper.mk none _ _ _ _ _ :: _) _ _; refine wpList_store_row rfl 41 (.tmp 2) (.tmp 9) rfl w.heap.size (countV D) rfl rfl 41 _ hz (count_size D) rfl (by simp [countV, Value.oneCell']) ?_)
  exact bodyPost_ret (v := .agg (countV D)) (results_cell_row rfl _ _ w.heap.size 41 (countV D) (0, 0) _ rfl (setRow_heap _ _ _ _ _ _ hz) Try.underlying41 rfl (count_size D)) rfl ⟨rfl, below_setRow hbel (Nat.le_refl _) _⟩
theorem count_p {F : Nat → Prop} (h : Du w d F D) : Calls Try.prog 24 #[.pointer (some ⟨d, 0, none⟩)] w fun e w' => e = .returned (.agg (countV D)) ∧ Below w.heap.size w w' := by
  obtain ⟨b, A, n, c, h1, rfl⟩ := h
  exact Count_any h1
end
end Go.Proofs.Ytodhcgidmdeifaa
