/- A row of texts opened, with its bulk. -/
import Derived.Test.YtiadfmbddkcleaaBulk
import Derived.Test.YtiadfmbddkcleaaWiM
import Derived.Deep.Strs
namespace Go.Proofs.Ytiadfmbddkcleaa
open Go.ChangeShapes Go.WideShapes Go.RowKit Go.Kit Go.Deep Go.Proofs.YtiadfmbddkcleaaW.PrintWords
section
variable {H : Type} {enc : TypeId × Value → H} {P : Program} {W : World}
theorem read_texts_bulk {t e : TypeId} {n : Nat} {cs : List Value} {y : DataW H × List MemPlace} (ht : P.underlying t = some (.slice e)) (he : P.underlying e = some .string) (hc : P.cellsOf e = 1)
    (h : DataW.trod enc P W 0 (fun _ => true) true n t cs = some y) : ∃ A len cap xs, cs = [.slice A len cap] ∧ RT W A len xs ∧ tw xs + 1 ≤ Rows.uptoBulk y.1 ∧ len ≤ cap := by
  rcases Deep.open_strs ht he hc h with h0 | ⟨a, len, cap, m, Sx, rfl, _, hl, hm, hmm, rfl, hx⟩
  · exact ⟨none, 0, 0, [], h0.1, RT.nil W, by rw [h0.2]; simp [tw, Rows.uptoBulk], by omega⟩
  · simp only [if_true] at hmm
    refine ⟨_, len, cap, (List.range len).map Sx, rfl, ⟨by simp, by unfold maxLen at hm; omega, fun _ => ⟨a, rfl, fun j hj => ?_⟩⟩, ?_, hl⟩
    · rw [(hx j (by omega)).1]
      simp [List.getD_eq_getElem?_getD, hj]
    · refine Nat.le_trans (Nat.add_le_add_right ?_ 1) (bulk_slice _ _)
      have h1 := bulk_sum (H := H) (fun i => .lit (.string (Sx i).data.toList)) (fun i => (Sx i).size + 1) (List.range len) (fun i _ => by
        rw [bulk_text, Array.length_toList]; exact Nat.le_refl _)
      unfold tw
      rw [List.map_map]
      exact h1
end
end Go.Proofs.Ytiadfmbddkcleaa
