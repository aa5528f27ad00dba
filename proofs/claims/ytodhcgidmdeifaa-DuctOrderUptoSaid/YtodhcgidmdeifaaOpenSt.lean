/- Arguments opened: rows of byte slices with their capacities. -/
import Derived.Test.YtodhcgidmdeifaaByt
import Derived.Test.YtodhcgidmdeifaaOpenKt
namespace Go.Proofs.Ytodhcgidmdeifaa
open Go.ChangeShapes Go.WideShapes Go.RowKit Go.Kit Go.Deep Go.Proofs.YtodhcgidmdeifaaW.PrintWords
theorem read_rowsc {H : Type} {enc : TypeId × Value → H} {W : World} {n : Nat} {cs : List Value} {y : DataW H × List MemPlace}
    (h : DataW.trod enc Try.prog W 0 (fun _ => true) true n 52 cs = some y) : ∃ A len cap L, cs = [.slice A len cap] ∧ RBc W A len L := by
  rcases open_int_rows Try.underlying52 Try.underlying22 Try.underlying5 (by kernel_rfl) (by kernel_rfl) h with ⟨h0, _⟩ | ⟨a, len, cap, A, L, C, Z, rfl, _, hl, hm, _, hx⟩
  · exact ⟨none, 0, 0, [], h0, RBc.nil W⟩
  · refine ⟨_, len, cap, (List.range len).map fun i => (Z i).take (L i), rfl, by simp, by unfold maxLen at hm; omega, fun i hi => ?_⟩
    obtain ⟨h1, h2, h3, h4, h5, h6, h7⟩ := hx i (by omega)
    have hz : ((Z i).take (L i)).length = L i := by rw [List.length_take]; omega
    refine ⟨a, A i, C i, (Z i).take (L i), rfl, by rw [hz]; exact h1, by simp [hi], ?_, by rw [hz]; exact h2⟩
    rw [hz]
    refine ⟨⟨hz, by unfold maxLen at h3; omega, fun hp => ?_⟩, (byt_of_wf h5).take _⟩
    cases hA : A i with
    | none => have := h6 hA; omega
    | some a' =>
      obtain ⟨_, hc⟩ := h7 a' hA
      refine ⟨a', rfl, fun j hj => ?_⟩
      rw [hc j (by omega)]
      simp [List.getD_eq_getElem?_getD, hj]
end Go.Proofs.Ytodhcgidmdeifaa
