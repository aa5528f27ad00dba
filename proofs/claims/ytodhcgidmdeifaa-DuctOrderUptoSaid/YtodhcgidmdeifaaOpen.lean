/- Arguments opened: numbers, bytes, lists of bytes. -/
import Derived.Test.YtodhcgidmdeifaaKit
import Derived.ProofKit
import Derived.OpenShut
import Derived.SizedLaws
import Derived.Deep.Matrix
import Derived.Lib.SmallJoins
import Derived.Test.YtodhcgidmdeifaaWSized
namespace Go.Kit
open Go.ChangeShapes Go.WideShapes Go.RowKit Go.Deep Go.Proofs.YtodhcgidmdeifaaW.PrintWords
section
variable {H : Type} {enc : TypeId × Value → H} {P : Program} {W : World} {base : Nat} {r : Reach}
theorem u32_eq {n : Int} (h : 0 ≤ n ∧ n ≤ 4294967295) : n = ((BitVec.ofInt 32 n).toNat : Int) := by
  obtain ⟨m, rfl⟩ := Int.eq_ofNat_of_zero_le h.1
  rw [BitVec.ofInt_natCast, BitVec.toNat_ofNat]; omega
theorem byt_of_wf {zs : List Int} (h : ∀ n ∈ zs, (Lit.int .u8 n).wf = true) : Byt zs := fun n hn => by
  have := bounds_u8 (h n hn); omega
/-- A slice of bytes. -/
theorem open_bytes {t e : TypeId} {v : Value} {d : DataW H} {ps : List MemPlace} {ts : List TypeId} {ds : List (DataW H)} {j : Nat}
    (ht : P.underlying t = some (.slice e)) (he : P.underlying e = some (.int .u8)) (hc : P.cellsOf e = 1) (hB : P.bytesOf e = 1)
    (hval : Value.okWide P W r base t v) (h : DataW.Trod enc P W 0 (fun _ => true) true t v d ps)
    (hsz : (DataW.weightsEach P ts ds).all (· ≤ reachBytes) = true) (htj : ts[j]? = some t) (hdj : ds[j]? = some d) :
    ∃ A len cap xs, v = .slice A len cap ∧ RB W A len xs ∧ len ≤ cap ∧ len ≤ 140737488351232 := by
  obtain ⟨A, len, cap, rfl⟩ := okWide_slice ht hval
  have hy := sized_ints hsz htj hdj ht he hc hB h
  obtain ⟨fuel, hf⟩ := h
  rcases open_ints ht he hc hf with ⟨hcs, _⟩ | ⟨x, l, c, zs, hcs, _, hl, hm, hz, _, hcell, hwz⟩
  · simp [Value.cells] at hcs
    obtain ⟨rfl, rfl, rfl⟩ := hcs
    exact ⟨none, 0, 0, [], rfl, RB.nil W, by omega, by omega⟩
  · simp [Value.cells] at hcs
    obtain ⟨rfl, rfl, rfl⟩ := hcs
    simp only [if_true] at hz
    refine ⟨_, len, cap, zs.take len, rfl, ⟨⟨by rw [List.length_take]; omega, by unfold maxLen at hm; omega, fun _ => ⟨x, rfl, fun j hj => ?_⟩⟩, (byt_of_wf hwz).take len⟩, hl, by omega⟩
    rw [hcell j (by omega)]
    simp [List.getD_eq_getElem?_getD, hj]
/-- A slice of slices of bytes. -/
theorem open_rows {t e q : TypeId} {v : Value} {d : DataW H} {ps : List MemPlace} (ht : P.underlying t = some (.slice e)) (he : P.underlying e = some (.slice q)) (hq : P.underlying q = some (.int .u8))
    (ce : P.cellsOf e = 1) (cq : P.cellsOf q = 1) (hval : Value.okWide P W r base t v) (h : DataW.Trod enc P W 0 (fun _ => true) true t v d ps) :
    ∃ A len cap L, v = .slice A len cap ∧ RBs W A len L := by
  obtain ⟨A, len, cap, rfl⟩ := okWide_slice ht hval
  obtain ⟨fuel, hf⟩ := h
  rcases open_int_rows ht he hq ce cq hf with ⟨hcs, _⟩ | ⟨x, l, c, A', L, C, Z, hcs, _, hl, hm, _, hrow⟩
  · simp [Value.cells] at hcs
    obtain ⟨rfl, rfl, rfl⟩ := hcs
    exact ⟨none, 0, 0, [], rfl, rfl, by omega, fun i hi => by omega⟩
  · simp [Value.cells] at hcs
    obtain ⟨rfl, rfl, rfl⟩ := hcs
    refine ⟨_, len, cap, (List.range len).map fun i => (Z i).take (L i), rfl, by simp, by unfold maxLen at hm; omega, fun i hi => ?_⟩
    obtain ⟨h1, h2, h3, h4, h5, h6, h7⟩ := hrow i (by omega)
    have hlen : ((Z i).take (L i)).length = L i := by rw [List.length_take]; omega
    refine ⟨x, A' i, C i, (Z i).take (L i), rfl, by rw [hlen]; exact h1, by simp [hi], ?_⟩
    rw [hlen]
    refine ⟨⟨hlen, by unfold maxLen at h3; omega, fun hp => ?_⟩, (byt_of_wf h5).take _⟩
    rcases hA : A' i with _ | a'
    · have := h6 hA; omega
    · obtain ⟨_, hc⟩ := h7 a' hA
      refine ⟨a', rfl, fun j hj => ?_⟩
      rw [hc j (by omega)]
      simp [List.getD_eq_getElem?_getD, hj]
end
end Go.Kit
