/- A row of calls, opened. -/
import Derived.Test.YtiadfmbddkcleaaBulk
import Derived.Test.YtiadfmbddkcleaaWiAc
namespace Go.Proofs.Ytiadfmbddkcleaa
open Go.ChangeShapes Go.WideShapes Go.RowKit Go.Kit Go.Deep Go.Proofs.YtiadfmbddkcleaaW.PrintWords
instance : Inhabited Cl := ⟨⟨0, 0, 0⟩⟩
theorem add_at_c (a : Addr) (n j : Nat) (hj : 0 < j) : (a.add n).add j = ⟨(a.add n).block, (a.add n).off + j, none⟩ := by
  unfold Addr.add
  have h : j ≠ 0 := by omega
  by_cases h1 : n = 0 <;> simp [h1, h]
theorem open_calls {H : Type} {enc : TypeId × Value → H} {W : World} {base : Nat} {r : Reach} {v : Value} {d : DataW H} {ps : List MemPlace}
    (hv : Value.okWide Try.prog W r base 57 v) (h : DataW.Trod enc Try.prog W 0 (fun _ => true) true 57 v d ps) : ∃ A n c L, v = .slice A n c ∧ RC W A n L := by
  obtain ⟨A, n, c, rfl⟩ := okWide_slice Try.underlying57 hv
  obtain ⟨fuel, hf⟩ := h
  rcases open_slice Try.underlying57 hf with ⟨h0, h1⟩ | ⟨a, len, cap, m, k, D, Pl, hcs, _, hl, hm, hmm, hxx, hx⟩
  · simp [Value.cells] at h0
    obtain ⟨rfl, rfl, rfl⟩ := h0
    exact ⟨none, 0, 0, [], rfl, ⟨rfl, by omega, fun i hi => absurd hi (by omega)⟩⟩
  · simp [Value.cells] at hcs
    obtain ⟨rfl, rfl, rfl⟩ := hcs
    simp only [if_true] at hmm
    have c3 : Try.prog.cellsOf 59 = 3 := by kernel_rfl
    have c1 : Try.prog.cellsOf 3 = 1 := by kernel_rfl
    have each : ∀ i, i < n → ∃ y : Cl, W.cell? (a.add (i * 3)) = some (.int .i64 y.kind) ∧ W.cell? ⟨(a.add (i * 3)).block, (a.add (i * 3)).off + 1, none⟩ = some (.int .i64 y.a) ∧ W.cell? ⟨(a.add (i * 3)).block, (a.add (i * 3)).off + 2, none⟩ = some (.int .i64 y.b) ∧ y.a ≤ 9223372036854775807 ∧ y.b ≤ 9223372036854775807 := by
      intro i hi
      obtain ⟨cs, hc, ht⟩ := hx i (by omega)
      rw [c3] at hc
      obtain ⟨_, hlen, hcell⟩ := World.cells?_some hc
      obtain ⟨_, _, _, hfs⟩ := read_fields Try.underlying59 ht
      obtain ⟨n0, y0, z0, _, _⟩ := hfs 0 3 0 rfl
      obtain ⟨n1, y1, z1, _, _⟩ := hfs 1 3 1 rfl
      obtain ⟨n2, y2, z2, _, _⟩ := hfs 2 3 2 rfl
      rw [c1] at z0 z1 z2
      obtain ⟨kd, e0, _, _⟩ := DataW.trod_int Try.underlying3 z0
      obtain ⟨aa, e1, _, w1⟩ := DataW.trod_int Try.underlying3 z1
      obtain ⟨bb, e2, _, w2⟩ := DataW.trod_int Try.underlying3 z2
      have b1 := bounds_i64 w1
      have b2 := bounds_i64 w2
      match cs, hlen with
      | [x0, x1, x2], _ =>
        simp at e0 e1 e2
        subst e0 e1 e2
        have q0 := hcell 0 (by omega)
        have q1 := hcell 1 (by omega)
        have q2 := hcell 2 (by omega)
        rw [add_at_c _ _ 1 (by omega)] at q1
        rw [add_at_c _ _ 2 (by omega)] at q2
        rw [show (a.add (i * 3)).add 0 = a.add (i * 3) from rfl] at q0
        exact ⟨⟨kd, aa, bb⟩, by simpa using q0, by simpa using q1, by simpa using q2, b1.2, b2.2⟩
    obtain ⟨y, hy⟩ := choose_lt each
    refine ⟨_, n, c, (List.range n).map y, rfl, ⟨by simp, by unfold maxLen at hm; omega, fun i hi => ?_⟩⟩
    obtain ⟨q0, q1, q2, q3, q4⟩ := hy i hi
    exact ⟨a, y i, rfl, q0, q1, q2, q3, q4, by simp [hi]⟩
end Go.Proofs.Ytiadfmbddkcleaa
