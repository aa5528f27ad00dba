/- A script opened. -/
import Derived.Test.YtodhcgidmdeifaaDuG
import Derived.Test.YtodhcgidmdeifaaOpenSt
namespace Go.Proofs.Ytodhcgidmdeifaa
open Go.ChangeShapes Go.WideShapes Go.RowKit Go.Kit Go.Deep Go.Proofs.YtodhcgidmdeifaaW.PrintWords
instance : Inhabited Ac := ⟨⟨0, [], 0, 0⟩⟩
theorem add_at (a : Addr) (n j : Nat) (hj : 0 < j) : (a.add n).add j = ⟨(a.add n).block, (a.add n).off + j, none⟩ := by
  unfold Addr.add
  have h : j ≠ 0 := by omega
  by_cases h1 : n = 0 <;> simp [h1, h]
theorem open_acts {H : Type} {enc : TypeId × Value → H} {W : World} {base : Nat} {r : Reach} {v : Value} {d : DataW H} {ps : List MemPlace}
    (hv : Value.okWide Try.prog W r base 51 v) (h : DataW.Trod enc Try.prog W 0 (fun _ => true) true 51 v d ps) : ∃ A n c L, v = .slice A n c ∧ RA W A n L := by
  obtain ⟨A, n, c, rfl⟩ := okWide_slice Try.underlying51 hv
  obtain ⟨fuel, hf⟩ := h
  rcases open_slice Try.underlying51 hf with ⟨h0, _⟩ | ⟨a, len, cap, m, k, D, Pl, hcs, _, hl, hm, hmm, _, hx⟩
  · simp [Value.cells] at h0
    obtain ⟨rfl, rfl, rfl⟩ := h0
    exact ⟨none, 0, 0, [], rfl, rfl, by omega, fun i hi => absurd hi (by omega)⟩
  · simp [Value.cells] at hcs
    obtain ⟨rfl, rfl, rfl⟩ := hcs
    simp only [if_true] at hmm
    have c4 : Try.prog.cellsOf 54 = 4 := by kernel_rfl
    have c1 : Try.prog.cellsOf 3 = 1 := by kernel_rfl
    have c2 : Try.prog.cellsOf 52 = 1 := by kernel_rfl
    have each : ∀ i, i < n → ∃ y : Option Addr × Nat × Nat × Ac, W.cell? (a.add (i * 4)) = some (.int .i64 y.2.2.2.kind) ∧ W.cell? ⟨(a.add (i * 4)).block, (a.add (i * 4)).off + 1, none⟩ = some (.slice y.1 y.2.1 y.2.2.1) ∧ W.cell? ⟨(a.add (i * 4)).block, (a.add (i * 4)).off + 2, none⟩ = some (.int .i64 y.2.2.2.a) ∧ W.cell? ⟨(a.add (i * 4)).block, (a.add (i * 4)).off + 3, none⟩ = some (.int .i64 y.2.2.2.b) ∧ RBc W y.1 y.2.1 y.2.2.2.parts := by
      intro i hi
      obtain ⟨cs, hc, ht⟩ := hx i (by omega)
      rw [c4] at hc
      obtain ⟨_, hlen, hcell⟩ := World.cells?_some hc
      obtain ⟨_, _, _, hfs⟩ := read_fields Try.underlying54 ht
      obtain ⟨n0, y0, z0, _, _⟩ := hfs 0 3 0 rfl
      obtain ⟨n1, y1, z1, _, _⟩ := hfs 1 52 1 rfl
      obtain ⟨n2, y2, z2, _, _⟩ := hfs 2 3 2 rfl
      obtain ⟨n3, y3, z3, _, _⟩ := hfs 3 3 3 rfl
      rw [c1] at z0 z2 z3
      rw [c2] at z1
      obtain ⟨kd, e0, _, _⟩ := DataW.trod_int Try.underlying3 z0
      obtain ⟨Ai, ni, ci, Li, e1, hr⟩ := read_rowsc z1
      obtain ⟨aa, e2, _, _⟩ := DataW.trod_int Try.underlying3 z2
      obtain ⟨bb, e3, _, _⟩ := DataW.trod_int Try.underlying3 z3
      match cs, hlen with
      | [x0, x1, x2, x3], _ =>
        simp at e0 e1 e2 e3
        subst e0 e1 e2 e3
        have q0 := hcell 0 (by omega)
        have q1 := hcell 1 (by omega)
        have q2 := hcell 2 (by omega)
        have q3 := hcell 3 (by omega)
        rw [add_at _ _ 1 (by omega)] at q1
        rw [add_at _ _ 2 (by omega)] at q2
        rw [add_at _ _ 3 (by omega)] at q3
        rw [show (a.add (i * 4)).add 0 = a.add (i * 4) from rfl] at q0
        exact ⟨(Ai, ni, ci, ⟨kd, Li, aa, bb⟩), by simpa using q0, by simpa using q1, by simpa using q2, by simpa using q3, hr⟩
    obtain ⟨y, hy⟩ := choose_lt each
    refine ⟨_, n, c, (List.range n).map fun i => (y i).2.2.2, rfl, by simp, by unfold maxLen at hm; omega, fun i hi => ?_⟩
    obtain ⟨q0, q1, q2, q3, q4⟩ := hy i hi
    exact ⟨a, (y i).1, (y i).2.1, (y i).2.2.1, (y i).2.2.2, rfl, q0, q1, q2, q3, q4, by simp [hi]⟩
end Go.Proofs.Ytodhcgidmdeifaa
