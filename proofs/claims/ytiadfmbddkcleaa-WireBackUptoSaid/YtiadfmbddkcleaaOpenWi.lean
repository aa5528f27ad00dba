/- A row of things to be laid down, opened. -/
import Derived.Test.YtiadfmbddkcleaaBulkT
import Derived.Test.YtiadfmbddkcleaaProg
namespace Go.Proofs.Ytiadfmbddkcleaa
open Go.ChangeShapes Go.WideShapes Go.RowKit Go.Kit Go.Deep Go.Proofs.YtiadfmbddkcleaaW.PrintWords
instance : Inhabited Pu := ⟨⟨0, 0, 0, []⟩⟩
theorem add_at (a : Addr) (n j : Nat) (hj : 0 < j) : (a.add n).add j = ⟨(a.add n).block, (a.add n).off + j, none⟩ := by
  unfold Addr.add
  have h : j ≠ 0 := by omega
  by_cases h1 : n = 0 <;> simp [h1, h]
theorem read_put {H : Type} {enc : TypeId × Value → H} {W : World} {n : Nat} {cs : List Value} {y : DataW H × List MemPlace} (ht : DataW.trod enc Try.prog W 0 (fun _ => true) true n 27 cs = some y) :
    ∃ B m c p, cs = [.int .i64 p.kind, .int .u64 p.u, .int .i64 p.i, .slice B m c] ∧ RT W B m p.texts ∧ p.ok ∧ pw p ≤ Rows.uptoBulk y.1 := by
  have c4 : Try.prog.cellsOf 27 = 4 := by kernel_rfl
  have c1 : Try.prog.cellsOf 3 = 1 := by kernel_rfl
  have c2 : Try.prog.cellsOf 24 = 1 := by kernel_rfl
  have c3 : Try.prog.cellsOf 2 = 1 := by kernel_rfl
  have c5 : Try.prog.cellsOf 25 = 1 := by kernel_rfl
  have c6 : Try.prog.cellsOf 9 = 1 := by kernel_rfl
  obtain ⟨hlen, parts, hagg, hfs⟩ := read_fields Try.underlying27 ht
  rw [c4] at hlen
  obtain ⟨n0, y0, z0, _, _⟩ := hfs 0 3 0 rfl
  obtain ⟨n1, y1, z1, _, _⟩ := hfs 1 24 1 rfl
  obtain ⟨n2, y2, z2, _, _⟩ := hfs 2 2 2 rfl
  obtain ⟨n3, y3, z3, pt, _⟩ := hfs 3 25 3 rfl
  rw [c1] at z0
  rw [c2] at z1
  rw [c3] at z2
  rw [c5] at z3
  obtain ⟨kd, e0, _, _⟩ := DataW.trod_int Try.underlying3 z0
  obtain ⟨uu, e1, _, w1⟩ := DataW.trod_int Try.underlying24 z1
  obtain ⟨ii, e2, _, w2⟩ := DataW.trod_int Try.underlying2 z2
  obtain ⟨B, m, c, xs, e3, hr, hb, _⟩ := read_texts_bulk Try.underlying25 Try.underlying9 c6 z3
  have b1 := bounds_u64 w1
  have b2 := bounds_i64 w2
  have hbk := bulk_agg (List.mem_of_getElem? pt)
  match cs, hlen with
  | [x0, x1, x2, x3], _ =>
    simp at e0 e1 e2 e3
    subst e0 e1 e2 e3
    refine ⟨B, m, c, ⟨kd, uu, ii, xs⟩, rfl, hr, ⟨b1.1, by dsimp only; omega, b2.1, by dsimp only; omega⟩, ?_⟩
    rw [hagg]
    unfold pw
    show tw xs + 1 ≤ _
    omega
theorem open_puts {H : Type} {enc : TypeId × Value → H} {W : World} {base : Nat} {r : Reach} {v : Value} {d : DataW H} {ps : List MemPlace}
    (hv : Value.okWide Try.prog W r base 22 v) (h : DataW.Trod enc Try.prog W 0 (fun _ => true) true 22 v d ps) : ∃ A n c L, v = .slice A n c ∧ RP W A n L ∧ pws L ≤ Rows.uptoBulk d := by
  obtain ⟨A, n, c, rfl⟩ := okWide_slice Try.underlying22 hv
  obtain ⟨fuel, hf⟩ := h
  rcases open_slice Try.underlying22 hf with ⟨h0, h1⟩ | ⟨a, len, cap, m, k, D, Pl, hcs, _, hl, hm, hmm, hxx, hx⟩
  · simp [Value.cells] at h0
    obtain ⟨rfl, rfl, rfl⟩ := h0
    exact ⟨none, 0, 0, [], rfl, ⟨rfl, by omega, fun i hi => absurd hi (by omega)⟩, by simp [pws]⟩
  · simp [Value.cells] at hcs
    obtain ⟨rfl, rfl, rfl⟩ := hcs
    simp only [if_true] at hmm
    have c4 : Try.prog.cellsOf 27 = 4 := by kernel_rfl
    have each : ∀ i, i < n → ∃ y : Option Addr × Nat × Nat × Pu, W.cell? (a.add (i * 4)) = some (.int .i64 y.2.2.2.kind) ∧ W.cell? ⟨(a.add (i * 4)).block, (a.add (i * 4)).off + 1, none⟩ = some (.int .u64 y.2.2.2.u) ∧ W.cell? ⟨(a.add (i * 4)).block, (a.add (i * 4)).off + 2, none⟩ = some (.int .i64 y.2.2.2.i) ∧ W.cell? ⟨(a.add (i * 4)).block, (a.add (i * 4)).off + 3, none⟩ = some (.slice y.1 y.2.1 y.2.2.1) ∧ RT W y.1 y.2.1 y.2.2.2.texts ∧ y.2.2.2.ok ∧ pw y.2.2.2 ≤ Rows.uptoBulk (D i) := by
      intro i hi
      obtain ⟨cs, hc, ht⟩ := hx i (by omega)
      rw [c4] at hc
      obtain ⟨_, _, hcell⟩ := World.cells?_some hc
      obtain ⟨B, m, c, p, rfl, hr, hok, hb⟩ := read_put ht
      have q0 := hcell 0 (by omega)
      have q1 := hcell 1 (by omega)
      have q2 := hcell 2 (by omega)
      have q3 := hcell 3 (by omega)
      rw [add_at _ _ 1 (by omega)] at q1
      rw [add_at _ _ 2 (by omega)] at q2
      rw [add_at _ _ 3 (by omega)] at q3
      rw [show (a.add (i * 4)).add 0 = a.add (i * 4) from rfl] at q0
      exact ⟨(B, m, c, p), by simpa using q0, by simpa using q1, by simpa using q2, by simpa using q3, hr, hok, hb⟩
    obtain ⟨y, hy⟩ := choose_lt each
    refine ⟨_, n, c, (List.range n).map fun i => (y i).2.2.2, rfl, ⟨by simp, by unfold maxLen at hm; omega, fun i hi => ?_⟩, ?_⟩
    · obtain ⟨q0, q1, q2, q3, q4, q5, _⟩ := hy i hi
      exact ⟨a, (y i).1, (y i).2.1, (y i).2.2.1, (y i).2.2.2, rfl, q0, q1, q2, q3, q4, q5, by simp [hi]⟩
    · simp only [Prod.mk.injEq] at hxx
      rw [hxx.1]
      refine Nat.le_trans ?_ (Nat.le_trans (Nat.le_add_right _ 1) (bulk_slice _ _))
      unfold pws
      rw [List.map_map]
      exact bulk_sum D _ _ (fun i hi => (hy i (List.mem_range.1 hi)).2.2.2.2.2.2)
theorem open_put {H : Type} {enc : TypeId × Value → H} {W : World} {base : Nat} {r : Reach} {v : Value} {d : DataW H} {ps : List MemPlace}
    (hv : Value.okWide Try.prog W r base 27 v) (h : DataW.Trod enc Try.prog W 0 (fun _ => true) true 27 v d ps) : ∃ B m c p, v = .agg #[.int .i64 p.kind, .int .u64 p.u, .int .i64 p.i, .slice B m c] ∧ RT W B m p.texts ∧ p.ok ∧ pw p ≤ Rows.uptoBulk d := by
  obtain ⟨cs, rfl, hsz⟩ := okWide_struct Try.underlying27 hv
  obtain ⟨fuel, hq⟩ := h
  obtain ⟨B, m, c, p, hc, hr, hok, hb⟩ := read_put hq
  refine ⟨B, m, c, p, ?_, hr, hok, hb⟩
  have hc2 : cs.toList = [.int .i64 p.kind, .int .u64 p.u, .int .i64 p.i, .slice B m c] := hc
  have : cs = #[.int .i64 p.kind, .int .u64 p.u, .int .i64 p.i, .slice B m c] := Array.ext' hc2
  rw [this]
end Go.Proofs.Ytiadfmbddkcleaa
