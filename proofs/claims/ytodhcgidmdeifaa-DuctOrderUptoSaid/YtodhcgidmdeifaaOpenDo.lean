/- A script opened, with its bulk. -/
import Derived.Test.YtodhcgidmdeifaaDuK
import Derived.Test.YtodhcgidmdeifaaBulk
import Derived.Test.YtodhcgidmdeifaaOpenDu
namespace Go.Proofs.Ytodhcgidmdeifaa
open Go.ChangeShapes Go.WideShapes Go.RowKit Go.Kit Go.Deep Go.Proofs.YtodhcgidmdeifaaW.PrintWords
theorem bulk_row {H : Type} (A : Option Addr) (l : Nat) (zs : List Int) (h : A = none → zs.length = 0) : (zs.take l).length + 1 ≤ Rows.uptoBulk (intRow (H := H) .u8 A l zs) := by
  cases A with
  | none => have := h rfl; have := bulk_one (intRow (H := H) .u8 none l zs); rw [List.length_take]; omega
  | some a =>
    exact Nat.le_trans (Nat.add_le_add_right (bulk_lits _ _) 1) (bulk_slice _ _)
theorem read_rowsc_bulk {H : Type} {enc : TypeId × Value → H} {W : World} {n : Nat} {cs : List Value} {y : DataW H × List MemPlace}
    (h : DataW.trod enc Try.prog W 0 (fun _ => true) true n 52 cs = some y) : ∃ A len cap L, cs = [.slice A len cap] ∧ RBc W A len L ∧ len ≤ cap ∧ L.flatten.length + L.length ≤ Rows.uptoBulk y.1 := by
  rcases open_int_rows Try.underlying52 Try.underlying22 Try.underlying5 (by kernel_rfl) (by kernel_rfl) h with ⟨h0, _⟩ | ⟨a, len, cap, A, L, C, Z, rfl, _, hl, hm, rfl, hx⟩
  · exact ⟨none, 0, 0, [], h0, RBc.nil W, by omega, by simp⟩
  · refine ⟨_, len, cap, (List.range len).map fun i => (Z i).take (L i), rfl, ⟨by simp, by unfold maxLen at hm; omega, fun i hi => ?_⟩, hl, ?_⟩
    · obtain ⟨h1, h2, h3, h4, h5, h6, h7⟩ := hx i (by omega)
      have hz : ((Z i).take (L i)).length = L i := by rw [List.length_take]; omega
      refine ⟨a, A i, C i, (Z i).take (L i), rfl, by rw [hz]; exact h1, by simp [hi], ?_, by rw [hz]; exact h2⟩
      rw [hz]
      refine ⟨⟨hz, by unfold maxLen at h3; omega, fun hp => ?_⟩, (byt_of_wf h5).take _⟩
      cases hA : A i with
      | none => have := h6 hA; omega
      | some a' =>
        obtain ⟨_, hc⟩ := h7 a' hA
        refine ⟨a', rfl, fun j hj => ?_⟩
        rw [hc j (by omega)]
        simp [List.getD_eq_getElem?_getD, hj]
    · refine Nat.le_trans ?_ (Nat.le_trans (Nat.le_add_right _ 1) (bulk_slice _ _))
      have hs : ∀ l : List (List Int), l.flatten.length + l.length = (l.map fun x => x.length + 1).sum := fun l => by
        induction l with
        | nil => rfl
        | cons x r ih => simp only [List.flatten_cons, List.length_append, List.length_cons, List.map_cons, List.sum_cons]; omega
      rw [hs, List.map_map]
      exact bulk_sum (H := H) _ _ (List.range len) (fun i hi => bulk_row (A i) (L i) (Z i) (fun e => by
        obtain ⟨_, _, _, h4, _, h6, _⟩ := hx i (by have := List.mem_range.1 hi; omega)
        rw [h4]; exact h6 e))
theorem open_acts_up {H : Type} {enc : TypeId × Value → H} {W : World} {base : Nat} {r : Reach} {v : Value} {d : DataW H} {ps : List MemPlace}
    (hv : Value.okWide Try.prog W r base 51 v) (h : DataW.Trod enc Try.prog W 0 (fun _ => true) true 51 v d ps) : ∃ A n c L, v = .slice A n c ∧ RAc W A n L ∧ aws L ≤ Rows.uptoBulk d := by
  obtain ⟨A, n, c, rfl⟩ := okWide_slice Try.underlying51 hv
  obtain ⟨fuel, hf⟩ := h
  rcases open_slice Try.underlying51 hf with ⟨h0, h1⟩ | ⟨a, len, cap, m, k, D, Pl, hcs, _, hl, hm, hmm, hxx, hx⟩
  · simp [Value.cells] at h0
    obtain ⟨rfl, rfl, rfl⟩ := h0
    exact ⟨none, 0, 0, [], rfl, ⟨rfl, by omega, fun i hi => absurd hi (by omega)⟩, by simp [aws]⟩
  · simp [Value.cells] at hcs
    obtain ⟨rfl, rfl, rfl⟩ := hcs
    simp only [if_true] at hmm
    have c4 : Try.prog.cellsOf 54 = 4 := by kernel_rfl
    have c1 : Try.prog.cellsOf 3 = 1 := by kernel_rfl
    have c2 : Try.prog.cellsOf 52 = 1 := by kernel_rfl
    have each : ∀ i, i < n → ∃ y : Option Addr × Nat × Nat × Ac, W.cell? (a.add (i * 4)) = some (.int .i64 y.2.2.2.kind) ∧ W.cell? ⟨(a.add (i * 4)).block, (a.add (i * 4)).off + 1, none⟩ = some (.slice y.1 y.2.1 y.2.2.1) ∧ W.cell? ⟨(a.add (i * 4)).block, (a.add (i * 4)).off + 2, none⟩ = some (.int .i64 y.2.2.2.a) ∧ W.cell? ⟨(a.add (i * 4)).block, (a.add (i * 4)).off + 3, none⟩ = some (.int .i64 y.2.2.2.b) ∧ RBc W y.1 y.2.1 y.2.2.2.parts ∧ y.2.1 ≤ y.2.2.1 ∧ aw y.2.2.2 ≤ Rows.uptoBulk (D i) := by
      intro i hi
      obtain ⟨cs, hc, ht⟩ := hx i (by omega)
      rw [c4] at hc
      obtain ⟨_, hlen, hcell⟩ := World.cells?_some hc
      obtain ⟨_, parts, hagg, hfs⟩ := read_fields Try.underlying54 ht
      obtain ⟨n0, y0, z0, _, _⟩ := hfs 0 3 0 rfl
      obtain ⟨n1, y1, z1, pt, _⟩ := hfs 1 52 1 rfl
      obtain ⟨n2, y2, z2, _, _⟩ := hfs 2 3 2 rfl
      obtain ⟨n3, y3, z3, _, _⟩ := hfs 3 3 3 rfl
      rw [c1] at z0 z2 z3
      rw [c2] at z1
      obtain ⟨kd, e0, _, _⟩ := DataW.trod_int Try.underlying3 z0
      obtain ⟨Ai, ni, ci, Li, e1, hr, hcap, hbk⟩ := read_rowsc_bulk z1
      obtain ⟨aa, e2, _, _⟩ := DataW.trod_int Try.underlying3 z2
      obtain ⟨bb, e3, _, _⟩ := DataW.trod_int Try.underlying3 z3
      have hag := bulk_agg (List.mem_of_getElem? pt)
      match cs, hlen with
      | [x0, x1, x2, x3], _ =>
        simp at e0 e1 e2 e3
        subst e0 e1 e2 e3
        have q0 := hcell 0 (by omega)
        have q1 := hcell 1 (by omega)
        have q2 := hcell 2 (by omega)
        have q3 := hcell 3 (by omega)
        rw [add_at _ _ 1 (by omega)] at q1
        rw [add_at _ _ 2 (by omega)] at q2
        rw [add_at _ _ 3 (by omega)] at q3
        rw [show (a.add (i * 4)).add 0 = a.add (i * 4) from rfl] at q0
        refine ⟨(Ai, ni, ci, ⟨kd, Li, aa, bb⟩), by simpa using q0, by simpa using q1, by simpa using q2, by simpa using q3, hr, hcap, ?_⟩
        have hd : D i = .agg parts := hagg
        rw [hd]
        show Li.flatten.length + Li.length ≤ _
        omega
    obtain ⟨y, hy⟩ := choose_lt each
    refine ⟨_, n, c, (List.range n).map fun i => (y i).2.2.2, rfl, ⟨by simp, by unfold maxLen at hm; omega, fun i hi => ?_⟩, ?_⟩
    · obtain ⟨q0, q1, q2, q3, q4, q5, _⟩ := hy i hi
      exact ⟨a, (y i).1, (y i).2.1, (y i).2.2.1, (y i).2.2.2, rfl, q0, q1, q2, q3, q4, q5, by simp [hi]⟩
    · simp only [Prod.mk.injEq] at hxx
      rw [hxx.1]
      refine Nat.le_trans ?_ (Nat.le_trans (Nat.le_add_right _ 1) (bulk_slice _ _))
      unfold aws
      rw [List.map_map]
      exact bulk_sum D _ _ (fun i hi => (hy i (List.mem_range.1 hi)).2.2.2.2.2.2)
end Go.Proofs.Ytodhcgidmdeifaa
