/- What the bound on the bulk gives. -/
import Derived.Test.YtodhcgidmdeifaaRows
import Derived.Test.YtodhcgidmdeifaaOpenKt
namespace Go.Proofs.Ytodhcgidmdeifaa
open Go.ChangeShapes Go.WideShapes Go.RowKit Go.Kit Go.Deep Go.Proofs.YtodhcgidmdeifaaW.PrintWords
section
variable {H : Type}
theorem bulk_one (d : DataW H) : 1 ≤ Rows.uptoBulk d := by
  cases d with
  | lit l => cases l <;> simp [Rows.uptoBulk]
  | nil => simp [Rows.uptoBulk]
  | ptr d => simp [Rows.uptoBulk]
  | slice elems spare => simp [Rows.uptoBulk]
  | agg parts => simp [Rows.uptoBulk]
  | iface t d => simp [Rows.uptoBulk]
  | map entries => simp [Rows.uptoBulk]
  | held h => simp [Rows.uptoBulk]
theorem bulk_part {d : DataW H} {l : List (DataW H)} (h : d ∈ l) : Rows.uptoBulk d ≤ Rows.uptoBulkAll l := by
  induction l with
  | nil => cases h
  | cons x r ih =>
    simp only [Rows.uptoBulkAll]
    cases List.mem_cons.1 h with
    | inl e => subst e; omega
    | inr e => have := ih e; omega
theorem bulk_sum (D : Nat → DataW H) (g : Nat → Nat) : ∀ l : List Nat, (∀ i ∈ l, g i ≤ Rows.uptoBulk (D i)) → (l.map g).sum ≤ Rows.uptoBulkAll (l.map D)
  | [], _ => by simp
  | i :: l, h => by
    have h1 := h i List.mem_cons_self
    have h2 := bulk_sum D g l (fun j hj => h j (List.mem_cons_of_mem _ hj))
    simp only [List.map_cons, List.sum_cons, Rows.uptoBulkAll]
    omega
theorem bulk_slice (elems spare : List (DataW H)) : Rows.uptoBulkAll elems + 1 ≤ Rows.uptoBulk (.slice elems spare) := by
  simp only [Rows.uptoBulk]
  omega
theorem bulk_text (b : List UInt8) : Rows.uptoBulk (DataW.lit (H := H) (.string b)) = b.length + 1 := by simp [Rows.uptoBulk]
theorem bulk_agg {d : DataW H} {l : List (DataW H)} (h : d ∈ l) : Rows.uptoBulk d + 1 ≤ Rows.uptoBulk (.agg l) := by
  have := bulk_part h
  simp only [Rows.uptoBulk]
  omega
theorem bulk_ints (L : List (DataW H)) : L.length ≤ Rows.uptoBulkAll L := by
  induction L with
  | nil => simp
  | cons x r ih => have := bulk_one x; simp only [Rows.uptoBulkAll, List.length_cons]; omega
theorem bulk_lits (k : IntKind) (l : List Int) : l.length ≤ Rows.uptoBulkAll (lits (H := H) k l) := by
  have := bulk_ints (lits (H := H) k l)
  rwa [show (lits (H := H) k l).length = l.length by simp [lits]] at this
end
section
variable {H : Type} {enc : TypeId × Value → H} {P : Program} {W : World} {base : Nat} {r : Reach}
/-- Bytes, with their bulk. -/
theorem open_bytes_up {t e : TypeId} {v : Value} {d : DataW H} {ps : List MemPlace}
    (ht : P.underlying t = some (.slice e)) (he : P.underlying e = some (.int .u8)) (hc : P.cellsOf e = 1)
    (hval : Value.okWide P W r base t v) (h : DataW.Trod enc P W 0 (fun _ => true) true t v d ps) :
    ∃ A len cap xs, v = .slice A len cap ∧ RB W A len xs ∧ len ≤ cap ∧ cap ≤ Rows.uptoBulk d := by
  obtain ⟨A, len, cap, rfl⟩ := okWide_slice ht hval
  obtain ⟨fuel, hf⟩ := h
  rcases open_ints ht he hc hf with ⟨hcs, _⟩ | ⟨x, l, c, zs, hcs, _, hl, hm, hz, hxx, hcell, hwz⟩
  · simp [Value.cells] at hcs
    obtain ⟨rfl, rfl, rfl⟩ := hcs
    exact ⟨none, 0, 0, [], rfl, RB.nil W, by omega, by omega⟩
  · simp [Value.cells] at hcs
    obtain ⟨rfl, rfl, rfl⟩ := hcs
    simp only [if_true] at hz
    refine ⟨_, len, cap, zs.take len, rfl, ⟨⟨by rw [List.length_take]; omega, by unfold maxLen at hm; omega, fun _ => ⟨x, rfl, fun j hj => ?_⟩⟩, (byt_of_wf hwz).take len⟩, hl, ?_⟩
    · rw [hcell j (by omega)]
      simp [List.getD_eq_getElem?_getD, hj]
    · simp only [Prod.mk.injEq] at hxx
      rw [hxx.1]
      simp only [Rows.uptoBulk]
      have h1 := bulk_lits (H := H) .u8 (zs.take len)
      have h2 := bulk_lits (H := H) .u8 (zs.drop len)
      rw [List.length_take] at h1
      rw [List.length_drop] at h2
      omega
end
end Go.Proofs.Ytodhcgidmdeifaa
