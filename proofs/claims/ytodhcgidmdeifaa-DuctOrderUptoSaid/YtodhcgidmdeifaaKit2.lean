/- More words on memory: arrays of whole numbers compared. No program in it. -/
import Derived.Test.YtodhcgidmdeifaaKit
import Derived.ChangeKeysEq
import Derived.Laws.StructEq
namespace Go.Kit
open Go.RowKit Go.Proofs.YtodhcgidmdeifaaW.PrintWords
section
variable {P : Program} {w : World}
theorem run_part_int {e : TypeId} {k : IntKind} (he : P.underlying e = some (.int k)) (xs : List Int) (i : Nat) (h : i < xs.length) :
    (part e (nums k xs).toArray i).run P w = .ok (.int k (xs.getD i 0)) w := by
  have hx : (nums k xs).toArray[i]? = some (.int k (xs.getD i 0)) := by
    simp [nums, List.getD_eq_getElem?_getD, List.getElem?_eq_getElem h]
  unfold part
  simp only [isAgg, Sem.run_bind, run_underlying he, Result.andThen_ok]
  simp only [Sem.run_pure, Result.andThen_ok, hx]
  rfl
theorem run_eqItems_nums (d : Nat) {e : TypeId} {k : IntKind} (he : P.underlying e = some (.int k)) (xs ys : List Int) : ∀ is : List Nat, (∀ i ∈ is, i < xs.length ∧ i < ys.length) →
    (Op.eqItems (d + 1) e 1 (nums k xs).toArray (nums k ys).toArray is).run P w = .ok (is.all fun i => xs.getD i 0 == ys.getD i 0) w
  | [], _ => by simp [Op.eqItems]
  | i :: is, h => by
    have hi := h i (by simp)
    have ih := run_eqItems_nums d he xs ys is (fun j hj => h j (by simp [hj]))
    simp only [Op.eqItems, Sem.run_bind, Nat.mul_one, run_part_int he xs i hi.1, run_part_int he ys i hi.2, Result.andThen_ok, run_equalIn_int w d e k k _ _ he]
    by_cases hq : xs.getD i 0 = ys.getD i 0
    · have hb : (xs.getD i 0 == ys.getD i 0) = true := beq_iff_eq.2 hq
      simp only [hb, List.all_cons, Bool.true_and]
      simpa using ih
    · have hb : (xs.getD i 0 == ys.getD i 0) = false := beq_eq_false_iff_ne.2 hq
      simp only [hb, List.all_cons, Bool.false_and]
      simp
theorem run_equalIn_nums (d : Nat) {t e : TypeId} {k : IntKind} {n : Nat} {i : TypeInfo} (xs ys : List Int) (hu : P.underlying t = some (.array n e)) (hi : P.info? e = some i) (hsz : i.size = 1) (he : P.underlying e = some (.int k))
    (hx : xs.length = n) (hy : ys.length = n) : (Op.equalIn (d + 2) t (.agg (nums k xs).toArray) (.agg (nums k ys).toArray)).run P w = .ok (decide (xs = ys)) w := by
  have hc : P.cellsOf e = 1 := by simp [Program.cellsOf, hi, hsz]
  rw [run_equalIn_array w (d + 1) _ _ hu hi, hc, run_eqItems_nums d he xs ys _ (fun j hj => by have := List.mem_range.1 hj; omega)]
  congr 1
  rw [Bool.eq_iff_iff, List.all_eq_true, decide_eq_true_iff]
  constructor
  · intro h
    apply List.ext_getElem (by omega)
    intro j h1 h2
    have := h j (List.mem_range.2 (by omega))
    simpa [List.getD_eq_getElem?_getD, List.getElem?_eq_getElem h1, List.getElem?_eq_getElem h2] using this
  · rintro rfl j _
    simp
end
/-- Bytes of the call's own, with their capacity. -/
theorem OB.reads' {e : TypeId} {w : World} {base : Nat} {v : Value} {xs : List Int} (h : OB e w base v xs) : ∃ A c, v = .slice A xs.length c ∧ RB w A xs.length xs ∧ xs.length ≤ c := by
  obtain ⟨A, c, hv, hr⟩ := h.reads
  refine ⟨A, c, hv, hr, ?_⟩
  rcases h.own.2 with ⟨h1, h2⟩ | ⟨g, cap, cur, h1, _, _, h2, _⟩
  · omega
  · rw [hv] at h1
    injection h1 with _ _ h3
    omega
end Go.Kit
