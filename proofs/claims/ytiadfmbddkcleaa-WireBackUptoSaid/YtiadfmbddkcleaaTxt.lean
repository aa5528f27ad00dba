/- Rows of texts that are read. No program in it. -/
import Derived.Test.YtiadfmbddkcleaaKit
namespace Go.Kit
open Go.RowKit Go.Proofs.YtiadfmbddkcleaaW.PrintWords
/-- Texts that are read: the slice at A of length n holds xs. -/
def RT (w : World) (A : Option Addr) (n : Nat) (xs : List ByteArray) : Prop := ReadsOf Value.string ByteArray.empty w A n xs
section
variable {w w1 : World} {A : Option Addr} {n : Nat} {xs : List ByteArray}
theorem RT.len (h : RT w A n xs) : xs.length = n := h.1
theorem RT.max (h : RT w A n xs) : n ≤ 9223372036854775807 := h.2.1
theorem RT.at_ (h : RT w A n xs) (i : Nat) (hi : i < n) : ∃ ad x, A = some ad ∧ w.cell? (ad.add i) = some (.string x) ∧ Hid (xs[i]? = some x) := by
  obtain ⟨ad, e, hc⟩ := ReadsOf.at_ h (i : Int) (by omega) (by omega)
  have hl := h.len
  refine ⟨ad, _, e, hc, ?_⟩
  show xs[i]? = _
  simp [rdOf, List.getD_eq_getElem?_getD, List.getElem?_eq_getElem (show i < xs.length by omega)]
theorem RT.below (h : RT w A n xs) (hb : Below w.heap.size w w1) : RT w1 A n xs := ReadsOf.below h hb
theorem RT.drewN (h : RT w A n xs) (k : Nat) : RT (w.drewN k) A n xs := h
theorem RT.one {ys : List ByteArray} (h : RT w A n xs) (k : RT w A n ys) : xs = ys := by
  have hl := h.len
  have hk := k.len
  apply List.ext_getElem (by omega)
  intro i h1 h2
  obtain ⟨ad, x, e, hc, hx⟩ := h.at_ i (by omega)
  obtain ⟨bd, y, e2, hc2, hy⟩ := k.at_ i (by omega)
  rw [e] at e2; cases e2
  rw [hc] at hc2; injection hc2 with hc2; injection hc2 with hc2
  have q1 := hx.out; have q2 := hy.out
  rw [List.getElem?_eq_getElem h1] at q1; rw [List.getElem?_eq_getElem h2] at q2
  injection q1 with q1; injection q2 with q2
  rw [q1, q2, hc2]
theorem RT.nil (w : World) : RT w none 0 [] := ⟨rfl, by omega, fun h => absurd h (by omega)⟩
end
def sameT (l m : List ByteArray) : Bool := decide (l = m)
theorem bs_inj {x y : ByteArray} (h : x.toList = y.toList) : x = y := by
  rw [Go.ByteArray.toList_eq, Go.ByteArray.toList_eq] at h
  exact ByteArray.ext (Array.ext' h)
theorem bs_diff {x y : ByteArray} (h : ¬ x = y) : (x.toList == y.toList) = false := by
  rw [beq_eq_false_iff_ne]
  exact fun e => h (bs_inj e)
theorem take_diff {l m : List ByteArray} {i : Nat} {x y : ByteArray} (hl : l[i]? = some x) (hm : m[i]? = some y) (e : ¬ x = y) : false = sameT l m := by
  refine (decide_eq_false ?_).symm
  rintro rfl
  rw [hl] at hm
  exact e (Option.some.inj hm)
theorem take_step {l m : List ByteArray} {i : Nat} {x y : ByteArray} (hl : l[i]? = some x) (hm : m[i]? = some y) (h : l.take i = m.take i) (e : x = y) : l.take (i + 1) = m.take (i + 1) := by
  rw [List.take_add_one, List.take_add_one, h, hl, hm, e]
/-- A row of texts of the call's own. -/
def OT (e : TypeId) (w : World) (base : Nat) (v : Value) (xs : List ByteArray) : Prop := w.ownsRow base e 1 v xs.length (encs Value.string xs)
section
variable {e : TypeId} {w w1 : World} {base : Nat} {v : Value} {xs : List ByteArray}
theorem OT.nil (e : TypeId) (w : World) (base : Nat) : OT e w base (.slice none 0 0) [] := own_nil w base e 1
theorem OT.below (h : OT e w base v xs) (hb : Below w.heap.size w w1) : OT e w1 base v xs := pw_own_below h hb
theorem OT.kept (h : OT e w base v xs) {row : Option Nat} (hg : w.grownBy w1 row) (hne : v.ownBlock = none ∨ v.ownBlock ≠ row) : OT e w1 base v xs := World.ownsRow.kept h hg hne
end
theorem OT.reads {e : TypeId} {w : World} {base : Nat} {v : Value} {xs : List ByteArray} (h : OT e w base v xs) : ∃ A c, v = .slice A xs.length c ∧ RT w A xs.length xs := own_reads_of h
theorem OT.less {e : TypeId} {w : World} {base b : Nat} {v : Value} {xs : List ByteArray} (h : OT e w base v xs) (hle : b ≤ base) : OT e w b v xs := own_less h hle
end Go.Kit
