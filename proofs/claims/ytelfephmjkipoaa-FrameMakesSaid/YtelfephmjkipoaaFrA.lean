/- Frames as values and in memory; no walk in it. -/
import Derived.Test.YtelfephmjkipoaaStrs
import Derived.Test.YtelfephmjkipoaaKit2
import Derived.Test.YtelfephmjkipoaaWGuard
import Derived.Deep.MidRow
namespace Go.Kit
open Go.RowKit Go.Proofs.YtelfephmjkipoaaW.PrintWords
structure Fr where
  k : Int
  id : Int
  v : Int
  s : Int
  tool : List Int
  st : Int
  mo : Int
  fu : Int
  di : Int
  A : Option Addr
  n : Nat
  c : Nat
  args : List ByteArray
  body : ByteArray
namespace Fr
/-- What it is made of fits in a machine. -/
structure small (f : Fr) : Prop where
  args : f.n * 16 ≤ 140737488351232
  body : f.body.size ≤ 140737488351232
  each : ∀ s ∈ f.args, s.size ≤ 140737488351232
def lim (f : Fr) : List Value := [.int .i64 f.mo, .int .i64 f.fu, .int .i64 f.di]
def cells (f : Fr) : List Value := [.int .i64 f.k, .int .u64 f.id, .int .i64 f.v, .int .i64 f.s] ++ (nums .u8 f.tool ++ ([.int .i64 f.st] ++ (f.lim ++ [.slice f.A f.n f.c, .string f.body])))
def arr (f : Fr) : Array Value := f.cells.toArray
def val (f : Fr) : Value := .agg f.arr
/-- It fits: a whole tool, and its texts can be read. -/
structure ok (w : World) (f : Fr) : Prop where
  tool : f.tool.length = 32
  args : RT w f.A f.n f.args
theorem ok.below {w w1 : World} {f : Fr} (h : f.ok w) (hb : Below w.heap.size w w1) : f.ok w1 := ⟨h.tool, h.args.below hb⟩
def same (f g : Fr) : Bool := f.k == g.k && (f.id == g.id && (f.v == g.v && (f.s == g.s && (decide (f.tool = g.tool) && (f.st == g.st && ((f.mo == g.mo && (f.fu == g.fu && f.di == g.di)) && (sameT f.args g.args && (f.body.toList == g.body.toList))))))))
/-- In a block of its own. -/
structure at_ (t : TypeId) (w : World) (g : Nat) (f : Fr) : Prop where
  blk : w.heap[g]? = some (.cells f.arr t (0, 0))
  tool : f.tool.length = 32
section
variable {t : TypeId} {w w1 : World} {g : Nat} {f : Fr}
theorem at_.below (h : f.at_ t w g) (hb : Below w.heap.size w w1) : f.at_ t w1 g := by
  refine ⟨?_, h.tool⟩
  have hlt : g < w.heap.size := by
    rcases Nat.lt_or_ge g w.heap.size with h1 | h1
    · exact h1
    · have := h.blk; rw [Array.getElem?_eq_none h1] at this; cases this
  exact (hb.block g hlt).trans h.blk
theorem at_.cell (h : f.at_ t w g) (j : Nat) (v : Value) (hj : f.cells[j]? = some v) : w.cell? ⟨g, j, none⟩ = some v := by
  have := cell_of_row w g j f.cells.toArray t (0, 0) h.blk
  rw [this]; simpa using hj
theorem at_.range (h : f.at_ t w g) (o : Nat) (cs : List Value) (hc : ∀ j v, cs[j]? = some v → f.cells[o + j]? = some v) : w.rangeAt g o cs := fun j v hj => h.cell _ _ (hc j v hj)
theorem at_.c0 (h : f.at_ t w g) : w.cell? ⟨g, 0, none⟩ = some (.int .i64 f.k) := h.cell 0 _ rfl
theorem at_.c1 (h : f.at_ t w g) : w.cell? ⟨g, 1, none⟩ = some (.int .u64 f.id) := h.cell 1 _ rfl
theorem at_.c2 (h : f.at_ t w g) : w.cell? ⟨g, 2, none⟩ = some (.int .i64 f.v) := h.cell 2 _ rfl
theorem at_.c3 (h : f.at_ t w g) : w.cell? ⟨g, 3, none⟩ = some (.int .i64 f.s) := h.cell 3 _ rfl
theorem tail_at (f : Fr) (h : f.tool.length = 32) (j : Nat) : f.cells[36 + j]? = ([.int .i64 f.st] ++ (f.lim ++ [.slice f.A f.n f.c, .string f.body]))[j]? := by
  unfold cells
  have h1 : (nums .u8 f.tool).length = 32 := by simp [nums, h]
  rw [List.getElem?_append_right (by simp; omega), List.getElem?_append_right (by rw [h1]; simp; omega), h1]
  congr 1
  simp; omega
theorem at_.c36 (h : f.at_ t w g) : w.cell? ⟨g, 36, none⟩ = some (.int .i64 f.st) := h.cell 36 _ (by rw [tail_at f h.tool 0]; rfl)
theorem at_.c40 (h : f.at_ t w g) : w.cell? ⟨g, 40, none⟩ = some (.slice f.A f.n f.c) := h.cell 40 _ (by rw [tail_at f h.tool 4]; rfl)
theorem at_.c41 (h : f.at_ t w g) : w.cell? ⟨g, 41, none⟩ = some (.string f.body) := h.cell 41 _ (by rw [tail_at f h.tool 5]; rfl)
theorem at_.r4 (h : f.at_ t w g) : w.rangeAt g 4 (nums .u8 f.tool) := h.range 4 _ (fun j v hj => by
  have hj2 : j < (nums .u8 f.tool).length := by
    rcases Nat.lt_or_ge j (nums .u8 f.tool).length with h1 | h1
    · exact h1
    · rw [List.getElem?_eq_none h1] at hj; cases hj
  unfold cells
  rw [List.getElem?_append_right (by simp)]
  simp only [List.length_cons, List.length_nil, Nat.zero_add, Nat.reduceAdd, Nat.add_sub_cancel_left]
  rw [List.getElem?_append_left hj2]; exact hj)
theorem at_.r37 (h : f.at_ t w g) : w.rangeAt g 37 f.lim := h.range 37 _ (fun j v hj => by
  have hj2 : j < f.lim.length := by
    rcases Nat.lt_or_ge j f.lim.length with h1 | h1
    · exact h1
    · rw [List.getElem?_eq_none h1] at hj; cases hj
  rw [show 37 + j = 36 + (j + 1) from by omega, tail_at f h.tool]
  rw [List.getElem?_append_right (by simp)]
  simp only [List.length_cons, List.length_nil, Nat.zero_add, Nat.add_sub_cancel]
  rw [List.getElem?_append_left hj2]; exact hj)
theorem arr_size (f : Fr) (h : f.tool.length = 32) : f.arr.size = 42 := by simp [arr, cells, nums, lim, h]
end
end Fr
end Go.Kit
