/- Words on memory that every text of this family uses: bytes that are read, lists of bytes, words of 32 bits. No program in it. -/
import Derived.Test.YtodhcgidmdeifaaWWords
import Derived.WalkKit
import Derived.Lib.Hide
import Derived.Laws.BitsAllLaws
import Derived.Deep.WholeRow
import Derived.Deep.CutBlock
import Derived.Deep.Cut
import Derived.Deep.LoopGhost
import Derived.Laws.CopyOwn
import Derived.Lib.SlBytesConst
namespace Go.Kit
open Go.RowKit Go.Proofs.YtodhcgidmdeifaaW.PrintWords

theorem u8_xor_range {x m : Int} (h0 : 0 ≤ x) (h1 : x < 256) (m0 : 0 ≤ m) (m1 : m < 256) : 0 ≤ bits .xor .u8 x m ∧ bits .xor .u8 x m < 256 := by
  rw [u8_xor x m h0 h1 m0 m1]
  have : x.toNat ^^^ m.toNat < 2 ^ 8 := Nat.xor_lt_two_pow (by omega) (by omega)
  omega
/-- A list of bytes. -/
def Byt (xs : List Int) : Prop := ∀ x ∈ xs, 0 ≤ x ∧ x < 256
theorem Byt.get {xs : List Int} (h : Byt xs) (j : Nat) : 0 ≤ xs.getD j 0 ∧ xs.getD j 0 < 256 := by
  rw [List.getD_eq_getElem?_getD]
  cases hx : xs[j]? with
  | none => simp
  | some x => simpa using h x (List.mem_of_getElem? hx)
theorem Byt.nil : Byt [] := fun x h => by simp at h
theorem Byt.append {xs ys : List Int} (h : Byt xs) (k : Byt ys) : Byt (xs ++ ys) := fun x hx => (List.mem_append.1 hx).elim (h x) (k x)
theorem Byt.take {xs : List Int} (h : Byt xs) (n : Nat) : Byt (xs.take n) := fun x hx => h x (List.mem_of_mem_take hx)
theorem Byt.drop {xs : List Int} (h : Byt xs) (n : Nat) : Byt (xs.drop n) := fun x hx => h x (List.mem_of_mem_drop hx)
theorem Byt.one {x : Int} (h0 : 0 ≤ x) (h1 : x < 256) : Byt [x] := fun y hy => by simp at hy; subst hy; exact ⟨h0, h1⟩
theorem Byt.set {xs : List Int} (h : Byt xs) (j : Nat) {x : Int} (h0 : 0 ≤ x) (h1 : x < 256) : Byt (xs.set j x) := fun y hy => by
  rcases List.mem_or_eq_of_mem_set hy with h2 | h2
  · exact h y h2
  · subst h2; exact ⟨h0, h1⟩

/-- Bytes that are read: the slice at A of length n holds xs. -/
structure RB (w : World) (A : Option Addr) (n : Nat) (xs : List Int) : Prop where
  rd : ReadsInt w .u8 A n xs
  byt : Byt xs
theorem RB.len {w : World} {A : Option Addr} {n : Nat} {xs : List Int} (h : RB w A n xs) : xs.length = n := h.rd.1
theorem RB.max {w : World} {A : Option Addr} {n : Nat} {xs : List Int} (h : RB w A n xs) : n ≤ 9223372036854775807 := h.rd.2.1
theorem RB.at_ {w : World} {A : Option Addr} {n : Nat} {xs : List Int} (h : RB w A n xs) (i : Nat) (hi : i < n) :
    ∃ ad x, A = some ad ∧ w.cell? (ad.add i) = some (.int .u8 x) ∧ 0 ≤ x ∧ x < 256 ∧ Hid (xs[i]? = some x) := by
  obtain ⟨ad, e, hc⟩ := h.rd.2.2 (by omega)
  refine ⟨ad, _, e, hc i hi, (h.byt.get i).1, (h.byt.get i).2, ?_⟩
  have hl : i < xs.length := by have := h.len; omega
  show xs[i]? = _
  rw [List.getD_eq_getElem?_getD, List.getElem?_eq_getElem hl]; rfl
theorem RB.below {w w1 : World} {A : Option Addr} {n : Nat} {xs : List Int} (h : RB w A n xs) (hb : Below w.heap.size w w1) : RB w1 A n xs := ⟨h.rd.below hb, h.byt⟩
theorem RB.alloc {w : World} {A : Option Addr} {n : Nat} {xs : List Int} (h : RB w A n xs) (o : Obj) : RB (w.alloc o) A n xs := h.below (below_alloc (Below.refl _ _) o)
theorem RB.drew {w : World} {A : Option Addr} {n : Nat} {xs : List Int} (h : RB w A n xs) : RB w.drew A n xs := ⟨h.rd, h.byt⟩
theorem RB.drewN {w : World} {A : Option Addr} {n : Nat} {xs : List Int} (h : RB w A n xs) (k : Nat) : RB (w.drewN k) A n xs := ⟨h.rd, h.byt⟩
theorem RB.nil (w : World) : RB w none 0 [] := ⟨⟨rfl, by omega, fun h => absurd h (by omega)⟩, Byt.nil⟩

/-- Bytes that lie in a block that was just laid. -/
theorem RB.lit (w : World) (xs : List Int) (hx : Byt xs) (hl : xs.length ≤ 9223372036854775807) (e : TypeId) (fr : Nat × Nat) :
    RB (w.alloc (.cells (nums .u8 xs).toArray e fr)) (some ⟨w.heap.size, 0, none⟩) xs.length xs := by
  refine ⟨⟨rfl, hl, fun _ => ⟨_, rfl, fun j hj => ?_⟩⟩, hx⟩
  rw [add_plain, cell_of_row _ _ j (nums .u8 xs).toArray e fr (heap_alloc_new w _)]
  simp [nums, List.getElem?_eq_getElem hj, List.getD_eq_getElem?_getD]
/-- A list of byte slices that is read. -/
structure RBs (w : World) (A : Option Addr) (n : Nat) (L : List (List Int)) : Prop where
  len : L.length = n
  max : n ≤ 9223372036854775807
  at0 : ∀ i, i < n → ∃ ad Ai ci xs, A = some ad ∧ w.cell? (ad.add i) = some (.slice Ai xs.length ci) ∧ L[i]? = some xs ∧ RB w Ai xs.length xs
theorem RBs.at_ {w : World} {A : Option Addr} {n : Nat} {L : List (List Int)} (h : RBs w A n L) (i : Nat) (hi : i < n) :
    ∃ ad Ai ni ci xs, A = some ad ∧ w.cell? (ad.add i) = some (.slice Ai ni ci) ∧ RB w Ai ni xs ∧ Hid (L[i]? = some xs) := by
  obtain ⟨ad, Ai, ci, xs, e, hc, hx, hr⟩ := h.at0 i hi
  exact ⟨ad, Ai, xs.length, ci, xs, e, hc, hr, hx⟩
theorem RBs.below {w w1 : World} {A : Option Addr} {n : Nat} {L : List (List Int)} (h : RBs w A n L) (hb : Below w.heap.size w w1) : RBs w1 A n L :=
  ⟨h.len, h.max, fun i hi => by
    obtain ⟨ad, Ai, ci, xs, e, hc, hx, hr⟩ := h.at0 i hi
    exact ⟨ad, Ai, ci, xs, e, pw_cell_below hb hc, hx, hr.below hb⟩⟩
/-- A list of one slice, as a variadic call lays it. -/
theorem RBs.one {w : World} {A : Option Addr} {n cap : Nat} {xs : List Int} (t : TypeId) (h : RB w A n xs) : RBs (w.alloc (.cells #[.slice A n cap] t)) (some ⟨w.heap.size, 0, none⟩) 1 [xs] := by
  refine ⟨rfl, by omega, fun i hi => ?_⟩
  obtain rfl : i = 0 := by omega
  refine ⟨_, A, cap, xs, rfl, ?_, rfl, ?_⟩
  · rw [h.len, show (⟨w.heap.size, 0, none⟩ : Addr).add 0 = ⟨w.heap.size, 0, none⟩ from rfl]; exact World.cell?_alloc_new (w := w) _ t 0
  · rw [h.len]; exact h.alloc _
theorem RBs.two {w : World} {A B : Option Addr} {n cap m cap2 : Nat} {xs ys : List Int} (t : TypeId) (h : RB w A n xs) (k : RB w B m ys) :
    RBs (w.alloc (.cells #[.slice A n cap, .slice B m cap2] t)) (some ⟨w.heap.size, 0, none⟩) 2 [xs, ys] := by
  refine ⟨rfl, by omega, fun i hi => ?_⟩
  obtain rfl | rfl : i = 0 ∨ i = 1 := by omega
  · refine ⟨_, A, cap, xs, rfl, ?_, rfl, ?_⟩
    · rw [h.len, show (⟨w.heap.size, 0, none⟩ : Addr).add 0 = ⟨w.heap.size, 0, none⟩ from rfl]; exact World.cell?_alloc_new (w := w) _ t 0
    · rw [h.len]; exact h.alloc _
  · refine ⟨_, B, cap2, ys, rfl, ?_, rfl, ?_⟩
    · rw [k.len, add_plain]; exact World.cell?_alloc_new (w := w) _ t 1
    · rw [k.len]; exact k.alloc _

/-- Bytes of the call's own. -/
structure OB (e : TypeId) (w : World) (base : Nat) (v : Value) (xs : List Int) : Prop where
  own : w.ownsRow base e 1 v xs.length (nums .u8 xs)
  byt : Byt xs
section
variable {e : TypeId} {w w1 : World} {base : Nat} {v : Value} {xs : List Int}
theorem OB.nil (e : TypeId) (w : World) (base : Nat) : OB e w base (.slice none 0 0) [] := ⟨own_nil w base e 1, Byt.nil⟩
theorem OB.reads (h : OB e w base v xs) : ∃ A c, v = .slice A xs.length c ∧ RB w A xs.length xs := by
  obtain ⟨A, c, hv, hr⟩ := own_reads h.own
  exact ⟨A, c, hv, hr, h.byt⟩
theorem OB.rb {A : Option Addr} {n c : Nat} (h : OB e w base (.slice A n c) xs) (hn : n = xs.length) : RB w A n xs := by
  subst hn
  obtain ⟨A', c', hv, hr⟩ := h.reads
  injection hv with h1 h2 h3
  subst h1
  exact hr
theorem OB.below (h : OB e w base v xs) (hb : Below w.heap.size w w1) : OB e w1 base v xs := ⟨pw_own_below h.own hb, h.byt⟩
theorem OB.kept (h : OB e w base v xs) {row : Option Nat} (hg : w.grownBy w1 row) (hne : v.ownBlock = none ∨ v.ownBlock ≠ row) : OB e w1 base v xs := ⟨h.own.kept hg hne, h.byt⟩
theorem OB.less (h : OB e w base v xs) {b : Nat} (hle : b ≤ base) : OB e w b v xs := ⟨own_less h.own hle, h.byt⟩
theorem OB.open_ (h : OB e w base v xs) (hp : 0 < xs.length) : ∃ g cap, v = .slice (some ⟨g, 0, none⟩) xs.length cap ∧ base ≤ g ∧ g < w.heap.size := by
  obtain ⟨g, cap, hv, hb, hl⟩ := h.own.form hp
  exact ⟨g, cap, hv, hb, hl⟩
theorem OB.at_ {g n cap : Nat} (h : OB e w base (.slice (some ⟨g, 0, none⟩) n cap) xs) (hn : n = xs.length) (i : Nat) (hi : i < n) :
    ∃ x, w.cell? ⟨g, i, none⟩ = some (.int .u8 x) ∧ w.frozen? ⟨g, i, none⟩ = false ∧ 0 ≤ x ∧ x < 256 ∧ Hid (xs[i]? = some x) := by
  subst hn
  have := own_at h.own (i : Int) (by omega) (by omega)
  refine ⟨_, this.1, this.2, (h.byt.get _).1, (h.byt.get _).2, ?_⟩
  show xs[i]? = _
  simp [rd, List.getD_eq_getElem?_getD, List.getElem?_eq_getElem hi]
theorem OB.store {g n cap : Nat} (h : OB e w base (.slice (some ⟨g, 0, none⟩) n cap) xs) (hn : n = xs.length) (i : Nat) (x : Int) (h0 : 0 ≤ x) (h1 : x < 256) :
    OB e (w.setCell ⟨g, i, none⟩ (.int .u8 x)) base (.slice (some ⟨g, 0, none⟩) n cap) (xs.set i x) := by
  subst hn
  have := (own_store h.own (i : Int) x).1
  refine ⟨?_, h.byt.set i h0 h1⟩
  simpa using this
end
theorem RB.cells {w : World} {A : Option Addr} {n : Nat} {xs : List Int} (h : RB w A n xs) (hp : 0 < n) : ∃ ad, A = some ad ∧ ∀ j v, (nums .u8 xs)[j]? = some v → w.cell? (ad.add j) = some v := by
  obtain ⟨ad, e, hc⟩ := h.rd.2.2 hp
  refine ⟨ad, e, fun j v hv => ?_⟩
  have hl := h.len
  have hj : j < xs.length := by
    rcases Nat.lt_or_ge j xs.length with h | h
    · exact h
    · simp [nums, List.getElem?_eq_none h] at hv
  rw [hc j (by omega)]
  simp [nums, List.getElem?_eq_getElem hj] at hv
  subst hv
  simp [List.getD_eq_getElem?_getD, List.getElem?_eq_getElem hj]
theorem nums_one (k : IntKind) (xs : List Int) : ∀ u ∈ nums k xs, u.oneCell' = true := by
  intro u hu; simp only [nums, List.mem_map] at hu; obtain ⟨q, _, rfl⟩ := hu; rfl
theorem nums_take (k : IntKind) (xs : List Int) (n : Nat) : (nums k xs).take n = nums k (xs.take n) := by simp [nums, List.map_take]
/-- A row of the call's own, out of its block. -/
theorem OB.of_block {e : TypeId} {w : World} {base g n c : Nat} {xs : List Int} {rest : List Value} (hb : base ≤ g) (hg : w.heap[g]? = some (.cells (nums .u8 xs ++ rest).toArray e (0, 0))) (hn : n = xs.length) (hc : c = n + rest.length) (hm : c ≤ 9223372036854775807) (hx : Byt xs) :
    OB e w base (.slice (some ⟨g, 0, none⟩) n c) xs := by
  subst hn
  refine ⟨⟨by simp [nums], .inr ⟨g, c, _, rfl, hb, hg, by omega, by simpa [maxLen] using hm, by simp [nums]; omega, ?_⟩⟩, hx⟩
  simp [nums]
section
variable {P : Program} {ops : Array Oper} {rest : List Oper} {o : Oper} {a : Act} {Q : Exit → Act → World → Prop}
/-- 'copy(out, p)', out a fresh row of zeros that is no longer than p. -/
theorem wpList_copy_bytes {w W : World} (hgd : o.guard = none) (d s : Operand) (t e : TypeId) (ho : o.op = .call { callee := .builtin .copy, args := #[d, s], argTypes := #[t, t] })
    (hu : P.underlying t = some (.slice e)) (hsz : (P.info? e).map (·.size) = some 1) (A : Option Addr) (n c m cap : Nat) (xs : List Int) (g : Nat) (hd : a.eval d = .slice (some ⟨g, 0, none⟩) n c) (hs : a.eval s = .slice A m cap)
    (hr : RB W A m xs) (hnm : n ≤ m) (hg : W.heap[g]? = some (.cells (nums .u8 (List.replicate c 0)).toArray e (0, 0))) (hnc : n ≤ c) (hcm : c ≤ 9223372036854775807) (hb : Below w.heap.size w W) (hgB : w.heap.size ≤ g)
    (h : ∀ w', OB e w' w.heap.size (.slice (some ⟨g, 0, none⟩) n c) (xs.take n) → Below w.heap.size w w' → wpList P ops Q rest (a.put o.dst (.int .i64 (n : Int))) w') :
    wpList P ops Q (o :: rest) a W := by
  have hl := hr.len
  have hcl : (nums .u8 (xs.take n)).length = n := by rw [nums_length, List.length_take]; omega
  refine wpList_copy_splice hgd d s t t ho e hu hsz (some ⟨g, 0, none⟩) A n c m cap hd hs g 0 (nums .u8 (List.replicate c 0)) e hg (nums .u8 (xs.take n)) (by rw [hcl]; exact (Nat.min_eq_right hnm).symm) ?_ (by rw [hcl, nums_length]; simp; exact hnc) (nums_one _ _) w.heap.size w hb hgB ?_
  · intro hp
    rw [hcl] at hp
    obtain ⟨ad, e1, hc⟩ := hr.cells (by omega)
    refine ⟨rfl, ad, e1, fun j v hv => hc j v ?_⟩
    rw [← nums_take, List.getElem?_take] at hv
    split at hv
    · exact hv
    · cases hv
  · intro w' HG hb'
    rw [hcl]
    refine h w' ?_ hb'
    refine OB.of_block (rest := (nums .u8 (List.replicate c 0)).drop n) hgB ?_ (by rw [List.length_take]; omega) (by rw [List.length_drop, nums_length]; simp; omega) hcm (hr.byt.take n)
    have := HG.out
    simpa [splice, hcl] using this
end
theorem snoc {α : Type} {l : List α} {k : Nat} {x : α} (h : l[k]? = some x) : l.take (k + 1) = l.take k ++ [x] := by
  rw [List.take_add_one, h]; rfl
theorem flat_snoc {α : Type} {l : List (List α)} {k : Nat} {x : List α} (h : l[k]? = some x) : (l.take (k + 1)).flatten = (l.take k).flatten ++ x := by
  rw [snoc h]; simp
theorem all_of {α : Type} {l : List α} {k : Nat} (h : l.length ≤ k) : l.take k = l := List.take_of_length_le h
end Go.Kit
