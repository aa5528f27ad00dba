/- Contracts of functions that the laws reach (texts laid together, part 1): each says of its call what it answers and what it leaves of memory; the conditions stand in each statement. -/
import Derived.Test.YtdhaoodkelehpaaWWords
import Derived.WalkKit
import Derived.Lib.Hide
import Derived.Laws.BitsAllLaws
import Derived.Deep.WholeRow
import Derived.Deep.CutBlock
import Derived.Deep.Cut
import Derived.Deep.LoopGhost
import Derived.Laws.CopyOwn
import Derived.Lib.SlBytesConst
import Derived.ProofKit
import Derived.OpenShut
import Derived.SizedLaws
import Derived.Deep.Matrix
import Derived.Lib.SmallJoins
import Derived.Test.YtdhaoodkelehpaaWSized
import Derived.ChangeKeysEq
import Derived.Laws.StructEq
import Derived.Test.YtdhaoodkelehpaaWMore
import Derived.Maps.OwnSet
import Derived.Test.YtdhaoodkelehpaaProg
import Derived.Deep.RegionHeld3
import Derived.Deep.RegionLaw
import Derived.Deep.DeepMust
import Derived.Laws.Cover3
import Derived.Test.YtdhaoodkelehpaaWGuard
set_option linter.unusedVariables false
set_option linter.unusedSimpArgs false
set_option linter.unusedSectionVars false
set_option linter.unnecessarySimpa false
/-! Words on memory that every text of this family uses: bytes that are read, lists of bytes, words of 32 bits. No program in it. -/
section
namespace Go.Kit
open Go.RowKit Go.Proofs.YtdhaoodkelehpaaW.PrintWords

theorem u8_xor_range {x m : Int} (h0 : 0 ≤ x) (h1 : x < 256) (m0 : 0 ≤ m) (m1 : m < 256) : 0 ≤ bits .xor .u8 x m ∧ bits .xor .u8 x m < 256 := by
  rw [u8_xor x m h0 h1 m0 m1]
  have : x.toNat ^^^ m.toNat < 2 ^ 8 := Nat.xor_lt_two_pow (by omega) (by omega)
  omega
/-- A list of bytes. -/
def Byt (xs : List Int) : Prop := ∀ x ∈ xs, 0 ≤ x ∧ x < 256
theorem Byt.get {xs : List Int} (h : Byt xs) (j : Nat) : 0 ≤ xs.getD j 0 ∧ xs.getD j 0 < 256 := by
  rw [List.getD_eq_getElem?_getD]
  cases hx : xs[j]? with
  | none => simp
  | some x => simpa using h x (List.mem_of_getElem? hx)
theorem Byt.nil : Byt [] := fun x h => by simp at h
theorem Byt.append {xs ys : List Int} (h : Byt xs) (k : Byt ys) : Byt (xs ++ ys) := fun x hx => (List.mem_append.1 hx).elim (h x) (k x)
theorem Byt.take {xs : List Int} (h : Byt xs) (n : Nat) : Byt (xs.take n) := fun x hx => h x (List.mem_of_mem_take hx)
theorem Byt.drop {xs : List Int} (h : Byt xs) (n : Nat) : Byt (xs.drop n) := fun x hx => h x (List.mem_of_mem_drop hx)
theorem Byt.one {x : Int} (h0 : 0 ≤ x) (h1 : x < 256) : Byt [x] := fun y hy => by simp at hy; subst hy; exact ⟨h0, h1⟩
theorem Byt.set {xs : List Int} (h : Byt xs) (j : Nat) {x : Int} (h0 : 0 ≤ x) (h1 : x < 256) : Byt (xs.set j x) := fun y hy => by
  rcases List.mem_or_eq_of_mem_set hy with h2 | h2
  · exact h y h2
  · subst h2; exact ⟨h0, h1⟩

/-- Bytes that are read: the slice at A of length n holds xs. -/
structure RB (w : World) (A : Option Addr) (n : Nat) (xs : List Int) : Prop where
  rd : ReadsInt w .u8 A n xs
  byt : Byt xs
theorem RB.len {w : World} {A : Option Addr} {n : Nat} {xs : List Int} (h : RB w A n xs) : xs.length = n := h.rd.1
theorem RB.max {w : World} {A : Option Addr} {n : Nat} {xs : List Int} (h : RB w A n xs) : n ≤ 9223372036854775807 := h.rd.2.1
theorem RB.at_ {w : World} {A : Option Addr} {n : Nat} {xs : List Int} (h : RB w A n xs) (i : Nat) (hi : i < n) :
    ∃ ad x, A = some ad ∧ w.cell? (ad.add i) = some (.int .u8 x) ∧ 0 ≤ x ∧ x < 256 ∧ Hid (xs[i]? = some x) := by
  obtain ⟨ad, e, hc⟩ := h.rd.2.2 (by omega)
  refine ⟨ad, _, e, hc i hi, (h.byt.get i).1, (h.byt.get i).2, ?_⟩
  have hl : i < xs.length := by have := h.len; omega
  show xs[i]? = _
  rw [List.getD_eq_getElem?_getD, List.getElem?_eq_getElem hl]; rfl
theorem RB.below {w w1 : World} {A : Option Addr} {n : Nat} {xs : List Int} (h : RB w A n xs) (hb : Below w.heap.size w w1) : RB w1 A n xs := ⟨h.rd.below hb, h.byt⟩
theorem RB.alloc {w : World} {A : Option Addr} {n : Nat} {xs : List Int} (h : RB w A n xs) (o : Obj) : RB (w.alloc o) A n xs := h.below (below_alloc (Below.refl _ _) o)
theorem RB.drew {w : World} {A : Option Addr} {n : Nat} {xs : List Int} (h : RB w A n xs) : RB w.drew A n xs := ⟨h.rd, h.byt⟩
theorem RB.drewN {w : World} {A : Option Addr} {n : Nat} {xs : List Int} (h : RB w A n xs) (k : Nat) : RB (w.drewN k) A n xs := ⟨h.rd, h.byt⟩
theorem RB.nil (w : World) : RB w none 0 [] := ⟨⟨rfl, by omega, fun h => absurd h (by omega)⟩, Byt.nil⟩

/-- Bytes that lie in a block that was just laid. -/
theorem RB.lit (w : World) (xs : List Int) (hx : Byt xs) (hl : xs.length ≤ 9223372036854775807) (e : TypeId) (fr : Nat × Nat) :
    RB (w.alloc (.cells (nums .u8 xs).toArray e fr)) (some ⟨w.heap.size, 0, none⟩) xs.length xs := by
  refine ⟨⟨rfl, hl, fun _ => ⟨_, rfl, fun j hj => ?_⟩⟩, hx⟩
  rw [add_plain, cell_of_row _ _ j (nums .u8 xs).toArray e fr (heap_alloc_new w _)]
  simp [nums, List.getElem?_eq_getElem hj, List.getD_eq_getElem?_getD]
/-- A list of byte slices that is read. -/
structure RBs (w : World) (A : Option Addr) (n : Nat) (L : List (List Int)) : Prop where
  len : L.length = n
  max : n ≤ 9223372036854775807
  at0 : ∀ i, i < n → ∃ ad Ai ci xs, A = some ad ∧ w.cell? (ad.add i) = some (.slice Ai xs.length ci) ∧ L[i]? = some xs ∧ RB w Ai xs.length xs
theorem RBs.at_ {w : World} {A : Option Addr} {n : Nat} {L : List (List Int)} (h : RBs w A n L) (i : Nat) (hi : i < n) :
    ∃ ad Ai ni ci xs, A = some ad ∧ w.cell? (ad.add i) = some (.slice Ai ni ci) ∧ RB w Ai ni xs ∧ Hid (L[i]? = some xs) := by
  obtain ⟨ad, Ai, ci, xs, e, hc, hx, hr⟩ := h.at0 i hi
  exact ⟨ad, Ai, xs.length, ci, xs, e, hc, hr, hx⟩
theorem RBs.below {w w1 : World} {A : Option Addr} {n : Nat} {L : List (List Int)} (h : RBs w A n L) (hb : Below w.heap.size w w1) : RBs w1 A n L :=
  ⟨h.len, h.max, fun i hi => by
    obtain ⟨ad, Ai, ci, xs, e, hc, hx, hr⟩ := h.at0 i hi
    exact ⟨ad, Ai, ci, xs, e, pw_cell_below hb hc, hx, hr.below hb⟩⟩
/-- A list of one slice, as a variadic call lays it. -/
theorem RBs.one {w : World} {A : Option Addr} {n cap : Nat} {xs : List Int} (t : TypeId) (h : RB w A n xs) : RBs (w.alloc (.cells #[.slice A n cap] t)) (some ⟨w.heap.size, 0, none⟩) 1 [xs] := by
  refine ⟨rfl, by omega, fun i hi => ?_⟩
  obtain rfl : i = 0 := by omega
  refine ⟨_, A, cap, xs, rfl, ?_, rfl, ?_⟩
  · rw [h.len, show (⟨w.heap.size, 0, none⟩ : Addr).add 0 = ⟨w.heap.size, 0, none⟩ from rfl]; exact World.cell?_alloc_new (w := w) _ t 0
  · rw [h.len]; exact h.alloc _
theorem RBs.two {w : World} {A B : Option Addr} {n cap m cap2 : Nat} {xs ys : List Int} (t : TypeId) (h : RB w A n xs) (k : RB w B m ys) :
    RBs (w.alloc (.cells #[.slice A n cap, .slice B m cap2] t)) (some ⟨w.heap.size, 0, none⟩) 2 [xs, ys] := by
  refine ⟨rfl, by omega, fun i hi => ?_⟩
  obtain rfl | rfl : i = 0 ∨ i = 1 := by omega
  · refine ⟨_, A, cap, xs, rfl, ?_, rfl, ?_⟩
    · rw [h.len, show (⟨w.heap.size, 0, none⟩ : Addr).add 0 = ⟨w.heap.size, 0, none⟩ from rfl]; exact World.cell?_alloc_new (w := w) _ t 0
    · rw [h.len]; exact h.alloc _
  · refine ⟨_, B, cap2, ys, rfl, ?_, rfl, ?_⟩
    · rw [k.len, add_plain]; exact World.cell?_alloc_new (w := w) _ t 1
    · rw [k.len]; exact k.alloc _

/-- Bytes of the call's own. -/
structure OB (e : TypeId) (w : World) (base : Nat) (v : Value) (xs : List Int) : Prop where
  own : w.ownsRow base e 1 v xs.length (nums .u8 xs)
  byt : Byt xs
section
variable {e : TypeId} {w w1 : World} {base : Nat} {v : Value} {xs : List Int}
theorem OB.nil (e : TypeId) (w : World) (base : Nat) : OB e w base (.slice none 0 0) [] := ⟨own_nil w base e 1, Byt.nil⟩
theorem OB.reads (h : OB e w base v xs) : ∃ A c, v = .slice A xs.length c ∧ RB w A xs.length xs := by
  obtain ⟨A, c, hv, hr⟩ := own_reads h.own
  exact ⟨A, c, hv, hr, h.byt⟩
theorem OB.rb {A : Option Addr} {n c : Nat} (h : OB e w base (.slice A n c) xs) (hn : n = xs.length) : RB w A n xs := by
  subst hn
  obtain ⟨A', c', hv, hr⟩ := h.reads
  injection hv with h1 h2 h3
  subst h1
  exact hr
theorem OB.below (h : OB e w base v xs) (hb : Below w.heap.size w w1) : OB e w1 base v xs := ⟨pw_own_below h.own hb, h.byt⟩
theorem OB.kept (h : OB e w base v xs) {row : Option Nat} (hg : w.grownBy w1 row) (hne : v.ownBlock = none ∨ v.ownBlock ≠ row) : OB e w1 base v xs := ⟨h.own.kept hg hne, h.byt⟩
theorem OB.less (h : OB e w base v xs) {b : Nat} (hle : b ≤ base) : OB e w b v xs := ⟨own_less h.own hle, h.byt⟩
theorem OB.open_ (h : OB e w base v xs) (hp : 0 < xs.length) : ∃ g cap, v = .slice (some ⟨g, 0, none⟩) xs.length cap ∧ base ≤ g ∧ g < w.heap.size := by
  obtain ⟨g, cap, hv, hb, hl⟩ := h.own.form hp
  exact ⟨g, cap, hv, hb, hl⟩
theorem OB.at_ {g n cap : Nat} (h : OB e w base (.slice (some ⟨g, 0, none⟩) n cap) xs) (hn : n = xs.length) (i : Nat) (hi : i < n) :
    ∃ x, w.cell? ⟨g, i, none⟩ = some (.int .u8 x) ∧ w.frozen? ⟨g, i, none⟩ = false ∧ 0 ≤ x ∧ x < 256 ∧ Hid (xs[i]? = some x) := by
  subst hn
  have := own_at h.own (i : Int) (by omega) (by omega)
  refine ⟨_, this.1, this.2, (h.byt.get _).1, (h.byt.get _).2, ?_⟩
  show xs[i]? = _
  simp [rd, List.getD_eq_getElem?_getD, List.getElem?_eq_getElem hi]
theorem OB.store {g n cap : Nat} (h : OB e w base (.slice (some ⟨g, 0, none⟩) n cap) xs) (hn : n = xs.length) (i : Nat) (x : Int) (h0 : 0 ≤ x) (h1 : x < 256) :
    OB e (w.setCell ⟨g, i, none⟩ (.int .u8 x)) base (.slice (some ⟨g, 0, none⟩) n cap) (xs.set i x) := by
  subst hn
  have := (own_store h.own (i : Int) x).1
  refine ⟨?_, h.byt.set i h0 h1⟩
  simpa using this
end
theorem RB.cells {w : World} {A : Option Addr} {n : Nat} {xs : List Int} (h : RB w A n xs) (hp : 0 < n) : ∃ ad, A = some ad ∧ ∀ j v, (nums .u8 xs)[j]? = some v → w.cell? (ad.add j) = some v := by
  obtain ⟨ad, e, hc⟩ := h.rd.2.2 hp
  refine ⟨ad, e, fun j v hv => ?_⟩
  have hl := h.len
  have hj : j < xs.length := by
    rcases Nat.lt_or_ge j xs.length with h | h
    · exact h
    · simp [nums, List.getElem?_eq_none h] at hv
  rw [hc j (by omega)]
  simp [nums, List.getElem?_eq_getElem hj] at hv
  subst hv
  simp [List.getD_eq_getElem?_getD, List.getElem?_eq_getElem hj]
theorem nums_one (k : IntKind) (xs : List Int) : ∀ u ∈ nums k xs, u.oneCell' = true := by
  intro u hu; simp only [nums, List.mem_map] at hu; obtain ⟨q, _, rfl⟩ := hu; rfl
theorem nums_take (k : IntKind) (xs : List Int) (n : Nat) : (nums k xs).take n = nums k (xs.take n) := by simp [nums, List.map_take]
/-- A row of the call's own, out of its block. -/
theorem OB.of_block {e : TypeId} {w : World} {base g n c : Nat} {xs : List Int} {rest : List Value} (hb : base ≤ g) (hg : w.heap[g]? = some (.cells (nums .u8 xs ++ rest).toArray e (0, 0))) (hn : n = xs.length) (hc : c = n + rest.length) (hm : c ≤ 9223372036854775807) (hx : Byt xs) :
    OB e w base (.slice (some ⟨g, 0, none⟩) n c) xs := by
  subst hn
  refine ⟨⟨by simp [nums], .inr ⟨g, c, _, rfl, hb, hg, by omega, by simpa [maxLen] using hm, by simp [nums]; omega, ?_⟩⟩, hx⟩
  simp [nums]
section
variable {P : Program} {ops : Array Oper} {rest : List Oper} {o : Oper} {a : Act} {Q : Exit → Act → World → Prop}
/-- 'copy(out, p)', out a fresh row of zeros that is no longer than p. -/
theorem wpList_copy_bytes {w W : World} (hgd : o.guard = none) (d s : Operand) (t e : TypeId) (ho : o.op = .call { callee := .builtin .copy, args := #[d, s], argTypes := #[t, t] })
    (hu : P.underlying t = some (.slice e)) (hsz : (P.info? e).map (·.size) = some 1) (A : Option Addr) (n c m cap : Nat) (xs : List Int) (g : Nat) (hd : a.eval d = .slice (some ⟨g, 0, none⟩) n c) (hs : a.eval s = .slice A m cap)
    (hr : RB W A m xs) (hnm : n ≤ m) (hg : W.heap[g]? = some (.cells (nums .u8 (List.replicate c 0)).toArray e (0, 0))) (hnc : n ≤ c) (hcm : c ≤ 9223372036854775807) (hb : Below w.heap.size w W) (hgB : w.heap.size ≤ g)
    (h : ∀ w', OB e w' w.heap.size (.slice (some ⟨g, 0, none⟩) n c) (xs.take n) → Below w.heap.size w w' → wpList P ops Q rest (a.put o.dst (.int .i64 (n : Int))) w') :
    wpList P ops Q (o :: rest) a W := by
  have hl := hr.len
  have hcl : (nums .u8 (xs.take n)).length = n := by rw [nums_length, List.length_take]; omega
  refine wpList_copy_splice hgd d s t t ho e hu hsz (some ⟨g, 0, none⟩) A n c m cap hd hs g 0 (nums .u8 (List.replicate c 0)) e hg (nums .u8 (xs.take n)) (by rw [hcl]; exact (Nat.min_eq_right hnm).symm) ?_ (by rw [hcl, nums_length]; simp; exact hnc) (nums_one _ _) w.heap.size w hb hgB ?_
  · intro hp
    rw [hcl] at hp
    obtain ⟨ad, e1, hc⟩ := hr.cells (by omega)
    refine ⟨rfl, ad, e1, fun j v hv => hc j v ?_⟩
    rw [← nums_take, List.getElem?_take] at hv
    split at hv
    · exact hv
    · cases hv
  · intro w' HG hb'
    rw [hcl]
    refine h w' ?_ hb'
    refine OB.of_block (rest := (nums .u8 (List.replicate c 0)).drop n) hgB ?_ (by rw [List.length_take]; omega) (by rw [List.length_drop, nums_length]; simp; omega) hcm (hr.byt.take n)
    have := HG.out
    simpa [splice, hcl] using this
end
theorem snoc {α : Type} {l : List α} {k : Nat} {x : α} (h : l[k]? = some x) : l.take (k + 1) = l.take k ++ [x] := by
  rw [List.take_add_one, h]; rfl
theorem flat_snoc {α : Type} {l : List (List α)} {k : Nat} {x : List α} (h : l[k]? = some x) : (l.take (k + 1)).flatten = (l.take k).flatten ++ x := by
  rw [snoc h]; simp
theorem all_of {α : Type} {l : List α} {k : Nat} (h : l.length ≤ k) : l.take k = l := List.take_of_length_le h
end Go.Kit
end
/-! Arguments opened: numbers, bytes, lists of bytes. -/
section
namespace Go.Kit
open Go.ChangeShapes Go.WideShapes Go.RowKit Go.Deep Go.Proofs.YtdhaoodkelehpaaW.PrintWords
section
variable {H : Type} {enc : TypeId × Value → H} {P : Program} {W : World} {base : Nat} {r : Reach}
theorem u32_eq {n : Int} (h : 0 ≤ n ∧ n ≤ 4294967295) : n = ((BitVec.ofInt 32 n).toNat : Int) := by
  obtain ⟨m, rfl⟩ := Int.eq_ofNat_of_zero_le h.1
  rw [BitVec.ofInt_natCast, BitVec.toNat_ofNat]; omega
theorem byt_of_wf {zs : List Int} (h : ∀ n ∈ zs, (Lit.int .u8 n).wf = true) : Byt zs := fun n hn => by
  have := bounds_u8 (h n hn); omega
/-- A slice of bytes. -/
theorem open_bytes {t e : TypeId} {v : Value} {d : DataW H} {ps : List MemPlace} {ts : List TypeId} {ds : List (DataW H)} {j : Nat}
    (ht : P.underlying t = some (.slice e)) (he : P.underlying e = some (.int .u8)) (hc : P.cellsOf e = 1) (hB : P.bytesOf e = 1)
    (hval : Value.okWide P W r base t v) (h : DataW.Trod enc P W 0 (fun _ => true) true t v d ps)
    (hsz : (DataW.weightsEach P ts ds).all (· ≤ reachBytes) = true) (htj : ts[j]? = some t) (hdj : ds[j]? = some d) :
    ∃ A len cap xs, v = .slice A len cap ∧ RB W A len xs ∧ len ≤ cap ∧ len ≤ 140737488351232 := by
  obtain ⟨A, len, cap, rfl⟩ := okWide_slice ht hval
  have hy := sized_ints hsz htj hdj ht he hc hB h
  obtain ⟨fuel, hf⟩ := h
  rcases open_ints ht he hc hf with ⟨hcs, _⟩ | ⟨x, l, c, zs, hcs, _, hl, hm, hz, _, hcell, hwz⟩
  · simp [Value.cells] at hcs
    obtain ⟨rfl, rfl, rfl⟩ := hcs
    exact ⟨none, 0, 0, [], rfl, RB.nil W, by omega, by omega⟩
  · simp [Value.cells] at hcs
    obtain ⟨rfl, rfl, rfl⟩ := hcs
    simp only [if_true] at hz
    refine ⟨_, len, cap, zs.take len, rfl, ⟨⟨by rw [List.length_take]; omega, by unfold maxLen at hm; omega, fun _ => ⟨x, rfl, fun j hj => ?_⟩⟩, (byt_of_wf hwz).take len⟩, hl, by omega⟩
    rw [hcell j (by omega)]
    simp [List.getD_eq_getElem?_getD, hj]
/-- A slice of slices of bytes. -/
theorem open_rows {t e q : TypeId} {v : Value} {d : DataW H} {ps : List MemPlace} (ht : P.underlying t = some (.slice e)) (he : P.underlying e = some (.slice q)) (hq : P.underlying q = some (.int .u8))
    (ce : P.cellsOf e = 1) (cq : P.cellsOf q = 1) (hval : Value.okWide P W r base t v) (h : DataW.Trod enc P W 0 (fun _ => true) true t v d ps) :
    ∃ A len cap L, v = .slice A len cap ∧ RBs W A len L := by
  obtain ⟨A, len, cap, rfl⟩ := okWide_slice ht hval
  obtain ⟨fuel, hf⟩ := h
  rcases open_int_rows ht he hq ce cq hf with ⟨hcs, _⟩ | ⟨x, l, c, A', L, C, Z, hcs, _, hl, hm, _, hrow⟩
  · simp [Value.cells] at hcs
    obtain ⟨rfl, rfl, rfl⟩ := hcs
    exact ⟨none, 0, 0, [], rfl, rfl, by omega, fun i hi => by omega⟩
  · simp [Value.cells] at hcs
    obtain ⟨rfl, rfl, rfl⟩ := hcs
    refine ⟨_, len, cap, (List.range len).map fun i => (Z i).take (L i), rfl, by simp, by unfold maxLen at hm; omega, fun i hi => ?_⟩
    obtain ⟨h1, h2, h3, h4, h5, h6, h7⟩ := hrow i (by omega)
    have hlen : ((Z i).take (L i)).length = L i := by rw [List.length_take]; omega
    refine ⟨x, A' i, C i, (Z i).take (L i), rfl, by rw [hlen]; exact h1, by simp [hi], ?_⟩
    rw [hlen]
    refine ⟨⟨hlen, by unfold maxLen at h3; omega, fun hp => ?_⟩, (byt_of_wf h5).take _⟩
    rcases hA : A' i with _ | a'
    · have := h6 hA; omega
    · obtain ⟨_, hc⟩ := h7 a' hA
      refine ⟨a', rfl, fun j hj => ?_⟩
      rw [hc j (by omega)]
      simp [List.getD_eq_getElem?_getD, hj]
end
end Go.Kit
end
/-! More words on memory: arrays of whole numbers compared. No program in it. -/
section
namespace Go.Kit
open Go.RowKit Go.Proofs.YtdhaoodkelehpaaW.PrintWords
section
variable {P : Program} {w : World}
theorem run_part_int {e : TypeId} {k : IntKind} (he : P.underlying e = some (.int k)) (xs : List Int) (i : Nat) (h : i < xs.length) :
    (part e (nums k xs).toArray i).run P w = .ok (.int k (xs.getD i 0)) w := by
  have hx : (nums k xs).toArray[i]? = some (.int k (xs.getD i 0)) := by
    simp [nums, List.getD_eq_getElem?_getD, List.getElem?_eq_getElem h]
  unfold part
  simp only [isAgg, Sem.run_bind, run_underlying he, Result.andThen_ok]
  simp only [Sem.run_pure, Result.andThen_ok, hx]
  rfl
theorem run_eqItems_nums (d : Nat) {e : TypeId} {k : IntKind} (he : P.underlying e = some (.int k)) (xs ys : List Int) : ∀ is : List Nat, (∀ i ∈ is, i < xs.length ∧ i < ys.length) →
    (Op.eqItems (d + 1) e 1 (nums k xs).toArray (nums k ys).toArray is).run P w = .ok (is.all fun i => xs.getD i 0 == ys.getD i 0) w
  | [], _ => by simp [Op.eqItems]
  | i :: is, h => by
    have hi := h i (by simp)
    have ih := run_eqItems_nums d he xs ys is (fun j hj => h j (by simp [hj]))
    simp only [Op.eqItems, Sem.run_bind, Nat.mul_one, run_part_int he xs i hi.1, run_part_int he ys i hi.2, Result.andThen_ok, run_equalIn_int w d e k k _ _ he]
    by_cases hq : xs.getD i 0 = ys.getD i 0
    · have hb : (xs.getD i 0 == ys.getD i 0) = true := beq_iff_eq.2 hq
      simp only [hb, List.all_cons, Bool.true_and]
      simpa using ih
    · have hb : (xs.getD i 0 == ys.getD i 0) = false := beq_eq_false_iff_ne.2 hq
      simp only [hb, List.all_cons, Bool.false_and]
      simp
theorem run_equalIn_nums (d : Nat) {t e : TypeId} {k : IntKind} {n : Nat} {i : TypeInfo} (xs ys : List Int) (hu : P.underlying t = some (.array n e)) (hi : P.info? e = some i) (hsz : i.size = 1) (he : P.underlying e = some (.int k))
    (hx : xs.length = n) (hy : ys.length = n) : (Op.equalIn (d + 2) t (.agg (nums k xs).toArray) (.agg (nums k ys).toArray)).run P w = .ok (decide (xs = ys)) w := by
  have hc : P.cellsOf e = 1 := by simp [Program.cellsOf, hi, hsz]
  rw [run_equalIn_array w (d + 1) _ _ hu hi, hc, run_eqItems_nums d he xs ys _ (fun j hj => by have := List.mem_range.1 hj; omega)]
  congr 1
  rw [Bool.eq_iff_iff, List.all_eq_true, decide_eq_true_iff]
  constructor
  · intro h
    apply List.ext_getElem (by omega)
    intro j h1 h2
    have := h j (List.mem_range.2 (by omega))
    simpa [List.getD_eq_getElem?_getD, List.getElem?_eq_getElem h1, List.getElem?_eq_getElem h2] using this
  · rintro rfl j _
    simp
end
/-- Bytes of the call's own, with their capacity. -/
theorem OB.reads' {e : TypeId} {w : World} {base : Nat} {v : Value} {xs : List Int} (h : OB e w base v xs) : ∃ A c, v = .slice A xs.length c ∧ RB w A xs.length xs ∧ xs.length ≤ c := by
  obtain ⟨A, c, hv, hr⟩ := h.reads
  refine ⟨A, c, hv, hr, ?_⟩
  rcases h.own.2 with ⟨h1, h2⟩ | ⟨g, cap, cur, h1, _, _, h2, _⟩
  · omega
  · rw [hv] at h1
    injection h1 with _ _ h3
    omega
end Go.Kit
end
/-! Footprints: a call turns the blocks of a set alone, and what is new. No program in it. -/
section
namespace Go.Kit
open Go.RowKit Go.Proofs.YtdhaoodkelehpaaW.PrintWords
theorem max2_is {k : IntKind} {a b x : Int} (h : max a b = x) : Builtin.max2 (.int k a) (.int k b) = pure (.int k x) := by
  rw [Go.Proofs.YtdhaoodkelehpaaW.PrintMore.max2_int, ← h]
  congr 2
  split <;> omega
theorem min2_is {k : IntKind} {a b x : Int} (h : min a b = x) : Builtin.min2 (.int k a) (.int k b) = pure (.int k x) := by
  rw [Go.Proofs.YtdhaoodkelehpaaW.PrintMore.min2_int, ← h]
  congr 2
  split <;> omega
/-- The post of one operation: what follows, or its panic. -/
def upQ (K : Act → World → Prop) (Q : Exit → Act → World → Prop) : Exit → Act → World → Prop
  | .normal, a, w => K a w
  | .panic c, a, w => Q (.panic c) a w
  | _, _, _ => False
/-- One operation of a region that draws, as a list of its own: what is told of lists serves there. -/
theorem at_list {P : Program} {ops : Array Oper} {o : Oper} {a : Act} {w : World} {K : Act → World → Prop} {Q : Exit → Act → World → Prop} {E : Prop} (hw : Region.wanted o (yielded ops a.tmps) = true)
    (h : ∀ Q2 : Exit → Act → World → Prop, (∀ a w, K a w → Q2 .normal a w) → wpList P ops Q2 [o] a w) : if Region.wanted o (yielded ops a.tmps) = true then Oper.wp P o a w K Q else E := by
  have h1 := h (upQ K Q) (fun _ _ h => h)
  unfold wpList at h1
  rw [if_pos hw] at h1 ⊢
  have hout : LetsOut (upQ K Q) → False := fun ⟨_, _, hf⟩ => hf
  rcases h1 with h1 | ⟨_, h1⟩
  · unfold Oper.wp at h1 ⊢
    generalize (execOp a.eval o).run P w = r at h1 ⊢
    unfold Oper.upon at h1 ⊢
    split at h1
    · exact h1
    · exact h1
    · exact h1
    · refine Calls.mono h1 ?_
      intro e w1 h2
      cases e with
      | returned v => exact h2
      | panicked c => exact h2
      | outgrown => exact (hout h2).elim
    · exact h1
    · exact h1
    · exact h1.elim
  · exact (hout h1).elim
/-- All but the blocks of S stand as they did. -/
structure Only (w w1 : World) (S : Nat → Prop) : Prop where
  os : w1.os = w.os
  tape : w1.tape = w.tape
  output : w1.output = w.output
  size : w.heap.size ≤ w1.heap.size
  block : ∀ k, k < w.heap.size → ¬ S k → w1.heap[k]? = w.heap[k]?
/-- Two footprints have nothing in common. -/
def Sep (F G : Nat → Prop) : Prop := ∀ k, F k → ¬ G k
/-- G is of F, or new since w. -/
def Onto (w : World) (F G : Nat → Prop) : Prop := ∀ k, G k → F k ∨ w.heap.size ≤ k
/-- It stands. -/
def Old (w : World) (F : Nat → Prop) : Prop := ∀ k, F k → k < w.heap.size
/-- A row's footprint. -/
def rf (v : Value) (k : Nat) : Prop := v.ownBlock = some k
section
variable {w w1 w2 : World} {S T F G : Nat → Prop}
theorem Only.refl (w : World) (S : Nat → Prop) : Only w w S := ⟨rfl, rfl, rfl, Nat.le_refl _, fun _ _ _ => rfl⟩
theorem Only.mono (h : Only w w1 S) (hs : ∀ k, S k → T k) : Only w w1 T := ⟨h.os, h.tape, h.output, h.size, fun k hk hn => h.block k hk (fun e => hn (hs k e))⟩
theorem Only.of_below (h : Below w.heap.size w w1) (S : Nat → Prop) : Only w w1 S := ⟨h.os, h.tape, h.output, h.size, fun k hk _ => h.block k hk⟩
theorem Only.then_ (h : Only w w1 S) (k : Only w1 w2 T) (hs : Onto w S T) : Only w w2 S :=
  ⟨k.os.trans h.os, k.tape.trans h.tape, k.output.trans h.output, Nat.le_trans h.size k.size, fun i hi hn => (k.block i (Nat.lt_of_lt_of_le hi h.size) (fun e => (hs i e).elim hn (fun h2 => absurd hi (by omega)))).trans (h.block i hi hn)⟩
theorem Only.same (h : Only w w1 S) (k : Only w1 w2 S) : Only w w2 S := h.then_ k (fun _ e => .inl e)
theorem Only.below (h : Only w w1 S) (hb : Below w1.heap.size w1 w2) : Only w w2 S := h.then_ (T := fun _ => False) (Only.of_below hb _) (fun _ e => e.elim)
theorem Only.alloc (h : Only w w1 S) (o : Obj) : Only w (w1.alloc o) S := h.below (below_alloc (Below.refl _ _) o)
theorem Only.drewN (h : Only w w1 S) (m : Nat) : Only w (w1.drewN m) S := h.below (pw_below_drewN (Below.refl _ _) m)
theorem Only.drew (h : Only w w1 S) : Only w w1.drew S := h.drewN 1
theorem Only.grown (h : Only w w1 S) {row : Option Nat} (hg : w1.grownBy w2 row) (hr : ∀ k, row = some k → S k ∨ w.heap.size ≤ k) : Only w w2 S :=
  h.then_ (T := fun k => row = some k) ⟨hg.os, hg.tape, hg.output, hg.size, fun k hk hn => hg.block k hk (fun e => hn e.symm)⟩ (fun k e => hr k e)
theorem grown_refl (W : World) : W.grownBy W none := ⟨rfl, rfl, rfl, Nat.le_refl _, fun _ _ _ => rfl⟩
theorem grown_set (W : World) (g j : Nat) (v : Value) : W.grownBy (W.setCell ⟨g, j, none⟩ v) (some g) :=
  ⟨rfl, rfl, rfl, Nat.le_of_eq (World.size_setCell W _ v).symm, fun k _ hk => Below.heap_setCell _ _ _ k (fun e => hk (by rw [e]))⟩
theorem Only.set (h : Only w w1 S) (g j : Nat) (v : Value) (hg : S g ∨ w.heap.size ≤ g) : Only w (w1.setCell ⟨g, j, none⟩ v) S := h.grown (grown_set w1 g j v) (fun k e => by cases e; exact hg)
/-- Seen from a world before, in which nothing of S was there. -/
theorem Below.only {B : Nat} (hb : Below B w w1) (h : Only w1 w2 S) (hB : B ≤ w1.heap.size) (hs : ∀ k, S k → B ≤ k) : Below B w w2 :=
  ⟨h.os.trans hb.os, h.tape.trans hb.tape, h.output.trans hb.output, Nat.le_trans hb.size h.size, fun k hk => (h.block k (by omega) (fun e => by have := hs k e; omega)).trans (hb.block k hk)⟩
theorem Only.of_new (h : Only w w1 S) (hs : ∀ k, S k → w.heap.size ≤ k) : Below w.heap.size w w1 := Below.only (Below.refl _ w) h (Nat.le_refl _) hs
theorem Onto.refl (w : World) (F : Nat → Prop) : Onto w F F := fun _ h => .inl h
theorem Onto.trans {H : Nat → Prop} (h : Onto w F G) (k : Onto w1 G H) (hs : w.heap.size ≤ w1.heap.size) : Onto w F H := fun i hi => (k i hi).elim (fun e => h i e) (fun e => .inr (by omega))
theorem Sep.symm (h : Sep F G) : Sep G F := fun k hg hf => h k hf hg
theorem Sep.onto {H : Nat → Prop} (h : Sep F H) (ho : Onto w F G) (hH : Old w H) : Sep G H := fun k hg hh => (ho k hg).elim (fun e => h k e hh) (fun e => by have := hH k hh; omega)
theorem Old.later (h : Old w F) (hs : w.heap.size ≤ w1.heap.size) : Old w1 F := fun k hk => by have := h k hk; omega
theorem Sep.new (hH : Old w F) (hG : ∀ k, G k → w.heap.size ≤ k) : Sep F G := fun k hf hg => by have := hH k hf; have := hG k hg; omega
theorem Only.kept {k : Nat} {o : Obj} (h : Only w w1 S) (hg : w.heap[k]? = some o) (hn : ¬ S k) : w1.heap[k]? = some o := by
  rcases Nat.lt_or_ge k w.heap.size with h1 | h1
  · exact (h.block k h1 hn).trans hg
  · rw [Array.getElem?_eq_none h1] at hg; cases hg
theorem lt_of_block {k : Nat} {o : Obj} (hg : w.heap[k]? = some o) : k < w.heap.size := by
  rcases Nat.lt_or_ge k w.heap.size with h1 | h1
  · exact h1
  · rw [Array.getElem?_eq_none h1] at hg; cases hg
end
section
variable {e : TypeId} {w w1 : World} {base : Nat} {v : Value} {xs : List Int} {S : Nat → Prop}
theorem OB.only (h : OB e w base v xs) (ho : Only w w1 S) (hs : Sep (rf v) S) : OB e w1 base v xs := by
  refine ⟨⟨h.own.1, ?_⟩, h.byt⟩
  rcases h.own.2 with h1 | ⟨g, cap, cur, h1, h2, h3, h4⟩
  · exact .inl h1
  · exact .inr ⟨g, cap, cur, h1, h2, ho.kept h3 (hs g (by rw [h1]; rfl)), h4⟩
theorem OB.old (h : OB e w base v xs) : Old w (rf v) := fun k hk => by
  rcases h.own.2 with ⟨h1, _⟩ | ⟨g, cap, cur, h1, h2, h3, h4⟩
  · rw [h1] at hk; cases hk
  · rw [h1] at hk; cases hk; exact lt_of_block h3
theorem OB.from (h : OB e w base v xs) : ∀ k, rf v k → base ≤ k := fun k hk => by
  rcases h.own.2 with ⟨h1, _⟩ | ⟨g, cap, cur, h1, h2, h3, h4⟩
  · rw [h1] at hk; cases hk
  · rw [h1] at hk; cases hk; exact h2
theorem RB.only {A : Option Addr} {n : Nat} (h : RB w A n xs) (hb : Below w.heap.size w w1) : RB w1 A n xs := h.below hb
theorem Only.cell (ho : Only w w1 S) {a : Addr} {u : Value} (h : w.cell? a = some u) (hs : ¬ S a.block) : w1.cell? a = some u := by
  have hlt : a.block < w.heap.size := by
    rcases Nat.lt_or_ge a.block w.heap.size with h1 | h1
    · exact h1
    · simp [World.cell?, Array.getElem?_eq_none h1] at h
  rw [World.cell?_of_block (ho.block _ hlt hs)]; exact h
theorem add_block (a : Addr) (j : Nat) : (a.add j).block = a.block := by unfold Addr.add; split <;> rfl
theorem RB.apart {A : Option Addr} {n : Nat} (h : RB w A n xs) (ho : Only w w1 S) (hs : ∀ a, A = some a → ¬ S a.block) : RB w1 A n xs := by
  refine ⟨⟨h.rd.1, h.rd.2.1, fun hp => ?_⟩, h.byt⟩
  obtain ⟨a, e, hc⟩ := h.rd.2.2 hp
  exact ⟨a, e, fun j hj => ho.cell (hc j hj) (by rw [add_block]; exact hs a e)⟩
/-- A block that is neither of a type's rows is none of its rows. -/
theorem OB.not_block (h : OB e w base v xs) {k : Nat} {cs : Array Value} {t : TypeId} {fr : Nat × Nat} (hk : w.heap[k]? = some (.cells cs t fr)) (ht : t ≠ e) : ¬ rf v k := fun hr => by
  rcases h.own.2 with ⟨h1, _⟩ | ⟨g, cap, cur, h1, h2, h3, h4⟩
  · rw [h1] at hr; cases hr
  · rw [h1] at hr; cases hr
    rw [hk] at h3
    simp only [Option.some.injEq, Obj.cells.injEq] at h3
    exact ht h3.2.1
theorem heap_set_same (w : World) (g i : Nat) (cs : Array Value) (t : TypeId) (v : Value) (hg : w.heap[g]? = some (.cells cs t (0, 0))) : (w.setCell ⟨g, i, none⟩ v).heap[g]? = some (.cells (cs.setIfInBounds i v) t (0, 0)) := by
  have := heap_setCell_same w g i cs t v hg
  exact this
end
end Go.Kit
end
/-! Memos in memory: entries in a row of both ways, and a map that leads to them. No program in it. -/
section
namespace Go.Kit
set_option linter.unusedVariables false
open Go.RowKit Go.Maps Go.Proofs.YtdhaoodkelehpaaW.PrintWords
/-- An entry: its block, its key, its value. -/
structure En (κ : Type) where
  a : Nat
  k : κ
  v : Int
/-- What a kind of key is in memory, and as a key of a map. -/
structure Ky (κ : Type) where
  kv : κ → Value
  kl : κ → Lit
  inj : ∀ x y, kl x = kl y → x = y
  is : ∀ x, WideAt.IsKeyLit (kl x)
def pv : Option Nat → Value
  | none => .pointer none
  | some b => .pointer (some ⟨b, 0, none⟩)
def pd : Option Nat → DataW Unit
  | none => .lit (.int .i64 (-1))
  | some b => .lit (.int .i64 (b : Int))
def ptrElem : Value → Option (DataW Unit × List MemPlace)
  | .pointer none => some (pd none, [])
  | .pointer (some ⟨b, 0, none⟩) => some (pd (some b), [])
  | _ => none
theorem ptrElem_pv (o : Option Nat) : ptrElem (pv o) = some (pd o, []) := by cases o <;> rfl
theorem pd_inj {o p : Option Nat} (h : pd o = pd p) : o = p := by
  cases o <;> cases p <;> simp [pd] at h ⊢ <;> omega
theorem ptrElem_inv {v : Value} {o : Option Nat} {ps : List MemPlace} (h : ptrElem v = some (pd o, ps)) : v = pv o := by
  unfold ptrElem at h
  split at h
  · simp only [Option.some.injEq, Prod.mk.injEq] at h
    rw [← pd_inj h.1]; rfl
  · simp only [Option.some.injEq, Prod.mk.injEq] at h
    rw [← pd_inj h.1]; rfl
  · cases h
section
variable {κ : Type}
def hdo (L : List (En κ)) (q : Option Nat) : Option Nat := match L with | [] => q | e :: _ => some e.a
def lso (p : Option Nat) (L : List (En κ)) : Option Nat := match L with | [] => p | e :: r => lso (some e.a) r
def bl (L : List (En κ)) : List Nat := L.map (·.a)
/-- The entries' blocks: each leads to the newer and the older one. -/
def Chain (w : World) (t : TypeId) (K : Ky κ) : Option Nat → Option Nat → List (En κ) → Prop
  | _, _, [] => True
  | p, q, e :: r => w.heap[e.a]? = some (.cells #[K.kv e.k, .int .i64 e.v, pv p, pv (hdo r q)] t (0, 0)) ∧ Chain w t K (some e.a) q r
theorem pv_none : pv none = .pointer none := rfl
theorem pv_some (b : Nat) : pv (some b) = .pointer (some ⟨b, 0, none⟩) := rfl
theorem hdo_nil (q : Option Nat) : hdo ([] : List (En κ)) q = q := rfl
theorem hdo_cons (e : En κ) (r : List (En κ)) (q : Option Nat) : hdo (e :: r) q = some e.a := rfl
theorem lso_nil (p : Option Nat) : lso p ([] : List (En κ)) = p := rfl
theorem lso_cons (e : En κ) (r : List (En κ)) (p : Option Nat) : lso p (e :: r) = lso (some e.a) r := rfl
theorem hdo_append (A B : List (En κ)) (q : Option Nat) : hdo (A ++ B) q = hdo A (hdo B q) := by cases A <;> rfl
theorem lso_append : ∀ (A B : List (En κ)) (p : Option Nat), lso p (A ++ B) = lso (lso p A) B
  | [], B, p => rfl
  | e :: A, B, p => lso_append A B (some e.a)
variable {w w1 : World} {t : TypeId} {K : Ky κ}
theorem chain_append : ∀ (A B : List (En κ)) (p q : Option Nat), Chain w t K p q (A ++ B) ↔ Chain w t K p (hdo B q) A ∧ Chain w t K (lso p A) q B
  | [], B, p, q => by simp [Chain, lso]
  | e :: A, B, p, q => by
    simp only [List.cons_append, Chain, lso, hdo_append, chain_append A B (some e.a) q, and_assoc]
theorem Chain.mem : ∀ {L : List (En κ)} {p q : Option Nat}, Chain w t K p q L → ∀ e ∈ L, ∃ u v, w.heap[e.a]? = some (.cells #[K.kv e.k, .int .i64 e.v, pv u, pv v] t (0, 0))
  | x :: L, p, q, h, e, he => by
    rcases List.mem_cons.1 he with rfl | he
    · exact ⟨_, _, h.1⟩
    · exact Chain.mem h.2 e he
theorem Chain.kept : ∀ {L : List (En κ)} {p q : Option Nat}, Chain w t K p q L → (∀ e ∈ L, w1.heap[e.a]? = w.heap[e.a]?) → Chain w1 t K p q L
  | [], _, _, _, _ => trivial
  | e :: L, p, q, h, hk => ⟨(hk e (by simp)).trans h.1, h.2.kept (fun x hx => hk x (by simp [hx]))⟩
theorem Chain.lt {L : List (En κ)} {p q : Option Nat} (h : Chain w t K p q L) : ∀ k ∈ bl L, k < w.heap.size := fun k hk => by
  obtain ⟨e, he, rfl⟩ := List.mem_map.1 hk
  obtain ⟨u, v, h1⟩ := h.mem e he
  exact lt_of_block h1
/-- The last one's older, the first one's newer are set. -/
theorem Chain.setQ {A : List (En κ)} {x : En κ} {p q q1 : Option Nat} (h : Chain w t K p q (A ++ [x])) (hA : ∀ e ∈ A, w1.heap[e.a]? = w.heap[e.a]?) (hx : w1.heap[x.a]? = some (.cells #[K.kv x.k, .int .i64 x.v, pv (lso p A), pv q1] t (0, 0))) : Chain w1 t K p q1 (A ++ [x]) := by
  rw [chain_append] at h ⊢
  exact ⟨h.1.kept hA, hx, trivial⟩
theorem Chain.setP {B : List (En κ)} {y : En κ} {p q p1 : Option Nat} (h : Chain w t K p q (y :: B)) (hB : ∀ e ∈ B, w1.heap[e.a]? = w.heap[e.a]?) (hy : w1.heap[y.a]? = some (.cells #[K.kv y.k, .int .i64 y.v, pv p1, pv (hdo B q)] t (0, 0))) : Chain w1 t K p1 q (y :: B) :=
  ⟨hy, h.2.kept hB⟩
/-- What a store turns. -/
def oset (j : Nat) (v : Value) : Obj → Obj
  | .cells c t f => .cells (c.setIfInBounds j v) t f
  | o => o
theorem heap_set_if (w : World) (g j : Nat) (v : Value) (k : Nat) : (w.setCell ⟨g, j, none⟩ v).heap[k]? = if k = g then (w.heap[k]?).map (oset j v) else w.heap[k]? := by
  simp only [World.setCell, Array.getElem?_modify]
  by_cases h : k = g
  · subst h
    rw [if_pos rfl, if_pos rfl]
    congr 1
  · rw [if_neg h, if_neg (fun e => h e.symm)]
theorem heap_drew (w : World) : w.drew.heap = w.heap := rfl
/-- A memo's row. -/
structure LS (w : World) (m b : Nat) (mt et : TypeId) (K : Ky κ) (most hi mi go : Int) (L : List (En κ)) : Prop where
  bk : w.heap[m]? = some (.cells #[.int .i64 most, .map (some b), pv (hdo L none), pv (lso none L), .int .i64 hi, .int .i64 mi, .int .i64 go] mt (0, 0))
  ch : Chain w et K none none L
  nd : (bl L).Nodup
  ne : mt ≠ et
theorem not_both {k : Nat} {cs ds : Array Value} {t u : TypeId} {f g : Nat × Nat} (h1 : w.heap[k]? = some (.cells cs t f)) (h2 : w.heap[k]? = some (.cells ds u g)) : t = u := by
  rw [h1] at h2; simp only [Option.some.injEq, Obj.cells.injEq] at h2; exact h2.2.1
section
variable {m b : Nat} {mt et : TypeId} {most hi mi go : Int} {L : List (En κ)}
theorem LS.apart (h : LS w m b mt et K most hi mi go L) : m ∉ bl L := fun hm => by
  obtain ⟨e, he, rfl⟩ := List.mem_map.1 hm
  obtain ⟨u, v, h1⟩ := h.ch.mem e he
  exact h.ne (not_both h.bk h1)
/-- Its footprint: without the map. -/
def lfp (m : Nat) (L : List (En κ)) (k : Nat) : Prop := k = m ∨ k ∈ bl L
theorem LS.only {S : Nat → Prop} (h : LS w m b mt et K most hi mi go L) (ho : Only w w1 S) (hs : ∀ k, lfp m L k → ¬ S k) : LS w1 m b mt et K most hi mi go L :=
  ⟨ho.kept h.bk (hs m (.inl rfl)), h.ch.kept (fun e he => by
    obtain ⟨u, v, h1⟩ := h.ch.mem e he
    rw [h1]; exact ho.kept h1 (hs _ (.inr (List.mem_map.2 ⟨e, he, rfl⟩)))), h.nd, h.ne⟩
theorem LS.old (h : LS w m b mt et K most hi mi go L) : Old w (lfp m L) := fun k hk => hk.elim (fun e => e ▸ lt_of_block h.bk) (fun hk => h.ch.lt k hk)
end
/-- Its footprint, the map too. -/
def mfp (m b : Nat) (L : List (En κ)) (k : Nat) : Prop := k = m ∨ k = b ∨ k ∈ bl L
/-- What the map holds: each key's entry, and nothing else. -/
structure MD (K : Ky κ) [DecidableEq κ] (D : DataW Unit) (L : List (En κ)) : Prop where
  at_ : ∀ k z, D.atKey (K.kl k) z = ((L.find? (fun e => decide (e.k = k))).map (fun e => pd (some e.a))).getD z
  sz : size D = L.length
  nd : (L.map (·.k)).Nodup
section
variable [DecidableEq κ] {D : DataW Unit} {L A B : List (En κ)} {e : En κ}
theorem MD.empty (K : Ky κ) : MD K (.map []) [] := ⟨fun k z => rfl, rfl, List.nodup_nil⟩
theorem find_of_nodup : ∀ {L : List (En κ)} {e : En κ}, (L.map (·.k)).Nodup → e ∈ L → L.find? (fun x => decide (x.k = e.k)) = some e
  | x :: L, e, hn, he => by
    rw [List.map_cons, List.nodup_cons] at hn
    rcases List.mem_cons.1 he with rfl | he
    · simp
    · have hne : x.k ≠ e.k := fun h => hn.1 (h ▸ List.mem_map.2 ⟨e, he, rfl⟩)
      rw [List.find?_cons_of_neg (by simpa using hne)]
      exact find_of_nodup hn.2 he
theorem MD.has (h : MD K D L) (hT : Tidy D) (k : κ) : Maps.has D (K.kl k) = (L.find? (fun e => decide (e.k = k))).isSome := by
  cases hf : L.find? (fun e => decide (e.k = k)) with
  | none => exact has_false_of_atKey (fun z => by rw [h.at_ k z, hf]; rfl)
  | some e => exact has_true_of_atKey (y := pd (some e.a)) (fun z => by rw [h.at_ k z, hf]; rfl)
/-- A new entry. -/
theorem MD.put (h : MD K D L) (hT : Tidy D) (hf : L.find? (fun x => decide (x.k = e.k)) = none) : MD K (D.put (K.kl e.k) (pd (some e.a))) (e :: L) := by
  refine ⟨fun k z => ?_, ?_, ?_⟩
  · by_cases hk : e.k = k
    · subst hk
      rw [atKey_put_same hT.isMap (K.is _), List.find?_cons_of_pos (by simp)]; rfl
    · rw [atKey_put_other (fun e1 => hk (K.inj _ _ e1).symm), h.at_ k z, List.find?_cons_of_neg (by simpa using hk)]
  · rw [size_put hT, h.has hT, hf, h.sz]; rfl
  · rw [List.map_cons, List.nodup_cons]
    refine ⟨fun hm => ?_, h.nd⟩
    obtain ⟨x, hx, he⟩ := List.mem_map.1 hm
    have := List.find?_eq_none.1 hf x hx
    simp [he] at this
/-- An entry goes. -/
theorem MD.del (h : MD K D (A ++ e :: B)) (hT : Tidy D) : MD K (D.del (K.kl e.k)) (A ++ B) := by
  have hn := h.nd
  rw [List.map_append, List.map_cons, List.nodup_append] at hn
  obtain ⟨nA, nB, nAB⟩ := hn
  rw [List.nodup_cons] at nB
  have hfA : ∀ x ∈ A, x.k ≠ e.k := fun x hx hk => nAB x.k (List.mem_map.2 ⟨x, hx, rfl⟩) e.k (by simp) hk
  have hfB : ∀ x ∈ B, x.k ≠ e.k := fun x hx hk => nB.1 (hk ▸ List.mem_map.2 ⟨x, hx, rfl⟩)
  refine ⟨fun k z => ?_, ?_, ?_⟩
  · by_cases hk : e.k = k
    · subst hk
      have hn : (A ++ B).find? (fun x => decide (x.k = e.k)) = none := by
        refine List.find?_eq_none.2 (fun x hx => ?_)
        rcases List.mem_append.1 hx with hx | hx
        · simpa using hfA x hx
        · simpa using hfB x hx
      rw [atKey_del_same, hn]
      rfl
    · rw [atKey_del_other (fun e1 => hk (K.inj _ _ e1).symm), h.at_ k z, List.find?_append, List.find?_append, List.find?_cons_of_neg (by simpa using hk)]
  · have h1 := size_del (k := K.kl e.k) hT
    rw [h.has hT, find_of_nodup h.nd (by simp), h.sz] at h1
    simp at h1 ⊢
    omega
  · rw [List.map_append, List.nodup_append]
    exact ⟨nA, nB.2, fun x hx y hy => nAB x hx y (by simp only [List.mem_cons]; exact .inr hy)⟩
/-- The order is another one, or values are. -/
theorem MD.perm {L2 : List (En κ)} (h : MD K D L) (hp : (L.map (fun e => (e.k, e.a))).Perm (L2.map (fun e => (e.k, e.a)))) : MD K D L2 := by
  have hk : (L.map (·.k)).Perm (L2.map (·.k)) := by
    have := hp.map Prod.fst
    simpa [List.map_map, Function.comp_def] using this
  have n2 : (L2.map (·.k)).Nodup := hk.nodup_iff.1 h.nd
  refine ⟨fun k z => ?_, ?_, n2⟩
  · rw [h.at_ k z]
    congr 1
    cases hf : L.find? (fun e => decide (e.k = k)) with
    | none =>
      have hn : L2.find? (fun e => decide (e.k = k)) = none := by
        refine List.find?_eq_none.2 (fun x hx hx2 => ?_)
        have hm : x.k ∈ L.map (·.k) := hk.mem_iff.2 (List.mem_map.2 ⟨x, hx, rfl⟩)
        obtain ⟨y, hy, he⟩ := List.mem_map.1 hm
        have := List.find?_eq_none.1 hf y hy
        simp [he] at this hx2
        exact this hx2
      rw [hn]
    | some e =>
      have he := List.mem_of_find?_eq_some hf
      have hek : e.k = k := by have := List.find?_some hf; simpa using this
      have hm : (e.k, e.a) ∈ L2.map (fun e => (e.k, e.a)) := hp.mem_iff.1 (List.mem_map.2 ⟨e, he, rfl⟩)
      obtain ⟨y, hy, h2⟩ := List.mem_map.1 hm
      simp only [Prod.mk.injEq] at h2
      have := find_of_nodup n2 hy
      rw [h2.1, hek] at this
      rw [this]
      simp [h2.2]
  · rw [h.sz]; have := hp.length_eq; simpa using this
end
end
/-! ### the map's operations at entries -/
section
variable {P : Program} {k t e : TypeId} {w : World} {b n : Nat} {D : DataW Unit}
theorem owns_tight (h : w.ownsMap P k ptrElem b n D) : w.ownsMap P k ptrElem b (size D) D := by
  obtain ⟨es, clock, hb, F, hs, rfl⟩ := h
  exact ⟨es, clock, hb, F, by simp [size, length_sorted], rfl⟩
theorem look_ptr (h : w.ownsMap P k ptrElem b n D) (K : Keyed P k) (ht : P.underlying t = some (.map k e)) (hz : (zeroValue e).run P w = .ok (.pointer none) w) {key : Value} {kl : Lit} (hkey : keyOf P k key = some kl) (o : Option Nat) (hat : D.atKey kl (pd none) = pd o) :
    (Instr.lookup t (.map (some b)) key false).run P w = .ok (pv o) w := by
  obtain ⟨v, ps, hrun, hv⟩ := h.lookup K ht hz (zd := pd none) (zp := []) rfl hkey
  rw [hat] at hv
  rw [hrun, ptrElem_inv hv]
end
end Go.Kit
end
/-! Bytes: make, bytes.Equal, cut rows. -/
section
namespace Go.Proofs.Ytdhaoodkelehpaa
open Go.RowKit Go.Kit Go.Proofs.YtdhaoodkelehpaaW.PrintWords
theorem u8_info : (Try.prog.info? 5).map (fun i => (i.zero, i.size, i.bytes)) = some (some (.int .u8 0), 1, 1) := by kernel_rfl
theorem bytes_back (l : List Int) (hl : Byt l) : (l.map fun n => UInt8.ofNat n.toNat).map (fun b => (b.toNat : Int)) = l := by
  rw [List.map_map]
  conv => rhs; rw [← List.map_id l]
  apply List.map_congr_left
  intro x hx
  have := hl x hx
  simp [UInt8.toNat_ofNat']
  omega
theorem strOf_list (xs : List Int) : (strOfNums xs).toList = xs.map fun n => UInt8.ofNat n.toNat := by
  rw [ByteArray.toList_eq]; simp [strOfNums]
theorem strOf_inj {xs ys : List Int} (hx : Byt xs) (hy : Byt ys) : ((strOfNums xs).toList == (strOfNums ys).toList) = decide (xs = ys) := by
  rw [strOf_list, strOf_list]
  by_cases h : xs = ys
  · subst h; simp
  · have hne : (xs.map fun n => UInt8.ofNat n.toNat) ≠ (ys.map fun n => UInt8.ofNat n.toNat) := by
      intro e
      apply h
      rw [← bytes_back xs hx, ← bytes_back ys hy, e]
    rw [decide_eq_false h]
    exact beq_eq_false_iff_ne.2 hne
theorem run_make_rowN (t e : TypeId) (i : TypeInfo) (z : Value) (ht : Try.prog.underlying t = some (.slice e)) (hi : Try.prog.info? e = some i) (hz : i.zero = some z)
    (n c : Nat) (hnc : n ≤ c) (hbytes : i.bytes * c ≤ 281474976710656) (h63 : c ≤ 9223372036854775807) (w : World) (l k : Int) (hl : l = (n : Int)) (hk : k = (c : Int)) :
    (Instr.makeSlice t (.int .i64 l) (.int .i64 k)).run Try.prog w = .ok (.slice (some ⟨w.heap.size, 0, none⟩) n c) (w.alloc (.cells (madeCells z.cells (c * i.size)) e)) := by
  subst hl
  subst hk
  have hb : (i.bytes : Int) * (c : Int) ≤ 281474976710656 := by
    have h : ((i.bytes * c : Nat) : Int) ≤ 281474976710656 := by omega
    rwa [Int.natCast_mul] at h
  have hr := run_make (P := Try.prog) w t e i z ht hi hz .i64 .i64 n c (by omega) (by omega) hb (by omega)
  simp only [Int.toNat_natCast] at hr
  exact hr
theorem u8_size : (Try.prog.info? 5).map (·.size) = some 1 := by kernel_rfl
theorem made_u8 (c : Nat) : madeCells #[Value.int .u8 0] c = (nums .u8 (List.replicate c 0)).toArray := by
  apply Array.ext
  · simp [size_madeCells, nums]
  · intro i h1 h2; simp [madeCells, nums, Nat.mod_one]
/-- A fresh row with room. -/
theorem OB.fresh (w : World) (c : Nat) (hc : c ≤ 9223372036854775807) : OB 5 (w.alloc (.cells (nums .u8 (List.replicate c 0)).toArray 5)) w.heap.size (.slice (some ⟨w.heap.size, 0, none⟩) 0 c) [] :=
  OB.of_block (rest := nums .u8 (List.replicate c 0)) (Nat.le_refl _) (heap_alloc_new w _) rfl (by simp [nums]) hc Byt.nil
theorem RB.take_ {w : World} {A : Option Addr} {n : Nat} {xs : List Int} (h : RB w A n xs) (k : Nat) (hk : k ≤ n) : RB w A k (xs.take k) := ⟨h.rd.take_ k hk, h.byt.take k⟩
/-- A list of byte slices that is read, with their capacities. -/
structure RBc (w : World) (A : Option Addr) (n : Nat) (L : List (List Int)) : Prop where
  len : L.length = n
  max : n ≤ 9223372036854775807
  at0 : ∀ i, i < n → ∃ ad Ai ci xs, A = some ad ∧ w.cell? (ad.add i) = some (.slice Ai xs.length ci) ∧ L[i]? = some xs ∧ RB w Ai xs.length xs ∧ xs.length ≤ ci
theorem RBc.at_ {w : World} {A : Option Addr} {n : Nat} {L : List (List Int)} (h : RBc w A n L) (i : Nat) (hi : i < n) :
    ∃ ad Ai ni ci xs, A = some ad ∧ w.cell? (ad.add i) = some (.slice Ai ni ci) ∧ RB w Ai ni xs ∧ Hid (L[i]? = some xs) ∧ ni ≤ ci := by
  obtain ⟨ad, Ai, ci, xs, e, hc, hx, hr, hk⟩ := h.at0 i hi
  exact ⟨ad, Ai, xs.length, ci, xs, e, hc, hr, hx, hk⟩
theorem RBc.rbs {w : World} {A : Option Addr} {n : Nat} {L : List (List Int)} (h : RBc w A n L) : RBs w A n L :=
  ⟨h.len, h.max, fun i hi => by obtain ⟨ad, Ai, ci, xs, e, hc, hx, hr, _⟩ := h.at0 i hi; exact ⟨ad, Ai, ci, xs, e, hc, hx, hr⟩⟩
theorem RBc.below {w w1 : World} {A : Option Addr} {n : Nat} {L : List (List Int)} (h : RBc w A n L) (hb : Below w.heap.size w w1) : RBc w1 A n L :=
  ⟨h.len, h.max, fun i hi => by
    obtain ⟨ad, Ai, ci, xs, e, hc, hx, hr, hk⟩ := h.at0 i hi
    exact ⟨ad, Ai, ci, xs, e, pw_cell_below hb hc, hx, hr.below hb, hk⟩⟩
theorem RBc.nil (w : World) : RBc w none 0 [] := ⟨rfl, by omega, fun i hi => absurd hi (by omega)⟩
/-- One slice, whose box lies at g. -/
theorem RBc.one {w : World} {A : Option Addr} {n cap g : Nat} {xs : List Int} {t : TypeId} (h : RB w A n xs) (hc : n ≤ cap) (hg : w.heap[g]? = some (.cells #[.slice A n cap] t (0, 0))) : RBc w (some ⟨g, 0, none⟩) 1 [xs] := by
  refine ⟨rfl, by omega, fun i hi => ?_⟩
  obtain rfl : i = 0 := by omega
  refine ⟨_, A, cap, xs, rfl, ?_, rfl, ?_, ?_⟩
  · rw [h.len, show (⟨g, 0, none⟩ : Addr).add 0 = ⟨g, 0, none⟩ from rfl]; exact cell_of_row w g 0 _ _ _ hg
  · rw [h.len]; exact h
  · rw [h.len]; exact hc
end Go.Proofs.Ytdhaoodkelehpaa
end
/-! A memo's inner functions. -/
section
namespace Go.Proofs.Ytdhaoodkelehpaa
open Go.RowKit Go.Kit Go.Proofs.YtdhaoodkelehpaaW.PrintWords
abbrev MTI : TypeId := 67
abbrev ETI : TypeId := 77
abbrev YTI : TypeId := 64
theorem neqMapI (m : Option Nat) (w : World) : (binOp .neq 64 (.map m) (.map none)).run Try.prog w = .ok (.bool (!m.isNone)) w := run_neq_map_nil w _ _ _ m Try.underlying64
section
variable {κ : Type} {K : Ky κ} {w : World} {m b : Nat} {most hi mi go : Int}
theorem madeI {L : List (En κ)} (h : LS w m b MTI ETI K most hi mi go L) : Calls Try.prog 33 #[.pointer (some ⟨m, 0, none⟩)] w fun e w' => e = .returned (.bool true) ∧ w' = w := by
  have h1 : w.cell? ⟨m, 1, none⟩ = some (.map (some b)) := cell_of_row w m 1 _ _ _ h.bk
  have h2 := neqMapI (some b)
  clear h
  go_enter Try.func33, Try.ntmps33
  go_wp2_with fail
  go_ret
  exact ⟨rfl, rfl⟩
/-- What 'cut' leaves. -/
def CutPostI (w : World) (m b : Nat) (K : Ky κ) (most hi mi go : Int) (A : List (En κ)) (e : En κ) (B : List (En κ)) (en : Ending) (w' : World) : Prop :=
  en = .returned (.tuple #[]) ∧ LS w' m b MTI ETI K most hi mi go (A ++ B) ∧ w'.heap[e.a]? = some (.cells #[K.kv e.k, .int .i64 e.v, .pointer none, .pointer none] ETI (0, 0)) ∧ Only w w' (lfp m (A ++ e :: B))
theorem cut_finI {W : World} {A B : List (En κ)} {e : En κ} (h : LS w m b MTI ETI K most hi mi go (A ++ e :: B))
    (hm : W.heap[m]? = some (.cells #[.int .i64 most, .map (some b), pv (hdo (A ++ B) none), pv (lso none (A ++ B)), .int .i64 hi, .int .i64 mi, .int .i64 go] MTI (0, 0)))
    (he : W.heap[e.a]? = some (.cells #[K.kv e.k, .int .i64 e.v, .pointer none, .pointer none] ETI (0, 0))) (hc : Chain W ETI K none none (A ++ B)) (ho : Only w W (lfp m (A ++ e :: B))) : CutPostI w m b K most hi mi go A e B (.returned (.tuple #[])) W := by
  refine ⟨rfl, ⟨hm, hc, ?_, h.ne⟩, he, ho⟩
  refine List.Nodup.sublist ?_ h.nd
  exact ((List.Sublist.refl A).append (List.sublist_cons_self e B)).map _
set_option maxHeartbeats 4000000 in
theorem cutI0 {e : En κ} (h : LS w m b MTI ETI K most hi mi go ([] ++ e :: [])) : Calls Try.prog 34 #[.pointer (some ⟨m, 0, none⟩), .pointer (some ⟨e.a, 0, none⟩)] w (CutPostI w m b K most hi mi go [] e []) := by
  have hm := h.bk
  have hc := h.ch
  rw [chain_append] at hc
  have he := hc.2.1
  have ha := h.apart
  have hn := h.nd
  simp only [bl, List.append_assoc, List.map_append, List.map_cons, List.map_nil, List.nodup_append, List.nodup_cons, List.mem_append, List.mem_cons, List.not_mem_nil, List.nil_append, List.nodup_nil, or_false, false_or, not_or, not_false_eq_true, true_and, and_true] at hn ha
  have HN := Lib.hid hn
  have HA := Lib.hid ha
  have hme : m ≠ e.a := fun q => by simp [q] at ha
  have h2 : w.cell? ⟨e.a, 2, none⟩ = some (.pointer none) := (cell_of_row w _ 2 _ _ _ he).trans (by simp [lso_append, lso_cons, lso_nil, pv_none, pv_some])
  have h3 : w.cell? ⟨e.a, 3, none⟩ = some (.pointer none) := (cell_of_row w _ 3 _ _ _ he).trans (by simp [hdo_cons, hdo_nil, pv_none, pv_some])
  obtain ⟨u2, c2⟩ : ∃ u, w.cell? ⟨m, 2, none⟩ = some u := ⟨_, cell_of_row w _ 2 _ _ _ hm⟩
  have f2 := frozen_of_row w m 2 _ _ hm
  obtain ⟨u3, c3⟩ : ∃ u, w.cell? ⟨m, 3, none⟩ = some u := ⟨_, cell_of_row w _ 3 _ _ _ hm⟩
  have f3 := frozen_of_row w m 3 _ _ hm
  have g2 := frozen_of_row w e.a 2 _ _ he
  have g3 := frozen_of_row w e.a 3 _ _ he
  have H := Lib.hid h
  have HC := Lib.hid hc
  have Hm := Lib.hid hm
  have He := Lib.hid he
  clear h hc hm he ha hn
  obtain ⟨ea, k, v⟩ := e
  dsimp only at h2 h3 g2 g3 hme c2 c3 f2 f3 ⊢
  go_enter Try.func34, Try.ntmps34
  go_wp2_with fail
  refine bodyPost_end (v := .tuple #[]) (by simp [results, Try.results34, go_sem]) rfl (cut_finI H.out ?_ ?_ ?_ ?_)
  · simp [heap_set_if, heap_drew, Hm.out, oset, hme, Ne.symm hme, hdo_nil, hdo_cons, lso_nil, lso_cons, pv_none, pv_some, hdo_append, lso_append]
  · simp [heap_set_if, heap_drew, He.out, oset, hme, Ne.symm hme]
  · trivial
  · exact (((((Only.refl w _).set m 2 _ (.inl (.inl rfl))).set m 3 _ (.inl (.inl rfl))).set ea 2 _ (.inl (.inr (by simp [bl])))).set ea 3 _ (.inl (.inr (by simp [bl]))))
set_option maxHeartbeats 4000000 in
theorem cutI1 {e y : En κ} {B : List (En κ)} (h : LS w m b MTI ETI K most hi mi go ([] ++ e :: y :: B)) : Calls Try.prog 34 #[.pointer (some ⟨m, 0, none⟩), .pointer (some ⟨e.a, 0, none⟩)] w (CutPostI w m b K most hi mi go [] e (y :: B)) := by
  have hm := h.bk
  have hc := h.ch
  rw [chain_append] at hc
  have he := hc.2.1
  have hy := hc.2.2.1
  have ha := h.apart
  have hn := h.nd
  simp only [bl, List.append_assoc, List.map_append, List.map_cons, List.map_nil, List.nodup_append, List.nodup_cons, List.mem_append, List.mem_cons, List.not_mem_nil, List.nil_append, List.nodup_nil, or_false, false_or, not_or, not_false_eq_true, true_and, and_true] at hn ha
  have HN := Lib.hid hn
  have HA := Lib.hid ha
  have hme : m ≠ e.a := fun q => by simp [q] at ha
  have hmy : m ≠ y.a := fun q => by simp [q] at ha
  have hey : e.a ≠ y.a := fun q => by simp [q] at hn
  have h2 : w.cell? ⟨e.a, 2, none⟩ = some (.pointer none) := (cell_of_row w _ 2 _ _ _ he).trans (by simp [lso_append, lso_cons, lso_nil, pv_none, pv_some])
  have h3 : w.cell? ⟨e.a, 3, none⟩ = some (.pointer (some ⟨y.a, 0, none⟩)) := (cell_of_row w _ 3 _ _ _ he).trans (by simp [hdo_cons, hdo_nil, pv_none, pv_some])
  obtain ⟨u2, c2⟩ : ∃ u, w.cell? ⟨m, 2, none⟩ = some u := ⟨_, cell_of_row w _ 2 _ _ _ hm⟩
  have f2 := frozen_of_row w m 2 _ _ hm
  obtain ⟨u3, c3⟩ : ∃ u, w.cell? ⟨y.a, 2, none⟩ = some u := ⟨_, cell_of_row w _ 2 _ _ _ hy⟩
  have f3 := frozen_of_row w y.a 2 _ _ hy
  have g2 := frozen_of_row w e.a 2 _ _ he
  have g3 := frozen_of_row w e.a 3 _ _ he
  have H := Lib.hid h
  have HC := Lib.hid hc
  have Hm := Lib.hid hm
  have He := Lib.hid he
  have Hy := Lib.hid hy
  clear h hc hm he ha hn hy
  obtain ⟨ea, k, v⟩ := e
  obtain ⟨ya, yk, yv⟩ := y
  dsimp only at h2 h3 g2 g3 hme c2 c3 f2 f3 hmy hey ⊢
  go_enter Try.func34, Try.ntmps34
  go_wp2_with fail
  go_region_held3 (fun W => W.cell? ⟨ea, 2, none⟩ = some (.pointer none) ∧ W.cell? ⟨ea, 3, none⟩ = some (.pointer (some ⟨ya, 0, none⟩))) (simp [*, World.cell?_setCell_far, World.cell?_drew, hme, Ne.symm hme, hey, Ne.symm hey, hmy, Ne.symm hmy]) (fail)
  all_goals go_wp2_with fail
  refine bodyPost_end (v := .tuple #[]) (by simp [results, Try.results34, go_sem]) rfl (cut_finI H.out ?_ ?_ ?_ ?_)
  · simp [heap_set_if, heap_drew, Hm.out, oset, hme, Ne.symm hme, hey, Ne.symm hey, hmy, Ne.symm hmy, hdo_nil, hdo_cons, lso_nil, lso_cons, pv_none, pv_some, hdo_append, lso_append]
  · simp [heap_set_if, heap_drew, He.out, oset, hme, Ne.symm hme, hey, Ne.symm hey, hmy, Ne.symm hmy]
  · refine Chain.setP HC.out.2.2 (fun z hz => ?_) ?_
    · have hza : z.a ∈ List.map (fun x => x.a) B := List.mem_map.2 ⟨z, hz, rfl⟩
      have n1 : z.a ≠ m := fun q => by have := HA.out; rw [q] at hza; simp [hza] at this
      have n2 : z.a ≠ ea := fun q => by have := HN.out; grind
      have n4 : z.a ≠ ya := fun q => by have := HN.out; grind
      simp [heap_set_if, heap_drew, n1, n2, n4]
    · simp [heap_set_if, heap_drew, Hy.out, oset, hme, Ne.symm hme, hey, Ne.symm hey, hmy, Ne.symm hmy, pv_none, pv_some, hdo_cons, hdo_nil]
  · exact (((((Only.refl w _).set m 2 _ (.inl (.inl rfl))).set ya 2 _ (.inl (.inr (by simp [bl])))).set ea 2 _ (.inl (.inr (by simp [bl])))).set ea 3 _ (.inl (.inr (by simp [bl])))).drew
set_option maxHeartbeats 4000000 in
theorem cutI2 {e x : En κ} {A : List (En κ)} (h : LS w m b MTI ETI K most hi mi go ((A ++ [x]) ++ e :: [])) : Calls Try.prog 34 #[.pointer (some ⟨m, 0, none⟩), .pointer (some ⟨e.a, 0, none⟩)] w (CutPostI w m b K most hi mi go (A ++ [x]) e []) := by
  have hm := h.bk
  have hc := h.ch
  rw [chain_append] at hc
  rw [chain_append] at hc
  have hx := hc.1.2.1
  have he := hc.2.1
  have ha := h.apart
  have hn := h.nd
  simp only [bl, List.append_assoc, List.map_append, List.map_cons, List.map_nil, List.nodup_append, List.nodup_cons, List.mem_append, List.mem_cons, List.not_mem_nil, List.nil_append, List.nodup_nil, or_false, false_or, not_or, not_false_eq_true, true_and, and_true] at hn ha
  have HN := Lib.hid hn
  have HA := Lib.hid ha
  have hme : m ≠ e.a := fun q => by simp [q] at ha
  have hmx : m ≠ x.a := fun q => by simp [q] at ha
  have hex : e.a ≠ x.a := fun q => by simp [q] at hn
  have h2 : w.cell? ⟨e.a, 2, none⟩ = some (.pointer (some ⟨x.a, 0, none⟩)) := (cell_of_row w _ 2 _ _ _ he).trans (by simp [lso_append, lso_cons, lso_nil, pv_none, pv_some])
  have h3 : w.cell? ⟨e.a, 3, none⟩ = some (.pointer none) := (cell_of_row w _ 3 _ _ _ he).trans (by simp [hdo_cons, hdo_nil, pv_none, pv_some])
  obtain ⟨u2, c2⟩ : ∃ u, w.cell? ⟨x.a, 3, none⟩ = some u := ⟨_, cell_of_row w _ 3 _ _ _ hx⟩
  have f2 := frozen_of_row w x.a 3 _ _ hx
  obtain ⟨u3, c3⟩ : ∃ u, w.cell? ⟨m, 3, none⟩ = some u := ⟨_, cell_of_row w _ 3 _ _ _ hm⟩
  have f3 := frozen_of_row w m 3 _ _ hm
  have g2 := frozen_of_row w e.a 2 _ _ he
  have g3 := frozen_of_row w e.a 3 _ _ he
  have H := Lib.hid h
  have HC := Lib.hid hc
  have Hm := Lib.hid hm
  have He := Lib.hid he
  have Hx := Lib.hid hx
  clear h hc hm he ha hn hx
  obtain ⟨ea, k, v⟩ := e
  obtain ⟨xa, xk, xv⟩ := x
  dsimp only at h2 h3 g2 g3 hme c2 c3 f2 f3 hmx hex ⊢
  go_enter Try.func34, Try.ntmps34
  go_wp2_with fail
  go_region_held3 (fun W => W.cell? ⟨ea, 2, none⟩ = some (.pointer (some ⟨xa, 0, none⟩)) ∧ W.cell? ⟨ea, 3, none⟩ = some (.pointer none)) (simp [*, World.cell?_setCell_far, World.cell?_drew, hme, Ne.symm hme, hex, Ne.symm hex, hmx, Ne.symm hmx]) (fail)
  all_goals go_wp2_with fail
  refine bodyPost_end (v := .tuple #[]) (by simp [results, Try.results34, go_sem]) rfl (cut_finI H.out ?_ ?_ ?_ ?_)
  · simp [heap_set_if, heap_drew, Hm.out, oset, hme, Ne.symm hme, hex, Ne.symm hex, hmx, Ne.symm hmx, hdo_nil, hdo_cons, lso_nil, lso_cons, pv_none, pv_some, hdo_append, lso_append]
  · simp [heap_set_if, heap_drew, He.out, oset, hme, Ne.symm hme, hex, Ne.symm hex, hmx, Ne.symm hmx]
  · rw [List.append_nil]
    refine Chain.setQ ((chain_append _ _ _ _).2 HC.out.1) (fun z hz => ?_) ?_
    · have hza : z.a ∈ List.map (fun x => x.a) A := List.mem_map.2 ⟨z, hz, rfl⟩
      have n1 : z.a ≠ m := fun q => by have := HA.out; rw [q] at hza; simp [hza] at this
      have n2 : z.a ≠ ea := fun q => by have := HN.out; grind
      have n3 : z.a ≠ xa := fun q => by have := HN.out; grind
      simp [heap_set_if, heap_drew, n1, n2, n3]
    · simp [heap_set_if, heap_drew, Hx.out, oset, hme, Ne.symm hme, hex, Ne.symm hex, hmx, Ne.symm hmx, pv_none, pv_some, hdo_cons, hdo_nil]
  · exact (((((Only.refl w _).set xa 3 _ (.inl (.inr (by simp [bl])))).set m 3 _ (.inl (.inl rfl))).set ea 2 _ (.inl (.inr (by simp [bl])))).set ea 3 _ (.inl (.inr (by simp [bl])))).drew
set_option maxHeartbeats 4000000 in
theorem cutI3 {e x y : En κ} {A : List (En κ)} {B : List (En κ)} (h : LS w m b MTI ETI K most hi mi go ((A ++ [x]) ++ e :: y :: B)) : Calls Try.prog 34 #[.pointer (some ⟨m, 0, none⟩), .pointer (some ⟨e.a, 0, none⟩)] w (CutPostI w m b K most hi mi go (A ++ [x]) e (y :: B)) := by
  have hm := h.bk
  have hc := h.ch
  rw [chain_append] at hc
  rw [chain_append] at hc
  have hx := hc.1.2.1
  have he := hc.2.1
  have hy := hc.2.2.1
  have ha := h.apart
  have hn := h.nd
  simp only [bl, List.append_assoc, List.map_append, List.map_cons, List.map_nil, List.nodup_append, List.nodup_cons, List.mem_append, List.mem_cons, List.not_mem_nil, List.nil_append, List.nodup_nil, or_false, false_or, not_or, not_false_eq_true, true_and, and_true] at hn ha
  have HN := Lib.hid hn
  have HA := Lib.hid ha
  have hme : m ≠ e.a := fun q => by simp [q] at ha
  have hmx : m ≠ x.a := fun q => by simp [q] at ha
  have hex : e.a ≠ x.a := fun q => by simp [q] at hn
  have hmy : m ≠ y.a := fun q => by simp [q] at ha
  have hey : e.a ≠ y.a := fun q => by simp [q] at hn
  have hxy : x.a ≠ y.a := fun q => by simp [q] at hn
  have h2 : w.cell? ⟨e.a, 2, none⟩ = some (.pointer (some ⟨x.a, 0, none⟩)) := (cell_of_row w _ 2 _ _ _ he).trans (by simp [lso_append, lso_cons, lso_nil, pv_none, pv_some])
  have h3 : w.cell? ⟨e.a, 3, none⟩ = some (.pointer (some ⟨y.a, 0, none⟩)) := (cell_of_row w _ 3 _ _ _ he).trans (by simp [hdo_cons, hdo_nil, pv_none, pv_some])
  obtain ⟨u2, c2⟩ : ∃ u, w.cell? ⟨x.a, 3, none⟩ = some u := ⟨_, cell_of_row w _ 3 _ _ _ hx⟩
  have f2 := frozen_of_row w x.a 3 _ _ hx
  obtain ⟨u3, c3⟩ : ∃ u, w.cell? ⟨y.a, 2, none⟩ = some u := ⟨_, cell_of_row w _ 2 _ _ _ hy⟩
  have f3 := frozen_of_row w y.a 2 _ _ hy
  have g2 := frozen_of_row w e.a 2 _ _ he
  have g3 := frozen_of_row w e.a 3 _ _ he
  have H := Lib.hid h
  have HC := Lib.hid hc
  have Hm := Lib.hid hm
  have He := Lib.hid he
  have Hx := Lib.hid hx
  have Hy := Lib.hid hy
  clear h hc hm he ha hn hx hy
  obtain ⟨ea, k, v⟩ := e
  obtain ⟨xa, xk, xv⟩ := x
  obtain ⟨ya, yk, yv⟩ := y
  dsimp only at h2 h3 g2 g3 hme c2 c3 f2 f3 hmx hex hmy hey hxy ⊢
  go_enter Try.func34, Try.ntmps34
  go_wp2_with fail
  go_region_held3 (fun W => W.cell? ⟨ea, 2, none⟩ = some (.pointer (some ⟨xa, 0, none⟩)) ∧ W.cell? ⟨ea, 3, none⟩ = some (.pointer (some ⟨ya, 0, none⟩))) (simp [*, World.cell?_setCell_far, World.cell?_drew, hme, Ne.symm hme, hex, Ne.symm hex, hmx, Ne.symm hmx, hey, Ne.symm hey, hmy, Ne.symm hmy, hxy, Ne.symm hxy]) (fail)
  all_goals go_wp2_with fail
  go_region_held3 (fun W => W.cell? ⟨ea, 2, none⟩ = some (.pointer (some ⟨xa, 0, none⟩)) ∧ W.cell? ⟨ea, 3, none⟩ = some (.pointer (some ⟨ya, 0, none⟩))) (simp [*, World.cell?_setCell_far, World.cell?_drew, hme, Ne.symm hme, hex, Ne.symm hex, hmx, Ne.symm hmx, hey, Ne.symm hey, hmy, Ne.symm hmy, hxy, Ne.symm hxy]) (fail)
  all_goals go_wp2_with fail
  refine bodyPost_end (v := .tuple #[]) (by simp [results, Try.results34, go_sem]) rfl (cut_finI H.out ?_ ?_ ?_ ?_)
  · simp [heap_set_if, heap_drew, Hm.out, oset, hme, Ne.symm hme, hex, Ne.symm hex, hmx, Ne.symm hmx, hey, Ne.symm hey, hmy, Ne.symm hmy, hxy, Ne.symm hxy, hdo_nil, hdo_cons, lso_nil, lso_cons, pv_none, pv_some, hdo_append, lso_append]
  · simp [heap_set_if, heap_drew, He.out, oset, hme, Ne.symm hme, hex, Ne.symm hex, hmx, Ne.symm hmx, hey, Ne.symm hey, hmy, Ne.symm hmy, hxy, Ne.symm hxy]
  · rw [chain_append]
    constructor
    · refine Chain.setQ ((chain_append _ _ _ _).2 HC.out.1) (fun z hz => ?_) ?_
      · have hza : z.a ∈ List.map (fun x => x.a) A := List.mem_map.2 ⟨z, hz, rfl⟩
        have n1 : z.a ≠ m := fun q => by have := HA.out; rw [q] at hza; simp [hza] at this
        have n2 : z.a ≠ ea := fun q => by have := HN.out; grind
        have n3 : z.a ≠ xa := fun q => by have := HN.out; grind
        have n4 : z.a ≠ ya := fun q => by have := HN.out; grind
        simp [heap_set_if, heap_drew, n1, n2, n3, n4]
      · simp [heap_set_if, heap_drew, Hx.out, oset, hme, Ne.symm hme, hex, Ne.symm hex, hmx, Ne.symm hmx, hey, Ne.symm hey, hmy, Ne.symm hmy, hxy, Ne.symm hxy, pv_none, pv_some, hdo_cons, hdo_nil]
    · refine Chain.setP HC.out.2.2 (fun z hz => ?_) ?_
      · have hza : z.a ∈ List.map (fun x => x.a) B := List.mem_map.2 ⟨z, hz, rfl⟩
        have n1 : z.a ≠ m := fun q => by have := HA.out; rw [q] at hza; simp [hza] at this
        have n2 : z.a ≠ ea := fun q => by have := HN.out; grind
        have n3 : z.a ≠ xa := fun q => by have := HN.out; grind
        have n4 : z.a ≠ ya := fun q => by have := HN.out; grind
        simp [heap_set_if, heap_drew, n1, n2, n3, n4]
      · simp [heap_set_if, heap_drew, Hy.out, oset, hme, Ne.symm hme, hex, Ne.symm hex, hmx, Ne.symm hmx, hey, Ne.symm hey, hmy, Ne.symm hmy, hxy, Ne.symm hxy, pv_none, pv_some, lso_append, lso_cons, lso_nil]
  · exact (((((Only.refl w _).set xa 3 _ (.inl (.inr (by simp [bl])))).set ya 2 _ (.inl (.inr (by simp [bl])))).set ea 2 _ (.inl (.inr (by simp [bl])))).set ea 3 _ (.inl (.inr (by simp [bl])))).drew.drew
theorem cutI {A B : List (En κ)} {e : En κ} (h : LS w m b MTI ETI K most hi mi go (A ++ e :: B)) : Calls Try.prog 34 #[.pointer (some ⟨m, 0, none⟩), .pointer (some ⟨e.a, 0, none⟩)] w (CutPostI w m b K most hi mi go A e B) := by
  rcases List.eq_nil_or_concat A with rfl | ⟨A, x, rfl⟩
  · cases B with
    | nil => exact cutI0 h
    | cons y B => exact cutI1 h
  · rw [List.concat_eq_append] at h ⊢
    cases B with
    | nil => exact cutI2 h
    | cons y B => exact cutI3 h
/-- What 'front' leaves. -/
def FrontPostI (w : World) (m b : Nat) (K : Ky κ) (most hi mi go : Int) (e : En κ) (L : List (En κ)) (en : Ending) (w' : World) : Prop :=
  en = .returned (.tuple #[]) ∧ LS w' m b MTI ETI K most hi mi go (e :: L) ∧ Only w w' (lfp m (e :: L))
set_option maxHeartbeats 4000000 in
theorem frontI0 {e : En κ} (h : LS w m b MTI ETI K most hi mi go []) (he : w.heap[e.a]? = some (.cells #[K.kv e.k, .int .i64 e.v, .pointer none, .pointer none] ETI (0, 0))) (hne : e.a ∉ bl (κ := κ) []) : Calls Try.prog 35 #[.pointer (some ⟨m, 0, none⟩), .pointer (some ⟨e.a, 0, none⟩)] w (FrontPostI w m b K most hi mi go e []) := by
  have hm := h.bk
  have ha := h.apart
  have hme : m ≠ e.a := fun q => h.ne (not_both hm (q ▸ he))
  have h2 : w.cell? ⟨m, 2, none⟩ = some (.pointer none) := (cell_of_row w _ 2 _ _ _ hm).trans (by simp [hdo_cons, hdo_nil, pv_none, pv_some])
  obtain ⟨u3, h3⟩ : ∃ u, w.cell? ⟨m, 3, none⟩ = some u := ⟨_, cell_of_row w _ 3 _ _ _ hm⟩
  have k3 : w.cell? ⟨e.a, 3, none⟩ = some (.pointer none) := cell_of_row w _ 3 _ _ _ he
  have f2 := frozen_of_row w m 2 _ _ hm
  have f3 := frozen_of_row w m 3 _ _ hm
  have g3 := frozen_of_row w e.a 3 _ _ he
  have H := Lib.hid h
  have Hm := Lib.hid hm
  have He := Lib.hid he
  have HA := Lib.hid ha
  have HE := Lib.hid hne
  clear h hm he ha hne
  obtain ⟨ea, k, v⟩ := e
  dsimp only at h2 k3 g3 hme ⊢
  go_enter Try.func35, Try.ntmps35
  go_wp2_with fail
  refine bodyPost_end (v := .tuple #[]) (by simp [results, Try.results35, go_sem]) rfl ⟨rfl, ⟨?_, ⟨?_, ?_⟩, ?_, H.out.ne⟩, ?_⟩
  · simp [heap_set_if, Hm.out, oset, hme, Ne.symm hme, hdo_nil, hdo_cons, lso_nil, lso_cons, pv_none, pv_some]
  · simp [heap_set_if, He.out, oset, hme, Ne.symm hme, hdo_nil, hdo_cons, pv_none, pv_some]
  · trivial
  · exact List.nodup_cons.2 ⟨HE.out, H.out.nd⟩
  · exact ((((Only.refl w _).set ea 3 _ (.inl (.inr (by simp [bl])))).set m 3 _ (.inl (.inl rfl))).set m 2 _ (.inl (.inl rfl)))
set_option maxHeartbeats 4000000 in
theorem frontI1 {e x : En κ} {B : List (En κ)} (h : LS w m b MTI ETI K most hi mi go (x :: B)) (he : w.heap[e.a]? = some (.cells #[K.kv e.k, .int .i64 e.v, .pointer none, .pointer none] ETI (0, 0))) (hne : e.a ∉ bl (κ := κ) (x :: B)) : Calls Try.prog 35 #[.pointer (some ⟨m, 0, none⟩), .pointer (some ⟨e.a, 0, none⟩)] w (FrontPostI w m b K most hi mi go e (x :: B)) := by
  have hm := h.bk
  have hx := h.ch.1
  have ha := h.apart
  have hme : m ≠ e.a := fun q => h.ne (not_both hm (q ▸ he))
  have hmx : m ≠ x.a := fun q => ha (by simp [bl, q])
  have hex : e.a ≠ x.a := fun q => hne (by simp [bl, q])
  have h2 : w.cell? ⟨m, 2, none⟩ = some (.pointer (some ⟨x.a, 0, none⟩)) := (cell_of_row w _ 2 _ _ _ hm).trans (by simp [hdo_cons, hdo_nil, pv_none, pv_some])
  obtain ⟨u3, h3⟩ : ∃ u, w.cell? ⟨m, 3, none⟩ = some u := ⟨_, cell_of_row w _ 3 _ _ _ hm⟩
  have k3 : w.cell? ⟨e.a, 3, none⟩ = some (.pointer none) := cell_of_row w _ 3 _ _ _ he
  have f2 := frozen_of_row w m 2 _ _ hm
  have f3 := frozen_of_row w m 3 _ _ hm
  have g3 := frozen_of_row w e.a 3 _ _ he
  obtain ⟨u2, c2⟩ : ∃ u, w.cell? ⟨x.a, 2, none⟩ = some u := ⟨_, cell_of_row w _ 2 _ _ _ hx⟩
  have x2 := frozen_of_row w x.a 2 _ _ hx
  have H := Lib.hid h
  have Hm := Lib.hid hm
  have He := Lib.hid he
  have HA := Lib.hid ha
  have HE := Lib.hid hne
  have Hx := Lib.hid hx
  clear h hm he ha hne hx
  obtain ⟨ea, k, v⟩ := e
  obtain ⟨xa, xk, xv⟩ := x
  dsimp only at h2 k3 g3 hme hmx hex c2 x2 ⊢
  go_enter Try.func35, Try.ntmps35
  go_wp2_with fail
  refine bodyPost_end (v := .tuple #[]) (by simp [results, Try.results35, go_sem]) rfl ⟨rfl, ⟨?_, ⟨?_, ?_⟩, ?_, H.out.ne⟩, ?_⟩
  · simp [heap_set_if, Hm.out, oset, hme, Ne.symm hme, hex, Ne.symm hex, hmx, Ne.symm hmx, hdo_nil, hdo_cons, lso_nil, lso_cons, pv_none, pv_some]
  · simp [heap_set_if, He.out, oset, hme, Ne.symm hme, hex, Ne.symm hex, hmx, Ne.symm hmx, hdo_nil, hdo_cons, pv_none, pv_some]
  · refine Chain.setP H.out.ch (fun z hz => ?_) ?_
    · have n1 : z.a ≠ m := fun q => HA.out (by rw [← q]; exact List.mem_map.2 ⟨z, by simp [hz], rfl⟩)
      have n2 : z.a ≠ ea := fun q => HE.out (by rw [← q]; exact List.mem_map.2 ⟨z, by simp [hz], rfl⟩)
      have hn := H.out.nd
      simp only [bl, List.map_cons, List.nodup_cons] at hn
      have n3 : z.a ≠ xa := fun q => hn.1 (by rw [← q]; exact List.mem_map.2 ⟨z, hz, rfl⟩)
      simp [heap_set_if, n1, n2, n3]
    · simp [heap_set_if, Hx.out, oset, hme, Ne.symm hme, hex, Ne.symm hex, hmx, Ne.symm hmx, hdo_nil, hdo_cons, pv_none, pv_some]
  · exact List.nodup_cons.2 ⟨HE.out, H.out.nd⟩
  · exact ((((Only.refl w _).set ea 3 _ (.inl (.inr (by simp [bl])))).set xa 2 _ (.inl (.inr (by simp [bl])))).set m 2 _ (.inl (.inl rfl)))
theorem frontI {e : En κ} {L : List (En κ)} (h : LS w m b MTI ETI K most hi mi go L) (he : w.heap[e.a]? = some (.cells #[K.kv e.k, .int .i64 e.v, .pointer none, .pointer none] ETI (0, 0))) (hne : e.a ∉ bl L) : Calls Try.prog 35 #[.pointer (some ⟨m, 0, none⟩), .pointer (some ⟨e.a, 0, none⟩)] w (FrontPostI w m b K most hi mi go e L) := by
  cases L with
  | nil => exact frontI0 h he hne
  | cons x B => exact frontI1 h he hne
end
end Go.Proofs.Ytdhaoodkelehpaa
end
/-! What a memo is, by its calls. No program, no memory in it. -/
section
set_option linter.unusedVariables false
namespace Go.Kit
/-- A memo: how many it may keep, its keys and values, the newest first, its counts. -/
structure Sp (κ : Type) where
  most : Int
  l : List (κ × Int)
  hi : Int
  mi : Int
  go : Int
section
variable {κ : Type} [DecidableEq κ]
def fnd (l : List (κ × Int)) (k : κ) : Option Int := (l.find? (fun x => decide (x.1 = k))).map (·.2)
def ers (l : List (κ × Int)) (k : κ) : List (κ × Int) := l.filter (fun x => decide (x.1 ≠ k))
def Sp.get (S : Sp κ) (k : κ) : Sp κ := match fnd S.l k with | none => { S with mi := S.mi + 1 } | some v => { S with l := (k, v) :: ers S.l k, hi := S.hi + 1 }
def Sp.full (S : Sp κ) : Bool := decide (S.most ≤ (S.l.length : Int))
def Sp.put (S : Sp κ) (k : κ) (v : Int) : Sp κ := match fnd S.l k with
  | some _ => { S with l := (k, v) :: ers S.l k }
  | none => if S.full then { S with l := (k, v) :: S.l.dropLast, go := S.go + 1 } else { S with l := (k, v) :: S.l }
/-- What had to go for it. -/
def Sp.out (S : Sp κ) (k : κ) : Option κ := match fnd S.l k with
  | some _ => none
  | none => if S.full then S.l.getLast?.map (·.1) else none
def Sp.drop (S : Sp κ) (k : κ) : Sp κ := { S with l := ers S.l k }
def Sp.ok (S : Sp κ) : Prop := (S.l.map (·.1)).Nodup ∧ (S.l.length : Int) ≤ S.most ∧ 1 ≤ S.most ∧ S.most ≤ 4096
/-- While it is made smaller there may be more than it may keep. -/
def Sp.okw (S : Sp κ) : Prop := (S.l.map (·.1)).Nodup ∧ (S.l.length : Int) ≤ 4096 ∧ 1 ≤ S.most ∧ S.most ≤ 4096
theorem Sp.ok.weak {S : Sp κ} (h : S.ok) : S.okw := ⟨h.1, by have := h.2.1; have := h.2.2.2; omega, h.2.2⟩
def kvs (L : List (En κ)) : List (κ × Int) := L.map fun e => (e.k, e.v)
theorem kvs_keys (L : List (En κ)) : (kvs L).map (·.1) = L.map (·.k) := by simp [kvs, List.map_map, Function.comp_def]
theorem fnd_kvs (L : List (En κ)) (k : κ) : fnd (kvs L) k = (L.find? (fun e => decide (e.k = k))).map (·.v) := by
  unfold fnd kvs
  rw [List.find?_map]
  simp [Option.map_map, Function.comp_def]
theorem ers_out : ∀ {l : List (κ × Int)} {k : κ}, (∀ x ∈ l, x.1 ≠ k) → ers l k = l := fun {l k} h => by
  unfold ers
  exact List.filter_eq_self.2 (fun x hx => by simpa using h x hx)
theorem fnd_none {l : List (κ × Int)} {k : κ} : fnd l k = none ↔ ∀ x ∈ l, x.1 ≠ k := by
  unfold fnd
  rw [Option.map_eq_none_iff, List.find?_eq_none]
  simp
/-- The entry of a key, and what stands on its two sides. -/
theorem split_find {L : List (En κ)} {k : κ} {e : En κ} (hn : (L.map (·.k)).Nodup) (hf : L.find? (fun e => decide (e.k = k)) = some e) : e.k = k ∧ ∃ A B, L = A ++ e :: B ∧ ers (kvs L) k = kvs (A ++ B) := by
  obtain ⟨hk, A, B, rfl, hA⟩ := List.find?_eq_some_iff_append.1 hf
  have hk : e.k = k := by simpa using hk
  refine ⟨hk, A, B, rfl, ?_⟩
  subst hk
  rw [List.map_append, List.map_cons, List.nodup_append, List.nodup_cons] at hn
  unfold ers kvs
  rw [List.map_append, List.map_append, List.filter_append, List.map_cons, List.filter_cons_of_neg (by simp)]
  congr 1
  · refine List.filter_eq_self.2 (fun x hx => ?_)
    obtain ⟨y, hy, rfl⟩ := List.mem_map.1 hx
    have := hA y hy
    simpa using this
  · refine List.filter_eq_self.2 (fun x hx => ?_)
    obtain ⟨y, hy, rfl⟩ := List.mem_map.1 hx
    have : y.k ≠ e.k := fun q => hn.2.1.1 (q ▸ List.mem_map.2 ⟨y, hy, rfl⟩)
    simpa using this
theorem ers_length {l : List (κ × Int)} {k : κ} : (ers l k).length ≤ l.length := List.length_filter_le _ _
theorem ers_nodup {l : List (κ × Int)} (k : κ) (h : (l.map (·.1)).Nodup) : ((ers l k).map (·.1)).Nodup := h.sublist (List.filter_sublist.map _)
theorem not_mem_ers (l : List (κ × Int)) (k : κ) : k ∉ (ers l k).map (·.1) := by
  simp [ers]
theorem mem_of_fnd {l : List (κ × Int)} {k : κ} {v : Int} (h : fnd l k = some v) : (k, v) ∈ l := by
  unfold fnd at h
  obtain ⟨x, hx, hv⟩ := Option.map_eq_some_iff.1 h
  have h1 := List.mem_of_find?_eq_some hx
  have h2 := List.find?_some hx
  simp only [decide_eq_true_eq] at h2
  subst h2 hv
  exact h1
theorem ers_lt {l : List (κ × Int)} {k : κ} {v : Int} (h : fnd l k = some v) : (ers l k).length + 1 ≤ l.length := by
  have hm := mem_of_fnd h
  have : (ers l k).length < l.length := List.length_filter_lt_length_iff_exists.2 ⟨_, hm, by simp⟩
  omega
theorem Sp.get_ok {S : Sp κ} (h : S.ok) (k : κ) : (S.get k).ok := by
  unfold Sp.get
  split
  · exact h
  · rename_i v hv
    have := ers_lt hv
    refine ⟨?_, ?_, h.2.2⟩
    · rw [List.map_cons, List.nodup_cons]; exact ⟨not_mem_ers _ _, ers_nodup k h.1⟩
    · have := h.2.1; simp only [List.length_cons]; omega
theorem Sp.put_ok {S : Sp κ} (h : S.ok) (k : κ) (v : Int) : (S.put k v).ok := by
  obtain ⟨h1, h2, h3, h4⟩ := h
  unfold Sp.put
  split
  · rename_i u hu
    have := ers_lt hu
    refine ⟨?_, ?_, h3, h4⟩
    · rw [List.map_cons, List.nodup_cons]; exact ⟨not_mem_ers _ _, ers_nodup k h1⟩
    · simp only [List.length_cons]; omega
  · rename_i hu
    have hk : k ∉ S.l.map (·.1) := fun hm => by
      obtain ⟨x, hx, rfl⟩ := List.mem_map.1 hm
      exact fnd_none.1 hu x hx rfl
    split
    · refine ⟨?_, ?_, h3, h4⟩
      · rw [List.map_cons, List.nodup_cons]
        exact ⟨fun hm => hk (((List.dropLast_sublist _).map _).subset hm), h1.sublist ((List.dropLast_sublist _).map _)⟩
      · simp only [List.length_cons, List.length_dropLast]; omega
    · rename_i hf
      simp only [Sp.full, decide_eq_true_eq] at hf
      refine ⟨?_, ?_, h3, h4⟩
      · rw [List.map_cons, List.nodup_cons]; exact ⟨hk, h1⟩
      · simp only [List.length_cons]; omega
theorem Sp.drop_ok {S : Sp κ} (h : S.ok) (k : κ) : (S.drop k).ok := by
  obtain ⟨h1, h2, h3, h4⟩ := h
  exact ⟨ers_nodup k h1, by have := ers_length (l := S.l) (k := k); show ((ers S.l k).length : Int) ≤ S.most; omega, h3, h4⟩
end
end Go.Kit
end
/-! A memo in memory, with its map. New, Len, Look. -/
section
set_option linter.unusedVariables false
namespace Go.Proofs.Ytdhaoodkelehpaa
open Go.RowKit Go.Kit Go.Proofs.YtdhaoodkelehpaaW.PrintWords
open Go.Maps (Keyed int_keyed string_keyed)
abbrev KTI : TypeId := 3
abbrev PTI : TypeId := 65
theorem keyedI : Keyed Try.prog KTI := int_keyed Try.underlying3
theorem zeroPI (w : World) : (zeroValue PTI).run Try.prog w = .ok (.pointer none) w := by kernel_rfl
/-- A memo: its row, its map, and what it is by its calls. -/
structure MeI {κ : Type} [DecidableEq κ] (w : World) (m b : Nat) (K : Ky κ) (L : List (En κ)) (S : Sp κ) : Prop where
  ls : LS w m b MTI ETI K S.most S.hi S.mi S.go L
  mp : ∃ D, w.ownsMap Try.prog KTI ptrElem b L.length D ∧ MD K D L
  ky : ∀ e ∈ L, keyOf Try.prog KTI (K.kv e.k) = some (K.kl e.k)
  eq : S.l = kvs L
  ok : S.okw
  cnt : 0 ≤ S.hi ∧ 0 ≤ S.mi ∧ 0 ≤ S.go
section
variable {κ : Type} [DecidableEq κ] {K : Ky κ} {w w1 : World} {m b : Nat} {L : List (En κ)} {S : Sp κ}
theorem owns_onlyI {D : DataW Unit} {n : Nat} {X : Nat → Prop} (h : w.ownsMap Try.prog KTI ptrElem b n D) (ho : Only w w1 X) (hs : ¬ X b) : w1.ownsMap Try.prog KTI ptrElem b n D := by
  obtain ⟨es, clock, hb, r⟩ := h
  exact ⟨es, clock, ho.kept hb hs, r⟩
theorem MeI.mb (h : MeI w m b K L S) : m ≠ b := fun e => by
  obtain ⟨D, ⟨es, clock, hb, _⟩, _⟩ := h.mp
  have := h.ls.bk
  rw [e, hb] at this
  cases this
theorem MeI.eb (h : MeI w m b K L S) : b ∉ bl L := fun e => by
  obtain ⟨D, ⟨es, clock, hb, _⟩, _⟩ := h.mp
  obtain ⟨x, hx, rfl⟩ := List.mem_map.1 e
  obtain ⟨u, v, h1⟩ := h.ls.ch.mem x hx
  rw [hb] at h1
  cases h1
theorem MeI.lb (h : MeI w m b K L S) : ¬ lfp m L b := fun e => e.elim (fun e => h.mb e.symm) h.eb
/-- Its footprint. -/
theorem MeI.only {X : Nat → Prop} (h : MeI w m b K L S) (ho : Only w w1 X) (hs : ∀ k, mfp m b L k → ¬ X k) : MeI w1 m b K L S :=
  ⟨h.ls.only ho (fun k hk => hs k (hk.elim .inl (fun h => .inr (.inr h)))), h.mp.imp fun D hD => ⟨owns_onlyI hD.1 ho (hs b (.inr (.inl rfl))), hD.2⟩, h.ky, h.eq, h.ok, h.cnt⟩
theorem MeI.below (h : MeI w m b K L S) (hb : Below w.heap.size w w1) : MeI w1 m b K L S := h.only (Only.of_below hb (fun _ => False)) (fun _ _ e => e)
theorem MeI.drewN (h : MeI w m b K L S) (k : Nat) : MeI (w.drewN k) m b K L S := h.below (pw_below_drewN (Below.refl _ _) k)
theorem MeI.old (h : MeI w m b K L S) : Old w (mfp m b L) := fun k hk => by
  rcases hk with rfl | rfl | hk
  · exact lt_of_block h.ls.bk
  · obtain ⟨D, ⟨es, clock, hb, _⟩, _⟩ := h.mp; exact lt_of_block hb
  · exact h.ls.ch.lt k hk
theorem MeI.len (h : MeI w m b K L S) : S.l.length = L.length := by rw [h.eq]; simp [kvs]
theorem MeI.made (h : MeI w m b K L S) : Calls Try.prog 33 #[.pointer (some ⟨m, 0, none⟩)] w fun e w' => e = .returned (.bool true) ∧ w' = w := madeI h.ls
theorem MeI.c1 (h : MeI w m b K L S) : w.cell? ⟨m, 1, none⟩ = some (.map (some b)) := cell_of_row w m 1 _ _ _ h.ls.bk
/-- len(m.by) -/
theorem MeI.run_len (h : MeI w m b K L S) (ty : TypeId) : (Builtin.len_ #[YTI] ty #[.map (some b)]).run Try.prog w = .ok (.int .i64 (L.length : Int)) w := by
  obtain ⟨D, hD, hM⟩ := h.mp
  rw [hD.len (e := PTI) Try.underlying64 ty, hM.sz]
/-- m.by[k] -/
theorem MeI.run_look (h : MeI w m b K L S) {k : κ} (hk : keyOf Try.prog KTI (K.kv k) = some (K.kl k)) : (Instr.lookup YTI (.map (some b)) (K.kv k) false).run Try.prog w = .ok (pv ((L.find? (fun e => decide (e.k = k))).map (·.a))) w := by
  obtain ⟨D, hD, hM⟩ := h.mp
  refine look_ptr hD keyedI (e := PTI) Try.underlying64 (zeroPI w) hk _ ?_
  rw [hM.at_ k]
  cases L.find? (fun e => decide (e.k = k)) <;> rfl
theorem MeI.max (h : MeI w m b K L S) : L.length ≤ 4096 := by have := h.len; have := h.ok.2.1; omega
theorem lenI (h : MeI w m b K L S) : Calls Try.prog 16 #[.pointer (some ⟨m, 0, none⟩)] w fun e w' => e = .returned (.int .i64 (S.l.length : Int)) ∧ w' = w := by
  rw [h.len]
  have h1 := h.c1
  have h2 := h.run_len
  have H := Lib.hid h
  clear h
  go_enter Try.func16, Try.ntmps16
  go_wp2_with fail
  refine H.out.made.mono ?_
  rintro e w1 ⟨rfl, rfl⟩
  go_wp2_with fail
  go_ret
  exact ⟨rfl, rfl⟩
end
end Go.Proofs.Ytdhaoodkelehpaa
end
/-! The oldest entry goes. -/
section
set_option linter.unusedVariables false
namespace Go.Proofs.Ytdhaoodkelehpaa
open Go.RowKit Go.Kit Go.Proofs.YtdhaoodkelehpaaW.PrintWords
section
variable {κ : Type} [DecidableEq κ] {K : Ky κ} {w w1 : World} {m b : Nat} {L A B : List (En κ)} {e : En κ} {S : Sp κ} {most hi mi go : Int}
theorem hitI (h : LS w m b MTI ETI K most hi mi go L) (x : Int) : LS (w.setCell ⟨m, 4, none⟩ (.int .i64 x)) m b MTI ETI K most x mi go L :=
  ⟨heap_set_same w m 4 _ _ _ h.bk, h.ch.kept (fun e he => heap_setCell_other _ _ _ _ (fun q => h.apart (by rw [← (show e.a = m from q)]; exact List.mem_map.2 ⟨e, he, rfl⟩))), h.nd, h.ne⟩
theorem misI (h : LS w m b MTI ETI K most hi mi go L) (x : Int) : LS (w.setCell ⟨m, 5, none⟩ (.int .i64 x)) m b MTI ETI K most hi x go L :=
  ⟨heap_set_same w m 5 _ _ _ h.bk, h.ch.kept (fun e he => heap_setCell_other _ _ _ _ (fun q => h.apart (by rw [← (show e.a = m from q)]; exact List.mem_map.2 ⟨e, he, rfl⟩))), h.nd, h.ne⟩
theorem gonI (h : LS w m b MTI ETI K most hi mi go L) (x : Int) : LS (w.setCell ⟨m, 6, none⟩ (.int .i64 x)) m b MTI ETI K most hi mi x L :=
  ⟨heap_set_same w m 6 _ _ _ h.bk, h.ch.kept (fun e he => heap_setCell_other _ _ _ _ (fun q => h.apart (by rw [← (show e.a = m from q)]; exact List.mem_map.2 ⟨e, he, rfl⟩))), h.nd, h.ne⟩
theorem mosI (h : LS w m b MTI ETI K most hi mi go L) (x : Int) : LS (w.setCell ⟨m, 0, none⟩ (.int .i64 x)) m b MTI ETI K x hi mi go L :=
  ⟨heap_set_same w m 0 _ _ _ h.bk, h.ch.kept (fun e he => heap_setCell_other _ _ _ _ (fun q => h.apart (by rw [← (show e.a = m from q)]; exact List.mem_map.2 ⟨e, he, rfl⟩))), h.nd, h.ne⟩
theorem del_delI {H : Type} {D : DataW H} (k : Lit) : (D.del k).del k = D.del k := Maps.del_of_not_has Maps.has_del_same
theorem mapTurned_onlyI {w w2 : World} {b : Nat} (h : w.mapTurned w2 b) : Only w w2 (fun k => k = b) := by
  have := h.grown
  exact ⟨this.os, this.tape, this.output, this.size, fun k hk hn => this.block k hk (fun e => hn (by cases e; rfl))⟩
/-- What stands while the oldest one's key is deleted. -/
def GonSI (w1 : World) (b n : Nat) (D : DataW Unit) (kl : Lit) (W : World) : Prop := (∃ D2, W.ownsMap Try.prog KTI ptrElem b n D2 ∧ D2.del kl = D.del kl) ∧ Only w1 W (fun k => k = b)
set_option maxHeartbeats 4000000 in
set_option maxRecDepth 100000 in
theorem goneI (h : MeI w m b K (A ++ [e]) S) (hgo : S.go ≤ 9223372036854775806) : Calls Try.prog 36 #[.pointer (some ⟨m, 0, none⟩)] w fun en w' => en = .returned (K.kv e.k) ∧ MeI w' m b K A { S with l := kvs A, go := S.go + 1 } ∧ Only w w' (mfp m b (A ++ [e])) := by
  have hm := h.ls.bk
  have h0 : 0 ≤ S.go := h.cnt.2.2
  have h3 : w.cell? ⟨m, 3, none⟩ = some (.pointer (some ⟨e.a, 0, none⟩)) := (cell_of_row w _ 3 _ _ _ hm).trans (by simp [lso_append, lso_cons, lso_nil, pv_some])
  have hcut : ∀ x, Calls Try.prog 34 #[.pointer (some ⟨m, 0, none⟩), .pointer (some ⟨e.a, 0, none⟩)] w _ := fun _ : Unit => cutI (B := []) h.ls
  have hme : m ≠ e.a := fun x => h.ls.apart (by rw [x]; simp [bl])
  have hbe : b ≠ e.a := fun x => h.eb (by rw [x]; simp [bl])
  have hbm := h.mb
  have HC := Lib.hid hcut
  have H := Lib.hid h
  clear h hm hcut
  obtain ⟨go, hgo1⟩ : ∃ go, S.go = go := ⟨_, rfl⟩
  rw [hgo1] at h0 hgo
  have HG := Lib.hid hgo1
  clear hgo1
  obtain ⟨ea, k, v⟩ := e
  dsimp only at h3 hme hbe ⊢
  go_enter Try.func36, Try.ntmps36
  go_wp2_with fail
  refine (HC.out ()).mono ?_
  rintro en w1 ⟨rfl, hL, hE, hO⟩
  rw [List.append_nil] at hL
  obtain ⟨D, hD, hM⟩ := H.out.mp
  have hD1 := owns_onlyI hD hO H.out.lb
  have HK := Lib.hid (H.out.ky ⟨ea, k, v⟩ (by simp))
  have m1 : w1.cell? ⟨m, 1, none⟩ = some (.map (some b)) := cell_of_row w1 _ 1 _ _ _ hL.bk
  have m6 : w1.cell? ⟨m, 6, none⟩ = some (.int .i64 go) := (cell_of_row w1 _ 6 _ _ _ hL.bk).trans (by rw [← HG.out]; rfl)
  have e0 : w1.cell? ⟨ea, 0, none⟩ = some (K.kv k) := cell_of_row w1 _ 0 _ _ _ hE
  have f6 := frozen_of_row w1 m 6 _ _ hL.bk
  have HL := Lib.hid hL
  have HO := Lib.hid hO
  have HM := Lib.hid hM
  have HD := Lib.hid hD1
  clear hL hE hO hD hD1 hM h3
  go_wp2_with fail
  go_region_held3 (fun W => W.cell? ⟨m, 1, none⟩ = some (.map (some b)) ∧ W.cell? ⟨ea, 0, none⟩ = some (K.kv k) ∧ GonSI w1 b (A ++ [({ a := ea, k := k, v := v } : En κ)]).length D (K.kl k) W)
    (first
      | exact ⟨m1, e0, ⟨D, HD.out.drew, rfl⟩, (Only.refl _ _).drew⟩
      | exact ⟨(hO2.same (mapTurned_onlyI hturn2)).cell m1 hbm, (hO2.same (mapTurned_onlyI hturn2)).cell e0 (Ne.symm hbe), ⟨_, hown2, by rw [del_delI]; exact hd2⟩, hO2.same (mapTurned_onlyI hturn2)⟩)
    ((go_split_ands; have hgs : GonSI w1 b (A ++ [({ a := ea, k := k, v := v } : En κ)]).length D (K.kl k) _ := (by assumption); obtain ⟨⟨D2, hD2, hd2⟩, hO2⟩ := hgs; refine at_list rfl ?_; intro Q2 hQ2; at_delete; refine wpList_delete_own _ rfl _ _ YTI KTI rfl PTI keyedI Try.underlying64 ptrElem b _ D2 rfl hD2 _ (K.kl k) rfl HK.out ?_; intro w2 hown2 hturn2; refine hQ2 _ _ ?_; clear hQ2 Q2))
  rw [hd2] at hown2
  have hO3 : Only w1 w2 (fun k => k = b) := hO2.same (mapTurned_onlyI hturn2)
  have hL2 := HL.out.only hO3 (fun k hk e => by
    rcases hk with rfl | hk
    · exact hbm e
    · exact H.out.eb (by rw [← e, bl, List.map_append]; exact List.mem_append.2 (.inl hk)))
  have n6 : w2.cell? ⟨m, 6, none⟩ = some (.int .i64 go) := hO3.cell m6 hbm
  have ne0 : w2.cell? ⟨ea, 0, none⟩ = some (K.kv k) := hO3.cell e0 (Ne.symm hbe)
  have g6 := frozen_of_row w2 m 6 _ _ hL2.bk
  have HL2 := Lib.hid hL2
  have HO3 := Lib.hid hO3
  have HD2 := Lib.hid hown2
  clear hL2 hO3 hown2 hturn2 hd2 hD2 hO2 m6 e0 f6 m1 HC
  go_wp2_with fail
  go_ret
  have hM2 := HM.out.del (HD.out.tidy keyedI)
  rw [List.append_nil] at hM2
  have hw := HD2.out.setCell (a := ⟨m, 6, none⟩) (Ne.symm hbm) (.int .i64 (go + 1))
  have ht := owns_tight hw
  rw [hM2.sz] at ht
  refine ⟨rfl, ⟨?_, ⟨_, ht, hM2⟩, fun e he => H.out.ky e (by simp [he]), rfl, ?_, ?_⟩, ?_⟩
  · have := gonI HL2.out (go + 1)
    rw [HG.out]
    exact this
  · have := H.out.ok
    obtain ⟨h1, h2, h3, h4⟩ := this
    rw [H.out.eq] at h1 h2
    refine ⟨?_, ?_, h3, h4⟩
    · simp only [kvs, List.map_append, List.map_cons, List.map_nil] at h1 ⊢
      exact h1.sublist (List.sublist_append_left _ _)
    · simp [kvs] at h2 ⊢
      omega
  · exact ⟨H.out.cnt.1, H.out.cnt.2.1, by show 0 ≤ S.go + 1; rw [HG.out]; omega⟩
  · refine ((HO.out.mono (fun k hk => ?_)).same (HO3.out.mono (fun k hk => ?_))).set m 6 _ (.inl (.inl rfl))
    · exact hk.elim .inl (fun h => .inr (.inr h))
    · exact .inr (.inl hk)
end
end Go.Proofs.Ytdhaoodkelehpaa
end
/-! Get, Look. -/
section
set_option linter.unusedVariables false
namespace Go.Proofs.Ytdhaoodkelehpaa
open Go.RowKit Go.Kit Go.Proofs.YtdhaoodkelehpaaW.PrintWords
section
variable {κ : Type} [DecidableEq κ] {K : Ky κ} {w w1 : World} {m b : Nat} {L A B : List (En κ)} {e : En κ} {S : Sp κ} {most hi mi go : Int}
/-- What a call leaves. -/
def MPostI (w : World) (m b : Nat) (K : Ky κ) (L : List (En κ)) (S : Sp κ) (v : Value) (e : Ending) (w' : World) : Prop :=
  e = .returned v ∧ ∃ L', MeI w' m b K L' S ∧ Only w w' (mfp m b L) ∧ Onto w (mfp m b L) (mfp m b L')
def kvoI (z : Value) : Option Int → Value
  | none => .tuple #[z, .bool false]
  | some v => .tuple #[.int .i64 v, .bool true]
theorem MeI.fnd (h : MeI w m b K L S) (k : κ) : fnd S.l k = (L.find? (fun e => decide (e.k = k))).map (·.v) := by rw [h.eq, fnd_kvs]
theorem MeI.nd (h : MeI w m b K L S) : (L.map (·.k)).Nodup := by have := h.ok.1; rwa [h.eq, kvs_keys] at this
set_option maxRecDepth 100000 in
theorem lookI (h : MeI w m b K L S) (k : κ) (hk : keyOf Try.prog KTI (K.kv k) = some (K.kl k)) : Calls Try.prog 15 #[.pointer (some ⟨m, 0, none⟩), K.kv k] w fun e w' => e = .returned (kvoI (.int .i64 0) (fnd S.l k)) ∧ w' = w := by
  have h1 := h.c1
  have h2 := h.run_look hk
  rw [h.fnd k]
  cases hf : L.find? (fun e => decide (e.k = k)) with
  | none =>
    rw [hf] at h2
    replace h2 : (Instr.lookup YTI (.map (some b)) (K.kv k) false).run Try.prog w = .ok (.pointer none) w := h2
    have H := Lib.hid h
    clear h hf
    go_enter Try.func15, Try.ntmps15
    go_wp2_with fail
    refine H.out.made.mono ?_
    rintro e w1 ⟨rfl, rfl⟩
    go_wp2_with fail
    go_ret2
    exact ⟨rfl, rfl⟩
  | some e =>
    rw [hf] at h2
    replace h2 : (Instr.lookup YTI (.map (some b)) (K.kv k) false).run Try.prog w = .ok (.pointer (some ⟨e.a, 0, none⟩)) w := h2
    obtain ⟨u, v, hb⟩ := h.ls.ch.mem e (List.mem_of_find?_eq_some hf)
    have e1 : w.cell? ⟨e.a, 1, none⟩ = some (.int .i64 e.v) := cell_of_row w _ 1 _ _ _ hb
    have H := Lib.hid h
    clear h hf hb
    obtain ⟨ea, ek, ev⟩ := e
    dsimp only at h2 e1
    go_enter Try.func15, Try.ntmps15
    go_wp2_with fail
    refine H.out.made.mono ?_
    rintro e w1 ⟨rfl, rfl⟩
    go_wp2_with fail
    go_ret2
    exact ⟨rfl, rfl⟩
/-- An entry to the front: 'cut', then 'front'. -/
theorem MeI.turn (h : MeI w m b K (A ++ e :: B) S) (hL : LS w1 m b MTI ETI K S.most hi S.mi S.go (e :: (A ++ B))) (ho : Only w w1 (mfp m b (A ++ e :: B))) (hb : w1.heap[b]? = w.heap[b]?) (hh : 0 ≤ hi) (hE : S.l.length = (A ++ e :: B).length) : MeI w1 m b K (e :: (A ++ B)) { S with l := (e.k, e.v) :: kvs (A ++ B), hi := hi } := by
  obtain ⟨D, ⟨es, clock, hb1, F, hs, hD⟩, hM⟩ := h.mp
  have hp : (A ++ e :: B).Perm (e :: (A ++ B)) := List.perm_middle
  refine ⟨hL, ⟨D, ⟨es, clock, hb.trans hb1, F, ?_, hD⟩, hM.perm (hp.map _)⟩, fun x hx => h.ky x (hp.mem_iff.2 hx), rfl, ⟨?_, ?_, h.ok.2.2⟩, hh, h.cnt.2⟩
  · rw [← hp.length_eq]; exact hs
  · have := h.nd
    have h2 := (hp.map (fun x : En κ => x.k)).nodup_iff.1 this
    simpa [kvs, List.map_map, Function.comp_def] using h2
  · have h1 := h.ok.2.1
    have h2 := h.len
    rw [hp.length_eq] at h2
    simp only [List.length_cons, kvs, List.length_map] at h2 ⊢
    omega
theorem onto_turnI (w : World) (m b : Nat) (A B : List (En κ)) (e : En κ) : Onto w (mfp m b (A ++ e :: B)) (mfp m b (e :: (A ++ B))) := fun k hk => .inl (by
  rcases hk with hk | hk | hk
  · exact .inl hk
  · exact .inr (.inl hk)
  · refine .inr (.inr ?_)
    have hp : (A ++ e :: B).Perm (e :: (A ++ B)) := List.perm_middle
    exact ((hp.map (fun x : En κ => x.a)).mem_iff.2 hk))
set_option maxHeartbeats 4000000 in
set_option maxRecDepth 100000 in
theorem getI (h : MeI w m b K L S) (k : κ) (hk : keyOf Try.prog KTI (K.kv k) = some (K.kl k)) (hhi : S.hi ≤ 9223372036854775806) (hmi : S.mi ≤ 9223372036854775806) : Calls Try.prog 14 #[.pointer (some ⟨m, 0, none⟩), K.kv k] w (MPostI w m b K L (S.get k) (kvoI (.int .i64 0) (fnd S.l k))) := by
  have h1 := h.c1
  have h2 := h.run_look hk
  have hfn := h.fnd k
  have hc := h.cnt
  cases hf : L.find? (fun e => decide (e.k = k)) with
  | none =>
    rw [hf] at h2 hfn
    replace hfn : fnd S.l k = none := hfn
    have hS : S.get k = { S with mi := S.mi + 1 } := by unfold Sp.get; rw [hfn]
    rw [hfn, hS]
    replace h2 : (Instr.lookup YTI (.map (some b)) (K.kv k) false).run Try.prog w = .ok (.pointer none) w := h2
    obtain ⟨mi, hmi1⟩ : ∃ mi, S.mi = mi := ⟨_, rfl⟩
    have c5 : w.cell? ⟨m, 5, none⟩ = some (.int .i64 mi) := (cell_of_row w _ 5 _ _ _ h.ls.bk).trans (by rw [← hmi1]; rfl)
    have f5 := frozen_of_row w m 5 _ _ h.ls.bk
    rw [hmi1] at hmi hc
    have H := Lib.hid h
    have HS := Lib.hid hmi1
    have hm0 : 0 ≤ mi := hc.2.1
    clear h hf hfn hS hc hmi1 hhi
    go_enter Try.func14, Try.ntmps14
    go_wp2_with fail
    refine H.out.made.mono ?_
    rintro e w1 ⟨rfl, rfl⟩
    go_wp2_with fail
    go_ret2
    have ho : Only w1 (w1.setCell ⟨m, 5, none⟩ (.int .i64 (mi + 1))) (fun k => k = m) := (Only.refl _ _).set m 5 _ (.inl rfl)
    refine ⟨rfl, L, ⟨?_, ?_, H.out.ky, H.out.eq, H.out.ok, ?_⟩, ho.mono (fun k hk => .inl hk), Onto.refl _ _⟩
    · have := misI H.out.ls (mi + 1)
      rw [← HS.out] at this ⊢
      exact this
    · obtain ⟨D, hD, hM⟩ := H.out.mp
      exact ⟨D, hD.setCell (a := ⟨m, 5, none⟩) (Ne.symm H.out.mb) _, hM⟩
    · exact ⟨H.out.cnt.1, by show 0 ≤ S.mi + 1; rw [HS.out]; omega, H.out.cnt.2.2⟩
  | some e =>
    rw [hf] at h2 hfn
    replace hfn : fnd S.l k = some e.v := hfn
    replace h2 : (Instr.lookup YTI (.map (some b)) (K.kv k) false).run Try.prog w = .ok (.pointer (some ⟨e.a, 0, none⟩)) w := h2
    obtain ⟨hek, A, B, rfl, hers⟩ := split_find h.nd hf
    have hS : S.get k = { S with l := (e.k, e.v) :: kvs (A ++ B), hi := S.hi + 1 } := by unfold Sp.get; rw [hfn, hek, h.eq, hers]
    rw [hfn, hS]
    obtain ⟨hi, hhi1⟩ : ∃ hi, S.hi = hi := ⟨_, rfl⟩
    have c4 : w.cell? ⟨m, 4, none⟩ = some (.int .i64 hi) := (cell_of_row w _ 4 _ _ _ h.ls.bk).trans (by rw [← hhi1]; rfl)
    have f4 := frozen_of_row w m 4 _ _ h.ls.bk
    have hL1 := hitI h.ls (hi + 1)
    rw [hhi1] at hhi hc
    have ho1 : Only w (w.setCell ⟨m, 4, none⟩ (.int .i64 (hi + 1))) (mfp m b (A ++ e :: B)) := (Only.refl _ _).set m 4 _ (.inl (.inl rfl))
    have hb1 : (w.setCell ⟨m, 4, none⟩ (.int .i64 (hi + 1))).heap[b]? = w.heap[b]? := heap_setCell_other _ _ _ _ (Ne.symm h.mb)
    have HC := Lib.hid (cutI hL1)
    have H := Lib.hid h
    have HS := Lib.hid hhi1
    have HO := Lib.hid ho1
    have HB := Lib.hid hb1
    have hm0 : 0 ≤ hi := hc.1
    clear h hf hfn hS hc hhi1 hers hL1 ho1 hmi hb1
    obtain ⟨ea, ek, ev⟩ := e
    dsimp only at h2 hek ⊢
    subst hek
    go_enter Try.func14, Try.ntmps14
    go_wp2_with fail
    refine H.out.made.mono ?_
    rintro e w1 ⟨rfl, rfl⟩
    go_wp2_with fail
    refine HC.out.mono ?_
    rintro e w2 ⟨rfl, hL2, hE2, hO2⟩
    go_wp2_with fail
    have hn := H.out.ls.nd
    have hne : ea ∉ bl (A ++ B) := by
      intro hx
      simp only [bl, List.map_append, List.map_cons, List.nodup_append, List.nodup_cons] at hn hx
      rcases List.mem_append.1 hx with hx | hx
      · exact hn.2.2 _ hx ea (by simp) rfl
      · exact hn.2.1.1 hx
    refine (frontI (e := ⟨ea, ek, ev⟩) hL2 hE2 hne).mono ?_
    rintro e w3 ⟨rfl, hL3, hO3⟩
    have e1 : w3.cell? ⟨ea, 1, none⟩ = some (.int .i64 ev) := cell_of_row w3 _ 1 _ _ _ hL3.ch.1
    go_wp2_with fail
    go_ret2
    have hbm := H.out.mb
    have hbl := H.out.eb
    have hb3 : w3.heap[b]? = w1.heap[b]? := by
      obtain ⟨D, hD, _⟩ := H.out.mp
      have hlt := hD.lt
      have s1 := HO.out.size
      have s2 := hO2.size
      rw [hO3.block b (by omega) (fun q => ?_), hO2.block b (by omega) (fun q => H.out.lb q), HB.out]
      rcases q with q | q
      · exact hbm q.symm
      · exact hbl ((List.Perm.map (fun x : En κ => x.a) (List.perm_middle (a := (⟨ea, ek, ev⟩ : En κ)) (l₁ := A) (l₂ := B))).mem_iff.2 q)
    have hO : Only w1 w3 (mfp m b (A ++ ⟨ea, ek, ev⟩ :: B)) := (HO.out.same (hO2.mono (fun k hk => hk.elim .inl (fun h => .inr (.inr h))))).same (hO3.mono (fun k hk => by
      rcases hk with hk | hk
      · exact .inl hk
      · exact .inr (.inr ((List.Perm.map (fun x : En κ => x.a) (List.perm_middle (a := (⟨ea, ek, ev⟩ : En κ)) (l₁ := A) (l₂ := B))).mem_iff.2 hk))))
    refine ⟨rfl, _, ?_, hO, onto_turnI w1 m b A B ⟨ea, ek, ev⟩⟩
    have := H.out.turn hL3 hO hb3 (by omega) H.out.len
    rw [HS.out]
    exact this
end
end Go.Proofs.Ytdhaoodkelehpaa
end
/-! Put, New. -/
section
set_option linter.unusedVariables false
namespace Go.Proofs.Ytdhaoodkelehpaa
open Go.RowKit Go.Kit Go.Proofs.YtdhaoodkelehpaaW.PrintWords
section
variable {κ : Type} [DecidableEq κ] {K : Ky κ} {w w1 : World} {m b : Nat} {L A B : List (En κ)} {e : En κ} {S : Sp κ} {most hi mi go : Int}
/-- An entry's value is set. -/
theorem setVI (h : LS w m b MTI ETI K most hi mi go (A ++ e :: B)) (x : Int) : LS (w.setCell ⟨e.a, 1, none⟩ (.int .i64 x)) m b MTI ETI K most hi mi go (A ++ { e with v := x } :: B) := by
  have hc := h.ch
  rw [chain_append] at hc
  have hn := h.nd
  simp only [bl, List.map_append, List.map_cons, List.nodup_append, List.nodup_cons] at hn
  have hme : m ≠ e.a := fun q => h.apart (by rw [q]; simp [bl])
  refine ⟨?_, ?_, ?_, h.ne⟩
  · rw [heap_setCell_other _ _ _ _ (show m ≠ e.a from hme), h.bk]
    simp only [hdo_append, lso_append, hdo_cons, lso_cons]
  · rw [chain_append]
    refine ⟨hc.1.kept (fun z hz => heap_setCell_other _ _ _ _ (fun q => hn.2.2 _ (List.mem_map.2 ⟨z, hz, rfl⟩) e.a (by simp) q)), ?_, ?_⟩
    · have := heap_set_same w e.a 1 _ _ (.int .i64 x) hc.2.1
      exact this
    · exact Chain.kept hc.2.2 (fun z hz => heap_setCell_other _ _ _ _ (fun q => hn.2.1.1 (by rw [← (show z.a = e.a from q)]; exact List.mem_map.2 ⟨z, hz, rfl⟩)))
  · have := h.nd
    simpa [bl] using this
/-- A key, or none. -/
def koI (K : Ky κ) : Option κ → Value
  | none => .tuple #[(.int .i64 0), .bool false]
  | some k => .tuple #[K.kv k, .bool true]
set_option maxHeartbeats 4000000 in
set_option maxRecDepth 100000 in
theorem put_oldI (h : MeI w m b K (A ++ e :: B) S) (v : Int) (hk : keyOf Try.prog KTI (K.kv e.k) = some (K.kl e.k)) (hf : (A ++ e :: B).find? (fun x => decide (x.k = e.k)) = some e) : Calls Try.prog 13 #[.pointer (some ⟨m, 0, none⟩), K.kv e.k, .int .i64 v] w (MPostI w m b K (A ++ e :: B) { S with l := (e.k, v) :: kvs (A ++ B) } (.tuple #[(.int .i64 0), .bool false])) := by
  have h1 := h.c1
  have h2 := h.run_look hk
  rw [hf] at h2
  replace h2 : (Instr.lookup YTI (.map (some b)) (K.kv e.k) false).run Try.prog w = .ok (.pointer (some ⟨e.a, 0, none⟩)) w := h2
  have hc := h.ls.ch
  rw [chain_append] at hc
  have he := hc.2.1
  have e1 : w.cell? ⟨e.a, 1, none⟩ = some (.int .i64 e.v) := cell_of_row w _ 1 _ _ _ he
  have f1 := frozen_of_row w e.a 1 _ _ he
  have hL1 := setVI h.ls v
  have hbe : b ≠ e.a := fun x => h.eb (by rw [x]; simp [bl])
  have ho1 : Only w (w.setCell ⟨e.a, 1, none⟩ (.int .i64 v)) (mfp m b (A ++ e :: B)) := (Only.refl _ _).set e.a 1 _ (.inl (.inr (.inr (by simp [bl]))))
  have hb1 : (w.setCell ⟨e.a, 1, none⟩ (.int .i64 v)).heap[b]? = w.heap[b]? := heap_setCell_other _ _ _ _ hbe
  have HC := Lib.hid (cutI hL1)
  have H := Lib.hid h
  have HO := Lib.hid ho1
  have HB := Lib.hid hb1
  clear h hc he hL1 ho1 hb1 hf hk
  obtain ⟨ea, ek, ev⟩ := e
  dsimp only at h2 e1 f1 hbe ⊢
  go_enter Try.func13, Try.ntmps13
  go_wp2_with fail
  refine H.out.made.mono ?_
  rintro e w1 ⟨rfl, rfl⟩
  go_wp2_with fail
  refine HC.out.mono ?_
  rintro e w2 ⟨rfl, hL2, hE2, hO2⟩
  go_wp2_with fail
  have hn := H.out.ls.nd
  have hne : ea ∉ bl (A ++ B) := by
    intro hx
    simp only [bl, List.map_append, List.map_cons, List.nodup_append, List.nodup_cons] at hn hx
    rcases List.mem_append.1 hx with hx | hx
    · exact hn.2.2 _ hx ea (by simp) rfl
    · exact hn.2.1.1 hx
  refine (frontI (e := ⟨ea, ek, v⟩) hL2 hE2 hne).mono ?_
  rintro e w3 ⟨rfl, hL3, hO3⟩
  go_wp2_with fail
  go_ret2
  have hbm := H.out.mb
  have hbl := H.out.eb
  have hb3 : w3.heap[b]? = w1.heap[b]? := by
    obtain ⟨D, hD, _⟩ := H.out.mp
    have hlt := hD.lt
    have s1 := HO.out.size
    have s2 := hO2.size
    rw [hO3.block b (by omega) (fun q => ?_), hO2.block b (by omega) (fun q => ?_), HB.out]
    · rcases q with q | q
      · exact hbm q.symm
      · exact hbl (by simpa [bl] using q)
    · rcases q with q | q
      · exact hbm q.symm
      · exact hbl ((List.Perm.map (fun x : En κ => x.a) (List.perm_middle (a := (⟨ea, ek, ev⟩ : En κ)) (l₁ := A) (l₂ := B))).mem_iff.2 q)
  have hO : Only w1 w3 (mfp m b (A ++ ⟨ea, ek, ev⟩ :: B)) := (HO.out.same (hO2.mono (fun k hk => hk.elim .inl (fun h => .inr (.inr (by simpa [bl] using h)))))).same (hO3.mono (fun k hk => by
    rcases hk with hk | hk
    · exact .inl hk
    · exact .inr (.inr ((List.Perm.map (fun x : En κ => x.a) (List.perm_middle (a := (⟨ea, ek, ev⟩ : En κ)) (l₁ := A) (l₂ := B))).mem_iff.2 hk))))
  refine ⟨rfl, ⟨ea, ek, v⟩ :: (A ++ B), ?_, hO, ?_⟩
  · have hz := H.out.cnt
    obtain ⟨D, ⟨es, clock, hbb, F, hs, hD⟩, hM⟩ := H.out.mp
    have hp : (A ++ (⟨ea, ek, ev⟩ : En κ) :: B).Perm (⟨ea, ek, ev⟩ :: (A ++ B)) := List.perm_middle
    refine ⟨hL3, ⟨D, ⟨es, clock, hb3.trans hbb, F, ?_, hD⟩, hM.perm (hp.map (fun e : En κ => (e.k, e.a)))⟩, fun x hx => ?_, rfl, ⟨?_, ?_, H.out.ok.2.2⟩, hz⟩
    · have := hp.length_eq; simp at this hs ⊢; omega
    · rcases List.mem_cons.1 hx with rfl | hx
      · exact H.out.ky ⟨ea, ek, ev⟩ (by simp)
      · exact H.out.ky x (by rcases List.mem_append.1 hx with h | h <;> simp [h])
    · have := (hp.map (fun x : En κ => x.k)).nodup_iff.1 H.out.nd
      simpa [kvs, List.map_map, Function.comp_def] using this
    · have h1 := H.out.ok.2.1
      have h2 := H.out.len
      rw [hp.length_eq] at h2
      simp only [List.length_cons, kvs, List.length_map] at h2 ⊢
      omega
  · have := onto_turnI w1 m b A B (⟨ea, ek, ev⟩ : En κ)
    exact fun k hk => this k (by simpa [mfp, bl] using hk)
theorem plainKeyI {x : Value} {l : Lit} (hk : keyOf Try.prog KTI x = some l) : ∀ cs, x ≠ .agg cs := fun cs e => by
  subst e
  simp [keyOf, mapKey, Try.underlying3] at hk
theorem buildEI {x : Value} {l : Lit} (hk : keyOf Try.prog KTI x = some l) (v : Int) (W : World) : (Instr.build ETI #[(0, x), (1, .int .i64 v)]).run Try.prog W = .ok (.agg #[x, .int .i64 v, .pointer none, .pointer none]) W := by
  have := plainKeyI hk
  refine run_build W _ _ _ ?_
  clear hk
  cases x <;> first | exact (this _ rfl).elim | (clear this; kernel_rfl)
attribute [-go_sem] Instr.build
set_option maxHeartbeats 4000000 in
set_option maxRecDepth 100000 in
theorem put_roomI (h : MeI w m b K L S) (k : κ) (v : Int) (hk : keyOf Try.prog KTI (K.kv k) = some (K.kl k)) (hf : L.find? (fun x => decide (x.k = k)) = none) (hr : (L.length : Int) < S.most) : Calls Try.prog 13 #[.pointer (some ⟨m, 0, none⟩), K.kv k, .int .i64 v] w (MPostI w m b K L { S with l := (k, v) :: kvs L } (.tuple #[(.int .i64 0), .bool false])) := by
  have h1 := h.c1
  have h2 := h.run_look hk
  rw [hf] at h2
  replace h2 : (Instr.lookup YTI (.map (some b)) (K.kv k) false).run Try.prog w = .ok (.pointer none) w := h2
  have h3 : ∀ j, (Builtin.len_ #[YTI] 3 #[.map (some b)]).run Try.prog (w.drewN j) = .ok (.int .i64 (L.length : Int)) (w.drewN j) := fun j => (h.drewN j).run_len _
  obtain ⟨most, hmost⟩ : ∃ x, S.most = x := ⟨_, rfl⟩
  have m0 : w.cell? ⟨m, 0, none⟩ = some (.int .i64 most) := (cell_of_row w _ 0 _ _ _ h.ls.bk).trans (by rw [← hmost]; rfl)
  rw [hmost] at hr
  obtain ⟨n, hn⟩ : ∃ n : Nat, L.length = n := ⟨_, rfl⟩
  rw [hn] at h3 hr
  have hbd := buildEI hk v
  have h1a : ∀ j o, ((w.drewN j).alloc o).cell? ⟨m, 1, none⟩ = some (.map (some b)) := fun j o => (World.cell?_alloc_some (w.drewN j) ⟨m, 1, none⟩ o (by rw [show (w.drewN j).cell? ⟨m, 1, none⟩ = _ from h1]; rfl)).trans h1
  have hd : decide ((n : Int) ≥ most) = false := by simp; omega
  have H := Lib.hid h
  have HM := Lib.hid hmost
  have HN := Lib.hid hn
  obtain ⟨D, hD, hMD⟩ := h.mp
  have HD := Lib.hid hD
  have HMD := Lib.hid hMD
  have hlt : L.length < maxLen := by have := h.max; unfold maxLen; omega
  clear h hmost hn hD hMD
  go_enter Try.func13, Try.ntmps13
  go_wp2_with fail
  refine H.out.made.mono ?_
  rintro e w1 ⟨rfl, rfl⟩
  go_wp2_with fail
  go_quiet (fail)
  go_wp2_with (at_mapUpdate; refine wpList_mapUpdate_in _ rfl _ _ _ YTI rfl KTI PTI keyedI Try.underlying64 ptrElem b L.length D rfl ((show (w1.drewN nq).ownsMap Try.prog KTI ptrElem b L.length D from HD.out).alloc _) hlt _ _ (K.kl k) rfl rfl hk (pd (some w1.heap.size)) [] rfl ?_; intro w2 hown2 hturn2)
  have hb0 : Below w1.heap.size w1 ((w1.drewN nq).alloc (.cells #[K.kv k, .int .i64 v, .pointer none, .pointer none] ETI)) := below_alloc (pw_below_drewN (Below.refl _ _) nq) _
  have hO1 : Only w1 w2 (fun k => k = b) := (Only.of_below hb0 (fun k => k = b)).same (mapTurned_onlyI hturn2)
  have hbig := H.out.old
  have hE2 : w2.heap[w1.heap.size]? = some (.cells #[K.kv k, .int .i64 v, .pointer none, .pointer none] ETI (0, 0)) := (mapTurned_onlyI hturn2).kept (heap_alloc_new (w1.drewN nq) _) (fun q => by have := hbig b (.inr (.inl rfl)); omega)
  have hL2 := H.out.ls.only hO1 (fun k hk q => by
    rcases hk with rfl | hk
    · exact H.out.mb q
    · exact H.out.eb (q ▸ hk))
  have hne : w1.heap.size ∉ bl L := fun q => by have := hbig _ (.inr (.inr q)); omega
  refine (frontI (e := ⟨w1.heap.size, k, v⟩) hL2 hE2 hne).mono ?_
  rintro e w3 ⟨rfl, hL3, hO3⟩
  go_wp2_with fail
  go_ret2
  have hb3 : w3.heap[b]? = w2.heap[b]? := by
    refine hO3.block b (by have := hO1.size; have := hbig b (.inr (.inl rfl)); omega) (fun q => ?_)
    rcases q with q | q
    · exact H.out.mb q.symm
    · rcases List.mem_cons.1 q with q | q
      · have := hbig b (.inr (.inl rfl)); have q : b = w1.heap.size := q; omega
      · exact H.out.eb q
  have hT := HD.out.tidy keyedI
  have hM3 := HMD.out.put (e := ⟨w1.heap.size, k, v⟩) hT hf
  have hw : w3.ownsMap Try.prog KTI ptrElem b (L.length + 1) (D.put (K.kl k) (pd (some w1.heap.size))) := by
    obtain ⟨es, clock, hbb, r⟩ := hown2
    exact ⟨es, clock, hb3.trans hbb, r⟩
  refine ⟨rfl, ⟨w1.heap.size, k, v⟩ :: L, ⟨hL3, ⟨_, hw, hM3⟩, fun x hx => ?_, rfl, ⟨?_, ?_, H.out.ok.2.2⟩, H.out.cnt⟩, ?_, ?_⟩
  · rcases List.mem_cons.1 hx with rfl | hx
    · exact hk
    · exact H.out.ky x hx
  · have := hM3.nd
    simpa [kvs, List.map_map, Function.comp_def] using this
  · have h1 := HN.out
    have h2 := HM.out
    have h3 := H.out.ok.2.2.2
    simp only [List.length_cons, kvs, List.length_map]
    omega
  · refine (hO1.mono (fun k hk => .inr (.inl hk))).then_ hO3 (fun k hk => ?_)
    rcases hk with hk | hk
    · exact .inl (.inl hk)
    · rcases List.mem_cons.1 hk with hk | hk
      · exact .inr (Nat.le_of_eq hk.symm)
      · exact .inl (.inr (.inr hk))
  · intro k hk
    rcases hk with hk | hk | hk
    · exact .inl (.inl hk)
    · exact .inl (.inr (.inl hk))
    · rcases List.mem_cons.1 hk with hk | hk
      · exact .inr (Nat.le_of_eq hk.symm)
      · exact .inl (.inr (.inr hk))
set_option maxHeartbeats 4000000 in
set_option maxRecDepth 100000 in
theorem put_fullI {x : En κ} (h : MeI w m b K (A ++ [x]) S) (k : κ) (v : Int) (hk : keyOf Try.prog KTI (K.kv k) = some (K.kl k)) (hf : (A ++ [x]).find? (fun x => decide (x.k = k)) = none) (hr : S.most ≤ ((A ++ [x]).length : Int)) (hgo : S.go ≤ 9223372036854775806) : Calls Try.prog 13 #[.pointer (some ⟨m, 0, none⟩), K.kv k, .int .i64 v] w (MPostI w m b K (A ++ [x]) { S with l := (k, v) :: kvs A, go := S.go + 1 } (.tuple #[K.kv x.k, .bool true])) := by
  have h1 := h.c1
  have h2 := h.run_look hk
  rw [hf] at h2
  replace h2 : (Instr.lookup YTI (.map (some b)) (K.kv k) false).run Try.prog w = .ok (.pointer none) w := h2
  have h3 : ∀ j, (Builtin.len_ #[YTI] 3 #[.map (some b)]).run Try.prog (w.drewN j) = .ok (.int .i64 ((A ++ [x]).length : Int)) (w.drewN j) := fun j => (h.drewN j).run_len _
  obtain ⟨most, hmost⟩ : ∃ x, S.most = x := ⟨_, rfl⟩
  have m0 : w.cell? ⟨m, 0, none⟩ = some (.int .i64 most) := (cell_of_row w _ 0 _ _ _ h.ls.bk).trans (by rw [← hmost]; rfl)
  rw [hmost] at hr
  obtain ⟨n, hn⟩ : ∃ n : Nat, (A ++ [x]).length = n := ⟨_, rfl⟩
  rw [hn] at h3 hr
  have hd : decide ((n : Int) ≥ most) = true := by simp; omega
  have hbd := buildEI hk v
  have H := Lib.hid h
  have HM := Lib.hid hmost
  have HN := Lib.hid hn
  have hlt : A.length < maxLen := by have := h.max; rw [List.length_append] at this; unfold maxLen; omega
  have hfA : A.find? (fun x => decide (x.k = k)) = none := by
    rw [List.find?_append] at hf
    cases hq : A.find? (fun x => decide (x.k = k)) with
    | none => rfl
    | some e => rw [hq] at hf; cases hf
  have HF := Lib.hid hfA
  clear h hmost hn hf hfA
  go_enter Try.func13, Try.ntmps13
  go_wp2_with fail
  refine H.out.made.mono ?_
  rintro e w1 ⟨rfl, rfl⟩
  go_wp2_with fail
  go_quiet (fail)
  go_wp2_with fail
  refine (goneI (H.out.drewN nq) hgo).mono ?_
  rintro e w2 ⟨rfl, hG, hOg⟩
  have hOg : Only w1 w2 (mfp m b (A ++ [x])) := (Only.of_below (pw_below_drewN (Below.refl _ _) nq) _).same hOg
  have k1 := hG.c1
  have h1a : ∀ o, (w2.alloc o).cell? ⟨m, 1, none⟩ = some (.map (some b)) := fun o => (World.cell?_alloc_some w2 ⟨m, 1, none⟩ o (by rw [k1]; rfl)).trans k1
  obtain ⟨D, hD, hMD⟩ := hG.mp
  have HD := Lib.hid hD
  have HMD := Lib.hid hMD
  have HG := Lib.hid hG
  have HO := Lib.hid hOg
  clear hG hOg hD hMD h1 h2 h3 m0
  go_wp2_with (at_mapUpdate; refine wpList_mapUpdate_in _ rfl _ _ _ YTI rfl KTI PTI keyedI Try.underlying64 ptrElem b A.length D rfl (HD.out.alloc _) hlt _ _ (K.kl k) rfl rfl hk (pd (some w2.heap.size)) [] rfl ?_; intro w3 hown2 hturn2)
  have hb0 : Below w2.heap.size w2 (w2.alloc (.cells #[K.kv k, .int .i64 v, .pointer none, .pointer none] ETI)) := below_alloc (Below.refl _ _) _
  have hO1 : Only w2 w3 (fun k => k = b) := (Only.of_below hb0 (fun k => k = b)).same (mapTurned_onlyI hturn2)
  have hbig := HG.out.old
  have hE2 : w3.heap[w2.heap.size]? = some (.cells #[K.kv k, .int .i64 v, .pointer none, .pointer none] ETI (0, 0)) := (mapTurned_onlyI hturn2).kept (heap_alloc_new w2 _) (fun q => by have := hbig b (.inr (.inl rfl)); omega)
  have hL2 := HG.out.ls.only hO1 (fun k hk q => by
    rcases hk with rfl | hk
    · exact HG.out.mb q
    · exact HG.out.eb (q ▸ hk))
  have hne : w2.heap.size ∉ bl A := fun q => by have := hbig _ (.inr (.inr q)); omega
  refine (frontI (e := ⟨w2.heap.size, k, v⟩) hL2 hE2 hne).mono ?_
  rintro e w4 ⟨rfl, hL3, hO3⟩
  go_wp2_with fail
  go_ret2
  have hb3 : w4.heap[b]? = w3.heap[b]? := by
    refine hO3.block b (by have := hO1.size; have := hbig b (.inr (.inl rfl)); omega) (fun q => ?_)
    rcases q with q | q
    · exact HG.out.mb q.symm
    · rcases List.mem_cons.1 q with q | q
      · have := hbig b (.inr (.inl rfl)); have q : b = w2.heap.size := q; omega
      · exact HG.out.eb q
  have hT := HD.out.tidy keyedI
  have hM3 := HMD.out.put (e := ⟨w2.heap.size, k, v⟩) hT HF.out
  have hw : w4.ownsMap Try.prog KTI ptrElem b (A.length + 1) (D.put (K.kl k) (pd (some w2.heap.size))) := by
    obtain ⟨es, clock, hbb, r⟩ := hown2
    exact ⟨es, clock, hb3.trans hbb, r⟩
  have hO : Only w1 w4 (mfp m b (A ++ [x])) := by
    refine (HO.out.then_ (hO1.mono (T := mfp m b (A ++ [x])) (fun k hk => .inr (.inl hk))) (fun k hk => .inl hk)).then_ hO3 (fun k hk => ?_)
    rcases hk with hk | hk
    · exact .inl (.inl hk)
    · rcases List.mem_cons.1 hk with hk | hk
      · exact .inr (by have := HO.out.size; have hk : k = w2.heap.size := hk; omega)
      · exact .inl (.inr (.inr (by rw [bl, List.map_append]; exact List.mem_append.2 (.inl hk))))
  refine ⟨rfl, ⟨w2.heap.size, k, v⟩ :: A, ⟨hL3, ⟨_, hw, hM3⟩, fun x hx => ?_, rfl, ⟨?_, ?_, H.out.ok.2.2⟩, HG.out.cnt⟩, hO, ?_⟩
  · rcases List.mem_cons.1 hx with rfl | hx
    · exact hk
    · exact HG.out.ky x hx
  · have := hM3.nd
    simpa [kvs, List.map_map, Function.comp_def] using this
  · have h1 := HN.out
    have h2 := HM.out
    have h3 := H.out.ok.2.1
    have h4 := H.out.len
    simp only [List.length_cons, kvs, List.length_map, List.length_append, List.length_nil] at h1 h3 h4 ⊢
    omega
  · intro k hk
    rcases hk with hk | hk | hk
    · exact .inl (.inl hk)
    · exact .inl (.inr (.inl hk))
    · rcases List.mem_cons.1 hk with hk | hk
      · exact .inr (by have := HO.out.size; have hk : k = w2.heap.size := hk; omega)
      · exact .inl (.inr (.inr (by rw [bl, List.map_append]; exact List.mem_append.2 (.inl hk))))
theorem putI (h : MeI w m b K L S) (k : κ) (v : Int) (hk : keyOf Try.prog KTI (K.kv k) = some (K.kl k)) (hgo : S.go ≤ 9223372036854775806) : Calls Try.prog 13 #[.pointer (some ⟨m, 0, none⟩), K.kv k, .int .i64 v] w (MPostI w m b K L (S.put k v) (koI K (S.out k))) := by
  have hfn := h.fnd k
  cases hf : L.find? (fun e => decide (e.k = k)) with
  | some e =>
    rw [hf] at hfn
    replace hfn : fnd S.l k = some e.v := hfn
    obtain ⟨rfl, A, B, rfl, hers⟩ := split_find h.nd hf
    have hS : S.put e.k v = { S with l := (e.k, v) :: kvs (A ++ B) } := by unfold Sp.put; rw [hfn, h.eq]; simp only [hers]
    have hX : S.out e.k = none := by unfold Sp.out; rw [hfn]
    rw [hS, hX]
    exact put_oldI h v hk hf
  | none =>
    rw [hf] at hfn
    replace hfn : fnd S.l k = none := hfn
    by_cases hr : (L.length : Int) < S.most
    · have hfu : S.full = false := by unfold Sp.full; rw [h.len]; exact decide_eq_false (by omega)
      have hS : S.put k v = { S with l := (k, v) :: kvs L } := by unfold Sp.put; rw [hfn, hfu, h.eq]; rfl
      have hX : S.out k = none := by unfold Sp.out; rw [hfn, hfu]; rfl
      rw [hS, hX]
      exact put_roomI h k v hk hf hr
    · have hfu : S.full = true := by unfold Sp.full; rw [h.len]; exact decide_eq_true (by omega)
      rcases List.eq_nil_or_concat L with rfl | ⟨A, x, rfl⟩
      · have := h.ok.2.2.1
        simp at hr
        omega
      · rw [List.concat_eq_append] at h hf hr ⊢
        have he : S.l = kvs A ++ [(x.k, x.v)] := by rw [h.eq]; simp [kvs]
        have hS : S.put k v = { S with l := (k, v) :: kvs A, go := S.go + 1 } := by unfold Sp.put; rw [hfn, hfu, he]; simp
        have hX : S.out k = some x.k := by unfold Sp.out; rw [hfn, hfu, he]; simp
        rw [hS, hX]
        exact put_fullI h k v hk hf (by omega) hgo
end
attribute [go_sem] Instr.build
section
variable {κ : Type} [DecidableEq κ] {w : World}
set_option maxRecDepth 100000 in
theorem newI (K : Ky κ) (n : Int) (h1 : 1 ≤ n) (h2 : n ≤ 4096) : Calls Try.prog 11 #[.int .i64 n] w fun e w' => ∃ m b, e = .returned (.tuple #[.pointer (some ⟨m, 0, none⟩), .int .i64 0]) ∧ MeI w' m b K [] ⟨n, [], 0, 0, 0⟩ ∧ Below w.heap.size w w' ∧ w.heap.size ≤ m ∧ w.heap.size ≤ b := by
  have b1 : decide (n < 1) = false := by simp; omega
  have b2 : decide (n > 4096) = false := by simp; omega
  have hmm := @run_makeMap Try.prog
  have HA := Lib.hid h1
  have HB := Lib.hid h2
  clear h1 h2
  go_enter Try.func11, Try.ntmps11
  go_wp2_with fail
  go_ret2
  have hb0 : Below w.heap.size w (w.alloc (.map #[] 0)) := below_alloc (Below.refl _ _) _
  refine ⟨w.heap.size + 1, w.heap.size, rfl, ⟨⟨?_, trivial, List.nodup_nil, by decide⟩, ⟨.map [], ?_, MD.empty K⟩, fun e he => by simp at he, rfl, ⟨List.nodup_nil, ?_, HA.out, HB.out⟩, ⟨Int.le_refl _, Int.le_refl _, Int.le_refl _⟩⟩, below_alloc hb0 _, Nat.le_succ _, Nat.le_refl _⟩
  · have he : w.heap.size + 1 = (w.alloc (.map #[] 0)).heap.size := by simp
    rw [he]
    exact heap_alloc_new _ _
  · exact (World.ownsMap_made w Try.prog KTI ptrElem).alloc _
  · show (0 : Int) ≤ 4096
    omega
set_option maxRecDepth 100000 in
theorem new_badI (n : Int) (h : n < 1 ∨ 4096 < n) : Calls Try.prog 11 #[.int .i64 n] w fun e w' => e = .returned (.tuple #[.pointer none, .int .i64 1]) ∧ w' = w := by
  by_cases h1 : n < 1
  · have b1 : decide (n < 1) = true := by simpa using h1
    clear h h1
    go_enter Try.func11, Try.ntmps11
    go_wp2_with fail
    go_ret2
    exact ⟨rfl, rfl⟩
  · have b1 : decide (n < 1) = false := by simpa using h1
    have b2 : decide (n > 4096) = true := by simp; omega
    clear h h1
    go_enter Try.func11, Try.ntmps11
    go_wp2_with fail
    go_ret2
    exact ⟨rfl, rfl⟩
end
end Go.Proofs.Ytdhaoodkelehpaa
end
/-! Memos with whole numbers as keys; scripts of calls. -/
section
set_option linter.unusedVariables false
namespace Go.Kit
open Go.RowKit Go.Proofs.YtdhaoodkelehpaaW.PrintWords
def I6 (x : Int) : Prop := -9223372036854775808 ≤ x ∧ x ≤ 9223372036854775807
def KyN : Ky Int where
  kv k := .int .i64 k
  kl k := .int .i64 k
  inj x y h := by injection h
  is x := trivial
def outv : Option Int → Int × Bool
  | none => (0, false)
  | some k => (k, true)
/-- Whole numbers that are read. -/
structure IR (w : World) (A : Option Addr) (n : Nat) (xs : List Int) : Prop where
  rd : ReadsInt w .i64 A n xs
  fit : ∀ x ∈ xs, I6 x
theorem IR.below {w w1 : World} {A : Option Addr} {n : Nat} {xs : List Int} (h : IR w A n xs) (hb : Below w.heap.size w w1) : IR w1 A n xs := ⟨h.rd.below hb, h.fit⟩
theorem IR.len {w : World} {A : Option Addr} {n : Nat} {xs : List Int} (h : IR w A n xs) : xs.length = n := h.rd.1
theorem IR.nil (w : World) : IR w none 0 [] := ⟨⟨rfl, by omega, fun h => absurd h (by omega)⟩, by simp⟩
theorem IR.at_ {w : World} {A : Option Addr} {n : Nat} {xs : List Int} (h : IR w A n xs) (i : Nat) (hi : i < n) :
    ∃ ad x, A = some ad ∧ w.cell? (ad.add i) = some (.int .i64 x) ∧ I6 x ∧ Hid (xs[i]? = some x) := by
  obtain ⟨ad, e, hc⟩ := h.rd.2.2 (by omega)
  have hl : i < xs.length := by have := h.len; omega
  refine ⟨ad, _, e, hc i hi, ?_, ?_⟩
  · rw [List.getD_eq_getElem?_getD, List.getElem?_eq_getElem hl]; exact h.fit _ (List.getElem_mem hl)
  · show xs[i]? = _
    rw [List.getD_eq_getElem?_getD, List.getElem?_eq_getElem hl]; rfl
/-- One call of a script. -/
structure Lc where
  kind : Int
  k : Int
  v : Int
  keys : List Int
/-- A row of calls that is read. -/
structure LA (w : World) (A : Option Addr) (n : Nat) (L : List Lc) : Prop where
  len : L.length = n
  max : n ≤ 140737488351232
  at0 : ∀ i, i < n → ∃ ad Ai ni ci x, A = some ad ∧ w.cell? (ad.add (i * 4)) = some (.int .i64 x.kind) ∧ w.cell? ⟨(ad.add (i * 4)).block, (ad.add (i * 4)).off + 1, none⟩ = some (.int .i64 x.k) ∧ w.cell? ⟨(ad.add (i * 4)).block, (ad.add (i * 4)).off + 2, none⟩ = some (.int .i64 x.v) ∧ w.cell? ⟨(ad.add (i * 4)).block, (ad.add (i * 4)).off + 3, none⟩ = some (.slice Ai ni ci) ∧ IR w Ai ni x.keys ∧ I6 x.kind ∧ I6 x.k ∧ I6 x.v ∧ ni ≤ 140737488351232 ∧ Hid (L[i]? = some x)
theorem LA.below {w w1 : World} {A : Option Addr} {n : Nat} {L : List Lc} (h : LA w A n L) (hb : Below w.heap.size w w1) : LA w1 A n L :=
  ⟨h.len, h.max, fun i hi => by
    obtain ⟨ad, Ai, ni, ci, x, e, h0, h1, h2, h3, hr, hx⟩ := h.at0 i hi
    exact ⟨ad, Ai, ni, ci, x, e, pw_cell_below hb h0, pw_cell_below hb h1, pw_cell_below hb h2, pw_cell_below hb h3, hr.below hb, hx⟩⟩
end Go.Kit
namespace Go.Proofs.Ytdhaoodkelehpaa
open Go.RowKit Go.Kit Go.Proofs.YtdhaoodkelehpaaW.PrintWords
theorem keyN {k : Int} (h : I6 k) : keyOf Try.prog KTI (KyN.kv k) = some (KyN.kl k) := Maps.keyOf_int_mk Try.underlying3 (by
  obtain ⟨h1, h2⟩ := h
  simp only [Lit.wf, Bool.and_eq_true, decide_eq_true_eq]
  exact ⟨h1, h2⟩)
/-- A memo, with its footprint. -/
def Mf (w : World) (m : Nat) (S : Sp Int) (F : Nat → Prop) : Prop := ∃ b L, MeI w m b KyN L S ∧ S.ok ∧ F = mfp m b L
/-- What a call leaves. -/
def Lft (w : World) (m : Nat) (F : Nat → Prop) (S : Sp Int) (w' : World) : Prop := ∃ F', Mf w' m S F' ∧ Only w w' F ∧ Onto w F F'
section
variable {w w1 : World} {m : Nat} {S : Sp Int} {F X : Nat → Prop}
theorem Mf.ok (h : Mf w m S F) : S.ok := by obtain ⟨b, L, _, hok, _⟩ := h; exact hok
theorem Mf.cnt (h : Mf w m S F) : 0 ≤ S.hi ∧ 0 ≤ S.mi ∧ 0 ≤ S.go := by obtain ⟨b, L, hM, _⟩ := h; exact hM.cnt
theorem Mf.only (h : Mf w m S F) (ho : Only w w1 X) (hs : Sep F X) : Mf w1 m S F := by
  obtain ⟨b, L, hM, hok, rfl⟩ := h
  exact ⟨b, L, hM.only ho hs, hok, rfl⟩
theorem Mf.below (h : Mf w m S F) (hb : Below w.heap.size w w1) : Mf w1 m S F := h.only (Only.of_below hb (fun _ => False)) (fun _ _ e => e)
theorem Mf.drewN (h : Mf w m S F) (k : Nat) : Mf (w.drewN k) m S F := h.below (pw_below_drewN (Below.refl _ _) k)
theorem Mf.old (h : Mf w m S F) : Old w F := by obtain ⟨b, L, hM, hok, rfl⟩ := h; exact hM.old
theorem put_f (h : Mf w m S F) (k v : Int) (hk : I6 k) (hgo : S.go ≤ 9223372036854775806) : Calls Try.prog 13 #[.pointer (some ⟨m, 0, none⟩), .int .i64 k, .int .i64 v] w fun e w' => ∃ x y, e = .returned (.tuple #[.int .i64 x, .bool y]) ∧ Hid ((x, y) = outv (S.out k)) ∧ Lft w m F (S.put k v) w' := by
  obtain ⟨b, L, hM, hok, rfl⟩ := h
  refine (show Calls Try.prog 13 #[.pointer (some ⟨m, 0, none⟩), .int .i64 k, .int .i64 v] w _ from putI hM k v (keyN hk) hgo).mono ?_
  rintro e w' ⟨rfl, L', hM', ho, hn⟩
  cases hx : S.out k with
  | none => exact ⟨0, false, rfl, rfl, _, ⟨b, L', hM', Sp.put_ok hok k v, rfl⟩, ho, hn⟩
  | some x => exact ⟨x, true, rfl, rfl, _, ⟨b, L', hM', Sp.put_ok hok k v, rfl⟩, ho, hn⟩
theorem get_f (h : Mf w m S F) (k : Int) (hk : I6 k) (hhi : S.hi ≤ 9223372036854775806) (hmi : S.mi ≤ 9223372036854775806) : Calls Try.prog 14 #[.pointer (some ⟨m, 0, none⟩), .int .i64 k] w fun e w' => ∃ x y, e = .returned (.tuple #[.int .i64 x, .bool y]) ∧ Hid ((x, y) = outv (fnd S.l k)) ∧ Lft w m F (S.get k) w' := by
  obtain ⟨b, L, hM, hok, rfl⟩ := h
  refine (show Calls Try.prog 14 #[.pointer (some ⟨m, 0, none⟩), .int .i64 k] w _ from getI hM k (keyN hk) hhi hmi).mono ?_
  rintro e w' ⟨rfl, L', hM', ho, hn⟩
  cases hx : fnd S.l k with
  | none => exact ⟨0, false, rfl, rfl, _, ⟨b, L', hM', Sp.get_ok hok k, rfl⟩, ho, hn⟩
  | some x => exact ⟨x, true, rfl, rfl, _, ⟨b, L', hM', Sp.get_ok hok k, rfl⟩, ho, hn⟩
theorem look_f (h : Mf w m S F) (k : Int) (hk : I6 k) : Calls Try.prog 15 #[.pointer (some ⟨m, 0, none⟩), .int .i64 k] w fun e w' => ∃ x y, e = .returned (.tuple #[.int .i64 x, .bool y]) ∧ Hid ((x, y) = outv (fnd S.l k)) ∧ w' = w := by
  obtain ⟨b, L, hM, hok, rfl⟩ := h
  refine (show Calls Try.prog 15 #[.pointer (some ⟨m, 0, none⟩), .int .i64 k] w _ from lookI hM k (keyN hk)).mono ?_
  rintro e w' ⟨rfl, rfl⟩
  cases hx : fnd S.l k with
  | none => exact ⟨0, false, rfl, rfl, rfl⟩
  | some x => exact ⟨x, true, rfl, rfl, rfl⟩
theorem len_f (h : Mf w m S F) : Calls Try.prog 16 #[.pointer (some ⟨m, 0, none⟩)] w fun e w' => e = .returned (.int .i64 (S.l.length : Int)) ∧ w' = w := by
  obtain ⟨b, L, hM, hok, rfl⟩ := h
  exact lenI hM
theorem new_f (n : Int) (h1 : 1 ≤ n) (h2 : n ≤ 4096) : Calls Try.prog 11 #[.int .i64 n] w fun e w' => ∃ m F, e = .returned (.tuple #[.pointer (some ⟨m, 0, none⟩), .int .i64 0]) ∧ Mf w' m ⟨n, [], 0, 0, 0⟩ F ∧ (∀ k, F k → w.heap.size ≤ k) ∧ Below w.heap.size w w' := by
  refine (newI KyN n h1 h2).mono ?_
  rintro e w' ⟨m, b, rfl, hM, hb, hm, hb2⟩
  refine ⟨m, _, rfl, ⟨b, [], hM, ⟨List.nodup_nil, by show (0 : Int) ≤ n; omega, h1, h2⟩, rfl⟩, fun k hk => ?_, hb⟩
  rcases hk with rfl | rfl | hk
  · exact hm
  · exact hb2
  · cases hk
end
/-- Where a call's footprint is the walk's own. -/
theorem Lft.step {w0 w w' : World} {m : Nat} {F : Nat → Prop} {S : Sp Int} (h : Lft w m F S w') (hF : ∀ k, F k → w0.heap.size ≤ k) (hb : Below w0.heap.size w0 w) : ∃ F', Mf w' m S F' ∧ (∀ k, F' k → w0.heap.size ≤ k) ∧ Below w0.heap.size w0 w' := by
  obtain ⟨F', hM, ho, hn⟩ := h
  exact ⟨F', hM, fun k hk => (hn k hk).elim (hF k) (fun q => Nat.le_trans hb.size q), Below.only hb ho hb.size hF⟩
end Go.Proofs.Ytdhaoodkelehpaa
end
/-! Arguments opened: structs, weights. No program in it. -/
section
namespace Go.Kit
open Go.ChangeShapes Go.WideShapes Go.RowKit Go.Deep Go.Proofs.YtdhaoodkelehpaaW.PrintWords
section
variable {H : Type} {enc : TypeId × Value → H} {P : Program} {W : World} {base : Nat} {r : Reach}
/-- Bytes of an array. -/
theorem read_bytes {t e : TypeId} {m n : Nat} {cs : List Value} {y : DataW H × List MemPlace} (ht : P.underlying t = some (.array m e)) (he : P.underlying e = some (.int .u8)) (hc : P.cellsOf e = 1) (hm : P.cellsOf t = m)
    (h : DataW.trod enc P W 0 (fun _ => true) true n t cs = some y) : ∃ l : List Int, cs = nums .u8 l ∧ l.length = m ∧ Byt l := by
  obtain ⟨xs, k, _, _, hl, hx, hf⟩ := DataW.trod_array ht h
  rw [hm] at hl
  have each : ∀ i, i < m → ∃ z, cs[i]? = some (.int .u8 z) ∧ 0 ≤ z ∧ z < 256 := by
    intro i hi
    have hq := hf i hi
    rw [hc, Nat.mul_one, List.getElem?_eq_getElem (by omega)] at hq
    obtain ⟨z, hz, _, hwf⟩ := DataW.trod_int he hq
    refine ⟨z, ?_, ?_⟩
    · have := congrArg (fun l : List Value => l[0]?) hz
      simpa using this
    · have := bounds_u8 hwf; omega
  refine ⟨(List.range m).map fun i => match cs[i]? with | some (Value.int _ z) => z | _ => 0, ?_, by simp, ?_⟩
  · apply List.ext_getElem?
    intro i
    rcases Nat.lt_or_ge i m with hi | hi
    · obtain ⟨z, hz, _⟩ := each i hi
      simp [nums, hi, hz]
    · rw [List.getElem?_eq_none (by omega), List.getElem?_eq_none (by simp [nums]; omega)]
  · intro z hz
    simp only [List.mem_map, List.mem_range] at hz
    obtain ⟨i, hi, rfl⟩ := hz
    obtain ⟨z, hz, h0, h1⟩ := each i hi
    simp only [hz]; exact ⟨h0, h1⟩
/-- Every block inside is no greater than the reach. -/
def Wt (P : Program) (t : TypeId) (d : DataW H) : Prop := ∀ n ∈ d.weights P t, n ≤ 140737488351232
theorem wt_sized {ts : List TypeId} {ds : List (DataW H)} {j : Nat} {t : TypeId} {d : DataW H} (h : (DataW.weightsEach P ts ds).all (· ≤ reachBytes) = true) (ht : ts[j]? = some t) (hd : ds[j]? = some d) : Wt P t d := fun n hn => by
  have := List.all_eq_true.1 h n (DataW.weights_mem_each ht hd n hn)
  have := of_decide_eq_true this
  unfold reachBytes at this; omega
theorem Wt.field {t ty : TypeId} {fs : Array Field} {parts : List (DataW H)} {d : DataW H} (h : Wt P t (.agg parts)) (hs : P.underlying t = some (.struct fs)) {i : Nat} (hf : fs[i]?.map (·.type) = some ty) (hp : parts[i]? = some d) : Wt P ty d := fun n hn => by
  refine h n ?_
  rw [DataW.weights, hs]
  refine DataW.weights_mem_each (j := i) ?_ hp n hn
  rw [List.getElem?_map, Array.getElem?_toList]; exact hf
theorem mem_weightsAll {e : TypeId} {d : DataW H} : ∀ {l : List (DataW H)}, d ∈ l → ∀ n ∈ d.weights P e, n ∈ DataW.weightsAll P e l
  | x :: l, hd, n, hn => by
    rw [DataW.weightsAll, List.mem_append]
    rcases List.mem_cons.1 hd with rfl | hd
    · exact .inl hn
    · exact .inr (mem_weightsAll hd n hn)
theorem Wt.slice {t e : TypeId} {el sp : List (DataW H)} (h : Wt P t (.slice el sp)) (hs : P.underlying t = some (.slice e)) : (el.length + sp.length) * P.bytesOf e ≤ 140737488351232 ∧ ∀ d ∈ el, Wt P e d := by
  have h2 : ∀ n ∈ (el.length + sp.length) * P.bytesOf e :: (DataW.weightsAll P e el ++ DataW.weightsAll P e sp), n ≤ 140737488351232 := fun n hn => h n (by rw [DataW.weights, hs]; exact hn)
  exact ⟨h2 _ (by simp), fun d hd n hn => h2 n (by rw [List.mem_cons, List.mem_append]; exact .inr (.inl (mem_weightsAll hd n hn)))⟩
theorem Wt.string {t : TypeId} {b : List UInt8} (h : Wt P t (.lit (.string b) : DataW H)) : b.length ≤ 140737488351232 := h _ (by rw [DataW.weights]; simp)
/-- A struct's cells: every field's reading. -/
theorem read_fields {t : TypeId} {fs : Array Field} {n : Nat} {cs : List Value} {y : DataW H × List MemPlace} (hs : P.underlying t = some (.struct fs))
    (h : DataW.trod enc P W 0 (fun _ => true) true n t cs = some y) :
    cs.length = P.cellsOf t ∧ ∃ parts, y.1 = .agg parts ∧ ∀ (i : Nat) (ty : TypeId) (o : Nat), (fs[i]?.map fun f => (f.type, f.offset)) = some (ty, o) → ∃ n y, DataW.trod enc P W 0 (fun _ => true) true n ty ((cs.drop o).take (P.cellsOf ty)) = some y ∧ parts[i]? = some y.1 ∧ fs[i]?.map (·.type) = some ty := by
  obtain ⟨xs, n, _, rfl, hl, hlen, hfs⟩ := DataW.trod_struct hs h
  refine ⟨hl, _, rfl, fun i ty o hi => ?_⟩
  obtain ⟨f, hi2, he⟩ := Option.map_eq_some_iff.1 hi
  simp only [Prod.mk.injEq] at he
  obtain ⟨rfl, rfl⟩ := he
  have hlt : i < fs.size := by
    rcases Nat.lt_or_ge i fs.size with h | h
    · exact h
    · rw [Array.getElem?_eq_none h] at hi2; cases hi2
  refine ⟨n, xs[i]'(by omega), ?_, ?_, by rw [hi2]; rfl⟩
  · have := hfs i f hi2
    rwa [List.getElem?_eq_getElem (by omega)] at this
  · rw [List.getElem?_map, List.getElem?_eq_getElem (by omega)]; rfl
/-- A struct by value. -/
theorem open_fields {t : TypeId} {fs : Array Field} {v : Value} {d : DataW H} {ps : List MemPlace} (hs : P.underlying t = some (.struct fs))
    (hv : Value.okWide P W r base t v) (h : DataW.Trod enc P W 0 (fun _ => true) true t v d ps) :
    ∃ (cs : List Value) (parts : List (DataW H)), v = .agg cs.toArray ∧ cs.length = P.cellsOf t ∧ d = .agg parts ∧ ∀ (i : Nat) (ty : TypeId) (o : Nat), (fs[i]?.map fun f => (f.type, f.offset)) = some (ty, o) → ∃ n y, DataW.trod enc P W 0 (fun _ => true) true n ty ((cs.drop o).take (P.cellsOf ty)) = some y ∧ parts[i]? = some y.1 ∧ fs[i]?.map (·.type) = some ty := by
  obtain ⟨cs, rfl, hsz⟩ := okWide_struct hs hv
  obtain ⟨fuel, hq⟩ := h
  obtain ⟨h1, parts, h2, h3⟩ := read_fields hs hq
  exact ⟨cs.toList, parts, by simp, by simp [hsz], h2, h3⟩
end
end Go.Kit
end
/-! Scripts of a memo, opened. -/
section
set_option linter.unusedVariables false
namespace Go.Proofs.Ytdhaoodkelehpaa
open Go.ChangeShapes Go.WideShapes Go.RowKit Go.Kit Go.Deep Go.Proofs.YtdhaoodkelehpaaW.PrintWords
theorem i6_wf {x : Int} (h : (Lit.int .i64 x).wf = true) : I6 x := by have := bounds_i64 h; exact ⟨by omega, by omega⟩
/-- A slice of whole numbers inside a struct. -/
theorem read_ints {H : Type} {enc : TypeId × Value → H} {W : World} {n : Nat} {cs : List Value} {y : DataW H × List MemPlace}
    (h : DataW.trod enc Try.prog W 0 (fun _ => true) true n 28 cs = some y) : ∃ A len cap xs, cs = [.slice A len cap] ∧ IR W A len xs ∧ len ≤ cap ∧ (Wt Try.prog 28 y.1 → len * 8 ≤ 140737488351232) := by
  have hB : Try.prog.bytesOf 3 = 8 := by kernel_rfl
  rcases open_ints Try.underlying28 Try.underlying3 (by kernel_rfl) h with ⟨hcs, _⟩ | ⟨x, l, c, zs, rfl, _, hl, hm, hz, rfl, hcell, hwz⟩
  · exact ⟨none, 0, 0, [], hcs, IR.nil W, by omega, fun _ => by omega⟩
  · simp only [if_true] at hz
    refine ⟨_, l, c, zs.take l, rfl, ⟨⟨by rw [List.length_take]; omega, by unfold maxLen at hm; omega, fun _ => ⟨x, rfl, fun j hj => ?_⟩⟩, fun q hq => i6_wf (hwz q (List.mem_of_mem_take hq))⟩, hl, fun hw => ?_⟩
    · rw [hcell j (by omega)]
      simp [List.getD_eq_getElem?_getD, hj]
    · have h1 := (hw.slice Try.underlying28).1
      rw [hB] at h1
      simp only [lits, List.length_map, List.length_take] at h1
      omega
theorem add_at (a : Addr) (n j : Nat) (hj : 0 < j) : (a.add n).add j = ⟨(a.add n).block, (a.add n).off + j, none⟩ := by
  unfold Addr.add
  have h : j ≠ 0 := by omega
  by_cases h1 : n = 0 <;> simp [h1, h]
instance : Inhabited Lc := ⟨⟨0, 0, 0, []⟩⟩
/-- A row of calls, inside a struct or not. -/
theorem read_lacts {H : Type} {enc : TypeId × Value → H} {W : World} {n : Nat} {cs : List Value} {y : DataW H × List MemPlace}
    (hf : DataW.trod enc Try.prog W 0 (fun _ => true) true n 22 cs = some y) (hw : Wt Try.prog 22 y.1) : ∃ A len cap L, cs = [.slice A len cap] ∧ LA W A len L := by
  rcases open_slice Try.underlying22 hf with ⟨h0, _⟩ | ⟨a, n, c, m, k, D, Pl, hcs, _, hl, hm, hmm, rfl, hx⟩
  · exact ⟨none, 0, 0, [], h0, rfl, by omega, fun i hi => absurd hi (by omega)⟩
  · simp only [if_true] at hmm
    have hB : Try.prog.bytesOf 30 = 48 := by kernel_rfl
    have c4 : Try.prog.cellsOf 30 = 4 := by kernel_rfl
    have c1 : Try.prog.cellsOf 3 = 1 := by kernel_rfl
    have c2 : Try.prog.cellsOf 28 = 1 := by kernel_rfl
    have hws := hw.slice Try.underlying22
    rw [hB] at hws
    have each : ∀ i, i < n → ∃ y : Option Addr × Nat × Nat × Lc, W.cell? (a.add (i * 4)) = some (.int .i64 y.2.2.2.kind) ∧ W.cell? ⟨(a.add (i * 4)).block, (a.add (i * 4)).off + 1, none⟩ = some (.int .i64 y.2.2.2.k) ∧ W.cell? ⟨(a.add (i * 4)).block, (a.add (i * 4)).off + 2, none⟩ = some (.int .i64 y.2.2.2.v) ∧ W.cell? ⟨(a.add (i * 4)).block, (a.add (i * 4)).off + 3, none⟩ = some (.slice y.1 y.2.1 y.2.2.1) ∧ IR W y.1 y.2.1 y.2.2.2.keys ∧ I6 y.2.2.2.kind ∧ I6 y.2.2.2.k ∧ I6 y.2.2.2.v ∧ y.2.1 ≤ 140737488351232 := by
      intro i hi
      obtain ⟨cs, hc, ht⟩ := hx i (by omega)
      have hwd : Wt Try.prog 30 (D i) := hws.2 _ (List.mem_map.2 ⟨i, List.mem_range.2 hi, rfl⟩)
      rw [c4] at hc
      obtain ⟨_, hlen, hcell⟩ := World.cells?_some hc
      obtain ⟨_, parts, hagg, hfs⟩ := read_fields Try.underlying30 ht
      obtain ⟨n0, y0, z0, _, _⟩ := hfs 0 3 0 rfl
      obtain ⟨n1, y1, z1, _, _⟩ := hfs 1 3 1 rfl
      obtain ⟨n2, y2, z2, _, _⟩ := hfs 2 3 2 rfl
      obtain ⟨n3, y3, z3, p3, t3⟩ := hfs 3 28 3 rfl
      rw [c1] at z0 z1 z2
      rw [c2] at z3
      obtain ⟨kd, e0, _, g0⟩ := DataW.trod_int Try.underlying3 z0
      obtain ⟨aa, e1, _, g1⟩ := DataW.trod_int Try.underlying3 z1
      obtain ⟨bb, e2, _, g2⟩ := DataW.trod_int Try.underlying3 z2
      obtain ⟨Ai, ni, ci, Li, e3, hr, _, hb⟩ := read_ints z3
      rw [show D i = .agg parts from hagg] at hwd
      have hni := hb (hwd.field Try.underlying30 t3 p3)
      match cs, hlen with
      | [x0, x1, x2, x3], _ =>
        simp at e0 e1 e2 e3
        subst e0 e1 e2 e3
        have q0 := hcell 0 (by omega)
        have q1 := hcell 1 (by omega)
        have q2 := hcell 2 (by omega)
        have q3 := hcell 3 (by omega)
        rw [add_at _ _ 1 (by omega)] at q1
        rw [add_at _ _ 2 (by omega)] at q2
        rw [add_at _ _ 3 (by omega)] at q3
        rw [show (a.add (i * 4)).add 0 = a.add (i * 4) from rfl] at q0
        exact ⟨(Ai, ni, ci, ⟨kd, aa, bb, Li⟩), by simpa using q0, by simpa using q1, by simpa using q2, by simpa using q3, hr, i6_wf g0, i6_wf g1, i6_wf g2, by show ni ≤ _; omega⟩
    obtain ⟨y, hy⟩ := choose_lt each
    have hbig := hws.1
    simp only [List.length_map, List.length_range] at hbig
    refine ⟨_, n, c, (List.range n).map fun i => (y i).2.2.2, hcs, by simp, by omega, fun i hi => ?_⟩
    obtain ⟨q0, q1, q2, q3, q4, q5, q6, q7, q8⟩ := hy i hi
    exact ⟨a, (y i).1, (y i).2.1, (y i).2.2.1, (y i).2.2.2, rfl, q0, q1, q2, q3, q4, q5, q6, q7, q8, by show _ = _; simp [hi]⟩
theorem open_lacts {H : Type} {enc : TypeId × Value → H} {W : World} {base : Nat} {r : Reach} {v : Value} {d : DataW H} {ps : List MemPlace}
    (hv : Value.okWide Try.prog W r base 22 v) (h : DataW.Trod enc Try.prog W 0 (fun _ => true) true 22 v d ps) (hw : Wt Try.prog 22 d) : ∃ A n c L, v = .slice A n c ∧ LA W A n L := by
  obtain ⟨A, n, c, rfl⟩ := okWide_slice Try.underlying22 hv
  obtain ⟨fuel, hf⟩ := h
  obtain ⟨A', n', c', L, he, hL⟩ := read_lacts hf hw
  simp [Value.cells] at he
  obtain ⟨rfl, rfl, rfl⟩ := he
  exact ⟨_, _, _, L, rfl, hL⟩
end Go.Proofs.Ytdhaoodkelehpaa
end
