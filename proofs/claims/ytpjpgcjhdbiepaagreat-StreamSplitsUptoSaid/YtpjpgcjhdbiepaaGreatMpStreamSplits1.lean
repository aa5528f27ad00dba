/- Contracts of functions that the law reaches (texts laid together, part 1): each says of its call what it answers and what it leaves of memory; the conditions stand in each statement. -/
import Derived.Test.YtpjpgcjhdbiepaaGreatWWords
import Derived.WalkKit
import Derived.Lib.Hide
import Derived.Laws.BitsAllLaws
import Derived.Deep.WholeRow
import Derived.Deep.CutBlock
import Derived.Deep.Cut
import Derived.Deep.LoopGhost
import Derived.Laws.CopyOwn
import Derived.Lib.SlBytesConst
import Derived.ProofKit
import Derived.OpenShut
import Derived.SizedLaws
import Derived.Deep.Matrix
import Derived.Lib.SmallJoins
import Derived.Test.YtpjpgcjhdbiepaaGreatWSized
import Derived.ChangeKeysEq
import Derived.Laws.StructEq
import Derived.Test.YtpjpgcjhdbiepaaGreatWMore
import Derived.Test.YtpjpgcjhdbiepaaGreatRows
import Derived.Laws.Bits64b
import Derived.IntWalk
import Derived.Test.YtpjpgcjhdbiepaaGreatProg
import Derived.Test.YtpjpgcjhdbiepaaGreatWGuard
import Derived.Deep.MidRow
import Derived.Deep.RegionHeld3
import Derived.Deep.RegionLaw
import Derived.Deep.DeepMust
import Derived.Laws.Cover3
import Derived.Test.YtpjpgcjhdbiepaaGreatWEqStruct
import Derived.StillTailTactics
import Derived.OrdersHeld
import Derived.Deep.RegionHeld
set_option linter.unusedVariables false
set_option linter.unusedSimpArgs false
set_option linter.unusedSectionVars false
set_option linter.unnecessarySimpa false
open Go in
theorem Go.Kit.tk {P : Program} {ops : Array Oper} {Q : Exit → Act → World → Prop} {md : Region.Mode} {S : World → Prop} (i : Nat) (v : Value) {d : Option Tmp} {o : Op} {ty : TypeId} {ps : String} {af : Array Edge} {gu : Option (Nat × Bool)} {fuel : Nat} {listed : Array Bool} {a a' : Act} {w : World} (hi : ops[i]? = some ⟨d, o, ty, ps, af, gu⟩)
  (h : wpAnyH P md ops Q S fuel (listed.setIfInBounds i true) a' w)
  (hs : Region.noSelect ops = true := by kernel_rfl) (hf : Region.free md ops listed i = true := by kernel_rfl) (hr : (Region.ready md ops listed).contains i = true := by kernel_rfl)
  (hQ : ∀ c a w, Q (.panic c) (a.put d v) w → Q (.panic c) a w := by exact fun _ _ _ h => h) (hy : YieldsIf P ops S ⟨d, o, ty, ps, af, gu⟩ v a := by exact (Or.inl ⟨by kernel_rfl, fun W hS => by dsimp only at hS; go_split_ands; go_simp⟩)) (hS : S w := by assumption)
  (he : a.put d v = a' := by simp only [Act.put, List.setIfInBounds_toArray, List.set_cons_zero, List.set_cons_succ] <;> exact rfl) : wpAnyH P md ops Q S (fuel + 1) listed a w := by
 subst he
 exact wpAnyH_take hi hs hf hr hQ hy hS h
section
namespace Go.Kit
open Go.RowKit Go.Proofs.YtpjpgcjhdbiepaaGreatW.PrintWords

def Byt (xs : List Int) : Prop := ∀ x ∈ xs, 0 ≤ x ∧ x < 256
theorem Byt.get {xs : List Int} (h : Byt xs) (j : Nat) : 0 ≤ xs.getD j 0 ∧ xs.getD j 0 < 256 := by
 rw [List.getD_eq_getElem?_getD]
 cases hx : xs[j]? with
 | none => simp
 | some x => simpa using h x (List.mem_of_getElem? hx)
theorem Byt.nil : Byt [] := fun x h => by simp at h
theorem Byt.append {xs ys : List Int} (h : Byt xs) (k : Byt ys) : Byt (xs ++ ys) := fun x hx => (List.mem_append.1 hx).elim (h x) (k x)
theorem Byt.take {xs : List Int} (h : Byt xs) (n : Nat) : Byt (xs.take n) := fun x hx => h x (List.mem_of_mem_take hx)
theorem Byt.drop {xs : List Int} (h : Byt xs) (n : Nat) : Byt (xs.drop n) := fun x hx => h x (List.mem_of_mem_drop hx)
theorem Byt.one {x : Int} (h0 : 0 ≤ x) (h1 : x < 256) : Byt [x] := fun y hy => by simp at hy; subst hy; exact ⟨h0, h1⟩
structure RB (w : World) (A : Option Addr) (n : Nat) (xs : List Int) : Prop where
 rd : ReadsInt w .u8 A n xs
 byt : Byt xs
theorem RB.len {w : World} {A : Option Addr} {n : Nat} {xs : List Int} (h : RB w A n xs) : xs.length = n := h.rd.1
theorem RB.max {w : World} {A : Option Addr} {n : Nat} {xs : List Int} (h : RB w A n xs) : n ≤ 9223372036854775807 := h.rd.2.1
theorem RB.at_ {w : World} {A : Option Addr} {n : Nat} {xs : List Int} (h : RB w A n xs) (i : Nat) (hi : i < n) :
  ∃ ad x, A = some ad ∧ w.cell? (ad.add i) = some (.int .u8 x) ∧ 0 ≤ x ∧ x < 256 ∧ Hid (xs[i]? = some x) := by
 obtain ⟨ad, e, hc⟩ := h.rd.2.2 (by omega)
 refine ⟨ad, _, e, hc i hi, (h.byt.get i).1, (h.byt.get i).2, ?_⟩
 have hl : i < xs.length := by have := h.len; omega
 show xs[i]? = _
 rw [List.getD_eq_getElem?_getD, List.getElem?_eq_getElem hl]; rfl
theorem RB.below {w w1 : World} {A : Option Addr} {n : Nat} {xs : List Int} (h : RB w A n xs) (hb : Below w.heap.size w w1) : RB w1 A n xs := ⟨h.rd.below hb, h.byt⟩
theorem RB.alloc {w : World} {A : Option Addr} {n : Nat} {xs : List Int} (h : RB w A n xs) (o : Obj) : RB (w.alloc o) A n xs := h.below (below_alloc (Below.refl _ _) o)
theorem RB.drew {w : World} {A : Option Addr} {n : Nat} {xs : List Int} (h : RB w A n xs) : RB w.drew A n xs := ⟨h.rd, h.byt⟩
theorem RB.drewN {w : World} {A : Option Addr} {n : Nat} {xs : List Int} (h : RB w A n xs) (k : Nat) : RB (w.drewN k) A n xs := ⟨h.rd, h.byt⟩
theorem RB.nil (w : World) : RB w none 0 [] := ⟨⟨rfl, by omega, fun h => absurd h (by omega)⟩, Byt.nil⟩

theorem RB.lit (w : World) (xs : List Int) (hx : Byt xs) (hl : xs.length ≤ 9223372036854775807) (e : TypeId) (fr : Nat × Nat) :
  RB (w.alloc (.cells (nums .u8 xs).toArray e fr)) (some ⟨w.heap.size, 0, none⟩) xs.length xs := by
 refine ⟨⟨rfl, hl, fun _ => ⟨_, rfl, fun j hj => ?_⟩⟩, hx⟩
 rw [add_plain, cell_of_row _ _ j (nums .u8 xs).toArray e fr (heap_alloc_new w _)]
 simp [nums, List.getElem?_eq_getElem hj, List.getD_eq_getElem?_getD]
structure RBs (w : World) (A : Option Addr) (n : Nat) (L : List (List Int)) : Prop where
 len : L.length = n
 max : n ≤ 9223372036854775807
 at0 : ∀ i, i < n → ∃ ad Ai ci xs, A = some ad ∧ w.cell? (ad.add i) = some (.slice Ai xs.length ci) ∧ L[i]? = some xs ∧ RB w Ai xs.length xs
theorem RBs.at_ {w : World} {A : Option Addr} {n : Nat} {L : List (List Int)} (h : RBs w A n L) (i : Nat) (hi : i < n) :
  ∃ ad Ai ni ci xs, A = some ad ∧ w.cell? (ad.add i) = some (.slice Ai ni ci) ∧ RB w Ai ni xs ∧ Hid (L[i]? = some xs) := by
 obtain ⟨ad, Ai, ci, xs, e, hc, hx, hr⟩ := h.at0 i hi
 exact ⟨ad, Ai, xs.length, ci, xs, e, hc, hr, hx⟩
theorem RBs.below {w w1 : World} {A : Option Addr} {n : Nat} {L : List (List Int)} (h : RBs w A n L) (hb : Below w.heap.size w w1) : RBs w1 A n L :=
 ⟨h.len, h.max, fun i hi => by
  obtain ⟨ad, Ai, ci, xs, e, hc, hx, hr⟩ := h.at0 i hi
  exact ⟨ad, Ai, ci, xs, e, pw_cell_below hb hc, hx, hr.below hb⟩⟩
theorem RBs.one {w : World} {A : Option Addr} {n cap : Nat} {xs : List Int} (t : TypeId) (h : RB w A n xs) : RBs (w.alloc (.cells #[.slice A n cap] t)) (some ⟨w.heap.size, 0, none⟩) 1 [xs] := by
 refine ⟨rfl, by omega, fun i hi => ?_⟩
 obtain rfl : i = 0 := by omega
 refine ⟨_, A, cap, xs, rfl, ?_, rfl, ?_⟩
 ·rw [h.len, show (⟨w.heap.size, 0, none⟩ : Addr).add 0 = ⟨w.heap.size, 0, none⟩ from rfl]; exact World.cell?_alloc_new (w := w) _ t 0
 ·rw [h.len]; exact h.alloc _
structure OB (e : TypeId) (w : World) (base : Nat) (v : Value) (xs : List Int) : Prop where
 own : w.ownsRow base e 1 v xs.length (nums .u8 xs)
 byt : Byt xs
section
variable {e : TypeId} {w w1 : World} {base : Nat} {v : Value} {xs : List Int}
theorem OB.nil (e : TypeId) (w : World) (base : Nat) : OB e w base (.slice none 0 0) [] := ⟨own_nil w base e 1, Byt.nil⟩
theorem OB.reads (h : OB e w base v xs) : ∃ A c, v = .slice A xs.length c ∧ RB w A xs.length xs := by
 obtain ⟨A, c, hv, hr⟩ := own_reads h.own
 exact ⟨A, c, hv, hr, h.byt⟩
theorem OB.below (h : OB e w base v xs) (hb : Below w.heap.size w w1) : OB e w1 base v xs := ⟨pw_own_below h.own hb, h.byt⟩
theorem OB.less (h : OB e w base v xs) {b : Nat} (hle : b ≤ base) : OB e w b v xs := ⟨own_less h.own hle, h.byt⟩
end
theorem RB.cells {w : World} {A : Option Addr} {n : Nat} {xs : List Int} (h : RB w A n xs) (hp : 0 < n) : ∃ ad, A = some ad ∧ ∀ j v, (nums .u8 xs)[j]? = some v → w.cell? (ad.add j) = some v := by
 obtain ⟨ad, e, hc⟩ := h.rd.2.2 hp
 refine ⟨ad, e, fun j v hv => ?_⟩
 have hl := h.len
 have hj : j < xs.length := by
  rcases Nat.lt_or_ge j xs.length with h | h
  ·exact h
  ·simp [nums, List.getElem?_eq_none h] at hv
 rw [hc j (by omega)]
 simp [nums, List.getElem?_eq_getElem hj] at hv
 subst hv
 simp [List.getD_eq_getElem?_getD, List.getElem?_eq_getElem hj]
theorem nums_one (k : IntKind) (xs : List Int) : ∀ u ∈ nums k xs, u.oneCell' = true := by
 intro u hu; simp only [nums, List.mem_map] at hu; obtain ⟨q, _, rfl⟩ := hu; rfl
theorem nums_take (k : IntKind) (xs : List Int) (n : Nat) : (nums k xs).take n = nums k (xs.take n) := by simp [nums, List.map_take]
theorem OB.of_block {e : TypeId} {w : World} {base g n c : Nat} {xs : List Int} {rest : List Value} (hb : base ≤ g) (hg : w.heap[g]? = some (.cells (nums .u8 xs ++ rest).toArray e (0, 0))) (hn : n = xs.length) (hc : c = n + rest.length) (hm : c ≤ 9223372036854775807) (hx : Byt xs) :
  OB e w base (.slice (some ⟨g, 0, none⟩) n c) xs := by
 subst hn
 refine ⟨⟨by simp [nums], .inr ⟨g, c, _, rfl, hb, hg, by omega, by simpa [maxLen] using hm, by simp [nums]; omega, ?_⟩⟩, hx⟩
 simp [nums]
section
variable {P : Program} {ops : Array Oper} {rest : List Oper} {o : Oper} {a : Act} {Q : Exit → Act → World → Prop}
theorem wpList_copy_bytes {w W : World} (hgd : o.guard = none) (d s : Operand) (t e : TypeId) (ho : o.op = .call { callee := .builtin .copy, args := #[d, s], argTypes := #[t, t] })
  (hu : P.underlying t = some (.slice e)) (hsz : (P.info? e).map (·.size) = some 1) (A : Option Addr) (n c m cap : Nat) (xs : List Int) (g : Nat) (hd : a.eval d = .slice (some ⟨g, 0, none⟩) n c) (hs : a.eval s = .slice A m cap)
  (hr : RB W A m xs) (hnm : n ≤ m) (hg : W.heap[g]? = some (.cells (nums .u8 (List.replicate c 0)).toArray e (0, 0))) (hnc : n ≤ c) (hcm : c ≤ 9223372036854775807) (hb : Below w.heap.size w W) (hgB : w.heap.size ≤ g)
  (h : ∀ w', OB e w' w.heap.size (.slice (some ⟨g, 0, none⟩) n c) (xs.take n) → Below w.heap.size w w' → wpList P ops Q rest (a.put o.dst (.int .i64 (n : Int))) w') :
  wpList P ops Q (o :: rest) a W := by
 have hl := hr.len
 have hcl : (nums .u8 (xs.take n)).length = n := by rw [nums_length, List.length_take]; omega
 refine wpList_copy_splice hgd d s t t ho e hu hsz (some ⟨g, 0, none⟩) A n c m cap hd hs g 0 (nums .u8 (List.replicate c 0)) e hg (nums .u8 (xs.take n)) (by rw [hcl]; exact (Nat.min_eq_right hnm).symm) ?_ (by rw [hcl, nums_length]; simp; exact hnc) (nums_one _ _) w.heap.size w hb hgB ?_
 ·intro hp
  rw [hcl] at hp
  obtain ⟨ad, e1, hc⟩ := hr.cells (by omega)
  refine ⟨rfl, ad, e1, fun j v hv => hc j v ?_⟩
  rw [← nums_take, List.getElem?_take] at hv
  split at hv
  ·exact hv
  ·cases hv
 ·intro w' HG hb'
  rw [hcl]
  refine h w' ?_ hb'
  refine OB.of_block (rest := (nums .u8 (List.replicate c 0)).drop n) hgB ?_ (by rw [List.length_take]; omega) (by rw [List.length_drop, nums_length]; simp; omega) hcm (hr.byt.take n)
  have := HG.out
  simpa [splice, hcl] using this
end
theorem snoc {α : Type} {l : List α} {k : Nat} {x : α} (h : l[k]? = some x) : l.take (k + 1) = l.take k ++ [x] := by
 rw [List.take_add_one, h]; rfl
theorem flat_snoc {α : Type} {l : List (List α)} {k : Nat} {x : List α} (h : l[k]? = some x) : (l.take (k + 1)).flatten = (l.take k).flatten ++ x := by
 rw [snoc h]; simp
theorem all_of {α : Type} {l : List α} {k : Nat} (h : l.length ≤ k) : l.take k = l := List.take_of_length_le h
end Go.Kit
end
section
namespace Go.Kit
open Go.ChangeShapes Go.WideShapes Go.RowKit Go.Deep Go.Proofs.YtpjpgcjhdbiepaaGreatW.PrintWords
section
variable {H : Type} {enc : TypeId × Value → H} {P : Program} {W : World} {base : Nat} {r : Reach}
theorem byt_of_wf {zs : List Int} (h : ∀ n ∈ zs, (Lit.int .u8 n).wf = true) : Byt zs := fun n hn => by
 have := bounds_u8 (h n hn); omega
end
end Go.Kit
end
section
namespace Go.Kit
open Go.RowKit Go.Proofs.YtpjpgcjhdbiepaaGreatW.PrintWords
section
variable {P : Program} {w : World}
theorem run_part_int {e : TypeId} {k : IntKind} (he : P.underlying e = some (.int k)) (xs : List Int) (i : Nat) (h : i < xs.length) :
  (part e (nums k xs).toArray i).run P w = .ok (.int k (xs.getD i 0)) w := by
 have hx : (nums k xs).toArray[i]? = some (.int k (xs.getD i 0)) := by
  simp [nums, List.getD_eq_getElem?_getD, List.getElem?_eq_getElem h]
 unfold part
 simp only [isAgg, Sem.run_bind, run_underlying he, Result.andThen_ok]
 simp only [Sem.run_pure, Result.andThen_ok, hx]
 rfl
theorem run_eqItems_nums (d : Nat) {e : TypeId} {k : IntKind} (he : P.underlying e = some (.int k)) (xs ys : List Int) : ∀ is : List Nat, (∀ i ∈ is, i < xs.length ∧ i < ys.length) →
  (Op.eqItems (d + 1) e 1 (nums k xs).toArray (nums k ys).toArray is).run P w = .ok (is.all fun i => xs.getD i 0 == ys.getD i 0) w
 | [], _ => by simp [Op.eqItems]
 | i :: is, h => by
  have hi := h i (by simp)
  have ih := run_eqItems_nums d he xs ys is (fun j hj => h j (by simp [hj]))
  simp only [Op.eqItems, Sem.run_bind, Nat.mul_one, run_part_int he xs i hi.1, run_part_int he ys i hi.2, Result.andThen_ok, run_equalIn_int w d e k k _ _ he]
  by_cases hq : xs.getD i 0 = ys.getD i 0
  ·have hb : (xs.getD i 0 == ys.getD i 0) = true := beq_iff_eq.2 hq
   simp only [hb, List.all_cons, Bool.true_and]
   simpa using ih
  ·have hb : (xs.getD i 0 == ys.getD i 0) = false := beq_eq_false_iff_ne.2 hq
   simp only [hb, List.all_cons, Bool.false_and]
   simp
theorem run_equalIn_nums (d : Nat) {t e : TypeId} {k : IntKind} {n : Nat} {i : TypeInfo} (xs ys : List Int) (hu : P.underlying t = some (.array n e)) (hi : P.info? e = some i) (hsz : i.size = 1) (he : P.underlying e = some (.int k))
  (hx : xs.length = n) (hy : ys.length = n) : (Op.equalIn (d + 2) t (.agg (nums k xs).toArray) (.agg (nums k ys).toArray)).run P w = .ok (decide (xs = ys)) w := by
 have hc : P.cellsOf e = 1 := by simp [Program.cellsOf, hi, hsz]
 rw [run_equalIn_array w (d + 1) _ _ hu hi, hc, run_eqItems_nums d he xs ys _ (fun j hj => by have := List.mem_range.1 hj; omega)]
 congr 1
 rw [Bool.eq_iff_iff, List.all_eq_true, decide_eq_true_iff]
 constructor
 ·intro h
  apply List.ext_getElem (by omega)
  intro j h1 h2
  have := h j (List.mem_range.2 (by omega))
  simpa [List.getD_eq_getElem?_getD, List.getElem?_eq_getElem h1, List.getElem?_eq_getElem h2] using this
 ·rintro rfl j _
  simp
end
theorem OB.reads' {e : TypeId} {w : World} {base : Nat} {v : Value} {xs : List Int} (h : OB e w base v xs) : ∃ A c, v = .slice A xs.length c ∧ RB w A xs.length xs ∧ xs.length ≤ c := by
 obtain ⟨A, c, hv, hr⟩ := h.reads
 refine ⟨A, c, hv, hr, ?_⟩
 rcases h.own.2 with ⟨h1, h2⟩ | ⟨g, cap, cur, h1, _, _, h2, _⟩
 ·omega
 ·rw [hv] at h1
  injection h1 with _ _ h3
  omega
end Go.Kit
end
section
namespace Go.Kit
open Go.RowKit Go.Proofs.YtpjpgcjhdbiepaaGreatW.PrintWords
theorem min2_is {k : IntKind} {a b x : Int} (h : min a b = x) : Builtin.min2 (.int k a) (.int k b) = pure (.int k x) := by
 rw [Go.Proofs.YtpjpgcjhdbiepaaGreatW.PrintMore.min2_int, ← h]
 congr 2
 split <;> omega
def upQ (K : Act → World → Prop) (Q : Exit → Act → World → Prop) : Exit → Act → World → Prop
 | .normal, a, w => K a w
 | .panic c, a, w => Q (.panic c) a w
 | _, _, _ => False
theorem at_list {P : Program} {ops : Array Oper} {o : Oper} {a : Act} {w : World} {K : Act → World → Prop} {Q : Exit → Act → World → Prop} {E : Prop} (hw : Region.wanted o (yielded ops a.tmps) = true)
  (h : ∀ Q2 : Exit → Act → World → Prop, (∀ a w, K a w → Q2 .normal a w) → wpList P ops Q2 [o] a w) : if Region.wanted o (yielded ops a.tmps) = true then Oper.wp P o a w K Q else E := by
 have h1 := h (upQ K Q) (fun _ _ h => h)
 unfold wpList at h1
 rw [if_pos hw] at h1 ⊢
 have hout : LetsOut (upQ K Q) → False := fun ⟨_, _, hf⟩ => hf
 rcases h1 with h1 | ⟨_, h1⟩
 ·unfold Oper.wp at h1 ⊢
  generalize (execOp a.eval o).run P w = r at h1 ⊢
  unfold Oper.upon at h1 ⊢
  split at h1
  ·exact h1
  ·exact h1
  ·exact h1
  ·refine Calls.mono h1 ?_
   intro e w1 h2
   cases e with
   | returned v => exact h2
   | panicked c => exact h2
   | outgrown => exact (hout h2).elim
  ·exact h1
  ·exact h1
  ·exact h1.elim
 ·exact (hout h1).elim
structure Only (w w1 : World) (S : Nat → Prop) : Prop where
 os : w1.os = w.os
 tape : w1.tape = w.tape
 output : w1.output = w.output
 size : w.heap.size ≤ w1.heap.size
 block : ∀ k, k < w.heap.size → ¬ S k → w1.heap[k]? = w.heap[k]?
def Sep (F G : Nat → Prop) : Prop := ∀ k, F k → ¬ G k
def Onto (w : World) (F G : Nat → Prop) : Prop := ∀ k, G k → F k ∨ w.heap.size ≤ k
def Old (w : World) (F : Nat → Prop) : Prop := ∀ k, F k → k < w.heap.size
def rf (v : Value) (k : Nat) : Prop := v.ownBlock = some k
section
variable {w w1 w2 : World} {S T F G : Nat → Prop}
theorem Only.refl (w : World) (S : Nat → Prop) : Only w w S := ⟨rfl, rfl, rfl, Nat.le_refl _, fun _ _ _ => rfl⟩
theorem Only.mono (h : Only w w1 S) (hs : ∀ k, S k → T k) : Only w w1 T := ⟨h.os, h.tape, h.output, h.size, fun k hk hn => h.block k hk (fun e => hn (hs k e))⟩
theorem Only.of_below (h : Below w.heap.size w w1) (S : Nat → Prop) : Only w w1 S := ⟨h.os, h.tape, h.output, h.size, fun k hk _ => h.block k hk⟩
theorem Only.then_ (h : Only w w1 S) (k : Only w1 w2 T) (hs : Onto w S T) : Only w w2 S :=
 ⟨k.os.trans h.os, k.tape.trans h.tape, k.output.trans h.output, Nat.le_trans h.size k.size, fun i hi hn => (k.block i (Nat.lt_of_lt_of_le hi h.size) (fun e => (hs i e).elim hn (fun h2 => absurd hi (by omega)))).trans (h.block i hi hn)⟩
theorem Only.same (h : Only w w1 S) (k : Only w1 w2 S) : Only w w2 S := h.then_ k (fun _ e => .inl e)
theorem Only.below (h : Only w w1 S) (hb : Below w1.heap.size w1 w2) : Only w w2 S := h.then_ (T := fun _ => False) (Only.of_below hb _) (fun _ e => e.elim)
theorem Only.drewN (h : Only w w1 S) (m : Nat) : Only w (w1.drewN m) S := h.below (pw_below_drewN (Below.refl _ _) m)
theorem Only.grown (h : Only w w1 S) {row : Option Nat} (hg : w1.grownBy w2 row) (hr : ∀ k, row = some k → S k ∨ w.heap.size ≤ k) : Only w w2 S :=
 h.then_ (T := fun k => row = some k) ⟨hg.os, hg.tape, hg.output, hg.size, fun k hk hn => hg.block k hk (fun e => hn e.symm)⟩ (fun k e => hr k e)
theorem grown_set (W : World) (g j : Nat) (v : Value) : W.grownBy (W.setCell ⟨g, j, none⟩ v) (some g) :=
 ⟨rfl, rfl, rfl, Nat.le_of_eq (World.size_setCell W _ v).symm, fun k _ hk => Below.heap_setCell _ _ _ k (fun e => hk (by rw [e]))⟩
theorem Only.set (h : Only w w1 S) (g j : Nat) (v : Value) (hg : S g ∨ w.heap.size ≤ g) : Only w (w1.setCell ⟨g, j, none⟩ v) S := h.grown (grown_set w1 g j v) (fun k e => by cases e; exact hg)
theorem Below.only {B : Nat} (hb : Below B w w1) (h : Only w1 w2 S) (hB : B ≤ w1.heap.size) (hs : ∀ k, S k → B ≤ k) : Below B w w2 :=
 ⟨h.os.trans hb.os, h.tape.trans hb.tape, h.output.trans hb.output, Nat.le_trans hb.size h.size, fun k hk => (h.block k (by omega) (fun e => by have := hs k e; omega)).trans (hb.block k hk)⟩
theorem Onto.refl (w : World) (F : Nat → Prop) : Onto w F F := fun _ h => .inl h
theorem Onto.trans {H : Nat → Prop} (h : Onto w F G) (k : Onto w1 G H) (hs : w.heap.size ≤ w1.heap.size) : Onto w F H := fun i hi => (k i hi).elim (fun e => h i e) (fun e => .inr (by omega))
theorem Old.later (h : Old w F) (hs : w.heap.size ≤ w1.heap.size) : Old w1 F := fun k hk => by have := h k hk; omega
theorem Only.kept {k : Nat} {o : Obj} (h : Only w w1 S) (hg : w.heap[k]? = some o) (hn : ¬ S k) : w1.heap[k]? = some o := by
 rcases Nat.lt_or_ge k w.heap.size with h1 | h1
 ·exact (h.block k h1 hn).trans hg
 ·rw [Array.getElem?_eq_none h1] at hg; cases hg
theorem lt_of_block {k : Nat} {o : Obj} (hg : w.heap[k]? = some o) : k < w.heap.size := by
 rcases Nat.lt_or_ge k w.heap.size with h1 | h1
 ·exact h1
 ·rw [Array.getElem?_eq_none h1] at hg; cases hg
end
section
variable {e : TypeId} {w w1 : World} {base : Nat} {v : Value} {xs : List Int} {S : Nat → Prop}
theorem OB.only (h : OB e w base v xs) (ho : Only w w1 S) (hs : Sep (rf v) S) : OB e w1 base v xs := by
 refine ⟨⟨h.own.1, ?_⟩, h.byt⟩
 rcases h.own.2 with h1 | ⟨g, cap, cur, h1, h2, h3, h4⟩
 ·exact .inl h1
 ·exact .inr ⟨g, cap, cur, h1, h2, ho.kept h3 (hs g (by rw [h1]; rfl)), h4⟩
theorem OB.old (h : OB e w base v xs) : Old w (rf v) := fun k hk => by
 rcases h.own.2 with ⟨h1, _⟩ | ⟨g, cap, cur, h1, h2, h3, h4⟩
 ·rw [h1] at hk; cases hk
 ·rw [h1] at hk; cases hk; exact lt_of_block h3
theorem OB.from (h : OB e w base v xs) : ∀ k, rf v k → base ≤ k := fun k hk => by
 rcases h.own.2 with ⟨h1, _⟩ | ⟨g, cap, cur, h1, h2, h3, h4⟩
 ·rw [h1] at hk; cases hk
 ·rw [h1] at hk; cases hk; exact h2
theorem Only.cell (ho : Only w w1 S) {a : Addr} {u : Value} (h : w.cell? a = some u) (hs : ¬ S a.block) : w1.cell? a = some u := by
 have hlt : a.block < w.heap.size := by
  rcases Nat.lt_or_ge a.block w.heap.size with h1 | h1
  ·exact h1
  ·simp [World.cell?, Array.getElem?_eq_none h1] at h
 rw [World.cell?_of_block (ho.block _ hlt hs)]; exact h
theorem add_block (a : Addr) (j : Nat) : (a.add j).block = a.block := by unfold Addr.add; split <;> rfl
theorem RB.apart {A : Option Addr} {n : Nat} (h : RB w A n xs) (ho : Only w w1 S) (hs : ∀ a, A = some a → ¬ S a.block) : RB w1 A n xs := by
 refine ⟨⟨h.rd.1, h.rd.2.1, fun hp => ?_⟩, h.byt⟩
 obtain ⟨a, e, hc⟩ := h.rd.2.2 hp
 exact ⟨a, e, fun j hj => ho.cell (hc j hj) (by rw [add_block]; exact hs a e)⟩
theorem OB.not_block (h : OB e w base v xs) {k : Nat} {cs : Array Value} {t : TypeId} {fr : Nat × Nat} (hk : w.heap[k]? = some (.cells cs t fr)) (ht : t ≠ e) : ¬ rf v k := fun hr => by
 rcases h.own.2 with ⟨h1, _⟩ | ⟨g, cap, cur, h1, h2, h3, h4⟩
 ·rw [h1] at hr; cases hr
 ·rw [h1] at hr; cases hr
  rw [hk] at h3
  simp only [Option.some.injEq, Obj.cells.injEq] at h3
  exact ht h3.2.1
theorem heap_set_same (w : World) (g i : Nat) (cs : Array Value) (t : TypeId) (v : Value) (hg : w.heap[g]? = some (.cells cs t (0, 0))) : (w.setCell ⟨g, i, none⟩ v).heap[g]? = some (.cells (cs.setIfInBounds i v) t (0, 0)) := by
 have := heap_setCell_same w g i cs t v hg
 exact this
end
end Go.Kit
end
section
namespace Go.Proofs.YtpjpgcjhdbiepaaGreat
open Go.ChangeShapes Go.WideShapes Go.RowKit Go.Kit Go.Deep Go.Proofs.YtpjpgcjhdbiepaaGreatW.PrintWords
section
variable {H : Type}
theorem bulk_one (d : DataW H) : 1 ≤ Rows.uptoBulk d := by
 cases d with
 | lit l => cases l <;> simp [Rows.uptoBulk]
 | nil => simp [Rows.uptoBulk]
 | ptr d => simp [Rows.uptoBulk]
 | slice elems spare => simp [Rows.uptoBulk]
 | agg parts => simp [Rows.uptoBulk]
 | iface t d => simp [Rows.uptoBulk]
 | map entries => simp [Rows.uptoBulk]
 | held h => simp [Rows.uptoBulk]
theorem bulk_ints (L : List (DataW H)) : L.length ≤ Rows.uptoBulkAll L := by
 induction L with
 | nil => simp
 | cons x r ih => have := bulk_one x; simp only [Rows.uptoBulkAll, List.length_cons]; omega
theorem bulk_lits (k : IntKind) (l : List Int) : l.length ≤ Rows.uptoBulkAll (lits (H := H) k l) := by
 have := bulk_ints (lits (H := H) k l)
 rwa [show (lits (H := H) k l).length = l.length by simp [lits]] at this
end
section
variable {H : Type} {enc : TypeId × Value → H} {P : Program} {W : World} {base : Nat} {r : Reach}
theorem open_bytes_up {t e : TypeId} {v : Value} {d : DataW H} {ps : List MemPlace}
  (ht : P.underlying t = some (.slice e)) (he : P.underlying e = some (.int .u8)) (hc : P.cellsOf e = 1)
  (hval : Value.okWide P W r base t v) (h : DataW.Trod enc P W 0 (fun _ => true) true t v d ps) :
  ∃ A len cap xs, v = .slice A len cap ∧ RB W A len xs ∧ len ≤ cap ∧ cap ≤ Rows.uptoBulk d := by
 obtain ⟨A, len, cap, rfl⟩ := okWide_slice ht hval
 obtain ⟨fuel, hf⟩ := h
 rcases open_ints ht he hc hf with ⟨hcs, _⟩ | ⟨x, l, c, zs, hcs, _, hl, hm, hz, hxx, hcell, hwz⟩
 ·simp [Value.cells] at hcs
  obtain ⟨rfl, rfl, rfl⟩ := hcs
  exact ⟨none, 0, 0, [], rfl, RB.nil W, by omega, by omega⟩
 ·simp [Value.cells] at hcs
  obtain ⟨rfl, rfl, rfl⟩ := hcs
  simp only [if_true] at hz
  refine ⟨_, len, cap, zs.take len, rfl, ⟨⟨by rw [List.length_take]; omega, by unfold maxLen at hm; omega, fun _ => ⟨x, rfl, fun j hj => ?_⟩⟩, (byt_of_wf hwz).take len⟩, hl, ?_⟩
  ·rw [hcell j (by omega)]
   simp [List.getD_eq_getElem?_getD, hj]
  ·simp only [Prod.mk.injEq] at hxx
   rw [hxx.1]
   simp only [Rows.uptoBulk]
   have h1 := bulk_lits (H := H) .u8 (zs.take len)
   have h2 := bulk_lits (H := H) .u8 (zs.drop len)
   rw [List.length_take] at h1
   rw [List.length_drop] at h2
   omega
end
end Go.Proofs.YtpjpgcjhdbiepaaGreat
end
section
namespace Go.Kit
open Go.RowKit Go.Proofs.YtpjpgcjhdbiepaaGreatW.PrintWords
section
variable {P : Program} {ops : Array Oper} {rest : List Oper} {o : Oper} {a : Act} {Q : Exit → Act → World → Prop} {w0 W : World} {e : TypeId} {v : Value} {xs : List Int}
theorem push_byte (base : Nat) (hgd : o.guard = none) (s x : Operand) (t : TypeId) (y : Int)
  (ho : o.op = .call { callee := .builtin .append, args := #[s, x], argTypes := #[t, t] })
  (ht : P.underlying t = some (.slice e)) (hinfo : (P.info? e).map (fun i => (i.zero, i.size, i.bytes)) = some (some (.int .u8 0), 1, 1))
  (hs : a.eval s = v) (hx : a.eval x = .slice (some ⟨W.heap.size, 0, none⟩) 1 1)
  (HO : OB e W base v xs) (HB : Below base w0 W) (hbase : base ≤ W.heap.size) (hl : xs.length + 1 ≤ 140737488355328) (h0 : 0 ≤ y) (h1 : y < 256)
  (h : ∀ v1 w1, OB e w1 base v1 (xs ++ [y]) → Below base w0 w1 → W.grownBy w1 v.ownBlock → (v1.ownBlock = v.ownBlock ∨ ∃ b, v1.ownBlock = some b ∧ W.heap.size ≤ b) → wpList P ops Q rest (a.put o.dst v1) w1) :
  wpList P ops Q (o :: rest) a (W.alloc (.cells #[.int .u8 y] e)) :=
 print_append_num base hgd s x t e .u8 1 ho ht hinfo (by decide) v xs y hs hx HO.own HB hbase (by omega) fun v1 w1 hown hB hg hat => h v1 w1 ⟨hown, HO.byt.append (Byt.one h0 h1)⟩ hB hg hat
theorem push_row (base : Nat) (hgd : o.guard = none) (s x : Operand) (t : TypeId) (ys : List Int) (A : Option Addr) (m c : Nat)
  (ho : o.op = .call { callee := .builtin .append, args := #[s, x], argTypes := #[t, t] })
  (ht : P.underlying t = some (.slice e)) (hinfo : (P.info? e).map (fun i => (i.zero, i.size, i.bytes)) = some (some (.int .u8 0), 1, 1))
  (hs : a.eval s = v) (hx : a.eval x = .slice A m c)
  (HO : OB e W base v xs) (HR : RB W A m ys) (HB : Below base w0 W) (hbase : base ≤ W.heap.size) (hl : xs.length + m ≤ 140737488355328)
  (h : ∀ v1 w1, OB e w1 base v1 (xs ++ ys) → Below base w0 w1 → W.grownBy w1 v.ownBlock → (v1.ownBlock = v.ownBlock ∨ ∃ b, v1.ownBlock = some b ∧ W.heap.size ≤ b) → wpList P ops Q rest (a.put o.dst v1) w1) :
  wpList P ops Q (o :: rest) a W :=
 print_append_row base hgd s x t e .u8 1 ho ht hinfo (by decide) v xs ys A m c hs hx HO.own HR.rd HB hbase (by omega) fun v1 w1 hown hB hg hat => h v1 w1 ⟨hown, HO.byt.append HR.byt⟩ hB hg hat
theorem bytesOf_byt (s : ByteArray) : Byt (bytesOf s) := fun x hx => by
 simp only [bytesOf, List.mem_map] at hx
 obtain ⟨b, _, rfl⟩ := hx
 have := b.toNat_lt
 omega
theorem push_text (base : Nat) (hgd : o.guard = none) (s x : Operand) (t u : TypeId) (y : ByteArray)
  (ho : o.op = .call { callee := .builtin .append, args := #[s, x], argTypes := #[t, u] })
  (ht : P.underlying t = some (.slice e)) (hu : P.underlying u = some .string) (hinfo : (P.info? e).map (fun i => (i.zero, i.size, i.bytes)) = some (some (.int .u8 0), 1, 1))
  (hs : a.eval s = v) (hx : a.eval x = .string y)
  (HO : OB e W base v xs) (HB : Below base w0 W) (hbase : base ≤ W.heap.size) (hl : xs.length + y.size ≤ 140737488355328)
  (h : ∀ v1 w1, OB e w1 base v1 (xs ++ bytesOf y) → Below base w0 w1 → W.grownBy w1 v.ownBlock → wpList P ops Q rest (a.put o.dst v1) w1) :
  wpList P ops Q (o :: rest) a W :=
 print_append_str base hgd s x t u e ho ht hu hinfo v xs y hs hx HO.own HB hbase hl fun v1 w1 hown hB hg => h v1 w1 ⟨hown, HO.byt.append (bytesOf_byt y)⟩ hB hg
end
end Go.Kit
end
section
namespace Go.Kit
open Go.RowKit Go.Proofs.YtpjpgcjhdbiepaaGreatW.PrintWords
def RT (w : World) (A : Option Addr) (n : Nat) (xs : List ByteArray) : Prop := ReadsOf Value.string ByteArray.empty w A n xs
section
variable {w w1 : World} {A : Option Addr} {n : Nat} {xs : List ByteArray}
theorem RT.len (h : RT w A n xs) : xs.length = n := h.1
theorem RT.max (h : RT w A n xs) : n ≤ 9223372036854775807 := h.2.1
theorem RT.at_ (h : RT w A n xs) (i : Nat) (hi : i < n) : ∃ ad x, A = some ad ∧ w.cell? (ad.add i) = some (.string x) ∧ Hid (xs[i]? = some x) := by
 obtain ⟨ad, e, hc⟩ := ReadsOf.at_ h (i : Int) (by omega) (by omega)
 have hl := h.len
 refine ⟨ad, _, e, hc, ?_⟩
 show xs[i]? = _
 simp [rdOf, List.getD_eq_getElem?_getD, List.getElem?_eq_getElem (show i < xs.length by omega)]
theorem RT.below (h : RT w A n xs) (hb : Below w.heap.size w w1) : RT w1 A n xs := ReadsOf.below h hb
theorem RT.nil (w : World) : RT w none 0 [] := ⟨rfl, by omega, fun h => absurd h (by omega)⟩
end
def sameT (l m : List ByteArray) : Bool := decide (l = m)
theorem bs_inj {x y : ByteArray} (h : x.toList = y.toList) : x = y := by
 rw [Go.ByteArray.toList_eq, Go.ByteArray.toList_eq] at h
 exact ByteArray.ext (Array.ext' h)
theorem bs_diff {x y : ByteArray} (h : ¬ x = y) : (x.toList == y.toList) = false := by
 rw [beq_eq_false_iff_ne]
 exact fun e => h (bs_inj e)
theorem take_diff {l m : List ByteArray} {i : Nat} {x y : ByteArray} (hl : l[i]? = some x) (hm : m[i]? = some y) (e : ¬ x = y) : false = sameT l m := by
 refine (decide_eq_false ?_).symm
 rintro rfl
 rw [hl] at hm
 exact e (Option.some.inj hm)
theorem take_step {l m : List ByteArray} {i : Nat} {x y : ByteArray} (hl : l[i]? = some x) (hm : m[i]? = some y) (h : l.take i = m.take i) (e : x = y) : l.take (i + 1) = m.take (i + 1) := by
 rw [List.take_add_one, List.take_add_one, h, hl, hm, e]
def OT (e : TypeId) (w : World) (base : Nat) (v : Value) (xs : List ByteArray) : Prop := w.ownsRow base e 1 v xs.length (encs Value.string xs)
section
variable {e : TypeId} {w w1 : World} {base : Nat} {v : Value} {xs : List ByteArray}
theorem OT.nil (e : TypeId) (w : World) (base : Nat) : OT e w base (.slice none 0 0) [] := own_nil w base e 1
theorem OT.below (h : OT e w base v xs) (hb : Below w.heap.size w w1) : OT e w1 base v xs := pw_own_below h hb
theorem OT.kept (h : OT e w base v xs) {row : Option Nat} (hg : w.grownBy w1 row) (hne : v.ownBlock = none ∨ v.ownBlock ≠ row) : OT e w1 base v xs := World.ownsRow.kept h hg hne
end
theorem OT.reads {e : TypeId} {w : World} {base : Nat} {v : Value} {xs : List ByteArray} (h : OT e w base v xs) : ∃ A c, v = .slice A xs.length c ∧ RT w A xs.length xs := own_reads_of h
theorem OT.less {e : TypeId} {w : World} {base b : Nat} {v : Value} {xs : List ByteArray} (h : OT e w base v xs) (hle : b ≤ base) : OT e w b v xs := own_less h hle
end Go.Kit
end
section
namespace Go.Kit
open Go.RowKit Go.Proofs.YtpjpgcjhdbiepaaGreatW.PrintWords
def sh (n : Nat) : List Int := if n < 128 then [(n : Int)] else ((n % 128 + 128 : Nat) : Int) :: sh (n / 128)
termination_by n
decreasing_by omega
theorem sh_small {n : Nat} (h : n < 128) : sh n = [(n : Int)] := by rw [sh, if_pos h]
theorem sh_big {n : Nat} (h : 128 ≤ n) : sh n = ((n % 128 + 128 : Nat) : Int) :: sh (n / 128) := by rw [sh, if_neg (by omega)]
theorem sh_pos (n : Nat) : 0 < (sh n).length := by
 rcases Nat.lt_or_ge n 128 with h | h
 ·rw [sh_small h]; simp
 ·rw [sh_big h]; simp
theorem sh_length (k n : Nat) (h : n < 128 ^ (k + 1)) : (sh n).length ≤ k + 1 := by
 induction k generalizing n with
 | zero => rw [sh_small (by simpa using h)]; simp
 | succ k ih =>
  rcases Nat.lt_or_ge n 128 with h1 | h1
  ·rw [sh_small h1]; simp
  ·rw [sh_big h1, List.length_cons]
   have := ih (n / 128) (by rw [Nat.div_lt_iff_lt_mul (by omega)]; rw [Nat.pow_succ] at h; exact h)
   omega
theorem sh_ten {n : Nat} (h : n < 18446744073709551616) : (sh n).length ≤ 10 := sh_length 9 n (Nat.lt_of_lt_of_le h (by decide))
def txt (s : ByteArray) : List Int := sh s.size ++ bytesOf s
theorem bytesOf_len (s : ByteArray) : (bytesOf s).length = s.size := by unfold bytesOf; rw [List.length_map, Array.length_toList]; rfl
theorem txt_length {s : ByteArray} (h : s.size < 18446744073709551616) : (txt s).length ≤ 10 + s.size := by
 have := sh_ten h
 unfold txt
 rw [List.length_append, bytesOf_len]; omega
def txts (l : List ByteArray) : List Int := (l.map txt).flatten
theorem txts_snoc {l : List ByteArray} {i : Nat} {s : ByteArray} (h : l[i]? = some s) : txts (l.take (i + 1)) = txts (l.take i) ++ txt s := by
 rw [snoc h]; simp [txts]
theorem txts_length (l : List ByteArray) (B : Nat) (hB : B < 18446744073709551616) (h : ∀ s ∈ l, s.size ≤ B) : (txts l).length ≤ l.length * (10 + B) := by
 induction l with
 | nil => simp [txts]
 | cons s l ih =>
  have h1 := ih (fun x hx => h x (List.mem_cons_of_mem _ hx))
  have h2 := h s List.mem_cons_self
  have h3 := txt_length (s := s) (by omega)
  simp only [txts, List.map_cons, List.flatten_cons, List.length_append, List.length_cons] at h1 ⊢
  rw [Nat.add_mul]
  omega
def lst (l : List ByteArray) : List Int := sh l.length ++ txts l
set_option maxRecDepth 10000 in
theorem or128 (m : Nat) : bits .or .u8 ((m : Int) % 256) 128 = ((m % 128 + 128 : Nat) : Int) := by
 have h : (m : Int) % 256 = ((m % 256 : Nat) : Int) := by omega
 have key : ∀ j : Nat, j < 256 → j ||| 128 = j % 128 + 128 := by decide +kernel
 rw [h, show (128 : Int) = ((128 : Nat) : Int) from rfl, u8_or_nat _ _ (by omega) (by omega), key _ (by omega)]
 congr 2
 omega
theorem and127 {x : Int} (h0 : 0 ≤ x) (h1 : x < 256) : bits .and .u8 x 127 = ((x.toNat % 128 : Nat) : Int) := by
 have key : ∀ j : Nat, j < 256 → j &&& 127 = j % 128 := by decide +kernel
 obtain ⟨m, rfl⟩ := Int.eq_ofNat_of_zero_le h0
 rw [show (127 : Int) = ((127 : Nat) : Int) from rfl, u8_and_nat _ _ (by omega) (by omega), key _ (by omega)]
 rfl
end Go.Kit
end
section
namespace Go.Kit
open Go.RowKit Go.Proofs.YtpjpgcjhdbiepaaGreatW.PrintWords
def numR : List Int → Nat → Nat → Nat × Nat × Int
 | [], _, _ => (0, 0, 4)
 | c :: l, k, acc => if k = 9 ∧ 1 < c then (0, 0, 10) else if c < 128 then (if c = 0 ∧ 0 < k then (0, 0, 5) else (acc + c.toNat % 128 * 128 ^ k, k + 1, 0)) else numR l (k + 1) (acc + c.toNat % 128 * 128 ^ k)
def num (bs : List Int) (at_ : Nat) : Nat × Nat × Int := numR (bs.drop at_) 0 0
structure Rd where
 bs : List Int
 at_ : Nat
 why : Int
 wat : Int
def Rd.ok (D : Rd) : Prop := Byt D.bs ∧ D.at_ ≤ D.bs.length ∧ (D.why = 0 → D.wat = 0)
def Rd.fail (D : Rd) (e : Int) (a : Nat) : Rd := { D with why := e, wat := (a : Int) }
def Rd.to (D : Rd) (a : Nat) : Rd := { D with at_ := a }
def Rd.new (bs : List Int) : Rd := ⟨bs, 0, 0, 0⟩
def uintS (D : Rd) : Rd × Nat :=
 if D.why ≠ 0 then (D, 0) else
  if (num D.bs D.at_).2.2 ≠ 0 then (D.fail (num D.bs D.at_).2.2 D.at_, 0) else (D.to (D.at_ + (num D.bs D.at_).2.1), (num D.bs D.at_).1)
def countS (D : Rd) (most : Int) : Rd × Nat :=
 if D.why ≠ 0 then (D, 0) else if most < 0 then (D.fail 1 D.at_, 0) else
  if (num D.bs D.at_).2.2 ≠ 0 then (D.fail (num D.bs D.at_).2.2 D.at_, 0) else
   if most < ((num D.bs D.at_).1 : Int) then (D.fail 11 D.at_, 0) else (D.to (D.at_ + (num D.bs D.at_).2.1), (num D.bs D.at_).1)
def rawS (D : Rd) (n : Int) : Rd × List Int :=
 if D.why ≠ 0 then (D, []) else if n < 0 then (D.fail 1 D.at_, []) else
  if ((D.bs.length : Int) - D.at_) < n then (D.fail 4 D.at_, []) else (D.to (D.at_ + n.toNat), (D.bs.drop D.at_).take n.toNat)
def textAt (bs : List Int) (at_ : Nat) (most : Int) : ByteArray × Nat × Int :=
 if (num bs at_).2.2 ≠ 0 then (ByteArray.empty, 0, (num bs at_).2.2) else if most < ((num bs at_).1 : Int) then (ByteArray.empty, 0, 3) else
  if bs.length < at_ + (num bs at_).2.1 + (num bs at_).1 then (ByteArray.empty, 0, 4) else
   (strOfNums ((bs.drop (at_ + (num bs at_).2.1)).take (num bs at_).1), at_ + (num bs at_).2.1 + (num bs at_).1, 0)
def textS (D : Rd) (most : Int) : Rd × ByteArray :=
 if D.why ≠ 0 then (D, ByteArray.empty) else if most < 0 then (D.fail 1 D.at_, ByteArray.empty) else
  if (textAt D.bs D.at_ most).2.2 ≠ 0 then (D.fail (textAt D.bs D.at_ most).2.2 D.at_, ByteArray.empty) else (D.to (textAt D.bs D.at_ most).2.1, (textAt D.bs D.at_ most).1)
def lstR (bs : List Int) (each : Int) : Nat → Nat → List ByteArray → List ByteArray × Nat × Int
 | 0, a, acc => (acc, a, 0)
 | n + 1, a, acc => if (textAt bs a each).2.2 ≠ 0 then ([], a, (textAt bs a each).2.2) else lstR bs each n (textAt bs a each).2.1 (acc ++ [(textAt bs a each).1])
def listS (D : Rd) (most each : Int) : Rd × List ByteArray :=
 if D.why ≠ 0 then (D, []) else if most < 0 ∨ each < 0 then (D.fail 1 D.at_, []) else
  if (num D.bs D.at_).2.2 ≠ 0 then (D.fail (num D.bs D.at_).2.2 D.at_, []) else
   if most < ((num D.bs D.at_).1 : Int) then (D.fail 11 D.at_, []) else
    if (lstR D.bs each (num D.bs D.at_).1 (D.at_ + (num D.bs D.at_).2.1) []).2.2 ≠ 0 then (D.fail (lstR D.bs each (num D.bs D.at_).1 (D.at_ + (num D.bs D.at_).2.1) []).2.2 (lstR D.bs each (num D.bs D.at_).1 (D.at_ + (num D.bs D.at_).2.1) []).2.1, [])
    else (D.to (lstR D.bs each (num D.bs D.at_).1 (D.at_ + (num D.bs D.at_).2.1) []).2.1, (lstR D.bs each (num D.bs D.at_).1 (D.at_ + (num D.bs D.at_).2.1) []).1)
def failS (D : Rd) (e : Int) : Rd := if D.why = 0 ∧ e ≠ 0 then D.fail e D.at_ else D
def endS (D : Rd) : Rd := if D.why = 0 ∧ D.at_ < D.bs.length then D.fail 6 D.at_ else D
theorem numR_facts : ∀ (l : List Int) (k acc : Nat), k ≤ 9 → acc < 128 ^ k → Byt l → (numR l k acc).1 < 18446744073709551616 ∧ (numR l k acc).2.1 ≤ k + l.length ∧ (numR l k acc).2.1 ≤ 10 ∧ ((numR l k acc).2.2 = 0 → 1 ≤ (numR l k acc).2.1) ∧ ((numR l k acc).2.2 = 0 ∨ (numR l k acc).2.2 = 4 ∨ (numR l k acc).2.2 = 5 ∨ (numR l k acc).2.2 = 10)
 | [], k, acc, hk, ha, hb => by simp [numR]
 | c :: l, k, acc, hk, ha, hb => by
  have hc := hb c List.mem_cons_self
  unfold numR
  by_cases h1 : k = 9 ∧ 1 < c
  ·rw [if_pos h1]; simp
  ·rw [if_neg h1]
   by_cases h2 : c < 128
   ·rw [if_pos h2]
    by_cases h3 : c = 0 ∧ 0 < k
    ·rw [if_pos h3]; simp
    ·rw [if_neg h3]
     refine ⟨?_, by simp only [List.length_cons]; omega, by dsimp only; omega, fun _ => by dsimp only; omega, .inl rfl⟩
     show acc + c.toNat % 128 * 128 ^ k < 18446744073709551616
     rcases Nat.lt_or_ge k 9 with h9 | h9
     ·have e1 : acc + c.toNat % 128 * 128 ^ k < 128 ^ (k + 1) := by
       have h5 : (c.toNat % 128 + 1) * 128 ^ k ≤ 128 * 128 ^ k := Nat.mul_le_mul_right _ (by omega)
       rw [Nat.add_mul] at h5
       rw [Nat.pow_succ]; omega
      have e2 : 128 ^ (k + 1) ≤ 128 ^ 9 := Nat.pow_le_pow_right (by omega) (by omega)
      have e3 : (128 : Nat) ^ 9 < 18446744073709551616 := by decide
      omega
     ·have : k = 9 := by omega
      subst this
      have h5 : c.toNat % 128 ≤ 1 := by omega
      have h6 := Nat.mul_le_mul_right (128 ^ 9) h5
      have e3 : (128 : Nat) ^ 9 = 9223372036854775808 := by decide
      rw [e3] at ha h6 ⊢
      omega
   ·rw [if_neg h2]
    have hk9 : k < 9 := by omega
    have e1 : acc + c.toNat % 128 * 128 ^ k < 128 ^ (k + 1) := by
     have h5 : (c.toNat % 128 + 1) * 128 ^ k ≤ 128 * 128 ^ k := Nat.mul_le_mul_right _ (by omega)
     rw [Nat.add_mul] at h5
     rw [Nat.pow_succ]; omega
    obtain ⟨g1, g2, g3, g4, g5⟩ := numR_facts l (k + 1) _ (by omega) e1 (fun x hx => hb x (List.mem_cons_of_mem _ hx))
    exact ⟨g1, by simp only [List.length_cons]; omega, g3, g4, g5⟩
theorem num_facts {bs : List Int} (hb : Byt bs) {a : Nat} (ha : a ≤ bs.length) : (num bs a).1 < 18446744073709551616 ∧ a + (num bs a).2.1 ≤ bs.length ∧ (num bs a).2.1 ≤ 10 ∧ ((num bs a).2.2 = 0 → 1 ≤ (num bs a).2.1) ∧ ((num bs a).2.2 = 0 ∨ (num bs a).2.2 = 4 ∨ (num bs a).2.2 = 5 ∨ (num bs a).2.2 = 10) := by
 obtain ⟨g1, g2, g3, g4, g5⟩ := numR_facts (bs.drop a) 0 0 (by omega) (by decide) (hb.drop a)
 rw [List.length_drop] at g2
 exact ⟨g1, by unfold num; omega, g3, g4, g5⟩
theorem numR_step {bs : List Int} {i : Nat} {c : Int} (h : bs[i]? = some c) (k acc : Nat) : numR (bs.drop i) k acc =
  if k = 9 ∧ 1 < c then (0, 0, 10) else if c < 128 then (if c = 0 ∧ 0 < k then (0, 0, 5) else (acc + c.toNat % 128 * 128 ^ k, k + 1, 0)) else numR (bs.drop (i + 1)) (k + 1) (acc + c.toNat % 128 * 128 ^ k) := by
 obtain ⟨hi, e⟩ := List.getElem?_eq_some_iff.1 h
 have hd : bs.drop i = c :: bs.drop (i + 1) := by rw [List.drop_eq_getElem_cons hi, e]
 rw [hd, numR]
theorem numR_end {bs : List Int} {i : Nat} (h : bs.length ≤ i) (k acc : Nat) : numR (bs.drop i) k acc = (0, 0, 4) := by
 rw [List.drop_of_length_le h, numR]
theorem acc_step {acc k x : Nat} (h : acc < 128 ^ k) : acc + x % 128 * 128 ^ k < 128 ^ (k + 1) := by
 have h5 : (x % 128 + 1) * 128 ^ k ≤ 128 * 128 ^ k := Nat.mul_le_mul_right _ (by omega)
 rw [Nat.add_mul] at h5
 rw [Nat.pow_succ]; omega
theorem or_shift {acc k x : Nat} (h : acc < 128 ^ k) (hk : k < 9 ∨ k = 9 ∧ x ≤ 1) : bits .or .u64 (acc : Int) (IntKind.u64.wrap ((x : Int) % 128 * 2 ^ (7 * k))) = ((acc + x % 128 * 128 ^ k : Nat) : Int) := by
 have e2 : (2 : Nat) ^ (7 * k) = 128 ^ k := by rw [Nat.pow_mul]
 have hs := acc_step (x := x) h
 have e4 : acc + x % 128 * 128 ^ k < 18446744073709551616 := by
  rcases hk with hk | ⟨rfl, hx⟩
  ·have e3 : 128 ^ (k + 1) ≤ 128 ^ 9 := Nat.pow_le_pow_right (by omega) (by omega)
   have e4 : (128 : Nat) ^ 9 < 18446744073709551616 := by decide
   omega
  ·have h6 := Nat.mul_le_mul_right (128 ^ 9) (show x % 128 ≤ 1 by omega)
   have e3 : (128 : Nat) ^ 9 = 9223372036854775808 := by decide
   rw [e3] at h h6 ⊢
   omega
 have e5 : ((x : Int) % 128 * 2 ^ (7 * k)) = ((x % 128 * 128 ^ k : Nat) : Int) := by
  rw [← e2]; push_cast; rfl
 rw [e5, IntWalk.u64_in _ ⟨by omega, by omega⟩, bits_or_u64_nat _ _ (by omega) (by omega)]
 congr 1
 have h7 := Nat.shiftLeft_add_eq_or_of_lt (i := 7 * k) (b := acc) (by rw [e2]; exact h) (x % 128)
 rw [Nat.shiftLeft_eq, e2] at h7
 rw [Nat.or_comm, ← h7]; omega
theorem textAt_facts {bs : List Int} (hb : Byt bs) {a : Nat} (ha : a ≤ bs.length) {most : Int} {s : ByteArray} {en : Nat} {x : Int} (h : textAt bs a most = (s, en, x)) :
  (x = 0 → en ≤ bs.length ∧ a + 1 ≤ en ∧ s.size ≤ bs.length ∧ a + 1 + s.size ≤ en) ∧ (x = 0 ∨ x = 3 ∨ x = 4 ∨ x = 5 ∨ x = 10) := by
 obtain ⟨g1, g2, g3, g4, g5⟩ := num_facts hb ha
 unfold textAt at h
 split at h
 ·next hx =>
  cases h
  exact ⟨fun e => absurd e hx, by omega⟩
 split at h
 ·cases h; exact ⟨fun e => by omega, by omega⟩
 split at h
 ·cases h; exact ⟨fun e => by omega, by omega⟩
 ·next h1 h2 h3 =>
  have := g4 (by omega)
  cases h
  refine ⟨fun _ => ⟨by omega, by omega, ?_, ?_⟩, .inl rfl⟩
  all_goals
   rw [strOfNums_size, List.length_take, List.length_drop]
   omega
theorem textAt_end {D : Rd} (hok : D.ok) {most : Int} {s : ByteArray} {en : Nat} {x : Int} (hx : x = 0) (h : textAt D.bs D.at_ most = (s, en, x)) : en ≤ D.bs.length :=
 ((textAt_facts hok.1 hok.2.1 h).1 hx).1
theorem uintS_cases {D : Rd} (hok : D.ok) (hw : D.why = 0) : (∃ m k, num D.bs D.at_ = (m, k, 0) ∧ uintS D = (D.to (D.at_ + k), m) ∧ m < 18446744073709551616 ∧ D.at_ + k ≤ D.bs.length ∧ 1 ≤ k) ∨ ∃ m k x, x ≠ 0 ∧ num D.bs D.at_ = (m, k, x) ∧ uintS D = (D.fail x D.at_, 0) := by
 obtain ⟨m, k, x, hN⟩ : ∃ m k x, num D.bs D.at_ = (m, k, x) := ⟨_, _, _, rfl⟩
 have hf := num_facts hok.1 hok.2.1
 rw [hN] at hf
 obtain ⟨g1, g2, _, g4, _⟩ := hf
 by_cases hx : x = 0
 ·subst hx
  refine .inl ⟨m, k, hN, ?_, g1, g2, g4 rfl⟩
  unfold uintS
  rw [if_neg (by simpa using hw), hN, if_neg (by simp)]
 ·refine .inr ⟨m, k, x, hx, hN, ?_⟩
  unfold uintS
  rw [if_neg (by simpa using hw), hN, if_pos hx]
theorem uintS_bad {D : Rd} (hw : D.why ≠ 0) : uintS D = (D, 0) := by unfold uintS; rw [if_pos hw]
theorem textS_of {D : Rd} {most : Int} (hw : D.why = 0) (hneg : ¬ most < 0) {s : ByteArray} {en : Nat} {x : Int} (h : textAt D.bs D.at_ most = (s, en, x)) :
  textS D most = if x ≠ 0 then (D.fail x D.at_, ByteArray.empty) else (D.to en, s) := by
 unfold textS
 rw [if_neg (by simpa using hw), if_neg hneg, h]
theorem textAt_err {bs : List Int} {a : Nat} {most : Int} {m k : Nat} {x : Int} (hN : num bs a = (m, k, x)) (hx : x ≠ 0) : textAt bs a most = (ByteArray.empty, 0, x) := by
 unfold textAt; rw [hN, if_pos hx]
theorem textAt_long {bs : List Int} {a : Nat} {most : Int} {m k : Nat} (hN : num bs a = (m, k, 0)) (hm : most < (m : Int)) : textAt bs a most = (ByteArray.empty, 0, 3) := by
 unfold textAt; rw [hN, if_neg (by simp), if_pos hm]
theorem textAt_short {bs : List Int} {a : Nat} {most : Int} {m k : Nat} (hN : num bs a = (m, k, 0)) (hm : ¬ most < (m : Int)) (hf : bs.length < a + k + m) : textAt bs a most = (ByteArray.empty, 0, 4) := by
 unfold textAt; rw [hN, if_neg (by simp), if_neg hm, if_pos hf]
theorem textAt_ok {bs : List Int} {a : Nat} {most : Int} {m k : Nat} (hN : num bs a = (m, k, 0)) (hm : ¬ most < (m : Int)) (hf : ¬ bs.length < a + k + m) : textAt bs a most = (strOfNums ((bs.drop (a + k)).take m), a + k + m, 0) := by
 unfold textAt; rw [hN, if_neg (by simp), if_neg hm, if_neg hf]
end Go.Kit
end
section
namespace Go.Kit
open Go.RowKit Go.Proofs.YtpjpgcjhdbiepaaGreatW.PrintWords
theorem numR_sh : ∀ (n k acc : Nat) (ys : List Int), k ≤ 9 → acc + n * 128 ^ k < 18446744073709551616 → (0 < k → 0 < n) → numR (sh n ++ ys) k acc = (acc + n * 128 ^ k, k + (sh n).length, 0) := by
 intro n
 induction n using Nat.strongRecOn with
 | ind n ih =>
  intro k acc ys hk hlt hpos
  have e9 : (128 : Nat) ^ 9 = 9223372036854775808 := by decide
  rcases Nat.lt_or_ge n 128 with h | h
  ·rw [sh_small h]
   show numR ((n : Int) :: ys) k acc = _
   rw [numR, if_neg, if_pos (by omega), if_neg]
   ·have : ((n : Int).toNat) % 128 = n := by omega
    rw [this]; rfl
   ·rintro ⟨h0, h1⟩
    have := hpos h1; omega
   ·rintro ⟨rfl, h1⟩
    rw [e9] at hlt
    omega
  ·rw [sh_big h]
   show numR (((n % 128 + 128 : Nat) : Int) :: (sh (n / 128) ++ ys)) k acc = _
   have hk9 : k < 9 := by
    rcases Nat.lt_or_ge k 9 with h9 | h9
    ·exact h9
    ·have : k = 9 := by omega
     subst this
     rw [e9] at hlt
     omega
   have h1 : (((n % 128 + 128 : Nat) : Int).toNat) % 128 = n % 128 := by omega
   have h2 : acc + n % 128 * 128 ^ k + n / 128 * 128 ^ (k + 1) = acc + n * 128 ^ k := by
    have h3 : n * 128 ^ k = (n % 128 + 128 * (n / 128)) * 128 ^ k := by rw [Nat.mod_add_div]
    rw [h3, Nat.add_mul, Nat.pow_succ, Nat.mul_comm 128 (n / 128), Nat.mul_assoc, Nat.mul_comm (128 ^ k) 128]
    omega
   rw [numR, if_neg (by omega), if_neg (by omega), h1, ih (n / 128) (by omega) (k + 1) _ ys (by omega) (by rw [h2]; exact hlt) (fun _ => by omega), h2, List.length_cons]
   congr 2
   omega
theorem num_sh (xs ys : List Int) (n : Nat) (hn : n < 18446744073709551616) : num (xs ++ (sh n ++ ys)) xs.length = (n, (sh n).length, 0) := by
 unfold num
 rw [List.drop_left, numR_sh n 0 0 ys (by omega) (by omega) (by omega)]
 simp
theorem numR_form : ∀ (l : List Int) (k0 acc m k : Nat), k0 ≤ 9 → Byt l → numR l k0 acc = (m, k, 0) → ∃ q, l.take (k - k0) = sh q ∧ m = acc + q * 128 ^ k0 ∧ k = k0 + (sh q).length ∧ (0 < k0 → 0 < q)
 | [], k0, acc, m, k, _, _, h => by simp [numR] at h
 | c :: l, k0, acc, m, k, hk0, hb, h => by
  have hc := hb c List.mem_cons_self
  rw [numR] at h
  split at h
  ·cases h
  next hw =>
  split at h
  ·next h1 =>
   split at h
   ·cases h
   ·next h2 =>
    cases h
    have e : c.toNat % 128 = c.toNat := by omega
    refine ⟨c.toNat, ?_, by rw [e], by rw [sh_small (by omega)]; rfl, fun h0 => by omega⟩
    rw [sh_small (by omega), show k0 + 1 - k0 = 1 by omega]
    simp
    omega
  ·next h1 =>
   obtain ⟨q, g1, g2, g3, g4⟩ := numR_form l (k0 + 1) _ m k (by omega) (fun x hx => hb x (List.mem_cons_of_mem _ hx)) h
   have hq := g4 (by omega)
   have hbig : 128 ≤ c.toNat % 128 + 128 * q := by omega
   have e1 : (c.toNat % 128 + 128 * q) % 128 + 128 = c.toNat := by omega
   have e2 : (c.toNat % 128 + 128 * q) / 128 = q := by omega
   refine ⟨c.toNat % 128 + 128 * q, ?_, ?_, ?_, fun _ => by omega⟩
   ·rw [sh_big hbig, e1, e2, ← g1, show k - k0 = (k - (k0 + 1)) + 1 by omega, List.take_succ_cons]
    congr 1
    omega
   ·rw [g2, Nat.add_mul, Nat.pow_succ, Nat.mul_comm 128 q, Nat.mul_assoc, Nat.mul_comm (128 ^ k0) 128]
    omega
   ·rw [sh_big hbig, e2, List.length_cons]
    omega
theorem num_form {bs : List Int} (hb : Byt bs) {a m k : Nat} (h : num bs a = (m, k, 0)) : (bs.drop a).take k = sh m ∧ k = (sh m).length := by
 obtain ⟨q, g1, g2, g3, _⟩ := numR_form (bs.drop a) 0 0 m k (by omega) (hb.drop a) h
 have : m = q := by omega
 subst this
 exact ⟨by simpa using g1, by omega⟩
theorem strOf_bytes (s : ByteArray) : strOfNums (bytesOf s) = s := by
 apply ByteArray.ext
 apply Array.ext'
 simp only [strOfNums, bytesOf, List.map_map]
 have : (fun n : Int => UInt8.ofNat n.toNat) ∘ (fun b : UInt8 => (b.toNat : Int)) = id := by
  funext b
  simp
 rw [this, List.map_id]
theorem textAt_txt (xs ys : List Int) (s : ByteArray) (most : Int) (hs : s.size < 18446744073709551616) (hm : (s.size : Int) ≤ most) : textAt (xs ++ (txt s ++ ys)) xs.length most = (s, xs.length + (txt s).length, 0) := by
 have hN := num_sh xs (bytesOf s ++ ys) s.size hs
 have e : xs ++ (txt s ++ ys) = xs ++ (sh s.size ++ (bytesOf s ++ ys)) := by unfold txt; rw [List.append_assoc]
 rw [e]
 have hl : (bytesOf s).length = s.size := bytesOf_len s
 rw [textAt_ok hN (by omega) (by simp only [List.length_append]; omega)]
 have hd : ((xs ++ (sh s.size ++ (bytesOf s ++ ys))).drop (xs.length + (sh s.size).length)).take s.size = bytesOf s := by
  rw [← List.append_assoc xs, ← List.length_append, List.drop_left, List.take_append_of_le_length (by omega), List.take_of_length_le (by omega)]
 rw [hd, strOf_bytes]
 unfold txt
 rw [List.length_append, hl]
 simp only [Nat.add_assoc]
theorem txt_of_textAt {bs : List Int} (hb : Byt bs) {a : Nat} {most : Int} {s : ByteArray} {en : Nat} (h : textAt bs a most = (s, en, 0)) : (bs.drop a).take (en - a) = txt s ∧ en = a + (txt s).length := by
 obtain ⟨m, k, x, hN⟩ : ∃ m k x, num bs a = (m, k, x) := ⟨_, _, _, rfl⟩
 by_cases hx : x = 0
 ·subst hx
  obtain ⟨h1, h2⟩ := num_form hb hN
  by_cases hm : most < (m : Int)
  ·rw [textAt_long hN hm] at h; cases h
  by_cases hf : bs.length < a + k + m
  ·rw [textAt_short hN hm hf] at h; cases h
  rw [textAt_ok hN hm hf] at h
  cases h
  have hlen : ((bs.drop (a + k)).take m).length = m := by rw [List.length_take, List.length_drop]; omega
  have hby : Byt ((bs.drop (a + k)).take m) := (hb.drop _).take _
  have hsz : (strOfNums ((bs.drop (a + k)).take m)).size = m := by rw [strOfNums_size, hlen]
  have hbo : bytesOf (strOfNums ((bs.drop (a + k)).take m)) = (bs.drop (a + k)).take m := by
   simp only [strOfNums, bytesOf, List.map_map]
   conv => rhs; rw [← List.map_id ((bs.drop (a + k)).take m)]
   apply List.map_congr_left
   intro x hx
   have := hby x hx
   simp [UInt8.toNat_ofNat']
   omega
  have htx : txt (strOfNums ((bs.drop (a + k)).take m)) = sh m ++ (bs.drop (a + k)).take m := by unfold txt; rw [hsz, hbo]
  rw [htx]
  refine ⟨?_, by rw [List.length_append, hlen, ← h2]; omega⟩
  rw [show a + k + m - a = k + m by omega, List.take_add, h1, List.drop_drop]
 ·rw [textAt_err hN hx] at h
  cases h
  exact absurd rfl hx
theorem lstR_txts (each : Int) : ∀ (l : List ByteArray) (xs ys : List Int) (acc : List ByteArray), (∀ s ∈ l, s.size < 18446744073709551616 ∧ (s.size : Int) ≤ each) → lstR (xs ++ (txts l ++ ys)) each l.length xs.length acc = (acc ++ l, xs.length + (txts l).length, 0)
 | [], xs, ys, acc, _ => by simp [lstR, txts]
 | s :: l, xs, ys, acc, h => by
  have hs := h s List.mem_cons_self
  have e1 : xs ++ (txts (s :: l) ++ ys) = xs ++ (txt s ++ (txts l ++ ys)) := by simp [txts]
  have e2 : xs ++ (txt s ++ (txts l ++ ys)) = (xs ++ txt s) ++ (txts l ++ ys) := by rw [List.append_assoc]
  have ht := textAt_txt xs (txts l ++ ys) s each hs.1 hs.2
  have ih := lstR_txts each l (xs ++ txt s) ys (acc ++ [s]) (fun x hx => h x (List.mem_cons_of_mem _ hx))
  rw [List.length_cons, lstR, e1, ht, if_neg (by simp)]
  dsimp only
  rw [e2, ← List.length_append, ih]
  simp [txts]
  omega
theorem txts_of_lstR {bs : List Int} (hb : Byt bs) (each : Int) : ∀ (n a : Nat) (acc l : List ByteArray) (en : Nat), a ≤ bs.length → lstR bs each n a acc = (l, en, 0) → ∃ l', l = acc ++ l' ∧ l'.length = n ∧ (bs.drop a).take (en - a) = txts l' ∧ en = a + (txts l').length ∧ en ≤ bs.length
 | 0, a, acc, l, en, ha, h => by
  simp only [lstR, Prod.mk.injEq] at h
  obtain ⟨rfl, rfl, _⟩ := h
  exact ⟨[], by simp, rfl, by simp [txts], by simp [txts], ha⟩
 | n + 1, a, acc, l, en, ha, h => by
  obtain ⟨s, e1, x, hT⟩ : ∃ s e1 x, textAt bs a each = (s, e1, x) := ⟨_, _, _, rfl⟩
  rw [lstR, hT] at h
  by_cases hx : x = 0
  ·subst hx
   rw [if_neg (by simp)] at h
   obtain ⟨g1, g2⟩ := txt_of_textAt hb hT
   obtain ⟨q1, _⟩ := (textAt_facts hb ha hT)
   have q2 := (q1 rfl).1
   obtain ⟨l', r1, r2, r3, r4, r5⟩ := txts_of_lstR hb each n e1 (acc ++ [s]) l en q2 h
   refine ⟨s :: l', by rw [r1]; simp, by simp [r2], ?_, ?_, r5⟩
   ·have : txts (s :: l') = txt s ++ txts l' := by simp [txts]
    rw [this, ← g1, ← r3, show en - a = (e1 - a) + (en - e1) by omega, List.take_add, List.drop_drop, show a + (e1 - a) = e1 by omega]
   ·have : txts (s :: l') = txt s ++ txts l' := by simp [txts]
    rw [this, List.length_append]; omega
  ·rw [if_pos hx] at h
   simp only [Prod.mk.injEq] at h
   exact absurd h.2.2 hx
end Go.Kit
end
section
namespace Go.Proofs.YtpjpgcjhdbiepaaGreat
open Go.RowKit Go.Kit Go.Proofs.YtpjpgcjhdbiepaaGreatW.PrintWords
set_option maxHeartbeats 1000000 in
theorem RSame_any (A B : Option Addr) (n m c d : Nat) (xs ys : List ByteArray) (w : World) (hx : RT w A n xs) (hy : RT w B m ys) :
  Calls Tryz.prog 44 #[.slice A n c, .slice B m d] w fun e w' => ∃ t, e = .returned (.bool t) ∧ Hid (t = sameT xs ys) ∧ Below w.heap.size w w' := by
 have hxm := hx.max
 have hym := hy.max
 have HX := Lib.hid hx.len
 have HY := Lib.hid hy.len
 go_enter Tryz.func44, Tryz.ntmps44
 by_cases hnm : n = m
 ·subst hnm
  go_wp2_with fail
  go_loopg [5] n (fun g v5 w' => ∃ i : Nat, v5 = .int .i64 (i : Int) ∧ (∃ k, w' = w.drewN k) ∧ Hid (i + g = n ∧ xs.take i = ys.take i))
  case atStart => exact ⟨0, rfl, ⟨0, rfl⟩, by omega, rfl⟩
  case round =>
   obtain ⟨i, rfl, ⟨k, rfl⟩, HD⟩ := hrel
   cases gk with
   | zero =>
    obtain ⟨h0, h1⟩ := HD.out
    obtain rfl : i = n := by omega
    have HF : Hid (true = sameT xs ys) := by
     have e1 : xs.take i = xs := List.take_of_length_le (by rw [HX.out]; exact Nat.le_refl _)
     have e2 : ys.take i = ys := List.take_of_length_le (by rw [HY.out]; exact Nat.le_refl _)
     rw [e1, e2] at h1
     exact (decide_eq_true h1).symm
    clear h0 h1 HD
    go_wp2_with fail
    go_ret
    exact ⟨_, rfl, HF, pw_below_drewN (Below.refl _ _) k⟩
   | succ g =>
    have hlt : i < n := by have := HD.out.1; omega
    obtain ⟨ad, x, rfl, hcx, HXX⟩ := hx.at_ i hlt
    obtain ⟨bd, y, rfl, hcy, HYY⟩ := hy.at_ i hlt
    have hbi : (i : Int) < (n : Int) := by omega
    by_cases hxy : x = y
    ·subst hxy
     have HE : Hid (xs.take (i + 1) = ys.take (i + 1)) := take_step HXX.out HYY.out HD.out.2 rfl
     go_wp2_with fail
     go_quiet (fail)
     go_wp2_with fail
     go_roundg g
     case measure => omega
     case rel => exact ⟨i + 1, rfl, ⟨_, rfl⟩, by have := HD.out.1; omega, HE.out⟩
    ·have HE := Lib.hid (take_diff HXX.out HYY.out hxy)
     have hbb := bs_diff hxy
     clear hxy
     go_wp2_with fail
     go_quiet (fail)
     go_wp2_with fail
     go_ret
     exact ⟨_, rfl, HE, pw_below_drewN (pw_below_drewN (Below.refl _ _) k) _⟩
 ·have HF : Hid (false = sameT xs ys) := by
   refine (decide_eq_false ?_).symm
   intro e
   exact hnm (by rw [← HX.out, ← HY.out, e])
  have hb : ((n : Int) != (m : Int)) = true := by simp; omega
  go_wp2_with fail
  go_ret
  exact ⟨_, rfl, HF, Below.refl _ _⟩
end Go.Proofs.YtpjpgcjhdbiepaaGreat
end
section
namespace Go.Proofs.YtpjpgcjhdbiepaaGreat
open Go.RowKit Go.Kit Go.Proofs.YtpjpgcjhdbiepaaGreatW.PrintWords
set_option maxHeartbeats 1000000 in
theorem SEq_any (A B : Option Addr) (n m c d : Nat) (xs ys : List ByteArray) (w : World) (hx : RT w A n xs) (hy : RT w B m ys) :
  Calls Tryz.prog 99 #[.slice A n c, .slice B m d] w fun e w' => ∃ t, e = .returned (.bool t) ∧ Hid (t = sameT xs ys) ∧ Below w.heap.size w w' := by
 have hxm := hx.max
 have hym := hy.max
 have HX := Lib.hid hx.len
 have HY := Lib.hid hy.len
 go_enter Tryz.func99, Tryz.ntmps99
 by_cases hnm : n = m
 ·subst hnm
  go_wp2_with fail
  go_loopg [13] n (fun g v13 w' => ∃ i : Nat, v13 = .int .i64 (i : Int) ∧ (∃ k, w' = w.drewN k) ∧ Hid (i + g = n ∧ xs.take i = ys.take i))
  case atStart => exact ⟨0, rfl, ⟨0, rfl⟩, by omega, rfl⟩
  case round =>
   obtain ⟨i, rfl, ⟨k, rfl⟩, HD⟩ := hrel
   cases gk with
   | zero =>
    obtain ⟨h0, h1⟩ := HD.out
    obtain rfl : i = n := by omega
    have HF : Hid (true = sameT xs ys) := by
     have e1 : xs.take i = xs := List.take_of_length_le (by rw [HX.out]; exact Nat.le_refl _)
     have e2 : ys.take i = ys := List.take_of_length_le (by rw [HY.out]; exact Nat.le_refl _)
     rw [e1, e2] at h1
     exact (decide_eq_true h1).symm
    clear h0 h1 HD
    go_wp2_with fail
    go_ret
    exact ⟨_, rfl, HF, pw_below_drewN (Below.refl _ _) k⟩
   | succ g =>
    have hlt : i < n := by have := HD.out.1; omega
    obtain ⟨ad, x, rfl, hcx, HXX⟩ := hx.at_ i hlt
    obtain ⟨bd, y, rfl, hcy, HYY⟩ := hy.at_ i hlt
    have hbi : (i : Int) < (n : Int) := by omega
    by_cases hxy : x = y
    ·subst hxy
     have HE : Hid (xs.take (i + 1) = ys.take (i + 1)) := take_step HXX.out HYY.out HD.out.2 rfl
     go_wp2_with fail
     go_quiet (fail)
     go_wp2_with fail
     go_roundg g
     case measure => omega
     case rel => exact ⟨i + 1, rfl, ⟨_, rfl⟩, by have := HD.out.1; omega, HE.out⟩
    ·have HE := Lib.hid (take_diff HXX.out HYY.out hxy)
     have hbb := bs_diff hxy
     clear hxy
     go_wp2_with fail
     go_quiet (fail)
     go_wp2_with fail
     go_ret
     exact ⟨_, rfl, HE, pw_below_drewN (pw_below_drewN (Below.refl _ _) k) _⟩
 ·have HF : Hid (false = sameT xs ys) := by
   refine (decide_eq_false ?_).symm
   intro e
   exact hnm (by rw [← HX.out, ← HY.out, e])
  have hb : ((n : Int) != (m : Int)) = true := by simp; omega
  go_wp2_with fail
  go_ret
  exact ⟨_, rfl, HF, Below.refl _ _⟩
end Go.Proofs.YtpjpgcjhdbiepaaGreat
end
section
namespace Go.Kit
open Go.RowKit Go.Proofs.YtpjpgcjhdbiepaaGreatW.PrintWords
structure Fr where
 k : Int
 id : Int
 v : Int
 s : Int
 tool : List Int
 st : Int
 mo : Int
 fu : Int
 di : Int
 A : Option Addr
 n : Nat
 c : Nat
 args : List ByteArray
 body : ByteArray
namespace Fr
def lim (f : Fr) : List Value := [.int .i64 f.mo, .int .i64 f.fu, .int .i64 f.di]
def cells (f : Fr) : List Value := [.int .i64 f.k, .int .u64 f.id, .int .i64 f.v, .int .i64 f.s] ++ (nums .u8 f.tool ++ ([.int .i64 f.st] ++ (f.lim ++ [.slice f.A f.n f.c, .string f.body])))
def arr (f : Fr) : Array Value := f.cells.toArray
def val (f : Fr) : Value := .agg f.arr
structure ok (w : World) (f : Fr) : Prop where
 tool : f.tool.length = 32
 args : RT w f.A f.n f.args
theorem ok.below {w w1 : World} {f : Fr} (h : f.ok w) (hb : Below w.heap.size w w1) : f.ok w1 := ⟨h.tool, h.args.below hb⟩
def same (f g : Fr) : Bool := f.k == g.k && (f.id == g.id && (f.v == g.v && (f.s == g.s && (decide (f.tool = g.tool) && (f.st == g.st && ((f.mo == g.mo && (f.fu == g.fu && f.di == g.di)) && (sameT f.args g.args && (f.body.toList == g.body.toList))))))))
structure at_ (t : TypeId) (w : World) (g : Nat) (f : Fr) : Prop where
 blk : w.heap[g]? = some (.cells f.arr t (0, 0))
 tool : f.tool.length = 32
section
variable {t : TypeId} {w w1 : World} {g : Nat} {f : Fr}
theorem at_.below (h : f.at_ t w g) (hb : Below w.heap.size w w1) : f.at_ t w1 g := by
 refine ⟨?_, h.tool⟩
 have hlt : g < w.heap.size := by
  rcases Nat.lt_or_ge g w.heap.size with h1 | h1
  ·exact h1
  ·have := h.blk; rw [Array.getElem?_eq_none h1] at this; cases this
 exact (hb.block g hlt).trans h.blk
theorem at_.cell (h : f.at_ t w g) (j : Nat) (v : Value) (hj : f.cells[j]? = some v) : w.cell? ⟨g, j, none⟩ = some v := by
 have := cell_of_row w g j f.cells.toArray t (0, 0) h.blk
 rw [this]; simpa using hj
theorem at_.range (h : f.at_ t w g) (o : Nat) (cs : List Value) (hc : ∀ j v, cs[j]? = some v → f.cells[o + j]? = some v) : w.rangeAt g o cs := fun j v hj => h.cell _ _ (hc j v hj)
theorem at_.c0 (h : f.at_ t w g) : w.cell? ⟨g, 0, none⟩ = some (.int .i64 f.k) := h.cell 0 _ rfl
theorem at_.c1 (h : f.at_ t w g) : w.cell? ⟨g, 1, none⟩ = some (.int .u64 f.id) := h.cell 1 _ rfl
theorem at_.c2 (h : f.at_ t w g) : w.cell? ⟨g, 2, none⟩ = some (.int .i64 f.v) := h.cell 2 _ rfl
theorem at_.c3 (h : f.at_ t w g) : w.cell? ⟨g, 3, none⟩ = some (.int .i64 f.s) := h.cell 3 _ rfl
theorem tail_at (f : Fr) (h : f.tool.length = 32) (j : Nat) : f.cells[36 + j]? = ([.int .i64 f.st] ++ (f.lim ++ [.slice f.A f.n f.c, .string f.body]))[j]? := by
 unfold cells
 have h1 : (nums .u8 f.tool).length = 32 := by simp [nums, h]
 rw [List.getElem?_append_right (by simp; omega), List.getElem?_append_right (by rw [h1]; simp; omega), h1]
 congr 1
 simp; omega
theorem at_.c36 (h : f.at_ t w g) : w.cell? ⟨g, 36, none⟩ = some (.int .i64 f.st) := h.cell 36 _ (by rw [tail_at f h.tool 0]; rfl)
theorem at_.c40 (h : f.at_ t w g) : w.cell? ⟨g, 40, none⟩ = some (.slice f.A f.n f.c) := h.cell 40 _ (by rw [tail_at f h.tool 4]; rfl)
theorem at_.c41 (h : f.at_ t w g) : w.cell? ⟨g, 41, none⟩ = some (.string f.body) := h.cell 41 _ (by rw [tail_at f h.tool 5]; rfl)
theorem at_.r4 (h : f.at_ t w g) : w.rangeAt g 4 (nums .u8 f.tool) := h.range 4 _ (fun j v hj => by
 have hj2 : j < (nums .u8 f.tool).length := by
  rcases Nat.lt_or_ge j (nums .u8 f.tool).length with h1 | h1
  ·exact h1
  ·rw [List.getElem?_eq_none h1] at hj; cases hj
 unfold cells
 rw [List.getElem?_append_right (by simp)]
 simp only [List.length_cons, List.length_nil, Nat.zero_add, Nat.reduceAdd, Nat.add_sub_cancel_left]
 rw [List.getElem?_append_left hj2]; exact hj)
theorem at_.r37 (h : f.at_ t w g) : w.rangeAt g 37 f.lim := h.range 37 _ (fun j v hj => by
 have hj2 : j < f.lim.length := by
  rcases Nat.lt_or_ge j f.lim.length with h1 | h1
  ·exact h1
  ·rw [List.getElem?_eq_none h1] at hj; cases hj
 rw [show 37 + j = 36 + (j + 1) from by omega, tail_at f h.tool]
 rw [List.getElem?_append_right (by simp)]
 simp only [List.length_cons, List.length_nil, Nat.zero_add, Nat.add_sub_cancel]
 rw [List.getElem?_append_left hj2]; exact hj)
theorem arr_size (f : Fr) (h : f.tool.length = 32) : f.arr.size = 42 := by simp [arr, cells, nums, lim, h]
end
end Fr
end Go.Kit
end
section
namespace Go.Kit
open Go.RowKit Go.Proofs.YtpjpgcjhdbiepaaGreatW.PrintWords
def z32 : List Int := List.replicate 32 0
def noF : Fr := ⟨0, 0, 0, 0, z32, 0, 0, 0, 0, none, 0, 0, [], ByteArray.empty⟩
def Fr.core (f : Fr) : Fr := ⟨f.k, f.id, f.v, f.s, f.tool, f.st, f.mo, f.fu, f.di, none, 0, 0, f.args, f.body⟩
theorem same_core (f g : Fr) : f.same g = f.core.same g.core := rfl
theorem same_iff (f g : Fr) : f.same g = true ↔ f.core = g.core := by
 unfold Fr.same Fr.core sameT
 simp only [Bool.and_eq_true, beq_iff_eq, decide_eq_true_eq, Fr.mk.injEq, true_and]
 constructor
 ·rintro ⟨h1, h2, h3, h4, h5, h6, ⟨h7, h8, h9⟩, h10, h11⟩
  exact ⟨h1, h2, h3, h4, h5, h6, h7, h8, h9, h10, bs_inj h11⟩
 ·rintro ⟨h1, h2, h3, h4, h5, h6, h7, h8, h9, h10, h11⟩
  exact ⟨h1, h2, h3, h4, h5, h6, ⟨h7, h8, h9⟩, h10, by rw [h11]⟩
def onlyF (f : Fr) : Fr :=
 ⟨f.k, if f.k = 2 ∨ f.k = 3 ∨ f.k = 4 then f.id else 0, if f.k = 1 then f.v else 0, if f.k = 1 then f.s else 0, if f.k = 1 then f.tool else z32, if f.k = 3 then f.st else 0,
  if f.k = 2 then f.mo else 0, if f.k = 2 then f.fu else 0, if f.k = 2 then f.di else 0, none, 0, 0, if f.k = 2 then f.args else [], if f.k = 2 ∨ f.k = 3 ∨ f.k = 6 then f.body else ByteArray.empty⟩
def mayB (f : Fr) : Bool :=
 decide (1 ≤ f.k) && (decide (f.k ≤ 6) && (f.same (onlyF f) && (decide (f.args.length ≤ 8) && (decide (0 ≤ f.mo) && (decide (0 ≤ f.fu) && (decide (0 ≤ f.di) &&
  (decide (f.k = 1 → f.v = 1 ∧ 1 ≤ f.s ∧ f.s ≤ 64) && (decide (f.k = 3 → 1 ≤ f.st ∧ f.st ≤ 3 ∧ (f.st ≠ 1 → f.body.size = 0)) && f.args.all fun s => decide (s.size ≤ 4096)))))))))
structure May (f : Fr) : Prop where
 k1 : 1 ≤ f.k
 k6 : f.k ≤ 6
 only : f.core = onlyF f
 many : f.args.length ≤ 8
 mo : 0 ≤ f.mo
 fu : 0 ≤ f.fu
 di : 0 ≤ f.di
 hello : f.k = 1 → f.v = 1 ∧ 1 ≤ f.s ∧ f.s ≤ 64
 resp : f.k = 3 → 1 ≤ f.st ∧ f.st ≤ 3 ∧ (f.st ≠ 1 → f.body.size = 0)
 each : ∀ s ∈ f.args, s.size ≤ 4096
theorem may_iff (f : Fr) : mayB f = true ↔ May f := by
 unfold mayB
 simp only [Bool.and_eq_true, decide_eq_true_eq, List.all_eq_true, same_iff]
 constructor
 ·rintro ⟨a, b, c, d, e, g, h, i, j, k⟩; exact ⟨a, b, c, d, e, g, h, i, j, k⟩
 ·rintro ⟨a, b, c, d, e, g, h, i, j, k⟩; exact ⟨a, b, c, d, e, g, h, i, j, k⟩
def layF (f : Fr) : List Int :=
 if f.k = 1 then sh f.v.toNat ++ sh f.s.toNat ++ f.tool
 else if f.k = 2 then sh f.id.toNat ++ sh f.mo.toNat ++ sh f.fu.toNat ++ sh f.di.toNat ++ lst f.args ++ txt f.body
 else if f.k = 3 then sh f.id.toNat ++ sh f.st.toNat ++ txt f.body
 else if f.k = 4 then sh f.id.toNat
 else if f.k = 6 then txt f.body
 else []
def bodyF (f : Fr) : List Int := sh f.k.toNat ++ layF f
def MF : Nat := 2097152
def chkF (f : Fr) : Int := if mayB f = true then (if MF < f.body.size ∨ MF < (bodyF f).length then 3 else 0) else 70
def someS (D : Rd) (most : Int) : Rd × Nat := if (countS D most).1.why = 0 ∧ (countS D most).2 = 0 then (D.fail 70 D.at_, 0) else countS D most
def helloS (D : Rd) : Rd × Fr :=
 match someS D 1 with
 | (D1, v) => match someS D1 64 with
  | (D2, s) => match rawS D2 32 with
   | (D3, t) => (D3, ⟨1, 0, v, s, if t.length = 32 then t else z32, 0, 0, 0, 0, none, 0, 0, [], ByteArray.empty⟩)
def requestS (D : Rd) : Rd × Fr :=
 match uintS D with
 | (D1, id) => match countS D1 2147483648 with
  | (D2, mo) => match countS D2 2147483648 with
   | (D3, fu) => match countS D3 2147483648 with
    | (D4, di) => match listS D4 8 4096 with
     | (D5, l) => match textS D5 2097152 with
      | (D6, s) => (D6, ⟨2, id, 0, 0, z32, 0, mo, fu, di, none, 0, 0, l, s⟩)
def responseS (D : Rd) : Rd × Fr :=
 match uintS D with
 | (D1, id) => match someS D1 3 with
  | (D2, st) => match textS D2 2097152 with
   | (D3, s) => (D3, ⟨3, id, 0, 0, z32, st, 0, 0, 0, none, 0, 0, [], s⟩)
def cancelS (D : Rd) : Rd × Fr :=
 match uintS D with
 | (D1, id) => (D1, ⟨4, id, 0, 0, z32, 0, 0, 0, 0, none, 0, 0, [], ByteArray.empty⟩)
def noteS (D : Rd) : Rd × Fr :=
 match textS D 2097152 with
 | (D1, s) => (D1, ⟨6, 0, 0, 0, z32, 0, 0, 0, 0, none, 0, 0, [], s⟩)
def kindS (D : Rd) (k : Nat) : Rd × Fr :=
 if k = 1 then helloS D else if k = 2 then requestS D else if k = 3 then responseS D else if k = 4 then cancelS D else if k = 6 then noteS D
 else (D, ⟨k, 0, 0, 0, z32, 0, 0, 0, 0, none, 0, 0, [], ByteArray.empty⟩)
def fieldsS (D : Rd) : Rd × Fr := kindS (someS D 6).1 (someS D 6).2
def finS (D : Rd) (f : Fr) (head : Nat) : Int × Int := if (endS D).why = 0 ∧ f.k = 3 ∧ f.st ≠ 1 ∧ f.body.size ≠ 0 then (70, (head : Int)) else ((endS D).why, (endS D).wat)
def headF (xs : List Int) : Nat × Nat × Int :=
 if (num xs 0).2.2 = 4 then (0, 0, 0) else if (num xs 0).2.2 ≠ 0 then (0, 0, (num xs 0).2.2) else if 2097152 < (num xs 0).1 then (0, 0, 3) else if (num xs 0).1 = 0 then (0, 0, 70)
 else ((num xs 0).1, (num xs 0).2.1, 0)
def needF (xs : List Int) : Nat × Nat × Int := if (headF xs).2.2 ≠ 0 ∨ (headF xs).2.1 = 0 then (0, 0, (headF xs).2.2) else ((headF xs).1 + (headF xs).2.1 + 4, (headF xs).2.1, 0)
theorem numR_ten : ∀ (l : List Int) (k acc : Nat), k ≤ 9 → numR (l.take (10 - k)) k acc = numR l k acc
 | [], k, acc, _ => by rw [List.take_nil]
 | c :: l, k, acc, hk => by
  rw [show 10 - k = (10 - (k + 1)) + 1 by omega, List.take_succ_cons, numR, numR]
  by_cases h1 : k = 9 ∧ 1 < c
  ·rw [if_pos h1, if_pos h1]
  ·rw [if_neg h1, if_neg h1]
   by_cases h2 : c < 128
   ·rw [if_pos h2, if_pos h2]
   ·rw [if_neg h2, if_neg h2, numR_ten l (k + 1) _ (by omega)]
theorem num_ten (xs : List Int) {t : Nat} (h : t = min xs.length 10) : num (xs.take t) 0 = num xs 0 := by
 have e : xs.take t = xs.take 10 := by rw [h, Nat.min_comm, ← List.take_eq_take_min]
 unfold num
 rw [e, List.drop_zero, List.drop_zero]
 exact numR_ten xs 0 0 (by omega)
def readF (p : List Int) (head : Nat) : Fr × Int × Int :=
 match fieldsS ((Rd.new p).to head) with
 | (D, f) => if (finS D f head).1 ≠ 0 then (noF, finS D f head) else (f, 0, 0)
section
variable {D : Rd}
theorem countS_bad (h : D.why ≠ 0) (m : Int) : countS D m = (D, 0) := by unfold countS; rw [if_pos h]
theorem rawS_bad (h : D.why ≠ 0) (m : Int) : rawS D m = (D, []) := by unfold rawS; rw [if_pos h]
theorem textS_bad (h : D.why ≠ 0) (m : Int) : textS D m = (D, ByteArray.empty) := by unfold textS; rw [if_pos h]
theorem listS_bad (h : D.why ≠ 0) (m e : Int) : listS D m e = (D, []) := by unfold listS; rw [if_pos h]
theorem someS_bad (h : D.why ≠ 0) (m : Int) : someS D m = (D, 0) := by unfold someS; rw [countS_bad h, if_neg (fun e => h e.1)]
theorem someS_none {D1 : Rd} {m : Int} (h : countS D m = (D1, 0)) (hw : D1.why = 0) : someS D m = (D.fail 70 D.at_, 0) := by unfold someS; rw [h, if_pos ⟨hw, rfl⟩]
theorem someS_some {D1 : Rd} {m : Int} {v : Nat} (h : countS D m = (D1, v)) (hw : ¬ (D1.why = 0 ∧ v = 0)) : someS D m = (D1, v) := by unfold someS; rw [h, if_neg hw]
theorem kindS_bad (h : D.why ≠ 0) (k : Nat) : (kindS D k).1 = D := by
 unfold kindS
 split
 ·unfold helloS; rw [someS_bad h]; dsimp only; rw [someS_bad h]; dsimp only; rw [rawS_bad h]
 split
 ·unfold requestS; rw [uintS_bad h]; dsimp only; rw [countS_bad h]; dsimp only; rw [countS_bad h]; dsimp only; rw [countS_bad h]; dsimp only; rw [listS_bad h]; dsimp only; rw [textS_bad h]
 split
 ·unfold responseS; rw [uintS_bad h]; dsimp only; rw [someS_bad h]; dsimp only; rw [textS_bad h]
 split
 ·unfold cancelS; rw [uintS_bad h]
 split
 ·unfold noteS; rw [textS_bad h]
 ·rfl
theorem endS_bad (h : D.why ≠ 0) : endS D = D := by unfold endS; rw [if_neg (fun e => h e.1)]
end
theorem readF_of {p : List Int} {head : Nat} {D : Rd} {f : Fr} (h : fieldsS ((Rd.new p).to head) = (D, f)) : readF p head = if (finS D f head).1 ≠ 0 then (noF, finS D f head) else (f, 0, 0) := by
 unfold readF; rw [h]
end Go.Kit
end
section
namespace Go.Kit
open Go.RowKit Go.Proofs.YtpjpgcjhdbiepaaGreatW.PrintWords
structure Ate (D D1 : Rd) (l : List Int) : Prop where
 why : D.why = 0
 bs : D1.bs = D.bs
 pos : D1.at_ = D.at_ + l.length
 eq : D.bs.drop D.at_ = l ++ D.bs.drop D1.at_
theorem Ate.then_ {D D1 D2 : Rd} {l m : List Int} (h : Ate D D1 l) (h2 : Ate D1 D2 m) : Ate D D2 (l ++ m) :=
 ⟨h.why, h2.bs.trans h.bs, by rw [h2.pos, h.pos, List.length_append]; omega, by rw [h.eq, ← h.bs, h2.eq, List.append_assoc]⟩
theorem Ate.nil (D : Rd) (h : D.why = 0) : Ate D D [] := ⟨h, rfl, rfl, rfl⟩
theorem eat {bs : List Int} {a k : Nat} {l : List Int} (h : (bs.drop a).take k = l) : bs.drop a = l ++ bs.drop (a + k) := by
 rw [← h, ← List.drop_drop, List.take_append_drop]
section
variable {D D1 : Rd}
theorem ate_uint (hb : Byt D.bs) {v : Nat} (h : uintS D = (D1, v)) (hw : D1.why = 0) : Ate D D1 (sh v) := by
 obtain ⟨m, k, x, hN⟩ : ∃ m k x, num D.bs D.at_ = (m, k, x) := ⟨_, _, _, rfl⟩
 unfold uintS at h
 rw [hN] at h
 split at h
 ·next h0 => cases h; exact absurd hw h0
 ·next h0 =>
  have h0 := Classical.not_not.mp h0
  dsimp only at h
  split at h
  ·next hx => cases h; exact absurd hw hx
  ·next hx =>
   have hx := Classical.not_not.mp hx
   subst hx
   cases h
   obtain ⟨g1, g2⟩ := num_form hb hN
   exact ⟨h0, rfl, by show _ + k = _; rw [g2], eat g1⟩
theorem uint_lt (hb : Byt D.bs) (ha : D.at_ ≤ D.bs.length) {v : Nat} (h : uintS D = (D1, v)) : v < 18446744073709551616 := by
 have hf := (num_facts hb ha).1
 unfold uintS at h
 split at h
 ·cases h; decide
 split at h
 ·cases h; decide
 ·cases h; exact hf
theorem ate_count (hb : Byt D.bs) {most : Int} {v : Nat} (h : countS D most = (D1, v)) (hw : D1.why = 0) : Ate D D1 (sh v) ∧ (v : Int) ≤ most := by
 obtain ⟨m, k, x, hN⟩ : ∃ m k x, num D.bs D.at_ = (m, k, x) := ⟨_, _, _, rfl⟩
 unfold countS at h
 rw [hN] at h
 split at h
 ·next h0 => cases h; exact absurd hw h0
 ·next h0 =>
  have h0 := Classical.not_not.mp h0
  split at h
  ·cases h; exact absurd hw (by show (1 : Int) ≠ 0; decide)
  ·dsimp only at h
   split at h
   ·next hx => cases h; exact absurd hw hx
   ·next hx =>
    have hx := Classical.not_not.mp hx
    subst hx
    split at h
    ·cases h; exact absurd hw (by show (11 : Int) ≠ 0; decide)
    ·next hm =>
     cases h
     obtain ⟨g1, g2⟩ := num_form hb hN
     exact ⟨⟨h0, rfl, by show _ + k = _; rw [g2], eat g1⟩, by omega⟩
theorem ate_some (hb : Byt D.bs) {most : Int} {v : Nat} (h : someS D most = (D1, v)) (hw : D1.why = 0) : Ate D D1 (sh v) ∧ (v : Int) ≤ most ∧ 0 < v := by
 unfold someS at h
 split at h
 ·cases h; exact absurd hw (by show (70 : Int) ≠ 0; decide)
 ·next hn =>
  have h1 := ate_count hb h hw
  rw [h] at hn
  exact ⟨h1.1, h1.2, Nat.pos_of_ne_zero (fun e => hn ⟨hw, e⟩)⟩
theorem ate_raw {k : Nat} {t : List Int} (h : rawS D (k : Int) = (D1, t)) (hw : D1.why = 0) (ha : D.at_ ≤ D.bs.length) : Ate D D1 t ∧ t.length = k := by
 unfold rawS at h
 split at h
 ·next h0 => cases h; exact absurd hw h0
 ·next h0 =>
  have h0 := Classical.not_not.mp h0
  split at h
  ·omega
  ·split at h
   ·cases h; exact absurd hw (by show (4 : Int) ≠ 0; decide)
   ·next hl =>
    cases h
    have hk : (k : Int).toNat = k := by omega
    rw [hk]
    have hlen : ((D.bs.drop D.at_).take k).length = k := by rw [List.length_take, List.length_drop]; omega
    exact ⟨⟨h0, rfl, by show _ + k = _; rw [hlen], eat rfl⟩, hlen⟩
theorem ate_text (hb : Byt D.bs) {most : Int} {s : ByteArray} (h : textS D most = (D1, s)) (hw : D1.why = 0) : Ate D D1 (txt s) := by
 obtain ⟨s', en, x, hT⟩ : ∃ s' en x, textAt D.bs D.at_ most = (s', en, x) := ⟨_, _, _, rfl⟩
 unfold textS at h
 rw [hT] at h
 split at h
 ·next h0 => cases h; exact absurd hw h0
 ·next h0 =>
  have h0 := Classical.not_not.mp h0
  split at h
  ·cases h; exact absurd hw (by show (1 : Int) ≠ 0; decide)
  ·dsimp only at h
   split at h
   ·next hx => cases h; exact absurd hw hx
   ·next hx =>
    have hx := Classical.not_not.mp hx
    subst hx
    cases h
    obtain ⟨g1, g2⟩ := txt_of_textAt hb hT
    have hk : en - D.at_ = (txt s).length := by omega
    exact ⟨h0, rfl, g2, by
     have := eat g1
     rwa [show D.at_ + (en - D.at_) = en by omega] at this⟩
theorem back_count {m : Int} {v : Nat} (h : countS D m = (D1, v)) (hw : D1.why = 0) : D.why = 0 := Classical.byContradiction fun e => by rw [countS_bad e] at h; cases h; exact e hw
theorem back_some {m : Int} {v : Nat} (h : someS D m = (D1, v)) (hw : D1.why = 0) : D.why = 0 := Classical.byContradiction fun e => by rw [someS_bad e] at h; cases h; exact e hw
theorem back_raw {m : Int} {v : List Int} (h : rawS D m = (D1, v)) (hw : D1.why = 0) : D.why = 0 := Classical.byContradiction fun e => by rw [rawS_bad e] at h; cases h; exact e hw
theorem back_text {m : Int} {v : ByteArray} (h : textS D m = (D1, v)) (hw : D1.why = 0) : D.why = 0 := Classical.byContradiction fun e => by rw [textS_bad e] at h; cases h; exact e hw
theorem back_list {m c : Int} {v : List ByteArray} (h : listS D m c = (D1, v)) (hw : D1.why = 0) : D.why = 0 := Classical.byContradiction fun e => by rw [listS_bad e] at h; cases h; exact e hw
theorem Ate.low {l : List Int} (h : Ate D D1 l) (ha : D.at_ ≤ D.bs.length) : D1.at_ ≤ D1.bs.length := by
 have e := congrArg List.length h.eq
 rw [List.length_append, List.length_drop, List.length_drop, h.pos] at e
 rw [h.pos, h.bs]
 omega
theorem Ate.byt {l : List Int} (h : Ate D D1 l) (hb : Byt D.bs) : Byt D1.bs := by rw [h.bs]; exact hb
theorem strOf_size (l : List Int) : (strOfNums l).size = l.length := by
 unfold strOfNums
 simp [ByteArray.size]
theorem textAt_le {bs : List Int} {a en : Nat} {most : Int} {s : ByteArray} (h : textAt bs a most = (s, en, 0)) : (s.size : Int) ≤ most := by
 unfold textAt at h
 split at h
 ·next hx => exact absurd (congrArg (fun p => p.2.2) h) hx
 split at h
 ·exact absurd (congrArg (fun p => p.2.2) h) (by show ¬ (3 : Int) = 0; decide)
 split at h
 ·exact absurd (congrArg (fun p => p.2.2) h) (by show ¬ (4 : Int) = 0; decide)
 ·have e := congrArg Prod.fst h
  dsimp only at e
  rw [← e, strOf_size, List.length_take]
  omega
theorem lstR_le {bs : List Int} {each : Int} : ∀ (n a : Nat) (acc l : List ByteArray) (en : Nat), lstR bs each n a acc = (l, en, 0) → (∀ s ∈ acc, (s.size : Int) ≤ each) → ∀ s ∈ l, (s.size : Int) ≤ each
 | 0, a, acc, l, en, h, ha => by
  have e := congrArg Prod.fst h
  dsimp only [lstR] at e
  rw [← e]; exact ha
 | n + 1, a, acc, l, en, h, ha => by
  unfold lstR at h
  split at h
  ·next hx => exact absurd (congrArg (fun p => p.2.2) h) hx
  ·next hx =>
   refine lstR_le n _ _ l en h (fun s hs => ?_)
   rcases List.mem_append.mp hs with hs | hs
   ·exact ha s hs
   ·rw [List.mem_singleton.mp hs]
    exact textAt_le (bs := bs) (a := a) (en := (textAt bs a each).2.1) (by
     have := Classical.not_not.mp hx
     rw [← this])
theorem ate_list (hb : Byt D.bs) (ha : D.at_ ≤ D.bs.length) {most each : Int} {l : List ByteArray} (h : listS D most each = (D1, l)) (hw : D1.why = 0) : Ate D D1 (lst l) ∧ (l.length : Int) ≤ most ∧ ∀ s ∈ l, (s.size : Int) ≤ each := by
 obtain ⟨m, k, x, hN⟩ : ∃ m k x, num D.bs D.at_ = (m, k, x) := ⟨_, _, _, rfl⟩
 have hfa := num_facts hb ha
 rw [hN] at hfa
 unfold listS at h
 rw [hN] at h
 split at h
 ·next h0 => cases h; exact absurd hw h0
 ·next h0 =>
  have h0 := Classical.not_not.mp h0
  split at h
  ·cases h; exact absurd hw (by show (1 : Int) ≠ 0; decide)
  ·dsimp only at h hfa
   split at h
   ·next hx => cases h; exact absurd hw hx
   ·next hx =>
    have hx := Classical.not_not.mp hx
    subst hx
    split at h
    ·cases h; exact absurd hw (by show (11 : Int) ≠ 0; decide)
    ·next hm =>
     obtain ⟨L, en, y, hL⟩ : ∃ L en y, lstR D.bs each m (D.at_ + k) [] = (L, en, y) := ⟨_, _, _, rfl⟩
     rw [hL] at h
     dsimp only at h
     split at h
     ·next hy => cases h; exact absurd hw hy
     ·next hy =>
      have hy := Classical.not_not.mp hy
      subst hy
      cases h
      obtain ⟨g1, g2⟩ := num_form hb hN
      obtain ⟨l', e1, e2, e3, e4, e5⟩ := txts_of_lstR hb each m (D.at_ + k) [] l en hfa.2.1 hL
      rw [List.nil_append] at e1
      subst e1
      have hle := lstR_le m (D.at_ + k) [] l en hL (fun s hs => by cases hs)
      have q1 := eat g1
      have q2 := eat e3
      rw [show D.at_ + k + (en - (D.at_ + k)) = en by omega] at q2
      refine ⟨⟨h0, rfl, ?_, ?_⟩, by omega, hle⟩
      ·show en = _
       unfold lst
       rw [List.length_append, e2, ← g2, e4]; omega
      ·show _ = _ ++ D.bs.drop en
       unfold lst
       rw [q1, q2, e2, List.append_assoc]
end
structure ReadOk (f : Fr) : Prop where
 core : f.core = f
 only : f.core = onlyF f
 many : f.args.length ≤ 8
 mo : 0 ≤ f.mo ∧ f.mo ≤ 2147483648
 fu : 0 ≤ f.fu ∧ f.fu ≤ 2147483648
 di : 0 ≤ f.di ∧ f.di ≤ 2147483648
 hello : f.k = 1 → f.v = 1 ∧ 1 ≤ f.s ∧ f.s ≤ 64
 resp : f.k = 3 → 1 ≤ f.st ∧ f.st ≤ 3
 each : ∀ s ∈ f.args, s.size ≤ 4096
 id : 0 ≤ f.id ∧ f.id ≤ 18446744073709551615
 byt : Byt f.tool
theorem z32_byt : Byt z32 := fun x hx => by
 have := (List.mem_replicate.1 hx).2
 omega
end Go.Kit
end
section
namespace Go.Kit
open Go.RowKit Go.Proofs.YtpjpgcjhdbiepaaGreatW.PrintWords
section
variable {D D1 : Rd}
theorem ate_hello (hb : Byt D.bs) (ha : D.at_ ≤ D.bs.length) {f : Fr} (h : helloS D = (D1, f)) (hw : D1.why = 0) : Ate D D1 (layF f) ∧ f.k = 1 ∧ ReadOk f := by
 rcases q1 : someS D 1 with ⟨Da, v⟩
 rcases q2 : someS Da 64 with ⟨Db, s⟩
 rcases q3 : rawS Db 32 with ⟨Dc, t⟩
 unfold helloS at h
 rw [q1] at h; dsimp only at h; rw [q2] at h; dsimp only at h; rw [q3] at h; dsimp only at h
 cases h
 have w2 := back_raw q3 hw
 have w1 := back_some q2 w2
 obtain ⟨a1, v1, v0⟩ := ate_some hb q1 w1
 obtain ⟨a2, s1, s0⟩ := ate_some (a1.byt hb) q2 w2
 obtain ⟨a3, ht⟩ := ate_raw (k := 32) q3 hw (a2.low (a1.low ha))
 have hbt : Byt (if t.length = 32 then t else z32) := by
  rw [if_pos ht]
  have e := a3.eq
  intro x hx
  exact (a2.byt (a1.byt hb)) x (List.mem_of_mem_drop (by rw [e]; exact List.mem_append_left _ hx))
 refine ⟨?_, rfl, ⟨rfl, rfl, by simp, by simp, by simp, by simp, fun _ => ⟨by show (v : Int) = 1; omega, by show (1 : Int) ≤ (s : Int); omega, s1⟩, fun e => absurd e (by show ¬ (1 : Int) = 3; decide), fun s hs => (by cases hs), by simp, hbt⟩⟩
 have e : layF ⟨1, 0, (v : Int), (s : Int), if t.length = 32 then t else z32, 0, 0, 0, 0, none, 0, 0, [], ByteArray.empty⟩ = sh v ++ sh s ++ t := by simp [layF, ht]
 rw [e]
 exact (a1.then_ a2).then_ a3
theorem ate_request (hb : Byt D.bs) (ha : D.at_ ≤ D.bs.length) {f : Fr} (h : requestS D = (D1, f)) (hw : D1.why = 0) : Ate D D1 (layF f) ∧ f.k = 2 ∧ ReadOk f := by
 rcases q1 : uintS D with ⟨Da, id⟩
 rcases q2 : countS Da 2147483648 with ⟨Db, mo⟩
 rcases q3 : countS Db 2147483648 with ⟨Dc, fu⟩
 rcases q4 : countS Dc 2147483648 with ⟨Dd, di⟩
 rcases q5 : listS Dd 8 4096 with ⟨De, l⟩
 rcases q6 : textS De 2097152 with ⟨Df, s⟩
 unfold requestS at h
 rw [q1] at h; dsimp only at h; rw [q2] at h; dsimp only at h; rw [q3] at h; dsimp only at h; rw [q4] at h; dsimp only at h; rw [q5] at h; dsimp only at h; rw [q6] at h; dsimp only at h
 cases h
 have w5 := back_text q6 hw
 have w4 := back_list q5 w5
 have w3 := back_count q4 w4
 have w2 := back_count q3 w3
 have w1 := back_count q2 w2
 have a1 := ate_uint hb q1 w1
 have hid := uint_lt hb ha q1
 obtain ⟨a2, m2⟩ := ate_count (a1.byt hb) q2 w2
 obtain ⟨a3, m3⟩ := ate_count (a2.byt (a1.byt hb)) q3 w3
 obtain ⟨a4, m4⟩ := ate_count (a3.byt (a2.byt (a1.byt hb))) q4 w4
 have hb4 := a4.byt (a3.byt (a2.byt (a1.byt hb)))
 obtain ⟨a5, m5, m6⟩ := ate_list hb4 (a4.low (a3.low (a2.low (a1.low ha)))) q5 w5
 have a6 := ate_text (a5.byt hb4) q6 hw
 refine ⟨?_, rfl, ⟨rfl, rfl, by show l.length ≤ 8; omega, ⟨by show (0 : Int) ≤ (mo : Int); omega, m2⟩, ⟨by show (0 : Int) ≤ (fu : Int); omega, m3⟩, ⟨by show (0 : Int) ≤ (di : Int); omega, m4⟩, fun e => absurd e (by show ¬ (2 : Int) = 1; decide), fun e => absurd e (by show ¬ (2 : Int) = 3; decide), fun s hs => (by have := m6 s hs; omega), ⟨by show (0 : Int) ≤ (id : Int); omega, by show (id : Int) ≤ _; omega⟩, z32_byt⟩⟩
 have e : layF ⟨2, (id : Int), 0, 0, z32, 0, (mo : Int), (fu : Int), (di : Int), none, 0, 0, l, s⟩ = sh id ++ sh mo ++ sh fu ++ sh di ++ lst l ++ txt s := by simp [layF]
 rw [e]
 exact ((((a1.then_ a2).then_ a3).then_ a4).then_ a5).then_ a6
theorem ate_response (hb : Byt D.bs) (ha : D.at_ ≤ D.bs.length) {f : Fr} (h : responseS D = (D1, f)) (hw : D1.why = 0) : Ate D D1 (layF f) ∧ f.k = 3 ∧ ReadOk f := by
 rcases q1 : uintS D with ⟨Da, id⟩
 rcases q2 : someS Da 3 with ⟨Db, st⟩
 rcases q3 : textS Db 2097152 with ⟨Dc, s⟩
 unfold responseS at h
 rw [q1] at h; dsimp only at h; rw [q2] at h; dsimp only at h; rw [q3] at h; dsimp only at h
 cases h
 have w2 := back_text q3 hw
 have w1 := back_some q2 w2
 have a1 := ate_uint hb q1 w1
 have hid := uint_lt hb ha q1
 obtain ⟨a2, m2, m0⟩ := ate_some (a1.byt hb) q2 w2
 have a3 := ate_text (a2.byt (a1.byt hb)) q3 hw
 refine ⟨?_, rfl, ⟨rfl, rfl, by simp, by simp, by simp, by simp, fun e => absurd e (by show ¬ (3 : Int) = 1; decide), fun _ => ⟨by show (1 : Int) ≤ (st : Int); omega, m2⟩, fun s hs => (by cases hs), ⟨by show (0 : Int) ≤ (id : Int); omega, by show (id : Int) ≤ _; omega⟩, z32_byt⟩⟩
 have e : layF ⟨3, (id : Int), 0, 0, z32, (st : Int), 0, 0, 0, none, 0, 0, [], s⟩ = sh id ++ sh st ++ txt s := by simp [layF]
 rw [e]
 exact (a1.then_ a2).then_ a3
theorem ate_cancel (hb : Byt D.bs) (ha : D.at_ ≤ D.bs.length) {f : Fr} (h : cancelS D = (D1, f)) (hw : D1.why = 0) : Ate D D1 (layF f) ∧ f.k = 4 ∧ ReadOk f := by
 rcases q1 : uintS D with ⟨Da, id⟩
 unfold cancelS at h
 rw [q1] at h; dsimp only at h
 cases h
 have a1 := ate_uint hb q1 hw
 have hid := uint_lt hb ha q1
 refine ⟨?_, rfl, ⟨rfl, rfl, by simp, by simp, by simp, by simp, fun e => absurd e (by show ¬ (4 : Int) = 1; decide), fun e => absurd e (by show ¬ (4 : Int) = 3; decide), fun s hs => (by cases hs), ⟨by show (0 : Int) ≤ (id : Int); omega, by show (id : Int) ≤ _; omega⟩, z32_byt⟩⟩
 have e : layF ⟨4, (id : Int), 0, 0, z32, 0, 0, 0, 0, none, 0, 0, [], ByteArray.empty⟩ = sh id := by simp [layF]
 rw [e]
 exact a1
theorem ate_note (hb : Byt D.bs) {f : Fr} (h : noteS D = (D1, f)) (hw : D1.why = 0) : Ate D D1 (layF f) ∧ f.k = 6 ∧ ReadOk f := by
 rcases q1 : textS D 2097152 with ⟨Da, s⟩
 unfold noteS at h
 rw [q1] at h; dsimp only at h
 cases h
 have a1 := ate_text hb q1 hw
 refine ⟨?_, rfl, ⟨rfl, rfl, by simp, by simp, by simp, by simp, fun e => absurd e (by show ¬ (6 : Int) = 1; decide), fun e => absurd e (by show ¬ (6 : Int) = 3; decide), fun s hs => (by cases hs), by simp, z32_byt⟩⟩
 have e : layF ⟨6, 0, 0, 0, z32, 0, 0, 0, 0, none, 0, 0, [], s⟩ = txt s := by simp [layF]
 rw [e]
 exact a1
theorem ate_kind (hb : Byt D.bs) (ha : D.at_ ≤ D.bs.length) (k : Nat) (h1 : 1 ≤ k) (h6 : k ≤ 6) {f : Fr} (h : kindS D k = (D1, f)) (hw : D1.why = 0) : Ate D D1 (layF f) ∧ f.k = (k : Int) ∧ ReadOk f := by
 rcases (by omega : k = 1 ∨ k = 2 ∨ k = 3 ∨ k = 4 ∨ k = 5 ∨ k = 6) with rfl | rfl | rfl | rfl | rfl | rfl
 ·exact ate_hello hb ha h hw
 ·exact ate_request hb ha h hw
 ·exact ate_response hb ha h hw
 ·exact ate_cancel hb ha h hw
 ·unfold kindS at h
  simp only [show ¬ (5 = 1) by decide, show ¬ (5 = 2) by decide, show ¬ (5 = 3) by decide, show ¬ (5 = 4) by decide, show ¬ (5 = 6) by decide, if_false] at h
  cases h
  exact ⟨Ate.nil _ hw, rfl, ⟨rfl, rfl, by simp, by simp, by simp, by simp, fun e => absurd e (by decide), fun e => absurd e (by decide), fun s hs => (by cases hs), by simp, z32_byt⟩⟩
 ·exact ate_note hb h hw
theorem ate_fields (hb : Byt D.bs) (ha : D.at_ ≤ D.bs.length) {f : Fr} (h : fieldsS D = (D1, f)) (hw : D1.why = 0) : Ate D D1 (bodyF f) ∧ ReadOk f ∧ 1 ≤ f.k ∧ f.k ≤ 6 := by
 rcases q1 : someS D 6 with ⟨Da, k⟩
 unfold fieldsS at h
 rw [q1] at h
 have w1 : Da.why = 0 := Classical.byContradiction fun e => by
  have := kindS_bad e k
  rw [h] at this
  have t : D1 = Da := this
  rw [t] at hw
  exact e hw
 obtain ⟨a1, k6, k1⟩ := ate_some hb q1 w1
 obtain ⟨a2, e, ho⟩ := ate_kind (a1.byt hb) (a1.low ha) k k1 (by omega) h hw
 refine ⟨?_, ho, by omega, by omega⟩
 have e2 : bodyF f = sh k ++ layF f := by unfold bodyF; rw [e, Int.toNat_natCast]
 rw [e2]
 exact a1.then_ a2
end
theorem read_form {ys : List Int} {head : Nat} (hb : Byt ys) (hh : head ≤ ys.length) {f : Fr} {y : Int} (h : readF ys head = (f, 0, y)) : ys.drop head = bodyF f ∧ May f ∧ ReadOk f := by
 rcases q : fieldsS ((Rd.new ys).to head) with ⟨D, g⟩
 rw [readF_of q] at h
 by_cases hf : (finS D g head).1 = 0
 ·rw [if_neg (by simpa using hf)] at h
  cases h
  have hend : (endS D).why = 0 := by
   unfold finS at hf
   split at hf
   ·exact absurd hf (by show ¬ (70 : Int) = 0; decide)
   ·exact hf
  have hD : D.why = 0 := Classical.byContradiction fun e => by rw [endS_bad e] at hend; exact e hend
  obtain ⟨a, ho, k1, k6⟩ := ate_fields (D := (Rd.new ys).to head) hb hh q hD
  have hat : ¬ D.at_ < D.bs.length := fun e => by
   unfold endS at hend
   rw [if_pos ⟨hD, e⟩] at hend
   exact absurd hend (by show ¬ (6 : Int) = 0; decide)
  have hbs : D.bs = ys := a.bs
  have hdrop : ys.drop D.at_ = [] := List.drop_eq_nil_of_le (by rw [hbs] at hat; omega)
  refine ⟨by have e := a.eq; rw [show ((Rd.new ys).to head).bs = ys from rfl, show ((Rd.new ys).to head).at_ = head from rfl, hdrop, List.append_nil] at e; exact e, ⟨k1, k6, ho.only, ho.many, ho.mo.1, ho.fu.1, ho.di.1, ho.hello, fun e => ⟨(ho.resp e).1, (ho.resp e).2, fun hs => Classical.byContradiction fun hz => ?_⟩, ho.each⟩, ho⟩
  unfold finS at hf
  rw [if_pos ⟨hend, e, hs, hz⟩] at hf
  exact absurd hf (by show ¬ (70 : Int) = 0; decide)
 ·rw [if_pos hf] at h
  have e : (finS D g head).1 = 0 := congrArg (fun p => p.2.1) h
  exact absurd e hf
theorem body_le (f : Fr) (hm : May f) : f.body.size ≤ (bodyF f).length := by
 have hc := hm.only
 have hk1 := hm.k1
 have hk6 := hm.k6
 have hb : f.body = (onlyF f).body := by have t := congrArg Fr.body hc; exact t
 have ht : (txt f.body).length = (sh f.body.size).length + f.body.size := by unfold txt; rw [List.length_append, bytesOf_len]
 unfold bodyF layF
 rcases (by omega : f.k = 1 ∨ f.k = 2 ∨ f.k = 3 ∨ f.k = 4 ∨ f.k = 5 ∨ f.k = 6) with e | e | e | e | e | e
 ·rw [hb]; simp [onlyF, e]
 ·simp [e]; omega
 ·simp [e]; omega
 ·rw [hb]; simp [onlyF, e]
 ·rw [hb]; simp [onlyF, e]
 ·simp [e]; omega
end Go.Kit
end
section
namespace Go.Proofs.YtpjpgcjhdbiepaaGreat
open Go.RowKit Go.Kit Go.Proofs.YtpjpgcjhdbiepaaGreatW.PrintWords
theorem u8_info : (Tryz.prog.info? 5).map (fun i => (i.zero, i.size, i.bytes)) = some (some (.int .u8 0), 1, 1) := by kernel_rfl
theorem run_make_rowN (t e : TypeId) (i : TypeInfo) (z : Value) (ht : Tryz.prog.underlying t = some (.slice e)) (hi : Tryz.prog.info? e = some i) (hz : i.zero = some z)
  (n c : Nat) (hnc : n ≤ c) (hbytes : i.bytes * c ≤ 281474976710656) (h63 : c ≤ 9223372036854775807) (w : World) (l k : Int) (hl : l = (n : Int)) (hk : k = (c : Int)) :
  (Instr.makeSlice t (.int .i64 l) (.int .i64 k)).run Tryz.prog w = .ok (.slice (some ⟨w.heap.size, 0, none⟩) n c) (w.alloc (.cells (madeCells z.cells (c * i.size)) e)) := by
 subst hl
 subst hk
 have hb : (i.bytes : Int) * (c : Int) ≤ 281474976710656 := by
  have h : ((i.bytes * c : Nat) : Int) ≤ 281474976710656 := by omega
  rwa [Int.natCast_mul] at h
 have hr := run_make (P := Tryz.prog) w t e i z ht hi hz .i64 .i64 n c (by omega) (by omega) hb (by omega)
 simp only [Int.toNat_natCast] at hr
 exact hr
theorem u8_size : (Tryz.prog.info? 5).map (·.size) = some 1 := by kernel_rfl
theorem made_u8 (c : Nat) : madeCells #[Value.int .u8 0] c = (nums .u8 (List.replicate c 0)).toArray := by
 apply Array.ext
 ·simp [size_madeCells, nums]
 ·intro i h1 h2; simp [madeCells, nums, Nat.mod_one]
theorem mk_bytes (n c : Nat) (hnc : n ≤ c) (hc : c ≤ 281474976710656) (W : World) (l k : Int) (hl : l = (n : Int)) (hk : k = (c : Int)) :
  (Instr.makeSlice 22 (.int .i64 l) (.int .i64 k)).run Tryz.prog W = .ok (.slice (some ⟨W.heap.size, 0, none⟩) n c) (W.alloc (.cells (nums .u8 (List.replicate c 0)).toArray 5)) := by
 obtain ⟨i0, hi, hz0, hz1, hz2⟩ := info_parts u8_info
 have := run_make_rowN 22 5 i0 _ Tryz.underlying22 hi hz0 n c hnc (by rw [hz2]; omega) (by omega) W l k hl hk
 simpa only [hz1, Value.cells, Nat.mul_one, made_u8] using this
theorem RB.take_ {w : World} {A : Option Addr} {n : Nat} {xs : List Int} (h : RB w A n xs) (k : Nat) (hk : k ≤ n) : RB w A k (xs.take k) := ⟨h.rd.take_ k hk, h.byt.take k⟩
end Go.Proofs.YtpjpgcjhdbiepaaGreat
end
section
namespace Go.Proofs.YtpjpgcjhdbiepaaGreat
open Go.RowKit Go.Kit Go.Proofs.YtpjpgcjhdbiepaaGreatW.PrintWords
set_option maxHeartbeats 1000000 in
set_option maxRecDepth 100000 in
theorem fresh_any (A : Option Addr) (n cap r : Nat) (xs : List Int) (w : World) (hx : RB w A n xs) (hl : n + r ≤ 281474976710656) :
  Calls Tryz.prog 77 #[.slice A n cap, .int .i64 (r : Int)] w fun e w' => ∃ v, e = .returned v ∧ OB 5 w' w.heap.size v xs ∧ Below w.heap.size w w' := by
 have hmk := fun W => mk_bytes n (n + r) (by omega) hl W (n : Int) ((n : Int) + (r : Int)) rfl (by simp)
 have HL := Lib.hid hx.len
 go_enter Tryz.func77, Tryz.ntmps77
 go_wp2_with (refine wpList_copy_bytes (w := w) rfl (.tmp 13) (.tmp 14) 22 5 rfl Tryz.underlying22 u8_size A n (n + r) n cap xs w.heap.size rfl rfl (hx.alloc _) (Nat.le_refl _) (heap_alloc_new w _) (by omega) (by omega) (below_alloc (Below.refl _ w) _) (Nat.le_refl _) ?_)
 intro w1 hO hb1
 rw [all_of (by rw [HL.out]; exact Nat.le_refl _)] at hO
 clear hmk
 go_wp2_with fail
 go_ret
 exact ⟨_, rfl, hO, hb1⟩
set_option maxHeartbeats 2000000 in
set_option maxRecDepth 100000 in
theorem short_any (base : Nat) (v : Value) (xs : List Int) (n : Nat) (w : World) (hO : OB 5 w base v xs) (hb : base ≤ w.heap.size) (hl : xs.length + 10 ≤ 140737488355328) (hn : n < 18446744073709551616) :
  Calls Tryz.prog 76 #[v, .int .u64 (n : Int)] w fun e w' => ∃ v', e = .returned v' ∧ OB 5 w' base v' (xs ++ sh n) ∧ Below base w w' := by
 have HT := Lib.hid (sh_ten hn)
 have HN := Lib.hid hn
 clear hn
 go_enter Tryz.func76, Tryz.ntmps76
 go_wp2_with fail
 go_loopg [0, 1] n (fun gk v0 v1 w' => ∃ (m : Nat) (pre : List Int), v1 = .int .u64 (m : Int) ∧ OB 5 w' base v0 (xs ++ pre) ∧ Below base w w' ∧ Hid (pre ++ sh m = sh n ∧ gk = m ∧ m ≤ n))
 case atStart => exact ⟨n, [], rfl, by simpa using hO, Below.refl _ _, rfl, rfl, Nat.le_refl _⟩
 case round =>
  clear hO
  obtain ⟨m, pre, rfl, hO, hb1, HG⟩ := hrel
  have hs := hb1.size
  by_cases hm : 128 ≤ m
  ·have h1 : (128 : Int) ≤ (m : Int) := by omega
   have hor := or128 m
   have HP : Hid ((pre ++ [(m : Int) % 128 + 128]) ++ sh (m / 128) = sh n) := Lib.hid (by
    have h2 := HG.out.1
    rw [sh_big hm] at h2
    rw [← h2, List.append_assoc]
    simp)
   have hpl : xs.length + pre.length + 1 ≤ 140737488355328 := by
    have h2 := congrArg List.length HG.out.1
    have h3 := HT.out
    have h4 := sh_pos m
    rw [List.length_append] at h2
    omega
   go_wp2_with (at_builtin; refine push_byte (w0 := w) base rfl (.tmp 9) (.tmp 13) 22 ((m : Int) % 128 + 128) rfl Tryz.underlying22 u8_info rfl rfl hO hb1 (Nat.le_trans hb hs) (by rw [List.length_append]; exact hpl) (by omega) (by omega) ?_)
   intro v1 w1 hO1 hb2 _ _
   go_wp2_with fail
   go_roundg (m / 128)
   case measure => have := HG.out.2.1; omega
   case rel => exact ⟨m / 128, _, by simp, hO1, hb2, HP.out, rfl, by have := HG.out.2.2; omega⟩
  ·have h1 : (m : Int) < 128 := by omega
   have hm8 : (m : Int) % 256 = (m : Int) := by omega
   have HP : Hid (pre ++ [(m : Int)] = sh n) := by
    have h2 := HG.out.1
    rw [sh_small (by omega)] at h2
    exact h2
   have hpl : xs.length + pre.length + 1 ≤ 140737488355328 := by
    have h2 := congrArg List.length HG.out.1
    have h3 := HT.out
    have h4 := sh_pos m
    rw [List.length_append] at h2
    omega
   go_wp2_with (at_builtin; refine push_byte (w0 := w) base rfl (.tmp 15) (.tmp 18) 22 (m : Int) rfl Tryz.underlying22 u8_info rfl rfl hO hb1 (Nat.le_trans hb hs) (by rw [List.length_append]; exact hpl) (by omega) (by omega) ?_)
   intro v1 w1 hO1 hb2 _ _
   rw [HP.out] at hO1
   go_wp2_with fail
   go_ret
   exact ⟨_, rfl, hO1, hb2⟩
set_option maxHeartbeats 2000000 in
set_option maxRecDepth 100000 in
theorem rUint_any (n : Nat) (w : World) (hn : n < 18446744073709551616) :
  Calls Tryz.prog 40 #[.int .u64 (n : Int)] w fun e w' => ∃ v', e = .returned v' ∧ OB 5 w' w.heap.size v' (sh n) ∧ Below w.heap.size w w' := by
 have HT := Lib.hid (sh_ten hn)
 have HN := Lib.hid hn
 clear hn
 go_enter Tryz.func40, Tryz.ntmps40
 go_wp2_with fail
 go_loopg [3, 0] n (fun gk v0 v1 w' => ∃ (m : Nat) (pre : List Int), v1 = .int .u64 (m : Int) ∧ OB 5 w' w.heap.size v0 pre ∧ Below w.heap.size w w' ∧ Hid (pre ++ sh m = sh n ∧ gk = m ∧ m ≤ n))
 case atStart => exact ⟨n, [], rfl, OB.nil _ _ _, Below.refl _ _, rfl, rfl, Nat.le_refl _⟩
 case round =>
  obtain ⟨m, pre, rfl, hO, hb1, HG⟩ := hrel
  have hs := hb1.size
  have hpl : pre.length + 1 ≤ 140737488355328 := by
   have h2 := congrArg List.length HG.out.1
   have h3 := HT.out
   have h4 := sh_pos m
   rw [List.length_append] at h2
   omega
  by_cases hm : 128 ≤ m
  ·have h1 : (128 : Int) ≤ (m : Int) := by omega
   have HP : Hid ((pre ++ [(m : Int) % 128 + 128]) ++ sh (m / 128) = sh n) := Lib.hid (by
    have h2 := HG.out.1
    rw [sh_big hm] at h2
    rw [← h2, List.append_assoc]
    simp)
   have hm8 : (m : Int) % 128 % 256 = (m : Int) % 128 := by omega
   have hmw : IntKind.u64.wrap ((m : Int) / 128) = (m : Int) / 128 := by
    have h2 := HN.out
    have h3 := HG.out.2.2
    exact IntWalk.u64_in _ ⟨by omega, by omega⟩
   go_wp2_with (at_builtin; refine push_byte (w0 := w) w.heap.size rfl (.tmp 6) (.tmp 11) 22 ((m : Int) % 128 + 128) rfl Tryz.underlying22 u8_info rfl rfl hO hb1 hs hpl (by omega) (by omega) ?_)
   intro v1 w1 hO1 hb2 _ _
   go_wp2_with fail
   go_roundg (m / 128)
   case measure => have := HG.out.2.1; omega
   case rel => exact ⟨m / 128, _, by simp, hO1, hb2, HP.out, rfl, by have := HG.out.2.2; omega⟩
  ·have h1 : (m : Int) < 128 := by omega
   have hm8 : (m : Int) % 256 = (m : Int) := by omega
   have HP : Hid (pre ++ [(m : Int)] = sh n) := by
    have h2 := HG.out.1
    rw [sh_small (by omega)] at h2
    exact h2
   go_wp2_with (at_builtin; refine push_byte (w0 := w) w.heap.size rfl (.tmp 15) (.tmp 18) 22 (m : Int) rfl Tryz.underlying22 u8_info rfl rfl hO hb1 hs hpl (by omega) (by omega) ?_)
   intro v1 w1 hO1 hb2 _ _
   rw [HP.out] at hO1
   go_wp2_with fail
   go_ret
   exact ⟨_, rfl, hO1, hb2⟩
end Go.Proofs.YtpjpgcjhdbiepaaGreat
end
section
namespace Go.Proofs.YtpjpgcjhdbiepaaGreat
open Go.RowKit Go.Kit Go.Proofs.YtpjpgcjhdbiepaaGreatW.PrintWords
structure RS (w : World) (r : Nat) (A : Option Addr) (n c : Nat) (D : Rd) : Prop where
 rk : w.heap[r]? = some (.cells #[.slice A n c, .int .i64 (D.at_ : Int), .bool true, .int .i64 D.why, .int .i64 D.wat] 166 (0, 0))
 row : RB w A n D.bs
 cap : n ≤ c
 max : n ≤ 140737488355328
 low : D.at_ ≤ n
 inv : D.why = 0 → D.wat = 0
 out : ∀ a, A = some a → a.block ≠ r
 old : ∀ a, A = some a → a.block < w.heap.size
def rdf (r : Nat) (A : Option Addr) (k : Nat) : Prop := k = r ∨ ∃ a, A = some a ∧ a.block = k
section
variable {w w1 : World} {r n c : Nat} {A : Option Addr} {D : Rd} {S : Nat → Prop}
theorem RS.r0 (h : RS w r A n c D) : w.cell? ⟨r, 0, none⟩ = some (.slice A n c) := cell_of_row w r 0 _ _ _ h.rk
theorem RS.r1 (h : RS w r A n c D) : w.cell? ⟨r, 1, none⟩ = some (.int .i64 (D.at_ : Int)) := cell_of_row w r 1 _ _ _ h.rk
theorem RS.r2 (h : RS w r A n c D) : w.cell? ⟨r, 2, none⟩ = some (.bool true) := cell_of_row w r 2 _ _ _ h.rk
theorem RS.r3 (h : RS w r A n c D) : w.cell? ⟨r, 3, none⟩ = some (.int .i64 D.why) := cell_of_row w r 3 _ _ _ h.rk
theorem RS.r4 (h : RS w r A n c D) : w.cell? ⟨r, 4, none⟩ = some (.int .i64 D.wat) := cell_of_row w r 4 _ _ _ h.rk
theorem RS.fr (h : RS w r A n c D) (j : Nat) : w.frozen? ⟨r, j, none⟩ = false := frozen_of_row w r j _ _ h.rk
theorem RS.ok (h : RS w r A n c D) : D.ok := ⟨h.row.byt, by rw [h.row.len]; exact h.low, h.inv⟩
theorem RS.only (h : RS w r A n c D) (ho : Only w w1 S) (hs : Sep (rdf r A) S) : RS w1 r A n c D :=
 ⟨ho.kept h.rk (hs r (.inl rfl)), h.row.apart ho (fun a e => hs a.block (.inr ⟨a, e, rfl⟩)), h.cap, h.max, h.low, h.inv, h.out, fun a e => Nat.lt_of_lt_of_le (h.old a e) ho.size⟩
theorem RS.below (h : RS w r A n c D) (hb : Below w.heap.size w w1) : RS w1 r A n c D := ⟨(hb.block r (lt_of_block h.rk)).trans h.rk, h.row.below hb, h.cap, h.max, h.low, h.inv, h.out, fun a e => Nat.lt_of_lt_of_le (h.old a e) hb.size⟩
theorem RS.drewN (h : RS w r A n c D) (k : Nat) : RS (w.drewN k) r A n c D := h.below (pw_below_drewN (Below.refl _ _) k)
theorem only_r (w : World) (r j : Nat) (v : Value) : Only w (w.setCell ⟨r, j, none⟩ v) (fun k => k = r) := (Only.refl w _).set r j v (.inl rfl)
theorem RS.set1 (h : RS w r A n c D) (x : Int) (a : Nat) (hx : x = (a : Int)) (ha : a ≤ n) : RS (w.setCell ⟨r, 1, none⟩ (.int .i64 x)) r A n c (D.to a) :=
 ⟨by rw [hx]; exact heap_set_same w r 1 _ _ _ h.rk, h.row.apart (only_r w r 1 _) (fun a e => h.out a e), h.cap, h.max, ha, h.inv, h.out, fun a e => Nat.lt_of_lt_of_le (h.old a e) (only_r w r 1 _).size⟩
theorem RS.set34 (h : RS w r A n c D) (e : Int) (a : Nat) (he : e ≠ 0) : RS ((w.setCell ⟨r, 3, none⟩ (.int .i64 e)).setCell ⟨r, 4, none⟩ (.int .i64 (a : Int))) r A n c (D.fail e a) := by
 have h3 := heap_set_same w r 3 _ _ (.int .i64 e) h.rk
 have h4 := heap_set_same _ r 4 _ _ (.int .i64 (a : Int)) h3
 exact ⟨h4, (h.row.apart (only_r w r 3 _) (fun a e => h.out a e)).apart (only_r _ r 4 _) (fun a e => h.out a e), h.cap, h.max, h.low, fun h0 => absurd h0 he, h.out, fun a e => Nat.lt_of_lt_of_le (h.old a e) (((only_r w r 3 (.int .i64 _)).set r 4 _ (.inl rfl)).size)⟩
theorem run_fault (x y : Int) (b : Bool) (hb : ((x == 0) && (y == 0)) = b) (W : World) : (binOp .eql 28 (.agg #[.int .i64 x, .int .i64 y]) (.agg #[.int .i64 0, .int .i64 0])).run Tryz.prog W = .ok (.bool b) W := by
 have he : (Op.equalIn 10000 28 (.agg #[.int .i64 x, .int .i64 y]) (.agg #[.int .i64 0, .int .i64 0])).run Tryz.prog W = .ok b W := by
  subst hb
  by_cases h1 : x = 0 <;> by_cases h2 : y = 0 <;> go_simp
 simp [run_eql_struct W 28 _ _, he]
set_option maxHeartbeats 1000000 in
theorem well_any (h : RS w r A n c D) (b : Bool) (hb : decide (D.why = 0) = b) : Calls Tryz.prog 102 #[.pointer (some ⟨r, 0, none⟩)] w fun e w' => e = .returned (.bool b) ∧ w' = w := by
 have h2 := h.r2
 have h3 := h.r3
 have h4 := h.r4
 have hqg : Tryz.prog.eqGuardType Tryz.prog.depth 28 = false := by kernel_rfl
 have heq := run_fault D.why D.wat b (by
  by_cases h0 : D.why = 0
  ·have := h.inv h0
   simp [← hb, h0, this]
  ·simp [← hb, h0])
 clear hb
 go_enter Tryz.func102, Tryz.ntmps102
 go_wp2_with fail
 go_ret
 exact ⟨rfl, rfl⟩
set_option maxHeartbeats 1000000 in
theorem left_any (h : RS w r A n c D) : Calls Tryz.prog 105 #[.pointer (some ⟨r, 0, none⟩)] w fun e w' => e = .returned (.int .i64 ((n : Int) - (D.at_ : Int))) ∧ ∃ k, w' = w.drewN k := by
 have h0 := h.r0
 have h1 := h.r1
 have hl := h.low
 have hm := h.max
 have hw : IntKind.i64.wrap ((n : Int) - (D.at_ : Int)) = (n : Int) - (D.at_ : Int) := IntWalk.i64_in _ ⟨by omega, by omega⟩
 go_enter Tryz.func105, Tryz.ntmps105
 go_wp2_with fail
 go_quiet (fail)
 go_wp2_with fail
 go_ret
 exact ⟨rfl, _, rfl⟩
set_option maxHeartbeats 1000000 in
theorem fails_any (h : RS w r A n c D) (e : Int) (a : Nat) (he : e ≠ 0) : Calls Tryz.prog 104 #[.pointer (some ⟨r, 0, none⟩), .int .i64 e, .int .i64 (a : Int)] w fun x w' => x = .returned (.tuple #[]) ∧ RS w' r A n c (D.fail e a) ∧ Only w w' (fun k => k = r) := by
 have h3 := h.r3
 have h4 := h.r4
 have f3 := h.fr 3
 have f4 := h.fr 4
 go_enter Tryz.func104, Tryz.ntmps104
 go_wp2_with fail
 refine bodyPost_end (v := .tuple #[]) (by simp [results, Tryz.results104, go_sem]) rfl ⟨rfl, h.set34 e a he, ((Only.refl w (fun k => k = r)).set r 3 _ (.inl rfl)).set r 4 _ (.inl rfl)⟩
set_option maxHeartbeats 4000000 in
set_option maxRecDepth 100000 in
theorem number_any (h : RS w r A n c D) (a : Nat) (ha : a ≤ n) : Calls Tryz.prog 103 #[.pointer (some ⟨r, 0, none⟩), .int .i64 (a : Int)] w fun e w' => ∃ (m k : Nat) (x : Int), e = .returned (.tuple #[.int .u64 (m : Int), .int .i64 (k : Int), .int .i64 x]) ∧ Hid (num D.bs a = (m, k, x)) ∧ w' = w := by
 have h0 := h.r0
 have hm := h.max
 have HL := Lib.hid h.row.len
 have HB := Lib.hid h.row.byt
 have HR := Lib.hid h.row
 have HC := Lib.hid h.cap
 go_enter Tryz.func103, Tryz.ntmps103
 go_wp2_with fail
 go_loopg [7, 8] (n - a) (fun gk v7 v8 w' => ∃ (k acc : Nat), v8 = .int .i64 (k : Int) ∧ v7 = .int .u64 (acc : Int) ∧ w' = w ∧ Hid (k ≤ 9 ∧ acc < 128 ^ k ∧ a + k ≤ n ∧ num D.bs a = numR (D.bs.drop (a + k)) k acc ∧ gk = n - a - k))
 case atStart => exact ⟨0, 0, rfl, rfl, rfl, by omega, by decide, by omega, rfl, rfl⟩
 case round =>
  obtain ⟨k, acc, rfl, rfl, rfl, HG⟩ := hrel
  have hk9 : k ≤ 9 := HG.out.1
  by_cases hlt : a + k < n
  ·have hi2 : (a : Int) + (k : Int) < (n : Int) := by omega
   obtain ⟨ad, x, rfl, hc, hx0, hx1, HX⟩ := HR.out.at_ (a + k) hlt
   have hnat : ((a : Int) + (k : Int)).toNat = a + k := by omega
   obtain ⟨xn, rfl⟩ := Int.eq_ofNat_of_zero_le hx0
   have hxn : xn < 256 := by omega
   have hand : bits .and .u8 (xn : Int) 127 = ((xn % 128 : Nat) : Int) := and127 hx0 hx1
   have hwr : IntKind.u64.wrap ((xn : Int) % 128) = (xn : Int) % 128 := IntWalk.u64_in _ ⟨by omega, by omega⟩
   have HST := Lib.hid (numR_step HX.out k acc)
   by_cases hwd : k = 9 ∧ 1 < xn
   ·have hkb : ((k : Int) == 9) = true := by rw [beq_iff_eq]; omega
    have hx2 : (1 : Int) < (xn : Int) := by omega
    have HF : Hid (num D.bs a = (0, 0, 10)) := Lib.hid (by rw [HG.out.2.2.2.1, HST.out, if_pos ⟨hwd.1, hx2⟩])
    clear hwd
    go_wp2_with fail
    go_ret3
    exact ⟨_, _, _, rfl, HF, rfl⟩
   ·obtain ⟨acc1, hacc1⟩ : ∃ acc1, acc1 = acc + xn % 128 * 128 ^ k := ⟨_, rfl⟩
    have hor : bits .or .u64 (acc : Int) (IntKind.u64.wrap ((xn : Int) % 128 * 2 ^ (7 * k))) = (acc1 : Int) := by rw [hacc1]; exact or_shift HG.out.2.1 (by omega)
    have HA1 := Lib.hid hacc1
    clear hacc1
    have hstep : ∀ P, P = num D.bs a → P = (if (xn : Int) < 128 then (if (xn : Int) = 0 ∧ 0 < k then (0, 0, 5) else (acc1, k + 1, 0)) else numR (D.bs.drop (a + k + 1)) (k + 1) acc1) := fun P hP => by
     rw [hP, HG.out.2.2.2.1, HST.out, if_neg (by omega), HA1.out]; rfl
    have HN := Lib.hid (hstep _ rfl)
    clear hstep
    by_cases hk : k = 9
    ·have hkb : ((k : Int) == 9) = true := by rw [beq_iff_eq]; omega
     have hx2 : (xn : Int) ≤ 1 := by omega
     have hx8 : (xn : Int) < 128 := by omega
     have hk1 : (0 : Int) < (k : Int) := by omega
     by_cases hx00 : xn = 0
     ·have hxb : ((xn : Int) == 0) = true := by rw [beq_iff_eq]; omega
      have HF : Hid (num D.bs a = (0, 0, 5)) := Lib.hid (by rw [HN.out, if_pos hx8, if_pos ⟨by omega, by omega⟩])
      clear hk hx00 hwd
      go_wp2_with fail
      go_ret3
      exact ⟨_, _, _, rfl, HF, rfl⟩
     ·have hxb : ((xn : Int) == 0) = false := by rw [beq_eq_false_iff_ne]; omega
      have HF : Hid (num D.bs a = (acc1, k + 1, 0)) := Lib.hid (by rw [HN.out, if_pos hx8, if_neg (by omega)])
      clear hk hx00 hwd
      go_wp2_with fail
      go_ret3
      exact ⟨_, _, _, rfl, HF, rfl⟩
    ·have hkb : ((k : Int) == 9) = false := by rw [beq_eq_false_iff_ne]; omega
     clear hwd
     by_cases hx8 : (xn : Int) < 128
     ·by_cases hx00 : xn = 0
      ·have hxb : ((xn : Int) == 0) = true := by rw [beq_iff_eq]; omega
       by_cases hk0 : k = 0
       ·have hk1 : (k : Int) ≤ 0 := by omega
        have HF : Hid (num D.bs a = (acc1, k + 1, 0)) := Lib.hid (by rw [HN.out, if_pos hx8, if_neg (by omega)])
        clear hk0 hx00
        go_wp2_with fail
        go_ret3
        exact ⟨_, _, _, rfl, HF, rfl⟩
       ·have hk1 : (0 : Int) < (k : Int) := by omega
        have HF : Hid (num D.bs a = (0, 0, 5)) := Lib.hid (by rw [HN.out, if_pos hx8, if_pos ⟨by omega, by omega⟩])
        clear hk0 hx00
        go_wp2_with fail
        go_ret3
        exact ⟨_, _, _, rfl, HF, rfl⟩
      ·have hxb : ((xn : Int) == 0) = false := by rw [beq_eq_false_iff_ne]; omega
       have HF : Hid (num D.bs a = (acc1, k + 1, 0)) := Lib.hid (by rw [HN.out, if_pos hx8, if_neg (by omega)])
       clear hx00
       go_wp2_with fail
       go_ret3
       exact ⟨_, _, _, rfl, HF, rfl⟩
     ·go_wp2_with fail
      go_roundg (n - a - (k + 1))
      case measure => have := HG.out.2.2.2.2; omega
      case rel => exact ⟨k + 1, acc1, by simp, rfl, rfl, by omega, by rw [HA1.out]; exact acc_step HG.out.2.1, by omega, by rw [HN.out, if_neg (by omega)]; rfl, by have := HG.out.2.2.2.2; omega⟩
  ·have HF : Hid (num D.bs a = (0, 0, 4)) := Lib.hid (by rw [HG.out.2.2.2.1, numR_end (by rw [HL.out]; omega)])
   have hi2 : (n : Int) ≤ (a : Int) + (k : Int) := by omega
   go_wp2_with fail
   go_ret3
   exact ⟨_, _, _, rfl, HF, rfl⟩
end
end Go.Proofs.YtpjpgcjhdbiepaaGreat
end
section
namespace Go.Kit
theorem numF {D : Rd} (hok : D.ok) {m k : Nat} {x : Int} (h : num D.bs D.at_ = (m, k, x)) : m < 18446744073709551616 ∧ D.at_ + k ≤ D.bs.length ∧ k ≤ 10 ∧ (x = 0 → 1 ≤ k) ∧ (x = 0 ∨ x = 4 ∨ x = 5 ∨ x = 10) := by
 have := num_facts hok.1 hok.2.1
 rw [h] at this
 exact this
end Go.Kit
namespace Go.Proofs.YtpjpgcjhdbiepaaGreat
open Go.RowKit Go.Kit Go.Proofs.YtpjpgcjhdbiepaaGreatW.PrintWords
section
variable {w w1 : World} {r n c : Nat} {A : Option Addr} {D : Rd} {S : Nat → Prop}
set_option maxHeartbeats 1000000 in
theorem Uint_any (h : RS w r A n c D) : Calls Tryz.prog 85 #[.pointer (some ⟨r, 0, none⟩)] w fun e w' => ∃ D1 v, e = .returned (.int .u64 ((v : Nat) : Int)) ∧ Hid (uintS D = (D1, v)) ∧ RS w' r A n c D1 ∧ Only w w' (fun k => k = r) := by
 have h1 := h.r1
 have hf1 := h.fr 1
 have hm := h.max
 by_cases hw : D.why = 0
 ·have HW := Lib.hid hw
  go_enter Tryz.func85, Tryz.ntmps85
  go_wp2_with fail
  refine (well_any h true (by simpa using hw)).mono ?_
  rintro e w2 ⟨rfl, rfl⟩
  clear hw
  go_wp2_with fail
  refine (number_any h D.at_ h.low).mono ?_
  rintro e w3 ⟨m, k, x, rfl, HN, rfl⟩
  obtain ⟨g1, g2, g3, g4, g5⟩ := numF h.ok HN.out
  rw [h.row.len] at g2
  by_cases hx : x = 0
  ·have HF : Hid (uintS D = (D.to (D.at_ + k), m)) := Lib.hid (by
    unfold uintS
    rw [if_neg (by rw [HW.out]; simp), HN.out]
    rw [if_neg (by simpa using hx)])
   have hxb : (x != 0) = false := by simp [hx]
   have hs := h.set1 ((D.at_ : Int) + (k : Int)) (D.at_ + k) (by omega) g2
   have ho := only_r w3 r 1 (.int .i64 ((D.at_ : Int) + (k : Int)))
   clear hx g1 g4 g5
   go_wp2_with fail
   go_ret
   exact ⟨_, _, rfl, HF, hs, ho⟩
  ·have HF : Hid (uintS D = (D.fail x D.at_, 0)) := Lib.hid (by
    unfold uintS
    rw [if_neg (by rw [HW.out]; simp), HN.out]
    rw [if_pos (by simpa using hx)])
   have hxb : (x != 0) = true := by simp [hx]
   have HX := Lib.hid hx
   clear hx g1 g2 g3 g4 g5
   go_wp2_with fail
   refine (fails_any h x D.at_ HX.out).mono ?_
   rintro e w4 ⟨rfl, hs, ho⟩
   go_wp2_with fail
   go_ret
   exact ⟨_, 0, rfl, HF, hs, ho⟩
 ·have HF : Hid (uintS D = (D, 0)) := Lib.hid (by unfold uintS; rw [if_pos hw])
  go_enter Tryz.func85, Tryz.ntmps85
  go_wp2_with fail
  refine (well_any h false (by simpa using hw)).mono ?_
  rintro e w2 ⟨rfl, rfl⟩
  clear hw
  go_wp2_with fail
  go_ret
  exact ⟨_, 0, rfl, HF, h, Only.refl _ _⟩
end
end Go.Proofs.YtpjpgcjhdbiepaaGreat
end
section
namespace Go.Proofs.YtpjpgcjhdbiepaaGreat
open Go.RowKit Go.Kit Go.Proofs.YtpjpgcjhdbiepaaGreatW.PrintWords
section
variable {w w1 : World} {r n c : Nat} {A : Option Addr} {D : Rd} {S : Nat → Prop}
set_option maxHeartbeats 2000000 in
theorem Count_any (h : RS w r A n c D) (most : Int) (hmo : most ≤ 9223372036854775807) : Calls Tryz.prog 106 #[.pointer (some ⟨r, 0, none⟩), .int .i64 most] w fun e w' => ∃ D1 v, e = .returned (.int .i64 ((v : Nat) : Int)) ∧ Hid (countS D most = (D1, v)) ∧ RS w' r A n c D1 ∧ Only w w' (fun k => k = r) := by
 have h1 := h.r1
 have hf1 := h.fr 1
 have hm := h.max
 by_cases hw : D.why = 0
 ·have HW := Lib.hid hw
  go_enter Tryz.func106, Tryz.ntmps106
  go_wp2_with fail
  refine (well_any h true (by simpa using hw)).mono ?_
  rintro e w2 ⟨rfl, rfl⟩
  clear hw
  by_cases hneg : most < 0
  ·have HF : Hid (countS D most = (D.fail 1 D.at_, 0)) := Lib.hid (by
    unfold countS
    rw [if_neg (by rw [HW.out]; simp), if_pos (by omega)])
   go_wp2_with fail
   refine (fails_any h 1 D.at_ (by decide)).mono ?_
   rintro e w4 ⟨rfl, hs, ho⟩
   go_wp2_with fail
   go_ret
   exact ⟨_, 0, rfl, HF, hs, ho⟩
  ·go_wp2_with fail
   refine (number_any h D.at_ h.low).mono ?_
   rintro e w3 ⟨m, k, x, rfl, HN, rfl⟩
   obtain ⟨g1, g2, g3, g4, g5⟩ := numF h.ok HN.out
   rw [h.row.len] at g2
   have HF : Hid (countS D most = if x ≠ 0 then (D.fail x D.at_, 0) else if most < (m : Int) then (D.fail 11 D.at_, 0) else (D.to (D.at_ + k), m)) := Lib.hid (by
    unfold countS
    rw [if_neg (by rw [HW.out]; simp), if_neg (by omega), HN.out])
   have hwm : IntKind.u64.wrap most = most := IntWalk.u64_in _ ⟨by omega, by omega⟩
   by_cases hx : x = 0
   ·subst hx
    rw [if_neg (by simp)] at HF
    by_cases hmm : most < (m : Int)
    ·rw [if_pos hmm] at HF
     clear g1 g4 g5
     go_wp2_with fail
     refine (fails_any h 11 D.at_ (by decide)).mono ?_
     rintro e w4 ⟨rfl, hs, ho⟩
     go_wp2_with fail
     go_ret
     exact ⟨_, 0, rfl, HF, hs, ho⟩
    ·rw [if_neg hmm] at HF
     have hs := h.set1 ((D.at_ : Int) + (k : Int)) (D.at_ + k) (by omega) g2
     have ho := only_r w3 r 1 (.int .i64 ((D.at_ : Int) + (k : Int)))
     have hm2 : (m : Int) ≤ 9223372036854775807 := by omega
     clear g1 g4 g5
     go_wp2_with fail
     go_ret
     exact ⟨_, _, rfl, HF, hs, ho⟩
   ·rw [if_pos hx] at HF
    have hxb : (x != 0) = true := by simp [hx]
    have hxc : (x == 0) = false := by simp [hx]
    have HX := Lib.hid hx
    clear hx g1 g2 g3 g4 g5
    go_wp2_with fail
    refine (fails_any h x D.at_ HX.out).mono ?_
    rintro e w4 ⟨rfl, hs, ho⟩
    go_wp2_with fail
    go_ret
    exact ⟨_, 0, rfl, HF, hs, ho⟩
 ·have HF : Hid (countS D most = (D, 0)) := Lib.hid (by unfold countS; rw [if_pos hw])
  go_enter Tryz.func106, Tryz.ntmps106
  go_wp2_with fail
  refine (well_any h false (by simpa using hw)).mono ?_
  rintro e w2 ⟨rfl, rfl⟩
  clear hw
  go_wp2_with fail
  go_ret
  exact ⟨_, 0, rfl, HF, h, Only.refl _ _⟩
end
end Go.Proofs.YtpjpgcjhdbiepaaGreat
end
section
namespace Go.Proofs.YtpjpgcjhdbiepaaGreat
open Go.RowKit Go.Kit Go.Proofs.YtpjpgcjhdbiepaaGreatW.PrintWords
theorem mid_bytes (A : Option Addr) (n c lo hi : Nat) (h1 : lo ≤ hi) (h2 : hi ≤ n) (hc : n ≤ c) : ∃ A' : Option Addr,
  (∀ (l h : Int), l = (lo : Int) → h = (hi : Int) → ∀ W : World, (Instr.slice 22 (.slice A n c) (some (.int .i64 l)) (some (.int .i64 h)) none).run Tryz.prog W = .ok (.slice A' (hi - lo) (c - lo)) W) ∧
  (∀ (w : World) (xs : List Int), RB w A n xs → RB w A' (hi - lo) ((xs.drop lo).take (hi - lo))) ∧ (∀ a', A' = some a' → ∃ a, A = some a ∧ a.block = a'.block) := by
 obtain ⟨i0, hi0, hz0, hz1, hz2⟩ := info_parts u8_info
 refine ⟨if c = lo then A else A.map (·.add lo), ?_, fun w xs h => ?_, fun a' ha => ?_⟩
 ·rintro l h rfl rfl W
  have hel : Tryz.prog.elem 22 = 5 := by simp [Program.elem, Tryz.underlying22]
  have hu : Tryz.prog.underlying 22 = some (.slice (Tryz.prog.elem 22)) := by rw [hel]; exact Tryz.underlying22
  rw [run_slice_lh W 22 A n c hu .i64 .i64 (lo : Int) (hi : Int) (Int.natCast_nonneg _) (by omega) (by omega), hel]
  simp [sizeOf, typeInfo, hi0, hz1, sliced, Result.andThen]
 ·exact (RB.take_ ⟨h.rd.drop_ lo (by omega) hc, h.byt.drop lo⟩ (hi - lo) (by omega))
 ·by_cases hcl : c = lo
  ·rw [if_pos hcl] at ha; exact ⟨a', ha, rfl⟩
  ·rw [if_neg hcl] at ha
   cases A with
   | none => cases ha
   | some a => cases ha; exact ⟨a, rfl, (Go.Kit.add_block a lo).symm⟩
theorem head_bytes (A : Option Addr) (n c k : Nat) (hk : k ≤ c) (W : World) : (Instr.slice 22 (.slice A n c) none (some (.int .i64 (k : Int))) none).run Tryz.prog W = .ok (.slice A k c) W := by
 obtain ⟨i0, hi0, hz0, hz1, hz2⟩ := info_parts u8_info
 have hel : Tryz.prog.elem 22 = 5 := by simp [Program.elem, Tryz.underlying22]
 have hu : Tryz.prog.underlying 22 = some (.slice (Tryz.prog.elem 22)) := by rw [hel]; exact Tryz.underlying22
 rw [run_slice_h W 22 A n c hu .i64 (k : Int) (Int.natCast_nonneg _) (by omega), hel]
 cases A <;> simp [sizeOf, typeInfo, hi0, hz1, sliced, Result.andThen, Addr.add]
end Go.Proofs.YtpjpgcjhdbiepaaGreat
end
section
namespace Go.Proofs.YtpjpgcjhdbiepaaGreat
open Go.RowKit Go.Kit Go.Proofs.YtpjpgcjhdbiepaaGreatW.PrintWords
section
variable {w w1 : World} {r n c : Nat} {A : Option Addr} {D : Rd} {S : Nat → Prop}
attribute [-go_sem] run_slice_lh run_slice_any
set_option maxHeartbeats 2000000 in
set_option maxRecDepth 100000 in
theorem Raw_any (h : RS w r A n c D) (m : Int) (hm1 : m ≤ 9223372036854775807) : Calls Tryz.prog 89 #[.pointer (some ⟨r, 0, none⟩), .int .i64 m] w fun e w' => ∃ D1 v xs, e = .returned v ∧ Hid (rawS D m = (D1, xs)) ∧ OB 5 w' w.heap.size v xs ∧ RS w' r A n c D1 ∧ Only w w' (fun k => k = r) := by
 have h1 := h.r1
 have hf1 := h.fr 1
 have hm := h.max
 have hlo := h.low
 by_cases hw : D.why = 0
 ·have HW := Lib.hid hw
  have HL := Lib.hid h.row.len
  go_enter Tryz.func89, Tryz.ntmps89
  go_wp2_with fail
  refine (well_any h true (by simpa using hw)).mono ?_
  rintro e w2 ⟨rfl, rfl⟩
  clear hw
  by_cases hneg : m < 0
  ·have HF : Hid (rawS D m = (D.fail 1 D.at_, [])) := Lib.hid (by
    unfold rawS
    rw [if_neg (by rw [HW.out]; simp), if_pos hneg])
   go_wp2_with fail
   refine (fails_any h 1 D.at_ (by decide)).mono ?_
   rintro e w4 ⟨rfl, hs, ho⟩
   go_wp2_with fail
   go_ret
   exact ⟨_, _, [], rfl, HF, OB.nil _ _ _, hs, ho⟩
  ·go_wp2_with fail
   refine (left_any h).mono ?_
   rintro e w3 ⟨rfl, kq, rfl⟩
   have ho := (Only.refl w2 (fun k => k = r)).drewN kq
   replace h := h.drewN kq
   by_cases hx : (n : Int) - (D.at_ : Int) < m
   ·have HF : Hid (rawS D m = (D.fail 4 D.at_, [])) := Lib.hid (by
     unfold rawS
     rw [if_neg (by rw [HW.out]; simp), if_neg (by omega), if_pos (by rw [HL.out]; exact hx)])
    go_wp2_with fail
    refine (fails_any h 4 D.at_ (by decide)).mono ?_
    rintro e w4 ⟨rfl, hs, ho2⟩
    have ho3 := ho.same ho2
    go_wp2_with fail
    go_ret
    exact ⟨_, _, [], rfl, HF, OB.nil _ _ _, hs, ho3⟩
   ·obtain ⟨mn, rfl⟩ := Int.eq_ofNat_of_zero_le (show 0 ≤ m by omega)
    have HF : Hid (rawS D (mn : Int) = (D.to (D.at_ + mn), (D.bs.drop D.at_).take mn)) := Lib.hid (by
     unfold rawS
     rw [if_neg (by rw [HW.out]; simp), if_neg (by omega), if_neg (by rw [HL.out]; exact hx)]
     rfl)
    have hs := h.set1 ((D.at_ : Int) + (mn : Int)) (D.at_ + mn) (by omega) (by omega)
    replace ho := ho.set r 1 (.int .i64 ((D.at_ : Int) + (mn : Int))) (.inl rfl)
    have hw2 : IntKind.i64.wrap ((D.at_ : Int) + (mn : Int) - (mn : Int)) = (D.at_ : Int) := by rw [IntWalk.i64_in _ ⟨by omega, by omega⟩]; omega
    have hsub : (D.at_ : Int) + (mn : Int) - (mn : Int) = (D.at_ : Int) := by omega
    have hxx : (mn : Int) ≤ (n : Int) - (D.at_ : Int) := by omega
    clear hx
    go_wp2_with fail
    generalize (w2.drewN kq).setCell ⟨r, 1, none⟩ (.int .i64 ((D.at_ : Int) + (mn : Int))) = wz at *
    have d0 := hs.r0
    have d1 : wz.cell? ⟨r, 1, none⟩ = some (.int .i64 ((D.at_ : Int) + (mn : Int))) := hs.r1
    clear h1 hf1
    have hcc := hs.cap
    obtain ⟨A', hcut, hA', hAb⟩ := mid_bytes A n c D.at_ (D.at_ + mn) (by omega) (by omega) hcc
    replace hcut := hcut (D.at_ : Int) ((D.at_ : Int) + (mn : Int)) rfl (by omega)
    have hrm := hA' _ _ hs.row
    have hmn : D.at_ + mn - D.at_ = mn := by omega
    rw [hmn] at hcut hrm
    clear hA' hAb hmn
    have hrd := hrm.drew
    have hsd := hs.drewN 1
    have hod := ho.drewN 1
    clear hrm hs ho h
    go_still_tail 17, (by kernel_rfl)
    clear d0 d1
    change wpList _ _ _ _ _ wz.drew
    change RS wz.drew r A n c _ at hsd
    change Only w2 wz.drew _ at hod
    generalize wz.drew = wv at *
    go_wp2_with fail
    rw [hcut]
    go_wp2_with fail
    refine (fresh_any A' mn _ 0 _ _ hrd (by omega)).mono ?_
    rintro e w4 ⟨v, rfl, hO, hb⟩
    have hs := hsd.below hb
    have ho2 := hod.below hb
    replace hO := hO.less hod.size
    go_wp2_with fail
    go_ret
    exact ⟨_, v, _, rfl, HF, hO, hs, ho2⟩
 ·have HF : Hid (rawS D m = (D, [])) := Lib.hid (by unfold rawS; rw [if_pos hw])
  go_enter Tryz.func89, Tryz.ntmps89
  go_wp2_with fail
  refine (well_any h false (by simpa using hw)).mono ?_
  rintro e w2 ⟨rfl, rfl⟩
  clear hw
  go_wp2_with fail
  go_ret
  exact ⟨_, _, [], rfl, HF, OB.nil _ _ _, h, Only.refl _ _⟩
end
end Go.Proofs.YtpjpgcjhdbiepaaGreat
end
section
namespace Go.Proofs.YtpjpgcjhdbiepaaGreat
open Go.RowKit Go.Kit Go.Proofs.YtpjpgcjhdbiepaaGreatW.PrintWords
section
variable {w w1 : World} {r n c : Nat} {A : Option Addr} {D : Rd} {S : Nat → Prop}
set_option maxHeartbeats 1000000 in
theorem At_any (h : RS w r A n c D) : Calls Tryz.prog 87 #[.pointer (some ⟨r, 0, none⟩)] w fun e w' => e = .returned (.int .i64 (D.at_ : Int)) ∧ w' = w := by
 have h1 := h.r1
 go_enter Tryz.func87, Tryz.ntmps87
 go_wp2_with fail
 go_ret
 exact ⟨rfl, rfl⟩
def faultV (x y : Int) : Array Value := #[.int .i64 x, .int .i64 y]
theorem fault_size (x y : Int) : (Tryz.prog.info? 28).map (·.size) = some (faultV x y).size := by
 have h : (Tryz.prog.info? 28).map (·.size) = some 2 := by kernel_rfl
 exact h
set_option maxHeartbeats 2000000 in
theorem Fault_any (h : RS w r A n c D) : Calls Tryz.prog 86 #[.pointer (some ⟨r, 0, none⟩)] w fun e w' => e = .returned (.agg #[.int .i64 D.why, .int .i64 D.wat]) ∧ Below w.heap.size w w' := by
 have H := Lib.hid h
 have hbel := below_alloc (Below.refl w.heap.size w) (.cells #[.int .i64 0, .int .i64 0] 28)
 have hz := heap_alloc_new w (.cells #[.int .i64 0, .int .i64 0] 28)
 clear h
 go_enter Tryz.func86, Tryz.ntmps86
 go_upto_region 1 with (fail)
 show Code.wp _ _ _ _ (w.alloc (.cells #[.int .i64 0, .int .i64 0] 28))
 generalize w.alloc (.cells #[.int .i64 0, .int .i64 0] 28) = w1 at *
 have hS := H.out.below hbel
 have h2 := hS.r2
 have h3 := hS.r3
 have h4 := hS.r4
 clear hS
 go_wp2_with (with_reducible show wpList _ _ _ (Oper.mk none _ _ _ _ _ :: _) _ _; refine wpList_store_row rfl 28 (.tmp 2) (.tmp 17) rfl w.heap.size (faultV D.why D.wat) rfl rfl 28 _ hz (fault_size D.why D.wat) rfl (by simp [faultV, Value.oneCell']) ?_)
 exact bodyPost_ret (v := .agg (faultV D.why D.wat)) (results_cell_row rfl _ _ w.heap.size 28 (faultV D.why D.wat) (0, 0) _ rfl (setRow_heap _ _ _ _ _ _ hz) Tryz.underlying28 rfl (fault_size D.why D.wat)) rfl ⟨rfl, below_setRow hbel (Nat.le_refl _) _⟩
set_option maxHeartbeats 2000000 in
theorem End_any (h : RS w r A n c D) : Calls Tryz.prog 91 #[.pointer (some ⟨r, 0, none⟩)] w fun e w' => e = .returned (.agg #[.int .i64 (endS D).why, .int .i64 (endS D).wat]) ∧ RS w' r A n c (endS D) ∧ Only w w' (fun k => k = r) := by
 have H := Lib.hid h
 have hbel := below_alloc (Below.refl w.heap.size w) (.cells #[.int .i64 0, .int .i64 0] 28)
 have hz := heap_alloc_new w (.cells #[.int .i64 0, .int .i64 0] 28)
 have hre : r < w.heap.size := lt_of_block h.rk
 have hgA : ∀ a, A = some a → a.block ≠ w.heap.size := fun a e => Nat.ne_of_lt (h.old a e)
 have hL := h.row.len
 obtain ⟨D1, hD1⟩ : ∃ D1, endS D = D1 := ⟨_, rfl⟩
 rw [hD1]
 have HD := Lib.hid hD1
 clear h hD1
 go_enter Tryz.func91, Tryz.ntmps91
 go_upto_region 1 with (fail)
 show Code.wp _ _ _ _ (w.alloc (.cells #[.int .i64 0, .int .i64 0] 28))
 generalize hw1 : w.alloc (.cells #[.int .i64 0, .int .i64 0] 28) = w1 at *
 clear hw1
 have hS := H.out.below hbel
 have hgr : w.heap.size ≠ r := by omega
 have hbelw := hbel
 generalize hg : w.heap.size = g at hbel hz hre hgA hgr ⊢
 have HG := Lib.hid hg
 have HL := Lib.hid hL
 clear hg hL
 by_cases hw : D.why = 0
 ·have HW := Lib.hid hw
  go_wp2_with fail
  refine (well_any hS true (by simpa using hw)).mono ?_
  rintro e w2 ⟨rfl, rfl⟩
  clear hw
  go_wp2_with fail
  refine (left_any hS).mono ?_
  rintro e w3 ⟨rfl, k, rfl⟩
  by_cases hl : D.at_ < n
  ·obtain rfl : D1 = D.fail 6 D.at_ := HD.out.symm.trans (by unfold endS; rw [if_pos ⟨HW.out, by rw [HL.out]; exact hl⟩])
   have hl2 : (0 : Int) < (n : Int) - (D.at_ : Int) := by omega
   have hSk := hS.drewN k
   have h1 := hSk.r1
   clear hl
   go_wp2_with fail
   refine (fails_any hSk 6 D.at_ (by decide)).mono ?_
   rintro e w4 ⟨rfl, hs, ho⟩
   have hz4 : w4.heap[g]? = some (.cells #[.int .i64 0, .int .i64 0] 28 (0, 0)) := ho.kept hz hgr
   go_wp2_with fail
   refine (Fault_any hs).mono ?_
   rintro e w5 ⟨rfl, hb5⟩
   have hz5 : w5.heap[g]? = some (.cells #[.int .i64 0, .int .i64 0] 28 (0, 0)) := (hb5.block _ (lt_of_block hz4)).trans hz4
   go_wp2_with (with_reducible show wpList _ _ _ (Oper.mk none _ _ _ _ _ :: _) _ _; refine wpList_store_row rfl 28 (.tmp 2) (.tmp 20) rfl g (faultV 6 D.at_) rfl rfl 28 _ hz5 (fault_size _ _) rfl (by simp [faultV, Value.oneCell']) ?_)
   have hoA := (Only.of_below hbelw (fun k => k = r)).same (((Only.refl w2 (fun k => k = r)).drewN k).same ho)
   have hbg : Only w5 (w5.setRow g (faultV 6 D.at_)) (fun k => k = g) := ⟨rfl, rfl, rfl, by simp [World.setRow], fun k _ hk => setRow_other w5 g k _ hk⟩
   have hs5 := (hs.below hb5).only hbg (fun k hk e => by rcases hk with rfl | ⟨a, e1, rfl⟩; exact hgr e.symm; exact (hgA a e1) e)
   have ho5 : Only w (w5.setRow g (faultV 6 D.at_)) (fun k => k = r) := (hoA.below hb5).then_ hbg (fun k e => .inr (by rw [HG.out]; exact Nat.le_of_eq e.symm))
   exact bodyPost_ret (v := .agg (faultV 6 D.at_)) (results_cell_row rfl _ _ g 28 (faultV 6 D.at_) (0, 0) _ rfl (setRow_heap _ _ _ _ _ _ hz5) Tryz.underlying28 rfl (fault_size _ _)) rfl ⟨rfl, hs5, ho5⟩
  ·obtain rfl : D1 = D := HD.out.symm.trans (by unfold endS; rw [if_neg (by rintro ⟨_, h2⟩; rw [HL.out] at h2; exact hl h2)])
   have hl2 : (n : Int) - (D1.at_ : Int) ≤ 0 := by omega
   have hs := hS.drewN k
   have hz4 : (w2.drewN k).heap[g]? = some (.cells #[.int .i64 0, .int .i64 0] 28 (0, 0)) := hz
   have hoA := ((Only.of_below hbelw (fun k => k = r))).drewN k
   clear hl
   go_wp2_with fail
   refine (Fault_any hs).mono ?_
   rintro e w5 ⟨rfl, hb5⟩
   have hz5 : w5.heap[g]? = some (.cells #[.int .i64 0, .int .i64 0] 28 (0, 0)) := (hb5.block _ (lt_of_block hz4)).trans hz4
   go_wp2_with (with_reducible show wpList _ _ _ (Oper.mk none _ _ _ _ _ :: _) _ _; refine wpList_store_row rfl 28 (.tmp 2) (.tmp 20) rfl g (faultV D1.why D1.wat) rfl rfl 28 _ hz5 (fault_size _ _) rfl (by simp [faultV, Value.oneCell']) ?_)
   have hbg : Only w5 (w5.setRow g (faultV D1.why D1.wat)) (fun k => k = g) := ⟨rfl, rfl, rfl, by simp [World.setRow], fun k _ hk => setRow_other w5 g k _ hk⟩
   have hs5 := (hs.below hb5).only hbg (fun k hk e => by rcases hk with rfl | ⟨a, e1, rfl⟩; exact hgr e.symm; exact (hgA a e1) e)
   have ho5 : Only w (w5.setRow g (faultV D1.why D1.wat)) (fun k => k = r) := (hoA.below hb5).then_ hbg (fun k e => .inr (by rw [HG.out]; exact Nat.le_of_eq e.symm))
   exact bodyPost_ret (v := .agg (faultV D1.why D1.wat)) (results_cell_row rfl _ _ g 28 (faultV D1.why D1.wat) (0, 0) _ rfl (setRow_heap _ _ _ _ _ _ hz5) Tryz.underlying28 rfl (fault_size _ _)) rfl ⟨rfl, hs5, ho5⟩
 ·obtain rfl : D1 = D := HD.out.symm.trans (by unfold endS; rw [if_neg (by rintro ⟨h1, _⟩; exact hw h1)])
  have hs := hS
  have hoA := (Only.of_below hbelw (fun k => k = r))
  go_wp2_with fail
  refine (well_any hS false (by simpa using hw)).mono ?_
  rintro e w2 ⟨rfl, rfl⟩
  clear hw
  go_wp2_with fail
  refine (Fault_any hs).mono ?_
  rintro e w5 ⟨rfl, hb5⟩
  have hz5 : w5.heap[g]? = some (.cells #[.int .i64 0, .int .i64 0] 28 (0, 0)) := (hb5.block _ (lt_of_block hz)).trans hz
  go_wp2_with (with_reducible show wpList _ _ _ (Oper.mk none _ _ _ _ _ :: _) _ _; refine wpList_store_row rfl 28 (.tmp 2) (.tmp 20) rfl g (faultV D1.why D1.wat) rfl rfl 28 _ hz5 (fault_size _ _) rfl (by simp [faultV, Value.oneCell']) ?_)
  have hbg : Only w5 (w5.setRow g (faultV D1.why D1.wat)) (fun k => k = g) := ⟨rfl, rfl, rfl, by simp [World.setRow], fun k _ hk => setRow_other w5 g k _ hk⟩
  have hs5 := (hs.below hb5).only hbg (fun k hk e => by rcases hk with rfl | ⟨a, e1, rfl⟩; exact hgr e.symm; exact (hgA a e1) e)
  have ho5 : Only w (w5.setRow g (faultV D1.why D1.wat)) (fun k => k = r) := (hoA.below hb5).then_ hbg (fun k e => .inr (by rw [HG.out]; exact Nat.le_of_eq e.symm))
  exact bodyPost_ret (v := .agg (faultV D1.why D1.wat)) (results_cell_row rfl _ _ g 28 (faultV D1.why D1.wat) (0, 0) _ rfl (setRow_heap _ _ _ _ _ _ hz5) Tryz.underlying28 rfl (fault_size _ _)) rfl ⟨rfl, hs5, ho5⟩
end
end Go.Proofs.YtpjpgcjhdbiepaaGreat
end
section
namespace Go.Proofs.YtpjpgcjhdbiepaaGreat
open Go.RowKit Go.Kit Go.Proofs.YtpjpgcjhdbiepaaGreatW.PrintWords
theorem str_info : (Tryz.prog.info? 9).map (fun i => (i.zero, i.size, i.bytes)) = some (some (.string ByteArray.empty), 1, 16) := by kernel_rfl
end Go.Proofs.YtpjpgcjhdbiepaaGreat
end
