/- Footprints: a call turns the blocks of a set alone, and what is new. No program in it. -/
import Derived.Test.YtodhcgidmdeifaaKit
import Derived.Test.YtodhcgidmdeifaaKit2
import Derived.Test.YtodhcgidmdeifaaWMore
namespace Go.Kit
open Go.RowKit Go.Proofs.YtodhcgidmdeifaaW.PrintWords
theorem max2_is {k : IntKind} {a b x : Int} (h : max a b = x) : Builtin.max2 (.int k a) (.int k b) = pure (.int k x) := by
  rw [Go.Proofs.YtodhcgidmdeifaaW.PrintMore.max2_int, ← h]
  congr 2
  split <;> omega
theorem min2_is {k : IntKind} {a b x : Int} (h : min a b = x) : Builtin.min2 (.int k a) (.int k b) = pure (.int k x) := by
  rw [Go.Proofs.YtodhcgidmdeifaaW.PrintMore.min2_int, ← h]
  congr 2
  split <;> omega
/-- The post of one operation: what follows, or its panic. -/
def upQ (K : Act → World → Prop) (Q : Exit → Act → World → Prop) : Exit → Act → World → Prop
  | .normal, a, w => K a w
  | .panic c, a, w => Q (.panic c) a w
  | _, _, _ => False
/-- One operation of a region that draws, as a list of its own: what is told of lists serves there. -/
theorem at_list {P : Program} {ops : Array Oper} {o : Oper} {a : Act} {w : World} {K : Act → World → Prop} {Q : Exit → Act → World → Prop} {E : Prop} (hw : Region.wanted o (yielded ops a.tmps) = true)
    (h : ∀ Q2 : Exit → Act → World → Prop, (∀ a w, K a w → Q2 .normal a w) → wpList P ops Q2 [o] a w) : if Region.wanted o (yielded ops a.tmps) = true then Oper.wp P o a w K Q else E := by
  have h1 := h (upQ K Q) (fun _ _ h => h)
  unfold wpList at h1
  rw [if_pos hw] at h1 ⊢
  have hout : LetsOut (upQ K Q) → False := fun ⟨_, _, hf⟩ => hf
  rcases h1 with h1 | ⟨_, h1⟩
  · unfold Oper.wp at h1 ⊢
    generalize (execOp a.eval o).run P w = r at h1 ⊢
    unfold Oper.upon at h1 ⊢
    split at h1
    · exact h1
    · exact h1
    · exact h1
    · refine Calls.mono h1 ?_
      intro e w1 h2
      cases e with
      | returned v => exact h2
      | panicked c => exact h2
      | outgrown => exact (hout h2).elim
    · exact h1
    · exact h1
    · exact h1.elim
  · exact (hout h1).elim
/-- All but the blocks of S stand as they did. -/
structure Only (w w1 : World) (S : Nat → Prop) : Prop where
  os : w1.os = w.os
  tape : w1.tape = w.tape
  output : w1.output = w.output
  size : w.heap.size ≤ w1.heap.size
  block : ∀ k, k < w.heap.size → ¬ S k → w1.heap[k]? = w.heap[k]?
/-- Two footprints have nothing in common. -/
def Sep (F G : Nat → Prop) : Prop := ∀ k, F k → ¬ G k
/-- G is of F, or new since w. -/
def Onto (w : World) (F G : Nat → Prop) : Prop := ∀ k, G k → F k ∨ w.heap.size ≤ k
/-- It stands. -/
def Old (w : World) (F : Nat → Prop) : Prop := ∀ k, F k → k < w.heap.size
/-- A row's footprint. -/
def rf (v : Value) (k : Nat) : Prop := v.ownBlock = some k
section
variable {w w1 w2 : World} {S T F G : Nat → Prop}
theorem Only.refl (w : World) (S : Nat → Prop) : Only w w S := ⟨rfl, rfl, rfl, Nat.le_refl _, fun _ _ _ => rfl⟩
theorem Only.mono (h : Only w w1 S) (hs : ∀ k, S k → T k) : Only w w1 T := ⟨h.os, h.tape, h.output, h.size, fun k hk hn => h.block k hk (fun e => hn (hs k e))⟩
theorem Only.of_below (h : Below w.heap.size w w1) (S : Nat → Prop) : Only w w1 S := ⟨h.os, h.tape, h.output, h.size, fun k hk _ => h.block k hk⟩
theorem Only.then_ (h : Only w w1 S) (k : Only w1 w2 T) (hs : Onto w S T) : Only w w2 S :=
  ⟨k.os.trans h.os, k.tape.trans h.tape, k.output.trans h.output, Nat.le_trans h.size k.size, fun i hi hn => (k.block i (Nat.lt_of_lt_of_le hi h.size) (fun e => (hs i e).elim hn (fun h2 => absurd hi (by omega)))).trans (h.block i hi hn)⟩
theorem Only.same (h : Only w w1 S) (k : Only w1 w2 S) : Only w w2 S := h.then_ k (fun _ e => .inl e)
theorem Only.below (h : Only w w1 S) (hb : Below w1.heap.size w1 w2) : Only w w2 S := h.then_ (T := fun _ => False) (Only.of_below hb _) (fun _ e => e.elim)
theorem Only.alloc (h : Only w w1 S) (o : Obj) : Only w (w1.alloc o) S := h.below (below_alloc (Below.refl _ _) o)
theorem Only.drewN (h : Only w w1 S) (m : Nat) : Only w (w1.drewN m) S := h.below (pw_below_drewN (Below.refl _ _) m)
theorem Only.drew (h : Only w w1 S) : Only w w1.drew S := h.drewN 1
theorem Only.grown (h : Only w w1 S) {row : Option Nat} (hg : w1.grownBy w2 row) (hr : ∀ k, row = some k → S k ∨ w.heap.size ≤ k) : Only w w2 S :=
  h.then_ (T := fun k => row = some k) ⟨hg.os, hg.tape, hg.output, hg.size, fun k hk hn => hg.block k hk (fun e => hn e.symm)⟩ (fun k e => hr k e)
theorem grown_refl (W : World) : W.grownBy W none := ⟨rfl, rfl, rfl, Nat.le_refl _, fun _ _ _ => rfl⟩
theorem grown_set (W : World) (g j : Nat) (v : Value) : W.grownBy (W.setCell ⟨g, j, none⟩ v) (some g) :=
  ⟨rfl, rfl, rfl, Nat.le_of_eq (World.size_setCell W _ v).symm, fun k _ hk => Below.heap_setCell _ _ _ k (fun e => hk (by rw [e]))⟩
theorem Only.set (h : Only w w1 S) (g j : Nat) (v : Value) (hg : S g ∨ w.heap.size ≤ g) : Only w (w1.setCell ⟨g, j, none⟩ v) S := h.grown (grown_set w1 g j v) (fun k e => by cases e; exact hg)
/-- Seen from a world before, in which nothing of S was there. -/
theorem Below.only {B : Nat} (hb : Below B w w1) (h : Only w1 w2 S) (hB : B ≤ w1.heap.size) (hs : ∀ k, S k → B ≤ k) : Below B w w2 :=
  ⟨h.os.trans hb.os, h.tape.trans hb.tape, h.output.trans hb.output, Nat.le_trans hb.size h.size, fun k hk => (h.block k (by omega) (fun e => by have := hs k e; omega)).trans (hb.block k hk)⟩
theorem Only.of_new (h : Only w w1 S) (hs : ∀ k, S k → w.heap.size ≤ k) : Below w.heap.size w w1 := Below.only (Below.refl _ w) h (Nat.le_refl _) hs
theorem Onto.refl (w : World) (F : Nat → Prop) : Onto w F F := fun _ h => .inl h
theorem Onto.trans {H : Nat → Prop} (h : Onto w F G) (k : Onto w1 G H) (hs : w.heap.size ≤ w1.heap.size) : Onto w F H := fun i hi => (k i hi).elim (fun e => h i e) (fun e => .inr (by omega))
theorem Sep.symm (h : Sep F G) : Sep G F := fun k hg hf => h k hf hg
theorem Sep.onto {H : Nat → Prop} (h : Sep F H) (ho : Onto w F G) (hH : Old w H) : Sep G H := fun k hg hh => (ho k hg).elim (fun e => h k e hh) (fun e => by have := hH k hh; omega)
theorem Old.later (h : Old w F) (hs : w.heap.size ≤ w1.heap.size) : Old w1 F := fun k hk => by have := h k hk; omega
theorem Sep.new (hH : Old w F) (hG : ∀ k, G k → w.heap.size ≤ k) : Sep F G := fun k hf hg => by have := hH k hf; have := hG k hg; omega
theorem Only.kept {k : Nat} {o : Obj} (h : Only w w1 S) (hg : w.heap[k]? = some o) (hn : ¬ S k) : w1.heap[k]? = some o := by
  rcases Nat.lt_or_ge k w.heap.size with h1 | h1
  · exact (h.block k h1 hn).trans hg
  · rw [Array.getElem?_eq_none h1] at hg; cases hg
theorem lt_of_block {k : Nat} {o : Obj} (hg : w.heap[k]? = some o) : k < w.heap.size := by
  rcases Nat.lt_or_ge k w.heap.size with h1 | h1
  · exact h1
  · rw [Array.getElem?_eq_none h1] at hg; cases hg
end
section
variable {e : TypeId} {w w1 : World} {base : Nat} {v : Value} {xs : List Int} {S : Nat → Prop}
theorem OB.only (h : OB e w base v xs) (ho : Only w w1 S) (hs : Sep (rf v) S) : OB e w1 base v xs := by
  refine ⟨⟨h.own.1, ?_⟩, h.byt⟩
  rcases h.own.2 with h1 | ⟨g, cap, cur, h1, h2, h3, h4⟩
  · exact .inl h1
  · exact .inr ⟨g, cap, cur, h1, h2, ho.kept h3 (hs g (by rw [h1]; rfl)), h4⟩
theorem OB.old (h : OB e w base v xs) : Old w (rf v) := fun k hk => by
  rcases h.own.2 with ⟨h1, _⟩ | ⟨g, cap, cur, h1, h2, h3, h4⟩
  · rw [h1] at hk; cases hk
  · rw [h1] at hk; cases hk; exact lt_of_block h3
theorem OB.from (h : OB e w base v xs) : ∀ k, rf v k → base ≤ k := fun k hk => by
  rcases h.own.2 with ⟨h1, _⟩ | ⟨g, cap, cur, h1, h2, h3, h4⟩
  · rw [h1] at hk; cases hk
  · rw [h1] at hk; cases hk; exact h2
theorem RB.only {A : Option Addr} {n : Nat} (h : RB w A n xs) (hb : Below w.heap.size w w1) : RB w1 A n xs := h.below hb
theorem Only.cell (ho : Only w w1 S) {a : Addr} {u : Value} (h : w.cell? a = some u) (hs : ¬ S a.block) : w1.cell? a = some u := by
  have hlt : a.block < w.heap.size := by
    rcases Nat.lt_or_ge a.block w.heap.size with h1 | h1
    · exact h1
    · simp [World.cell?, Array.getElem?_eq_none h1] at h
  rw [World.cell?_of_block (ho.block _ hlt hs)]; exact h
theorem add_block (a : Addr) (j : Nat) : (a.add j).block = a.block := by unfold Addr.add; split <;> rfl
theorem RB.apart {A : Option Addr} {n : Nat} (h : RB w A n xs) (ho : Only w w1 S) (hs : ∀ a, A = some a → ¬ S a.block) : RB w1 A n xs := by
  refine ⟨⟨h.rd.1, h.rd.2.1, fun hp => ?_⟩, h.byt⟩
  obtain ⟨a, e, hc⟩ := h.rd.2.2 hp
  exact ⟨a, e, fun j hj => ho.cell (hc j hj) (by rw [add_block]; exact hs a e)⟩
/-- A block that is neither of a type's rows is none of its rows. -/
theorem OB.not_block (h : OB e w base v xs) {k : Nat} {cs : Array Value} {t : TypeId} {fr : Nat × Nat} (hk : w.heap[k]? = some (.cells cs t fr)) (ht : t ≠ e) : ¬ rf v k := fun hr => by
  rcases h.own.2 with ⟨h1, _⟩ | ⟨g, cap, cur, h1, h2, h3, h4⟩
  · rw [h1] at hr; cases hr
  · rw [h1] at hr; cases hr
    rw [hk] at h3
    simp only [Option.some.injEq, Obj.cells.injEq] at h3
    exact ht h3.2.1
theorem heap_set_same (w : World) (g i : Nat) (cs : Array Value) (t : TypeId) (v : Value) (hg : w.heap[g]? = some (.cells cs t (0, 0))) : (w.setCell ⟨g, i, none⟩ v).heap[g]? = some (.cells (cs.setIfInBounds i v) t (0, 0)) := by
  have := heap_setCell_same w g i cs t v hg
  exact this
end
end Go.Kit
