/- More words: a byte, a text, a row laid behind bytes of the call's own. No program in it. -/
import Derived.Test.YtodhcgidmdeifaaKit3
namespace Go.Kit
open Go.RowKit Go.Proofs.YtodhcgidmdeifaaW.PrintWords
section
variable {P : Program} {ops : Array Oper} {rest : List Oper} {o : Oper} {a : Act} {Q : Exit → Act → World → Prop} {w0 W : World} {e : TypeId} {v : Value} {xs : List Int}
/-- append(v, y), the byte's box just laid. -/
theorem push_byte (base : Nat) (hgd : o.guard = none) (s x : Operand) (t : TypeId) (y : Int)
    (ho : o.op = .call { callee := .builtin .append, args := #[s, x], argTypes := #[t, t] })
    (ht : P.underlying t = some (.slice e)) (hinfo : (P.info? e).map (fun i => (i.zero, i.size, i.bytes)) = some (some (.int .u8 0), 1, 1))
    (hs : a.eval s = v) (hx : a.eval x = .slice (some ⟨W.heap.size, 0, none⟩) 1 1)
    (HO : OB e W base v xs) (HB : Below base w0 W) (hbase : base ≤ W.heap.size) (hl : xs.length + 1 ≤ 140737488355328) (h0 : 0 ≤ y) (h1 : y < 256)
    (h : ∀ v1 w1, OB e w1 base v1 (xs ++ [y]) → Below base w0 w1 → W.grownBy w1 v.ownBlock → (v1.ownBlock = v.ownBlock ∨ ∃ b, v1.ownBlock = some b ∧ W.heap.size ≤ b) → wpList P ops Q rest (a.put o.dst v1) w1) :
    wpList P ops Q (o :: rest) a (W.alloc (.cells #[.int .u8 y] e)) :=
  print_append_num base hgd s x t e .u8 1 ho ht hinfo (by decide) v xs y hs hx HO.own HB hbase (by omega) fun v1 w1 hown hB hg hat => h v1 w1 ⟨hown, HO.byt.append (Byt.one h0 h1)⟩ hB hg hat
/-- append(v, ys...). -/
theorem push_row (base : Nat) (hgd : o.guard = none) (s x : Operand) (t : TypeId) (ys : List Int) (A : Option Addr) (m c : Nat)
    (ho : o.op = .call { callee := .builtin .append, args := #[s, x], argTypes := #[t, t] })
    (ht : P.underlying t = some (.slice e)) (hinfo : (P.info? e).map (fun i => (i.zero, i.size, i.bytes)) = some (some (.int .u8 0), 1, 1))
    (hs : a.eval s = v) (hx : a.eval x = .slice A m c)
    (HO : OB e W base v xs) (HR : RB W A m ys) (HB : Below base w0 W) (hbase : base ≤ W.heap.size) (hl : xs.length + m ≤ 140737488355328)
    (h : ∀ v1 w1, OB e w1 base v1 (xs ++ ys) → Below base w0 w1 → W.grownBy w1 v.ownBlock → (v1.ownBlock = v.ownBlock ∨ ∃ b, v1.ownBlock = some b ∧ W.heap.size ≤ b) → wpList P ops Q rest (a.put o.dst v1) w1) :
    wpList P ops Q (o :: rest) a W :=
  print_append_row base hgd s x t e .u8 1 ho ht hinfo (by decide) v xs ys A m c hs hx HO.own HR.rd HB hbase (by omega) fun v1 w1 hown hB hg hat => h v1 w1 ⟨hown, HO.byt.append HR.byt⟩ hB hg hat
theorem bytesOf_byt (s : ByteArray) : Byt (bytesOf s) := fun x hx => by
  simp only [bytesOf, List.mem_map] at hx
  obtain ⟨b, _, rfl⟩ := hx
  have := b.toNat_lt
  omega
/-- append(v, s...), s a text. -/
theorem push_text (base : Nat) (hgd : o.guard = none) (s x : Operand) (t u : TypeId) (y : ByteArray)
    (ho : o.op = .call { callee := .builtin .append, args := #[s, x], argTypes := #[t, u] })
    (ht : P.underlying t = some (.slice e)) (hu : P.underlying u = some .string) (hinfo : (P.info? e).map (fun i => (i.zero, i.size, i.bytes)) = some (some (.int .u8 0), 1, 1))
    (hs : a.eval s = v) (hx : a.eval x = .string y)
    (HO : OB e W base v xs) (HB : Below base w0 W) (hbase : base ≤ W.heap.size) (hl : xs.length + y.size ≤ 140737488355328)
    (h : ∀ v1 w1, OB e w1 base v1 (xs ++ bytesOf y) → Below base w0 w1 → W.grownBy w1 v.ownBlock → wpList P ops Q rest (a.put o.dst v1) w1) :
    wpList P ops Q (o :: rest) a W :=
  print_append_str base hgd s x t u e ho ht hu hinfo v xs y hs hx HO.own HB hbase hl fun v1 w1 hown hB hg => h v1 w1 ⟨hown, HO.byt.append (bytesOf_byt y)⟩ hB hg
end
/-- A row that is new, beside one that is not. -/
theorem apart_new {v1 v2 : Value} {n : Nat} (hge : ∀ k, rf v1 k → n ≤ k) (hlt : ∀ k, rf v2 k → k < n) : v1.ownBlock = none ∨ v1.ownBlock ≠ v2.ownBlock := by
  cases h1 : v1.ownBlock with
  | none => exact .inl rfl
  | some k => exact .inr (fun e => by have := hge k h1; have := hlt k e.symm; omega)
end Go.Kit
