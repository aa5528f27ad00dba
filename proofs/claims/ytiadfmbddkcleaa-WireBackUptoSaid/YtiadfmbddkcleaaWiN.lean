/- Readers: the plain law of what is read. No program in it. -/
import Derived.Test.YtiadfmbddkcleaaWiM
import Derived.Laws.Bits64b
import Derived.IntWalk
namespace Go.Kit
open Go.RowKit Go.Proofs.YtiadfmbddkcleaaW.PrintWords
/-- The short number with which bytes begin, k of its bytes being read: it, how many bytes it has, and the error. -/
def numR : List Int → Nat → Nat → Nat × Nat × Int
  | [], _, _ => (0, 0, 4)
  | c :: l, k, acc => if k = 9 ∧ 1 < c then (0, 0, 10) else if c < 128 then (if c = 0 ∧ 0 < k then (0, 0, 5) else (acc + c.toNat % 128 * 128 ^ k, k + 1, 0)) else numR l (k + 1) (acc + c.toNat % 128 * 128 ^ k)
def num (bs : List Int) (at_ : Nat) : Nat × Nat × Int := numR (bs.drop at_) 0 0
/-- A reader's state. -/
structure Rd where
  bs : List Int
  at_ : Nat
  why : Int
  wat : Int
def Rd.ok (D : Rd) : Prop := Byt D.bs ∧ D.at_ ≤ D.bs.length ∧ (D.why = 0 → D.wat = 0)
def Rd.fail (D : Rd) (e : Int) (a : Nat) : Rd := { D with why := e, wat := (a : Int) }
def Rd.to (D : Rd) (a : Nat) : Rd := { D with at_ := a }
def Rd.new (bs : List Int) : Rd := ⟨bs, 0, 0, 0⟩
/-- What a read number says, and where it leaves the reader. -/
def uintS (D : Rd) : Rd × Nat :=
  if D.why ≠ 0 then (D, 0) else
    if (num D.bs D.at_).2.2 ≠ 0 then (D.fail (num D.bs D.at_).2.2 D.at_, 0) else (D.to (D.at_ + (num D.bs D.at_).2.1), (num D.bs D.at_).1)
/-- The number with a sign. -/
def unzig (n : Nat) : Int := if n % 2 = 0 then ((n / 2 : Nat) : Int) else -((n / 2 : Nat) : Int) - 1
def countS (D : Rd) (most : Int) : Rd × Nat :=
  if D.why ≠ 0 then (D, 0) else if most < 0 then (D.fail 1 D.at_, 0) else
    if (num D.bs D.at_).2.2 ≠ 0 then (D.fail (num D.bs D.at_).2.2 D.at_, 0) else
      if most < ((num D.bs D.at_).1 : Int) then (D.fail 11 D.at_, 0) else (D.to (D.at_ + (num D.bs D.at_).2.1), (num D.bs D.at_).1)
def byteS (D : Rd) : Rd × Int :=
  if D.why ≠ 0 then (D, 0) else if D.bs.length ≤ D.at_ then (D.fail 4 D.at_, 0) else (D.to (D.at_ + 1), D.bs.getD D.at_ 0)
def boolS (D : Rd) : Rd × Bool :=
  if D.why ≠ 0 then (D, false) else if D.bs.length ≤ D.at_ then (D.fail 4 D.at_, false) else
    if 1 < D.bs.getD D.at_ 0 then (D.fail 5 D.at_, false) else (D.to (D.at_ + 1), D.bs.getD D.at_ 0 == 1)
def rawS (D : Rd) (n : Int) : Rd × List Int :=
  if D.why ≠ 0 then (D, []) else if n < 0 then (D.fail 1 D.at_, []) else
    if ((D.bs.length : Int) - D.at_) < n then (D.fail 4 D.at_, []) else (D.to (D.at_ + n.toNat), (D.bs.drop D.at_).take n.toNat)
/-- The text at a place: it, where it ends, the error. -/
def textAt (bs : List Int) (at_ : Nat) (most : Int) : ByteArray × Nat × Int :=
  if (num bs at_).2.2 ≠ 0 then (ByteArray.empty, 0, (num bs at_).2.2) else if most < ((num bs at_).1 : Int) then (ByteArray.empty, 0, 3) else
    if bs.length < at_ + (num bs at_).2.1 + (num bs at_).1 then (ByteArray.empty, 0, 4) else
      (strOfNums ((bs.drop (at_ + (num bs at_).2.1)).take (num bs at_).1), at_ + (num bs at_).2.1 + (num bs at_).1, 0)
def textS (D : Rd) (most : Int) : Rd × ByteArray :=
  if D.why ≠ 0 then (D, ByteArray.empty) else if most < 0 then (D.fail 1 D.at_, ByteArray.empty) else
    if (textAt D.bs D.at_ most).2.2 ≠ 0 then (D.fail (textAt D.bs D.at_ most).2.2 D.at_, ByteArray.empty) else (D.to (textAt D.bs D.at_ most).2.1, (textAt D.bs D.at_ most).1)
/-- Texts from a place on: these, where they end, the error. -/
def lstR (bs : List Int) (each : Int) : Nat → Nat → List ByteArray → List ByteArray × Nat × Int
  | 0, a, acc => (acc, a, 0)
  | n + 1, a, acc => if (textAt bs a each).2.2 ≠ 0 then ([], a, (textAt bs a each).2.2) else lstR bs each n (textAt bs a each).2.1 (acc ++ [(textAt bs a each).1])
def listS (D : Rd) (most each : Int) : Rd × List ByteArray :=
  if D.why ≠ 0 then (D, []) else if most < 0 ∨ each < 0 then (D.fail 1 D.at_, []) else
    if (num D.bs D.at_).2.2 ≠ 0 then (D.fail (num D.bs D.at_).2.2 D.at_, []) else
      if most < ((num D.bs D.at_).1 : Int) then (D.fail 11 D.at_, []) else
        if (lstR D.bs each (num D.bs D.at_).1 (D.at_ + (num D.bs D.at_).2.1) []).2.2 ≠ 0 then (D.fail (lstR D.bs each (num D.bs D.at_).1 (D.at_ + (num D.bs D.at_).2.1) []).2.2 (lstR D.bs each (num D.bs D.at_).1 (D.at_ + (num D.bs D.at_).2.1) []).2.1, [])
        else (D.to (lstR D.bs each (num D.bs D.at_).1 (D.at_ + (num D.bs D.at_).2.1) []).2.1, (lstR D.bs each (num D.bs D.at_).1 (D.at_ + (num D.bs D.at_).2.1) []).1)
def failS (D : Rd) (e : Int) : Rd := if D.why = 0 ∧ e ≠ 0 then D.fail e D.at_ else D
def endS (D : Rd) : Rd := if D.why = 0 ∧ D.at_ < D.bs.length then D.fail 6 D.at_ else D
/-! What holds of numbers read. -/
theorem numR_facts : ∀ (l : List Int) (k acc : Nat), k ≤ 9 → acc < 128 ^ k → Byt l → (numR l k acc).1 < 18446744073709551616 ∧ (numR l k acc).2.1 ≤ k + l.length ∧ (numR l k acc).2.1 ≤ 10 ∧ ((numR l k acc).2.2 = 0 → 1 ≤ (numR l k acc).2.1) ∧ ((numR l k acc).2.2 = 0 ∨ (numR l k acc).2.2 = 4 ∨ (numR l k acc).2.2 = 5 ∨ (numR l k acc).2.2 = 10)
  | [], k, acc, hk, ha, hb => by simp [numR]
  | c :: l, k, acc, hk, ha, hb => by
    have hc := hb c List.mem_cons_self
    unfold numR
    by_cases h1 : k = 9 ∧ 1 < c
    · rw [if_pos h1]; simp
    · rw [if_neg h1]
      by_cases h2 : c < 128
      · rw [if_pos h2]
        by_cases h3 : c = 0 ∧ 0 < k
        · rw [if_pos h3]; simp
        · rw [if_neg h3]
          refine ⟨?_, by simp only [List.length_cons]; omega, by dsimp only; omega, fun _ => by dsimp only; omega, .inl rfl⟩
          show acc + c.toNat % 128 * 128 ^ k < 18446744073709551616
          rcases Nat.lt_or_ge k 9 with h9 | h9
          · have e1 : acc + c.toNat % 128 * 128 ^ k < 128 ^ (k + 1) := by
              have h5 : (c.toNat % 128 + 1) * 128 ^ k ≤ 128 * 128 ^ k := Nat.mul_le_mul_right _ (by omega)
              rw [Nat.add_mul] at h5
              rw [Nat.pow_succ]; omega
            have e2 : 128 ^ (k + 1) ≤ 128 ^ 9 := Nat.pow_le_pow_right (by omega) (by omega)
            have e3 : (128 : Nat) ^ 9 < 18446744073709551616 := by decide
            omega
          · have : k = 9 := by omega
            subst this
            have h5 : c.toNat % 128 ≤ 1 := by omega
            have h6 := Nat.mul_le_mul_right (128 ^ 9) h5
            have e3 : (128 : Nat) ^ 9 = 9223372036854775808 := by decide
            rw [e3] at ha h6 ⊢
            omega
      · rw [if_neg h2]
        have hk9 : k < 9 := by omega
        have e1 : acc + c.toNat % 128 * 128 ^ k < 128 ^ (k + 1) := by
          have h5 : (c.toNat % 128 + 1) * 128 ^ k ≤ 128 * 128 ^ k := Nat.mul_le_mul_right _ (by omega)
          rw [Nat.add_mul] at h5
          rw [Nat.pow_succ]; omega
        obtain ⟨g1, g2, g3, g4, g5⟩ := numR_facts l (k + 1) _ (by omega) e1 (fun x hx => hb x (List.mem_cons_of_mem _ hx))
        exact ⟨g1, by simp only [List.length_cons]; omega, g3, g4, g5⟩
theorem num_facts {bs : List Int} (hb : Byt bs) {a : Nat} (ha : a ≤ bs.length) : (num bs a).1 < 18446744073709551616 ∧ a + (num bs a).2.1 ≤ bs.length ∧ (num bs a).2.1 ≤ 10 ∧ ((num bs a).2.2 = 0 → 1 ≤ (num bs a).2.1) ∧ ((num bs a).2.2 = 0 ∨ (num bs a).2.2 = 4 ∨ (num bs a).2.2 = 5 ∨ (num bs a).2.2 = 10) := by
  obtain ⟨g1, g2, g3, g4, g5⟩ := numR_facts (bs.drop a) 0 0 (by omega) (by decide) (hb.drop a)
  rw [List.length_drop] at g2
  exact ⟨g1, by unfold num; omega, g3, g4, g5⟩
theorem numR_step {bs : List Int} {i : Nat} {c : Int} (h : bs[i]? = some c) (k acc : Nat) : numR (bs.drop i) k acc =
    if k = 9 ∧ 1 < c then (0, 0, 10) else if c < 128 then (if c = 0 ∧ 0 < k then (0, 0, 5) else (acc + c.toNat % 128 * 128 ^ k, k + 1, 0)) else numR (bs.drop (i + 1)) (k + 1) (acc + c.toNat % 128 * 128 ^ k) := by
  obtain ⟨hi, e⟩ := List.getElem?_eq_some_iff.1 h
  have hd : bs.drop i = c :: bs.drop (i + 1) := by rw [List.drop_eq_getElem_cons hi, e]
  rw [hd, numR]
theorem numR_end {bs : List Int} {i : Nat} (h : bs.length ≤ i) (k acc : Nat) : numR (bs.drop i) k acc = (0, 0, 4) := by
  rw [List.drop_of_length_le h, numR]
theorem acc_step {acc k x : Nat} (h : acc < 128 ^ k) : acc + x % 128 * 128 ^ k < 128 ^ (k + 1) := by
  have h5 : (x % 128 + 1) * 128 ^ k ≤ 128 * 128 ^ k := Nat.mul_le_mul_right _ (by omega)
  rw [Nat.add_mul] at h5
  rw [Nat.pow_succ]; omega
theorem or_shift {acc k x : Nat} (h : acc < 128 ^ k) (hk : k < 9 ∨ k = 9 ∧ x ≤ 1) : bits .or .u64 (acc : Int) (IntKind.u64.wrap ((x : Int) % 128 * 2 ^ (7 * k))) = ((acc + x % 128 * 128 ^ k : Nat) : Int) := by
  have e2 : (2 : Nat) ^ (7 * k) = 128 ^ k := by rw [Nat.pow_mul]
  have hs := acc_step (x := x) h
  have e4 : acc + x % 128 * 128 ^ k < 18446744073709551616 := by
    rcases hk with hk | ⟨rfl, hx⟩
    · have e3 : 128 ^ (k + 1) ≤ 128 ^ 9 := Nat.pow_le_pow_right (by omega) (by omega)
      have e4 : (128 : Nat) ^ 9 < 18446744073709551616 := by decide
      omega
    · have h6 := Nat.mul_le_mul_right (128 ^ 9) (show x % 128 ≤ 1 by omega)
      have e3 : (128 : Nat) ^ 9 = 9223372036854775808 := by decide
      rw [e3] at h h6 ⊢
      omega
  have e5 : ((x : Int) % 128 * 2 ^ (7 * k)) = ((x % 128 * 128 ^ k : Nat) : Int) := by
    rw [← e2]; push_cast; rfl
  rw [e5, IntWalk.u64_in _ ⟨by omega, by omega⟩, bits_or_u64_nat _ _ (by omega) (by omega)]
  congr 1
  have h7 := Nat.shiftLeft_add_eq_or_of_lt (i := 7 * k) (b := acc) (by rw [e2]; exact h) (x % 128)
  rw [Nat.shiftLeft_eq, e2] at h7
  rw [Nat.or_comm, ← h7]; omega
theorem i64_flip (a : Nat) (ha : a < 9223372036854775808) : bits .xor .i64 (a : Int) (-1) = -1 - (a : Int) := by
  show IntKind.i64.wrap ((BitVec.ofInt 64 (a : Int) ^^^ BitVec.ofInt 64 (-1)).toNat : Int) = _
  have h1 : BitVec.ofInt 64 (-1) = BitVec.allOnes 64 := by decide
  rw [h1, BitVec.xor_allOnes, BitVec.toNat_not, ofInt_u64 a (by omega)]
  simp [IntKind.wrap, IntKind.bits, IntKind.signed]
  omega
theorem i64_xor0 (a : Nat) (ha : a < 9223372036854775808) : bits .xor .i64 (a : Int) 0 = (a : Int) := by
  show IntKind.i64.wrap ((BitVec.ofInt 64 (a : Int) ^^^ BitVec.ofInt 64 0).toNat : Int) = _
  have h1 : BitVec.ofInt 64 0 = 0#64 := by decide
  rw [h1, BitVec.xor_zero, ofInt_u64 a (by omega)]
  simp [IntKind.wrap, IntKind.bits, IntKind.signed]
  omega
theorem unzig_bits (v : Nat) (h : v < 18446744073709551616) : bits .xor .i64 (wrap64 ((v : Int) / 2)) (wrap64 (-wrap64 (bits .and .u64 (v : Int) 1))) = unzig v := by
  have h1 : bits .and .u64 (v : Int) 1 = ((v % 2 : Nat) : Int) := by
    rw [show (1 : Int) = ((1 : Nat) : Int) from rfl, u64_and_nat _ _ h (by omega), Nat.and_one_is_mod]
  have h2 : wrap64 ((v : Int) / 2) = ((v / 2 : Nat) : Int) := by unfold wrap64; omega
  rw [h1, h2]
  unfold unzig
  by_cases hv : v % 2 = 0
  · have h3 : wrap64 (-wrap64 ((v % 2 : Nat) : Int)) = 0 := by rw [hv]; unfold wrap64; omega
    rw [h3, if_pos hv, i64_xor0 _ (by omega)]
  · have h3 : wrap64 (-wrap64 ((v % 2 : Nat) : Int)) = -1 := by rw [show v % 2 = 1 by omega]; unfold wrap64; omega
    rw [h3, if_neg hv, i64_flip _ (by omega)]
    omega
theorem uintS_lt {D : Rd} (hok : D.ok) {D1 : Rd} {v : Nat} (h : uintS D = (D1, v)) : v < 18446744073709551616 := by
  unfold uintS at h
  have := num_facts hok.1 hok.2.1
  split at h
  · cases h; omega
  split at h
  · cases h; omega
  · cases h; exact this.1
theorem textAt_facts {bs : List Int} (hb : Byt bs) {a : Nat} (ha : a ≤ bs.length) {most : Int} {s : ByteArray} {en : Nat} {x : Int} (h : textAt bs a most = (s, en, x)) :
    (x = 0 → en ≤ bs.length ∧ a + 1 ≤ en ∧ s.size ≤ bs.length ∧ a + 1 + s.size ≤ en) ∧ (x = 0 ∨ x = 3 ∨ x = 4 ∨ x = 5 ∨ x = 10) := by
  obtain ⟨g1, g2, g3, g4, g5⟩ := num_facts hb ha
  unfold textAt at h
  split at h
  · next hx =>
    cases h
    exact ⟨fun e => absurd e hx, by omega⟩
  split at h
  · cases h; exact ⟨fun e => by omega, by omega⟩
  split at h
  · cases h; exact ⟨fun e => by omega, by omega⟩
  · next h1 h2 h3 =>
    have := g4 (by omega)
    cases h
    refine ⟨fun _ => ⟨by omega, by omega, ?_, ?_⟩, .inl rfl⟩
    all_goals
      rw [strOfNums_size, List.length_take, List.length_drop]
      omega
theorem textAt_end {D : Rd} (hok : D.ok) {most : Int} {s : ByteArray} {en : Nat} {x : Int} (hx : x = 0) (h : textAt D.bs D.at_ most = (s, en, x)) : en ≤ D.bs.length :=
  ((textAt_facts hok.1 hok.2.1 h).1 hx).1
/-- A byte, out of one raw byte. -/
theorem byte_of_raw {D D1 : Rd} (hok : D.ok) {xs : List Int} (h : rawS D 1 = (D1, xs)) : (xs = [] ∧ byteS D = (D1, 0)) ∨ ∃ x, xs = [x] ∧ byteS D = (D1, x) ∧ 0 ≤ x ∧ x < 256 := by
  unfold rawS at h
  unfold byteS
  by_cases h1 : D.why ≠ 0
  · rw [if_pos h1] at h ⊢; cases h; exact .inl ⟨rfl, rfl⟩
  · rw [if_neg h1, if_neg (by omega)] at h
    rw [if_neg h1]
    by_cases h2 : (D.bs.length : Int) - D.at_ < 1
    · rw [if_pos h2] at h
      rw [if_pos (by omega)]
      cases h; exact .inl ⟨rfl, rfl⟩
    · rw [if_neg h2] at h
      rw [if_neg (by omega)]
      have hlt : D.at_ < D.bs.length := by omega
      have e : (D.bs.drop D.at_).take (1 : Int).toNat = [D.bs.getD D.at_ 0] := by
        rw [List.drop_eq_getElem_cons hlt, List.getD_eq_getElem?_getD, List.getElem?_eq_getElem hlt]; rfl
      rw [e] at h
      cases h
      exact .inr ⟨_, rfl, rfl, (hok.1.get _).1, (hok.1.get _).2⟩
/-- What a read number may say. -/
theorem uintS_cases {D : Rd} (hok : D.ok) (hw : D.why = 0) : (∃ m k, num D.bs D.at_ = (m, k, 0) ∧ uintS D = (D.to (D.at_ + k), m) ∧ m < 18446744073709551616 ∧ D.at_ + k ≤ D.bs.length ∧ 1 ≤ k) ∨ ∃ m k x, x ≠ 0 ∧ num D.bs D.at_ = (m, k, x) ∧ uintS D = (D.fail x D.at_, 0) := by
  obtain ⟨m, k, x, hN⟩ : ∃ m k x, num D.bs D.at_ = (m, k, x) := ⟨_, _, _, rfl⟩
  have hf := num_facts hok.1 hok.2.1
  rw [hN] at hf
  obtain ⟨g1, g2, _, g4, _⟩ := hf
  by_cases hx : x = 0
  · subst hx
    refine .inl ⟨m, k, hN, ?_, g1, g2, g4 rfl⟩
    unfold uintS
    rw [if_neg (by simpa using hw), hN, if_neg (by simp)]
  · refine .inr ⟨m, k, x, hx, hN, ?_⟩
    unfold uintS
    rw [if_neg (by simpa using hw), hN, if_pos hx]
theorem uintS_bad {D : Rd} (hw : D.why ≠ 0) : uintS D = (D, 0) := by unfold uintS; rw [if_pos hw]
theorem Rd.to_to (D : Rd) (a b : Nat) : (D.to a).to b = D.to b := rfl
theorem Rd.to_same (D : Rd) : D.to D.at_ = D := rfl
/-- A truth, out of a byte read. -/
theorem bool_of_byte {D D1 : Rd} {v : Int} (h : byteS D = (D1, v)) : (D1.why ≠ 0 ∧ boolS D = (D1, false) ∧ v = 0) ∨ (D1.why = 0 ∧ 1 < v ∧ D1 = D.to (D.at_ + 1) ∧ boolS D = (D.fail 5 D.at_, false)) ∨ (D1.why = 0 ∧ ¬ 1 < v ∧ boolS D = (D1, v == 1)) := by
  unfold byteS at h
  unfold boolS
  by_cases h1 : D.why ≠ 0
  · rw [if_pos h1] at h ⊢; cases h; exact .inl ⟨h1, rfl, rfl⟩
  · rw [if_neg h1] at h ⊢
    by_cases h2 : D.bs.length ≤ D.at_
    · rw [if_pos h2] at h ⊢; cases h; exact .inl ⟨by simp [Rd.fail], rfl, rfl⟩
    · rw [if_neg h2] at h ⊢
      cases h
      have hw : D.why = 0 := by simpa using h1
      by_cases h3 : 1 < D.bs.getD D.at_ 0
      · rw [if_pos h3]; exact .inr (.inl ⟨hw, h3, rfl, rfl⟩)
      · rw [if_neg h3]; exact .inr (.inr ⟨hw, h3, rfl⟩)
theorem textS_of {D : Rd} {most : Int} (hw : D.why = 0) (hneg : ¬ most < 0) {s : ByteArray} {en : Nat} {x : Int} (h : textAt D.bs D.at_ most = (s, en, x)) :
    textS D most = if x ≠ 0 then (D.fail x D.at_, ByteArray.empty) else (D.to en, s) := by
  unfold textS
  rw [if_neg (by simpa using hw), if_neg hneg, h]
theorem textAt_err {bs : List Int} {a : Nat} {most : Int} {m k : Nat} {x : Int} (hN : num bs a = (m, k, x)) (hx : x ≠ 0) : textAt bs a most = (ByteArray.empty, 0, x) := by
  unfold textAt; rw [hN, if_pos hx]
theorem textAt_long {bs : List Int} {a : Nat} {most : Int} {m k : Nat} (hN : num bs a = (m, k, 0)) (hm : most < (m : Int)) : textAt bs a most = (ByteArray.empty, 0, 3) := by
  unfold textAt; rw [hN, if_neg (by simp), if_pos hm]
theorem textAt_short {bs : List Int} {a : Nat} {most : Int} {m k : Nat} (hN : num bs a = (m, k, 0)) (hm : ¬ most < (m : Int)) (hf : bs.length < a + k + m) : textAt bs a most = (ByteArray.empty, 0, 4) := by
  unfold textAt; rw [hN, if_neg (by simp), if_neg hm, if_pos hf]
theorem textAt_ok {bs : List Int} {a : Nat} {most : Int} {m k : Nat} (hN : num bs a = (m, k, 0)) (hm : ¬ most < (m : Int)) (hf : ¬ bs.length < a + k + m) : textAt bs a most = (strOfNums ((bs.drop (a + k)).take m), a + k + m, 0) := by
  unfold textAt; rw [hN, if_neg (by simp), if_neg hm, if_neg hf]
end Go.Kit
