/- Short numbers, texts and lists as bytes: the plain law. No program in it. -/
import Derived.Test.YtiadfmbddkcleaaKit4
import Derived.Test.YtiadfmbddkcleaaTxt
namespace Go.Kit
open Go.RowKit Go.Proofs.YtiadfmbddkcleaaW.PrintWords
/-- A short number's bytes. -/
def sh (n : Nat) : List Int := if n < 128 then [(n : Int)] else ((n % 128 + 128 : Nat) : Int) :: sh (n / 128)
termination_by n
decreasing_by omega
theorem sh_small {n : Nat} (h : n < 128) : sh n = [(n : Int)] := by rw [sh, if_pos h]
theorem sh_big {n : Nat} (h : 128 ≤ n) : sh n = ((n % 128 + 128 : Nat) : Int) :: sh (n / 128) := by rw [sh, if_neg (by omega)]
theorem sh_byt (n : Nat) : Byt (sh n) := by
  induction n using Nat.strongRecOn with
  | ind n ih =>
    rcases Nat.lt_or_ge n 128 with h | h
    · rw [sh_small h]; exact Byt.one (by omega) (by omega)
    · rw [sh_big h]
      intro x hx
      rcases List.mem_cons.1 hx with rfl | hx
      · omega
      · exact ih _ (by omega) x hx
theorem sh_pos (n : Nat) : 0 < (sh n).length := by
  rcases Nat.lt_or_ge n 128 with h | h
  · rw [sh_small h]; simp
  · rw [sh_big h]; simp
theorem sh_length (k n : Nat) (h : n < 128 ^ (k + 1)) : (sh n).length ≤ k + 1 := by
  induction k generalizing n with
  | zero => rw [sh_small (by simpa using h)]; simp
  | succ k ih =>
    rcases Nat.lt_or_ge n 128 with h1 | h1
    · rw [sh_small h1]; simp
    · rw [sh_big h1, List.length_cons]
      have := ih (n / 128) (by rw [Nat.div_lt_iff_lt_mul (by omega)]; rw [Nat.pow_succ] at h; exact h)
      omega
theorem sh_ten {n : Nat} (h : n < 18446744073709551616) : (sh n).length ≤ 10 := sh_length 9 n (Nat.lt_of_lt_of_le h (by decide))
/-- A number with a sign, as one without. -/
def zig (n : Int) : Nat := if 0 ≤ n then (2 * n).toNat else (-2 * n - 1).toNat
theorem zig_lt {n : Int} (h0 : -9223372036854775808 ≤ n) (h1 : n ≤ 9223372036854775807) : zig n < 18446744073709551616 := by unfold zig; split <;> omega
/-- A truth's byte. -/
def tru (b : Bool) : List Int := if b then [1] else [0]
theorem tru_byt (b : Bool) : Byt (tru b) := by cases b <;> exact Byt.one (by decide) (by decide)
/-- A text's bytes, with its length ahead. -/
def txt (s : ByteArray) : List Int := sh s.size ++ bytesOf s
theorem bytesOf_len (s : ByteArray) : (bytesOf s).length = s.size := by unfold bytesOf; rw [List.length_map, Array.length_toList]; rfl
theorem txt_byt (s : ByteArray) : Byt (txt s) := (sh_byt _).append (bytesOf_byt _)
theorem txt_length {s : ByteArray} (h : s.size < 18446744073709551616) : (txt s).length ≤ 10 + s.size := by
  have := sh_ten h
  unfold txt
  rw [List.length_append, bytesOf_len]; omega
/-- Texts, one behind the other. -/
def txts (l : List ByteArray) : List Int := (l.map txt).flatten
theorem txts_byt (l : List ByteArray) : Byt (txts l) := fun x hx => by
  simp only [txts, List.mem_flatten, List.mem_map] at hx
  obtain ⟨_, ⟨s, _, rfl⟩, hx⟩ := hx
  exact txt_byt s x hx
theorem txts_snoc {l : List ByteArray} {i : Nat} {s : ByteArray} (h : l[i]? = some s) : txts (l.take (i + 1)) = txts (l.take i) ++ txt s := by
  rw [snoc h]; simp [txts]
theorem txts_length (l : List ByteArray) (B : Nat) (hB : B < 18446744073709551616) (h : ∀ s ∈ l, s.size ≤ B) : (txts l).length ≤ l.length * (10 + B) := by
  induction l with
  | nil => simp [txts]
  | cons s l ih =>
    have h1 := ih (fun x hx => h x (List.mem_cons_of_mem _ hx))
    have h2 := h s List.mem_cons_self
    have h3 := txt_length (s := s) (by omega)
    simp only [txts, List.map_cons, List.flatten_cons, List.length_append, List.length_cons] at h1 ⊢
    rw [Nat.add_mul]
    omega
/-- A list's bytes. -/
def lst (l : List ByteArray) : List Int := sh l.length ++ txts l
/-- One thing laid down. -/
structure Pu where
  kind : Int
  u : Int
  i : Int
  texts : List ByteArray
def pk (x : Int) : Int := (wrap64 (x.tmod 5 + 5)).tmod 5
def laid (p : Pu) : List Int :=
  if pk p.kind = 0 then sh p.u.toNat else if pk p.kind = 1 then sh (zig p.i) else if pk p.kind = 2 then tru (p.u % 2 == 1) else if pk p.kind = 3 then txts p.texts else lst p.texts
theorem laid_byt (p : Pu) : Byt (laid p) := by
  unfold laid
  split
  · exact sh_byt _
  split
  · exact sh_byt _
  split
  · exact tru_byt _
  split
  · exact txts_byt _
  · exact (sh_byt _).append (txts_byt _)
set_option maxRecDepth 10000 in
theorem or128 (m : Nat) : bits .or .u8 ((m : Int) % 256) 128 = ((m % 128 + 128 : Nat) : Int) := by
  have h : (m : Int) % 256 = ((m % 256 : Nat) : Int) := by omega
  have key : ∀ j : Nat, j < 256 → j ||| 128 = j % 128 + 128 := by decide +kernel
  rw [h, show (128 : Int) = ((128 : Nat) : Int) from rfl, u8_or_nat _ _ (by omega) (by omega), key _ (by omega)]
  congr 2
  omega
theorem xor_ones (a : Nat) (h : a < 18446744073709551616) : a ^^^ 18446744073709551615 = 18446744073709551615 - a := by
  have e := congrArg BitVec.toNat (BitVec.xor_allOnes (x := BitVec.ofNat 64 a))
  rw [BitVec.toNat_xor, BitVec.toNat_not, BitVec.toNat_ofNat, BitVec.toNat_allOnes, Nat.mod_eq_of_lt (by simpa using h)] at e
  simpa using e
theorem zig_bits {i : Int} (h0 : -9223372036854775808 ≤ i) (h1 : i ≤ 9223372036854775807) : bits .xor .u64 (IntKind.u64.wrap (IntKind.u64.wrap i * 2)) (IntKind.u64.wrap (i / 9223372036854775808)) = (zig i : Int) := by
  simp only [IntKind.wrap_u64]
  by_cases hi : 0 ≤ i
  · have e1 : i % 18446744073709551616 * 2 % 18446744073709551616 = ((2 * i).toNat : Int) := by omega
    have e2 : i / 9223372036854775808 % 18446744073709551616 = ((0 : Nat) : Int) := by omega
    rw [e1, e2, u64_xor_nat _ _ (by omega) (by omega), Nat.xor_zero, zig, if_pos hi]
  · have e1 : i % 18446744073709551616 * 2 % 18446744073709551616 = ((2 * i + 18446744073709551616).toNat : Int) := by omega
    have e2 : i / 9223372036854775808 % 18446744073709551616 = ((18446744073709551615 : Nat) : Int) := by omega
    rw [e1, e2, u64_xor_nat _ _ (by omega) (by omega), xor_ones _ (by omega), zig, if_neg hi]
    omega
/-! What all of it weighs. -/
def tw (l : List ByteArray) : Nat := (l.map fun s => s.size + 1).sum
theorem tw_len (l : List ByteArray) : l.length ≤ tw l := by
  induction l with
  | nil => simp [tw]
  | cons s l ih => simp only [tw, List.map_cons, List.sum_cons, List.length_cons] at ih ⊢; omega
theorem tw_mem {l : List ByteArray} {s : ByteArray} (h : s ∈ l) : s.size ≤ tw l := by
  induction l with
  | nil => cases h
  | cons x l ih =>
    simp only [tw, List.map_cons, List.sum_cons] at ih ⊢
    rcases List.mem_cons.1 h with rfl | h
    · omega
    · have := ih h; omega
theorem txts_tw (l : List ByteArray) (h : tw l < 18446744073709551616) : (txts l).length ≤ 10 * tw l := by
  induction l with
  | nil => simp [txts, tw]
  | cons s l ih =>
    simp only [tw, txts, List.map_cons, List.sum_cons, List.flatten_cons, List.length_append] at ih h ⊢
    have h1 := ih (by omega)
    have h2 := txt_length (s := s) (by omega)
    omega
def pw (p : Pu) : Nat := tw p.texts + 1
def pws (L : List Pu) : Nat := (L.map pw).sum
def Pu.ok (p : Pu) : Prop := 0 ≤ p.u ∧ p.u ≤ 18446744073709551615 ∧ -9223372036854775808 ≤ p.i ∧ p.i ≤ 9223372036854775807
theorem laid_length {p : Pu} (hp : p.ok) (h : pw p < 18446744073709551616) : (laid p).length ≤ 10 * pw p := by
  obtain ⟨h0, h1, h2, h3⟩ := hp
  have hw := txts_tw p.texts (by unfold pw at h; omega)
  have ha := sh_ten (n := p.u.toNat) (by omega)
  have hb := sh_ten (n := zig p.i) (zig_lt h2 h3)
  have hc := sh_ten (n := p.texts.length) (by have := tw_len p.texts; unfold pw at h; omega)
  have hd : (tru (p.u % 2 == 1)).length = 1 := by cases p.u % 2 == 1 <;> rfl
  unfold pw laid
  split
  · omega
  split
  · omega
  split
  · omega
  split
  · omega
  · unfold lst; rw [List.length_append]; omega
/-- All that was laid down. -/
def cat (L : List Pu) : List Int := (L.map laid).flatten
theorem cat_snoc {L : List Pu} {i : Nat} {p : Pu} (h : L[i]? = some p) : cat (L.take (i + 1)) = cat (L.take i) ++ laid p := by
  rw [snoc h]; simp [cat]
theorem cat_length (L : List Pu) (hL : ∀ p ∈ L, p.ok) (h : pws L < 18446744073709551616) : (cat L).length ≤ 10 * pws L := by
  induction L with
  | nil => simp [cat, pws]
  | cons p L ih =>
    simp only [cat, pws, List.map_cons, List.sum_cons, List.flatten_cons, List.length_append] at ih h ⊢
    have h1 := ih (fun q hq => hL q (List.mem_cons_of_mem _ hq)) (by omega)
    have h2 := laid_length (hL p List.mem_cons_self) (by omega)
    omega
theorem pws_mem {L : List Pu} {p : Pu} (h : p ∈ L) : pw p ≤ pws L := by
  induction L with
  | nil => cases h
  | cons x l ih =>
    simp only [pws, List.map_cons, List.sum_cons] at ih ⊢
    rcases List.mem_cons.1 h with rfl | h
    · omega
    · have := ih h; omega
theorem pws_take (L : List Pu) (i : Nat) : pws (L.take i) ≤ pws L := by
  induction L generalizing i with
  | nil => simp
  | cons x l ih =>
    cases i with
    | zero => simp [pws]
    | succ i => have := ih i; simp only [pws, List.take_succ_cons, List.map_cons, List.sum_cons] at this ⊢; omega
/-- A row of things to be laid down, that is read. -/
structure RP (w : World) (A : Option Addr) (n : Nat) (L : List Pu) : Prop where
  len : L.length = n
  max : n ≤ 9223372036854775807
  at0 : ∀ i, i < n → ∃ ad B m c p, A = some ad ∧ w.cell? (ad.add (i * 4)) = some (.int .i64 p.kind) ∧ w.cell? ⟨(ad.add (i * 4)).block, (ad.add (i * 4)).off + 1, none⟩ = some (.int .u64 p.u) ∧ w.cell? ⟨(ad.add (i * 4)).block, (ad.add (i * 4)).off + 2, none⟩ = some (.int .i64 p.i) ∧ w.cell? ⟨(ad.add (i * 4)).block, (ad.add (i * 4)).off + 3, none⟩ = some (.slice B m c) ∧ RT w B m p.texts ∧ p.ok ∧ L[i]? = some p
theorem RP.below {w w1 : World} {A : Option Addr} {n : Nat} {L : List Pu} (h : RP w A n L) (hb : Below w.heap.size w w1) : RP w1 A n L :=
  ⟨h.len, h.max, fun i hi => by
    obtain ⟨ad, B, m, c, p, e, h0, h1, h2, h3, hr, hp, hx⟩ := h.at0 i hi
    exact ⟨ad, B, m, c, p, e, pw_cell_below hb h0, pw_cell_below hb h1, pw_cell_below hb h2, pw_cell_below hb h3, hr.below hb, hp, hx⟩⟩
theorem RP.all {w : World} {A : Option Addr} {n : Nat} {L : List Pu} (h : RP w A n L) : ∀ p ∈ L, p.ok := fun p hp => by
  obtain ⟨i, hi, e⟩ := List.mem_iff_getElem.1 hp
  obtain ⟨ad, B, m, c, q, _, _, _, _, _, _, hq, hx⟩ := h.at0 i (by rw [← h.len]; exact hi)
  rw [List.getElem?_eq_getElem hi, e] at hx
  injection hx with hx
  rw [hx]; exact hq
theorem and127 {x : Int} (h0 : 0 ≤ x) (h1 : x < 256) : bits .and .u8 x 127 = ((x.toNat % 128 : Nat) : Int) := by
  have key : ∀ j : Nat, j < 256 → j &&& 127 = j % 128 := by decide +kernel
  obtain ⟨m, rfl⟩ := Int.eq_ofNat_of_zero_le h0
  rw [show (127 : Int) = ((127 : Nat) : Int) from rfl, u8_and_nat _ _ (by omega) (by omega), key _ (by omega)]
  rfl
end Go.Kit
