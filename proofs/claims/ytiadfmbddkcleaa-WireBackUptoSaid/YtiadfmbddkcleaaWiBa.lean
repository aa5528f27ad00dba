/- What was laid down is read back, and what is read has one form: the plain law. No program in it. -/
import Derived.Test.YtiadfmbddkcleaaWiN
namespace Go.Kit
open Go.RowKit Go.Proofs.YtiadfmbddkcleaaW.PrintWords
theorem numR_sh : ∀ (n k acc : Nat) (ys : List Int), k ≤ 9 → acc + n * 128 ^ k < 18446744073709551616 → (0 < k → 0 < n) → numR (sh n ++ ys) k acc = (acc + n * 128 ^ k, k + (sh n).length, 0) := by
  intro n
  induction n using Nat.strongRecOn with
  | ind n ih =>
    intro k acc ys hk hlt hpos
    have e9 : (128 : Nat) ^ 9 = 9223372036854775808 := by decide
    rcases Nat.lt_or_ge n 128 with h | h
    · rw [sh_small h]
      show numR ((n : Int) :: ys) k acc = _
      rw [numR, if_neg, if_pos (by omega), if_neg]
      · have : ((n : Int).toNat) % 128 = n := by omega
        rw [this]; rfl
      · rintro ⟨h0, h1⟩
        have := hpos h1; omega
      · rintro ⟨rfl, h1⟩
        rw [e9] at hlt
        omega
    · rw [sh_big h]
      show numR (((n % 128 + 128 : Nat) : Int) :: (sh (n / 128) ++ ys)) k acc = _
      have hk9 : k < 9 := by
        rcases Nat.lt_or_ge k 9 with h9 | h9
        · exact h9
        · have : k = 9 := by omega
          subst this
          rw [e9] at hlt
          omega
      have h1 : (((n % 128 + 128 : Nat) : Int).toNat) % 128 = n % 128 := by omega
      have h2 : acc + n % 128 * 128 ^ k + n / 128 * 128 ^ (k + 1) = acc + n * 128 ^ k := by
        have h3 : n * 128 ^ k = (n % 128 + 128 * (n / 128)) * 128 ^ k := by rw [Nat.mod_add_div]
        rw [h3, Nat.add_mul, Nat.pow_succ, Nat.mul_comm 128 (n / 128), Nat.mul_assoc, Nat.mul_comm (128 ^ k) 128]
        omega
      rw [numR, if_neg (by omega), if_neg (by omega), h1, ih (n / 128) (by omega) (k + 1) _ ys (by omega) (by rw [h2]; exact hlt) (fun _ => by omega), h2, List.length_cons]
      congr 2
      omega
theorem num_sh (xs ys : List Int) (n : Nat) (hn : n < 18446744073709551616) : num (xs ++ (sh n ++ ys)) xs.length = (n, (sh n).length, 0) := by
  unfold num
  rw [List.drop_left, numR_sh n 0 0 ys (by omega) (by omega) (by omega)]
  simp
theorem numR_form : ∀ (l : List Int) (k0 acc m k : Nat), k0 ≤ 9 → Byt l → numR l k0 acc = (m, k, 0) → ∃ q, l.take (k - k0) = sh q ∧ m = acc + q * 128 ^ k0 ∧ k = k0 + (sh q).length ∧ (0 < k0 → 0 < q)
  | [], k0, acc, m, k, _, _, h => by simp [numR] at h
  | c :: l, k0, acc, m, k, hk0, hb, h => by
    have hc := hb c List.mem_cons_self
    rw [numR] at h
    split at h
    · cases h
    next hw =>
    split at h
    · next h1 =>
      split at h
      · cases h
      · next h2 =>
        cases h
        have e : c.toNat % 128 = c.toNat := by omega
        refine ⟨c.toNat, ?_, by rw [e], by rw [sh_small (by omega)]; rfl, fun h0 => by omega⟩
        rw [sh_small (by omega), show k0 + 1 - k0 = 1 by omega]
        simp
        omega
    · next h1 =>
      obtain ⟨q, g1, g2, g3, g4⟩ := numR_form l (k0 + 1) _ m k (by omega) (fun x hx => hb x (List.mem_cons_of_mem _ hx)) h
      have hq := g4 (by omega)
      have hbig : 128 ≤ c.toNat % 128 + 128 * q := by omega
      have e1 : (c.toNat % 128 + 128 * q) % 128 + 128 = c.toNat := by omega
      have e2 : (c.toNat % 128 + 128 * q) / 128 = q := by omega
      refine ⟨c.toNat % 128 + 128 * q, ?_, ?_, ?_, fun _ => by omega⟩
      · rw [sh_big hbig, e1, e2, ← g1, show k - k0 = (k - (k0 + 1)) + 1 by omega, List.take_succ_cons]
        congr 1
        omega
      · rw [g2, Nat.add_mul, Nat.pow_succ, Nat.mul_comm 128 q, Nat.mul_assoc, Nat.mul_comm (128 ^ k0) 128]
        omega
      · rw [sh_big hbig, e2, List.length_cons]
        omega
theorem num_form {bs : List Int} (hb : Byt bs) {a m k : Nat} (h : num bs a = (m, k, 0)) : (bs.drop a).take k = sh m ∧ k = (sh m).length := by
  obtain ⟨q, g1, g2, g3, _⟩ := numR_form (bs.drop a) 0 0 m k (by omega) (hb.drop a) h
  have : m = q := by omega
  subst this
  exact ⟨by simpa using g1, by omega⟩
theorem unzig_zig (i : Int) : unzig (zig i) = i := by
  unfold unzig zig
  by_cases h : 0 ≤ i
  · rw [if_pos h, if_pos (by omega)]; omega
  · rw [if_neg h, if_neg (by omega)]; omega
theorem zig_unzig (v : Nat) : zig (unzig v) = v := by
  unfold unzig zig
  by_cases h : v % 2 = 0
  · rw [if_pos h, if_pos (by omega)]; omega
  · rw [if_neg h, if_neg (by omega)]; omega
theorem strOf_bytes (s : ByteArray) : strOfNums (bytesOf s) = s := by
  apply ByteArray.ext
  apply Array.ext'
  simp only [strOfNums, bytesOf, List.map_map]
  have : (fun n : Int => UInt8.ofNat n.toNat) ∘ (fun b : UInt8 => (b.toNat : Int)) = id := by
    funext b
    simp
  rw [this, List.map_id]
theorem textAt_txt (xs ys : List Int) (s : ByteArray) (most : Int) (hs : s.size < 18446744073709551616) (hm : (s.size : Int) ≤ most) : textAt (xs ++ (txt s ++ ys)) xs.length most = (s, xs.length + (txt s).length, 0) := by
  have hN := num_sh xs (bytesOf s ++ ys) s.size hs
  have e : xs ++ (txt s ++ ys) = xs ++ (sh s.size ++ (bytesOf s ++ ys)) := by unfold txt; rw [List.append_assoc]
  rw [e]
  have hl : (bytesOf s).length = s.size := bytesOf_len s
  rw [textAt_ok hN (by omega) (by simp only [List.length_append]; omega)]
  have hd : ((xs ++ (sh s.size ++ (bytesOf s ++ ys))).drop (xs.length + (sh s.size).length)).take s.size = bytesOf s := by
    rw [← List.append_assoc xs, ← List.length_append, List.drop_left, List.take_append_of_le_length (by omega), List.take_of_length_le (by omega)]
  rw [hd, strOf_bytes]
  unfold txt
  rw [List.length_append, hl]
  simp only [Nat.add_assoc]
theorem txt_of_textAt {bs : List Int} (hb : Byt bs) {a : Nat} {most : Int} {s : ByteArray} {en : Nat} (h : textAt bs a most = (s, en, 0)) : (bs.drop a).take (en - a) = txt s ∧ en = a + (txt s).length := by
  obtain ⟨m, k, x, hN⟩ : ∃ m k x, num bs a = (m, k, x) := ⟨_, _, _, rfl⟩
  by_cases hx : x = 0
  · subst hx
    obtain ⟨h1, h2⟩ := num_form hb hN
    by_cases hm : most < (m : Int)
    · rw [textAt_long hN hm] at h; cases h
    by_cases hf : bs.length < a + k + m
    · rw [textAt_short hN hm hf] at h; cases h
    rw [textAt_ok hN hm hf] at h
    cases h
    have hlen : ((bs.drop (a + k)).take m).length = m := by rw [List.length_take, List.length_drop]; omega
    have hby : Byt ((bs.drop (a + k)).take m) := (hb.drop _).take _
    have hsz : (strOfNums ((bs.drop (a + k)).take m)).size = m := by rw [strOfNums_size, hlen]
    have hbo : bytesOf (strOfNums ((bs.drop (a + k)).take m)) = (bs.drop (a + k)).take m := by
      simp only [strOfNums, bytesOf, List.map_map]
      conv => rhs; rw [← List.map_id ((bs.drop (a + k)).take m)]
      apply List.map_congr_left
      intro x hx
      have := hby x hx
      simp [UInt8.toNat_ofNat']
      omega
    have htx : txt (strOfNums ((bs.drop (a + k)).take m)) = sh m ++ (bs.drop (a + k)).take m := by unfold txt; rw [hsz, hbo]
    rw [htx]
    refine ⟨?_, by rw [List.length_append, hlen, ← h2]; omega⟩
    rw [show a + k + m - a = k + m by omega, List.take_add, h1, List.drop_drop]
  · rw [textAt_err hN hx] at h
    cases h
    exact absurd rfl hx
theorem lstR_txts (each : Int) : ∀ (l : List ByteArray) (xs ys : List Int) (acc : List ByteArray), (∀ s ∈ l, s.size < 18446744073709551616 ∧ (s.size : Int) ≤ each) → lstR (xs ++ (txts l ++ ys)) each l.length xs.length acc = (acc ++ l, xs.length + (txts l).length, 0)
  | [], xs, ys, acc, _ => by simp [lstR, txts]
  | s :: l, xs, ys, acc, h => by
    have hs := h s List.mem_cons_self
    have e1 : xs ++ (txts (s :: l) ++ ys) = xs ++ (txt s ++ (txts l ++ ys)) := by simp [txts]
    have e2 : xs ++ (txt s ++ (txts l ++ ys)) = (xs ++ txt s) ++ (txts l ++ ys) := by rw [List.append_assoc]
    have ht := textAt_txt xs (txts l ++ ys) s each hs.1 hs.2
    have ih := lstR_txts each l (xs ++ txt s) ys (acc ++ [s]) (fun x hx => h x (List.mem_cons_of_mem _ hx))
    rw [List.length_cons, lstR, e1, ht, if_neg (by simp)]
    dsimp only
    rw [e2, ← List.length_append, ih]
    simp [txts]
    omega
theorem txts_of_lstR {bs : List Int} (hb : Byt bs) (each : Int) : ∀ (n a : Nat) (acc l : List ByteArray) (en : Nat), a ≤ bs.length → lstR bs each n a acc = (l, en, 0) → ∃ l', l = acc ++ l' ∧ l'.length = n ∧ (bs.drop a).take (en - a) = txts l' ∧ en = a + (txts l').length ∧ en ≤ bs.length
  | 0, a, acc, l, en, ha, h => by
    simp only [lstR, Prod.mk.injEq] at h
    obtain ⟨rfl, rfl, _⟩ := h
    exact ⟨[], by simp, rfl, by simp [txts], by simp [txts], ha⟩
  | n + 1, a, acc, l, en, ha, h => by
    obtain ⟨s, e1, x, hT⟩ : ∃ s e1 x, textAt bs a each = (s, e1, x) := ⟨_, _, _, rfl⟩
    rw [lstR, hT] at h
    by_cases hx : x = 0
    · subst hx
      rw [if_neg (by simp)] at h
      obtain ⟨g1, g2⟩ := txt_of_textAt hb hT
      obtain ⟨q1, _⟩ := (textAt_facts hb ha hT)
      have q2 := (q1 rfl).1
      obtain ⟨l', r1, r2, r3, r4, r5⟩ := txts_of_lstR hb each n e1 (acc ++ [s]) l en q2 h
      refine ⟨s :: l', by rw [r1]; simp, by simp [r2], ?_, ?_, r5⟩
      · have : txts (s :: l') = txt s ++ txts l' := by simp [txts]
        rw [this, ← g1, ← r3, show en - a = (e1 - a) + (en - e1) by omega, List.take_add, List.drop_drop, show a + (e1 - a) = e1 by omega]
      · have : txts (s :: l') = txt s ++ txts l' := by simp [txts]
        rw [this, List.length_append]; omega
    · rw [if_pos hx] at h
      simp only [Prod.mk.injEq] at h
      exact absurd h.2.2 hx
end Go.Kit
