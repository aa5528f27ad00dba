/- A reader over a beginning of some bytes: the plain law. No program in it. -/
import Derived.Test.YtiadfmbddkcleaaWiBb
namespace Go.Kit
open Go.RowKit Go.Proofs.YtiadfmbddkcleaaW.PrintWords
theorem numR_pre : ∀ (l : List Int) (j k acc : Nat), (numR (l.take j) k acc).2.2 = 4 ∨ numR (l.take j) k acc = numR l k acc
  | [], j, k, acc => .inr (by simp)
  | c :: l, 0, k, acc => .inl (by simp [numR])
  | c :: l, j + 1, k, acc => by
    rw [List.take_succ_cons, numR, numR]
    split
    · exact .inr rfl
    split
    · exact .inr rfl
    · exact numR_pre l j (k + 1) _
theorem num_pre (bs : List Int) (m a : Nat) : (num (bs.take m) a).2.2 = 4 ∨ num (bs.take m) a = num bs a := by
  unfold num
  rw [List.drop_take]
  exact numR_pre _ _ _ _
theorem textAt_pre {bs : List Int} (hb : Byt bs) (m a : Nat) (ha : a ≤ (bs.take m).length) (most : Int) : (textAt (bs.take m) a most).2.2 = 4 ∨ textAt (bs.take m) a most = textAt bs a most := by
  obtain ⟨v, k, x, hN⟩ : ∃ v k x, num (bs.take m) a = (v, k, x) := ⟨_, _, _, rfl⟩
  have hf := num_facts (hb.take m) ha
  rw [hN] at hf
  have hk := hf.2.1
  dsimp only at hk
  rcases num_pre bs m a with h | h
  · rw [hN] at h
    dsimp only at h
    subst h
    exact .inl (by rw [textAt_err hN (by decide)])
  · have hN2 : num bs a = (v, k, x) := by rw [← h]; exact hN
    by_cases hx : x = 0
    · subst hx
      by_cases hm : most < (v : Int)
      · exact .inr (by rw [textAt_long hN hm, textAt_long hN2 hm])
      by_cases hfit : (bs.take m).length < a + k + v
      · exact .inl (by rw [textAt_short hN hm hfit])
      · have hle : (bs.take m).length ≤ bs.length := by rw [List.length_take]; omega
        have hlm : (bs.take m).length ≤ m := by rw [List.length_take]; omega
        refine .inr ?_
        rw [textAt_ok hN hm hfit, textAt_ok hN2 hm (by omega), List.drop_take, List.take_take, Nat.min_eq_left (by omega)]
    · exact .inr (by rw [textAt_err hN hx, textAt_err hN2 hx])
theorem lstR_pre {bs : List Int} (hb : Byt bs) (m : Nat) (each : Int) : ∀ (n a : Nat) (acc : List ByteArray), a ≤ (bs.take m).length → (lstR (bs.take m) each n a acc).2.2 = 4 ∨ lstR (bs.take m) each n a acc = lstR bs each n a acc
  | 0, a, acc, _ => .inr rfl
  | n + 1, a, acc, ha => by
    obtain ⟨s, en, x, hT⟩ : ∃ s en x, textAt (bs.take m) a each = (s, en, x) := ⟨_, _, _, rfl⟩
    rcases textAt_pre hb m a ha each with h | h
    · rw [hT] at h
      dsimp only at h
      subst h
      exact .inl (by rw [lstR, hT, if_pos (by simp)])
    · have hT2 : textAt bs a each = (s, en, x) := by rw [← h]; exact hT
      by_cases hx : x = 0
      · obtain ⟨q, _⟩ := textAt_facts (hb.take m) ha hT
        rw [lstR, lstR, hT, hT2, if_neg (by simpa using hx), if_neg (by simpa using hx)]
        exact lstR_pre hb m each n en _ (q hx).1
      · refine .inr ?_
        rw [lstR, lstR, hT, hT2, if_pos hx, if_pos hx]
/-- D reads a beginning of E's bytes, and stands as it. -/
structure Beg (m : Nat) (D E : Rd) : Prop where
  bs : D.bs = E.bs.take m
  at_ : D.at_ = E.at_
  why : D.why = E.why
  wat : D.wat = E.wat
theorem Beg.fail {m : Nat} {D E : Rd} (h : Beg m D E) (x : Int) (a : Nat) : Beg m (D.fail x a) (E.fail x a) := ⟨h.bs, h.at_, rfl, rfl⟩
theorem Beg.to {m : Nat} {D E : Rd} (h : Beg m D E) (a : Nat) : Beg m (D.to a) (E.to a) := ⟨h.bs, rfl, h.why, h.wat⟩
/-- Short of bytes, or the same. -/
def Same4 {α : Type} (m : Nat) (x y : Rd × α) : Prop := x.1.why = 4 ∨ (x.2 = y.2 ∧ Beg m x.1 y.1)
section
variable {m : Nat} {D E : Rd}
theorem beg_num (h : Beg m D E) : (num D.bs D.at_).2.2 = 4 ∨ num D.bs D.at_ = num E.bs E.at_ := by
  rw [h.bs, h.at_]; exact num_pre _ _ _
theorem beg_uint (h : Beg m D E) : Same4 m (uintS D) (uintS E) := by
  unfold uintS
  by_cases hw : D.why = 0
  · have hw1 : ¬ D.why ≠ 0 := by simpa using hw
    have hw2 : ¬ E.why ≠ 0 := by rw [← h.why]; exact hw1
    rw [if_neg hw1, if_neg hw2]
    rcases beg_num h with hn | hn
    · have hn1 : (num D.bs D.at_).2.2 ≠ 0 := by rw [hn]; decide
      rw [if_pos hn1]
      exact .inl hn
    · rw [← hn, ← h.at_]
      split
      · exact .inr ⟨rfl, h.fail _ _⟩
      · exact .inr ⟨rfl, h.to _⟩
  · have hw2 : E.why ≠ 0 := by rw [← h.why]; exact hw
    rw [if_pos hw, if_pos hw2]
    exact .inr ⟨rfl, h⟩
theorem beg_count (h : Beg m D E) (most : Int) : Same4 m (countS D most) (countS E most) := by
  unfold countS
  by_cases hw : D.why = 0
  · have hw1 : ¬ D.why ≠ 0 := by simpa using hw
    have hw2 : ¬ E.why ≠ 0 := by rw [← h.why]; exact hw1
    rw [if_neg hw1, if_neg hw2]
    by_cases hm : most < 0
    · rw [if_pos hm, if_pos hm, h.at_]
      exact .inr ⟨rfl, h.fail _ _⟩
    · rw [if_neg hm, if_neg hm]
      rcases beg_num h with hn | hn
      · have hn1 : (num D.bs D.at_).2.2 ≠ 0 := by rw [hn]; decide
        rw [if_pos hn1]
        exact .inl hn
      · rw [← hn, ← h.at_]
        split
        · exact .inr ⟨rfl, h.fail _ _⟩
        split
        · exact .inr ⟨rfl, h.fail _ _⟩
        · exact .inr ⟨rfl, h.to _⟩
  · have hw2 : E.why ≠ 0 := by rw [← h.why]; exact hw
    rw [if_pos hw, if_pos hw2]
    exact .inr ⟨rfl, h⟩
theorem beg_get (h : Beg m D E) (ha : D.at_ < D.bs.length) : D.bs.getD D.at_ 0 = E.bs.getD E.at_ 0 ∧ E.at_ < E.bs.length := by
  have h1 := h.bs
  have h2 := h.at_
  rw [h1, List.length_take] at ha
  refine ⟨?_, by omega⟩
  rw [h1, h2, List.getD_eq_getElem?_getD, List.getD_eq_getElem?_getD, List.getElem?_take, if_pos (by omega)]
theorem beg_byte (h : Beg m D E) : Same4 m (byteS D) (byteS E) := by
  unfold byteS
  by_cases hw : D.why = 0
  · have hw1 : ¬ D.why ≠ 0 := by simpa using hw
    have hw2 : ¬ E.why ≠ 0 := by rw [← h.why]; exact hw1
    rw [if_neg hw1, if_neg hw2]
    by_cases hl : D.bs.length ≤ D.at_
    · rw [if_pos hl]; exact .inl rfl
    · obtain ⟨g1, g2⟩ := beg_get h (by omega)
      have hl2 : ¬ E.bs.length ≤ E.at_ := by omega
      rw [if_neg hl, if_neg hl2, g1, h.at_]
      exact .inr ⟨rfl, h.to _⟩
  · have hw2 : E.why ≠ 0 := by rw [← h.why]; exact hw
    rw [if_pos hw, if_pos hw2]
    exact .inr ⟨rfl, h⟩
theorem beg_bool (h : Beg m D E) : Same4 m (boolS D) (boolS E) := by
  unfold boolS
  by_cases hw : D.why = 0
  · have hw1 : ¬ D.why ≠ 0 := by simpa using hw
    have hw2 : ¬ E.why ≠ 0 := by rw [← h.why]; exact hw1
    rw [if_neg hw1, if_neg hw2]
    by_cases hl : D.bs.length ≤ D.at_
    · rw [if_pos hl]; exact .inl rfl
    · obtain ⟨g1, g2⟩ := beg_get h (by omega)
      have hl2 : ¬ E.bs.length ≤ E.at_ := by omega
      rw [if_neg hl, if_neg hl2, g1, h.at_]
      split
      · exact .inr ⟨rfl, h.fail _ _⟩
      · exact .inr ⟨rfl, h.to _⟩
  · have hw2 : E.why ≠ 0 := by rw [← h.why]; exact hw
    rw [if_pos hw, if_pos hw2]
    exact .inr ⟨rfl, h⟩
theorem beg_raw (h : Beg m D E) (n : Int) : Same4 m (rawS D n) (rawS E n) := by
  unfold rawS
  by_cases hw : D.why = 0
  · have hw1 : ¬ D.why ≠ 0 := by simpa using hw
    have hw2 : ¬ E.why ≠ 0 := by rw [← h.why]; exact hw1
    rw [if_neg hw1, if_neg hw2]
    by_cases hm : n < 0
    · rw [if_pos hm, if_pos hm, h.at_]
      exact .inr ⟨rfl, h.fail _ _⟩
    · rw [if_neg hm, if_neg hm]
      by_cases hl : (D.bs.length : Int) - D.at_ < n
      · rw [if_pos hl]; exact .inl rfl
      · have h1 := h.bs
        have h2 := h.at_
        have h3 : D.bs.length = min m E.bs.length := by rw [h1, List.length_take]
        have hl2 : ¬ ((E.bs.length : Int) - E.at_ < n) := by omega
        rw [if_neg hl, if_neg hl2, h1, h2, List.drop_take, List.take_take, Nat.min_eq_left (by omega)]
        exact .inr ⟨rfl, h.to _⟩
  · have hw2 : E.why ≠ 0 := by rw [← h.why]; exact hw
    rw [if_pos hw, if_pos hw2]
    exact .inr ⟨rfl, h⟩
theorem beg_text (h : Beg m D E) (hE : Byt E.bs) (ha : D.at_ ≤ D.bs.length) (most : Int) : Same4 m (textS D most) (textS E most) := by
  unfold textS
  by_cases hw : D.why = 0
  · have hw1 : ¬ D.why ≠ 0 := by simpa using hw
    have hw2 : ¬ E.why ≠ 0 := by rw [← h.why]; exact hw1
    rw [if_neg hw1, if_neg hw2]
    by_cases hm : most < 0
    · rw [if_pos hm, if_pos hm, h.at_]
      exact .inr ⟨rfl, h.fail _ _⟩
    · rw [if_neg hm, if_neg hm]
      have ht : (textAt D.bs D.at_ most).2.2 = 4 ∨ textAt D.bs D.at_ most = textAt E.bs E.at_ most := by
        rw [h.bs, h.at_] at *; exact textAt_pre hE m _ ha most
      rcases ht with hn | hn
      · have hn1 : (textAt D.bs D.at_ most).2.2 ≠ 0 := by rw [hn]; decide
        rw [if_pos hn1]
        exact .inl hn
      · rw [← hn, ← h.at_]
        split
        · exact .inr ⟨rfl, h.fail _ _⟩
        · exact .inr ⟨rfl, h.to _⟩
  · have hw2 : E.why ≠ 0 := by rw [← h.why]; exact hw
    rw [if_pos hw, if_pos hw2]
    exact .inr ⟨rfl, h⟩
theorem beg_list (h : Beg m D E) (hE : Byt E.bs) (hD : Byt D.bs) (ha : D.at_ ≤ D.bs.length) (most each : Int) : Same4 m (listS D most each) (listS E most each) := by
  unfold listS
  by_cases hw : D.why = 0
  · have hw1 : ¬ D.why ≠ 0 := by simpa using hw
    have hw2 : ¬ E.why ≠ 0 := by rw [← h.why]; exact hw1
    rw [if_neg hw1, if_neg hw2]
    by_cases hm : most < 0 ∨ each < 0
    · rw [if_pos hm, if_pos hm, h.at_]
      exact .inr ⟨rfl, h.fail _ _⟩
    · rw [if_neg hm, if_neg hm]
      have hf := num_facts hD ha
      rcases beg_num h with hn | hn
      · have hn1 : (num D.bs D.at_).2.2 ≠ 0 := by rw [hn]; decide
        rw [if_pos hn1]
        exact .inl hn
      · have hl : (lstR D.bs each (num D.bs D.at_).1 (D.at_ + (num D.bs D.at_).2.1) []).2.2 = 4 ∨ lstR D.bs each (num D.bs D.at_).1 (D.at_ + (num D.bs D.at_).2.1) [] = lstR E.bs each (num D.bs D.at_).1 (D.at_ + (num D.bs D.at_).2.1) [] := by
          have h1 := lstR_pre hE m each (num D.bs D.at_).1 (D.at_ + (num D.bs D.at_).2.1) [] (by rw [← h.bs]; exact hf.2.1)
          rw [← h.bs] at h1
          exact h1
        rw [← hn, ← h.at_]
        by_cases hx : (num D.bs D.at_).2.2 ≠ 0
        · rw [if_pos hx, if_pos hx]; exact .inr ⟨rfl, h.fail _ _⟩
        rw [if_neg hx, if_neg hx]
        by_cases hy : most < ((num D.bs D.at_).1 : Int)
        · rw [if_pos hy, if_pos hy]; exact .inr ⟨rfl, h.fail _ _⟩
        rw [if_neg hy, if_neg hy]
        rcases hl with hl | hl
        · have hl1 : (lstR D.bs each (num D.bs D.at_).1 (D.at_ + (num D.bs D.at_).2.1) []).2.2 ≠ 0 := by rw [hl]; decide
          rw [if_pos hl1]
          exact .inl hl
        · rw [← hl]
          split
          · exact .inr ⟨rfl, h.fail _ _⟩
          · exact .inr ⟨rfl, h.to _⟩
  · have hw2 : E.why ≠ 0 := by rw [← h.why]; exact hw
    rw [if_pos hw, if_pos hw2]
    exact .inr ⟨rfl, h⟩
end
/-- What one call reads, as bytes. -/
def wordS (k : Int) (D : Rd) (a b : Int) : Rd × List Int :=
  if k = 0 then ((byteS D).1, [(byteS D).2]) else if k = 1 ∨ k = 2 then ((uintS D).1, sh (uintS D).2) else if k = 3 then ((countS D a).1, sh (zig (countS D a).2)) else
    if k = 4 then ((boolS D).1, tru (boolS D).2) else if k = 5 then ((textS D a).1, txt (textS D a).2) else if k = 6 then ((listS D a b).1, lst (listS D a b).2) else rawS D a
theorem same4_map {α β : Type} {m : Nat} {x y : Rd × α} (f : α → β) (h : Same4 m x y) : Same4 m (x.1, f x.2) (y.1, f y.2) := h.imp id (fun ⟨h1, h2⟩ => ⟨by dsimp only; rw [h1], h2⟩)
theorem beg_word {m : Nat} {D E : Rd} (h : Beg m D E) (hE : Byt E.bs) (hD : D.ok) (k a b : Int) : Same4 m (wordS k D a b) (wordS k E a b) := by
  unfold wordS
  split
  · exact same4_map (fun v => [v]) (beg_byte h)
  split
  · exact same4_map sh (beg_uint h)
  split
  · exact same4_map (fun v : Nat => sh (zig (v : Int))) (beg_count h a)
  split
  · exact same4_map tru (beg_bool h)
  split
  · exact same4_map txt (beg_text h hE hD.2.1 a)
  split
  · exact same4_map lst (beg_list h hE hD.1 hD.2.1 a b)
  · exact beg_raw h a
end Go.Kit
