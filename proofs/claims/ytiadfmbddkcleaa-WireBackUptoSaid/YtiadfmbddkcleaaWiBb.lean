/- What is read has one form: each call's plain law. No program in it. -/
import Derived.Test.YtiadfmbddkcleaaWiBa
namespace Go.Kit
open Go.RowKit Go.Proofs.YtiadfmbddkcleaaW.PrintWords
/-- What was read without a fault is the bytes ahead of where the reader stands. -/
def Formed (xs : List Int) (D1 : Rd) (back : List Int) : Prop := (D1.why ≠ 0 ∧ D1.at_ = 0) ∨ (D1.why = 0 ∧ D1.at_ = back.length ∧ back.length ≤ xs.length ∧ xs.take back.length = back)
theorem new_ok {xs : List Int} (hb : Byt xs) : (Rd.new xs).ok := ⟨hb, Nat.zero_le _, fun _ => rfl⟩
theorem form_uint {xs : List Int} (hb : Byt xs) {D1 : Rd} {v : Nat} (h : uintS (Rd.new xs) = (D1, v)) : Formed xs D1 (sh v) := by
  rcases uintS_cases (new_ok hb) rfl with ⟨m, k, hN, hU, _, hk, _⟩ | ⟨m, k, x, hx, hN, hU⟩
  · rw [h] at hU; cases hU
    obtain ⟨g1, g2⟩ := num_form hb hN
    have g3 : xs.take k = sh v := by simpa [Rd.new] using g1
    have hk2 : k ≤ xs.length := by simpa [Rd.new] using hk
    exact .inr ⟨rfl, by show 0 + k = _; omega, by omega, by rw [← g2]; exact g3⟩
  · rw [h] at hU; cases hU
    exact .inl ⟨hx, rfl⟩
theorem form_bool {xs : List Int} (hb : Byt xs) {D1 : Rd} {v : Bool} (h : boolS (Rd.new xs) = (D1, v)) : Formed xs D1 (tru v) := by
  unfold boolS at h
  rw [if_neg (by show ¬ (0 : Int) ≠ 0; simp)] at h
  replace h : (if xs.length ≤ 0 then ((Rd.new xs).fail 4 0, false) else if 1 < xs.getD 0 0 then ((Rd.new xs).fail 5 0, false) else ((Rd.new xs).to 1, xs.getD 0 0 == 1)) = (D1, v) := h
  by_cases h1 : xs.length ≤ 0
  · rw [if_pos h1] at h; cases h; exact .inl ⟨by show (4 : Int) ≠ 0; decide, rfl⟩
  · rw [if_neg h1] at h
    by_cases h2 : 1 < xs.getD 0 0
    · rw [if_pos h2] at h; cases h; exact .inl ⟨by show (5 : Int) ≠ 0; decide, rfl⟩
    · rw [if_neg h2] at h; cases h
      have hc := hb.get 0
      have ht : tru (xs.getD 0 0 == 1) = [xs.getD 0 0] := by
        by_cases h3 : xs.getD 0 0 = 1
        · rw [h3]; rfl
        · have : xs.getD 0 0 = 0 := by omega
          rw [this]; rfl
      refine .inr ⟨rfl, ?_, ?_, ?_⟩
      · show 0 + 1 = (tru (xs.getD 0 0 == 1)).length; rw [ht]; rfl
      · show (tru (xs.getD 0 0 == 1)).length ≤ _; rw [ht]; simp; omega
      · show xs.take (tru (xs.getD 0 0 == 1)).length = tru (xs.getD 0 0 == 1)
        rw [ht]
        cases xs with
        | nil => simp at h1
        | cons x xs => simp
theorem form_text {xs : List Int} (hb : Byt xs) {most : Int} (hm : 0 ≤ most) {D1 : Rd} {s : ByteArray} (h : textS (Rd.new xs) most = (D1, s)) : Formed xs D1 (txt s) ∧ s.size ≤ xs.length := by
  obtain ⟨s', en, x, hT⟩ : ∃ s' en x, textAt (Rd.new xs).bs (Rd.new xs).at_ most = (s', en, x) := ⟨_, _, _, rfl⟩
  have hS := textS_of (D := Rd.new xs) rfl (by omega) hT
  rw [h] at hS
  by_cases hx : x = 0
  · subst hx
    rw [if_neg (by simp)] at hS; cases hS
    have hT' : textAt xs 0 most = (s, en, 0) := hT
    obtain ⟨g1, g2⟩ := txt_of_textAt hb hT'
    obtain ⟨q1, _⟩ := textAt_facts hb (Nat.zero_le _) hT'
    obtain ⟨q3, q4, q5, _⟩ := q1 rfl
    have g3 : xs.take en = txt s := by simpa using g1
    have g4 : en = (txt s).length := by omega
    exact ⟨.inr ⟨rfl, g4, by omega, by rw [← g4]; exact g3⟩, q5⟩
  · rw [if_pos hx] at hS; cases hS
    exact ⟨.inl ⟨hx, rfl⟩, Nat.zero_le _⟩
theorem txts_mem {l : List ByteArray} {s : ByteArray} (h : s ∈ l) : s.size ≤ (txts l).length := by
  induction l with
  | nil => cases h
  | cons x l ih =>
    have e : txts (x :: l) = txt x ++ txts l := by simp [txts]
    rw [e, List.length_append]
    rcases List.mem_cons.1 h with rfl | h
    · have : (txt s).length = (sh s.size).length + s.size := by unfold txt; rw [List.length_append, bytesOf_len]
      omega
    · have := ih h; omega
theorem txts_len (l : List ByteArray) : l.length ≤ (txts l).length := by
  induction l with
  | nil => simp
  | cons x l ih =>
    have e : txts (x :: l) = txt x ++ txts l := by simp [txts]
    have h1 : (txt x).length = (sh x.size).length + x.size := by unfold txt; rw [List.length_append, bytesOf_len]
    have h2 := sh_pos x.size
    rw [e, List.length_append, List.length_cons]
    omega
theorem form_list {xs : List Int} (hb : Byt xs) {most each : Int} (hm : 0 ≤ most) (he : 0 ≤ each) {D1 : Rd} {l : List ByteArray} (h : listS (Rd.new xs) most each = (D1, l)) : Formed xs D1 (lst l) ∧ l.length ≤ xs.length ∧ ∀ s ∈ l, s.size ≤ xs.length := by
  unfold listS at h
  rw [if_neg (by show ¬ (0 : Int) ≠ 0; simp), if_neg (by omega)] at h
  obtain ⟨m, k, x, hN⟩ : ∃ m k x, num xs 0 = (m, k, x) := ⟨_, _, _, rfl⟩
  have hN' : num (Rd.new xs).bs (Rd.new xs).at_ = (m, k, x) := hN
  rw [hN'] at h
  dsimp only at h
  by_cases hx : x = 0
  · subst hx
    rw [if_neg (by simp)] at h
    by_cases hmm : most < (m : Int)
    · rw [if_pos hmm] at h; cases h
      exact ⟨.inl ⟨by show (11 : Int) ≠ 0; decide, rfl⟩, Nat.zero_le _, fun s hs => by cases hs⟩
    · rw [if_neg hmm] at h
      obtain ⟨l', en, y, hL⟩ : ∃ l' en y, lstR xs each m (0 + k) [] = (l', en, y) := ⟨_, _, _, rfl⟩
      have hL' : lstR (Rd.new xs).bs each m ((Rd.new xs).at_ + k) [] = (l', en, y) := hL
      rw [hL'] at h
      dsimp only at h
      by_cases hy : y = 0
      · subst hy
        rw [if_neg (by simp)] at h; cases h
        obtain ⟨g1, g2⟩ := num_form hb hN
        have hf := num_facts hb (a := 0) (Nat.zero_le _)
        rw [hN] at hf
        have hk : k ≤ xs.length := by have := hf.2.1; dsimp only at this; omega
        obtain ⟨l2, r1, r2, r3, r4, r5⟩ := txts_of_lstR hb each m (0 + k) [] l en (by omega) hL
        rw [List.nil_append] at r1
        subst r1
        have g3 : xs.take k = sh m := by simpa using g1
        have hlen : (lst l).length = en := by unfold lst; rw [List.length_append, r2, ← g2]; omega
        refine ⟨.inr ⟨rfl, hlen.symm, by omega, ?_⟩, ?_, fun s hs => ?_⟩
        · rw [hlen]
          unfold lst
          rw [r2, ← g3, ← r3, show en = k + (en - k) by omega, List.take_add]
          congr 2
          · omega
          · simp
        · have := txts_len l; omega
        · have := txts_mem hs; omega
      · rw [if_pos hy] at h; cases h
        exact ⟨.inl ⟨hy, rfl⟩, Nat.zero_le _, fun s hs => by cases hs⟩
  · rw [if_pos hx] at h; cases h
    exact ⟨.inl ⟨hx, rfl⟩, Nat.zero_le _, fun s hs => by cases hs⟩
end Go.Kit
