/- What is read back of things laid down: the plain law. No program in it. -/
import Derived.Test.YtiadfmbddkcleaaWiBa
namespace Go.Kit
open Go.RowKit
/-- The reader before the thing i, over all that was laid down and what stands behind it. -/
def Bk (L : List Pu) (bh : List Int) (i : Nat) : Rd := ⟨cat L ++ bh, (cat (L.take i)).length, 0, 0⟩
/-- The reader before the text j of the thing i. -/
def Bt (L : List Pu) (bh : List Int) (i : Nat) (l : List ByteArray) (j : Nat) : Rd := ⟨cat L ++ bh, (cat (L.take i)).length + (txts (l.take j)).length, 0, 0⟩
theorem cat_split {L : List Pu} {i : Nat} {p : Pu} (h : L[i]? = some p) (bh : List Int) : cat L ++ bh = cat (L.take i) ++ (laid p ++ (cat (L.drop (i + 1)) ++ bh)) := by
  obtain ⟨hi, e⟩ := List.getElem?_eq_some_iff.1 h
  have e1 : cat L = cat (L.take i) ++ cat (L.drop i) := by
    conv => lhs; rw [← List.take_append_drop i L]
    unfold cat; rw [List.map_append, List.flatten_append]
  have e2 : L.drop i = p :: L.drop (i + 1) := by rw [List.drop_eq_getElem_cons hi, e]
  rw [e1, e2]
  show _ ++ (laid p ++ cat (L.drop (i + 1))) ++ bh = _
  simp only [List.append_assoc]
theorem txts_split {l : List ByteArray} {i : Nat} {s : ByteArray} (h : l[i]? = some s) : txts l = txts (l.take i) ++ (txt s ++ txts (l.drop (i + 1))) := by
  obtain ⟨hi, e⟩ := List.getElem?_eq_some_iff.1 h
  have e1 : txts l = txts (l.take i) ++ txts (l.drop i) := by
    conv => lhs; rw [← List.take_append_drop i l]
    unfold txts; rw [List.map_append, List.flatten_append]
  have e2 : l.drop i = s :: l.drop (i + 1) := by rw [List.drop_eq_getElem_cons hi, e]
  rw [e1, e2]; rfl
theorem bk_next {L : List Pu} {i : Nat} {p : Pu} (h : L[i]? = some p) (bh : List Int) {a : Nat} (ha : a = (cat (L.take i)).length + (laid p).length) : (Bk L bh i).to a = Bk L bh (i + 1) := by
  subst ha
  unfold Bk Rd.to
  rw [cat_snoc h, List.length_append]
theorem bk_uint {L : List Pu} {bh : List Int} {i : Nat} {p : Pu} (h : L[i]? = some p) {n : Nat} (hl : laid p = sh n) (hn : n < 18446744073709551616) : uintS (Bk L bh i) = (Bk L bh (i + 1), n) := by
  have hN := num_sh (cat (L.take i)) (cat (L.drop (i + 1)) ++ bh) n hn
  rw [← hl, ← cat_split h] at hN
  unfold uintS
  rw [if_neg (show ¬ (Bk L bh i).why ≠ 0 from fun h => h rfl)]
  rw [show num (Bk L bh i).bs (Bk L bh i).at_ = (n, (laid p).length, 0) from hN, if_neg (fun h => h rfl)]
  show ((Bk L bh i).to ((cat (L.take i)).length + (laid p).length), n) = _
  rw [bk_next h bh rfl]
theorem bk_bool {L : List Pu} {bh : List Int} {i : Nat} {p : Pu} (h : L[i]? = some p) {b : Bool} (hl : laid p = tru b) : boolS (Bk L bh i) = (Bk L bh (i + 1), b) := by
  have hone : (laid p).length = 1 := by rw [hl]; cases b <;> rfl
  have hd : (Bk L bh i).bs.getD (Bk L bh i).at_ 0 = if b then 1 else 0 := by
    show (cat L ++ bh).getD (cat (L.take i)).length 0 = _
    rw [cat_split h, hl, List.getD_eq_getElem?_getD, List.getElem?_append_right (Nat.le_refl _), Nat.sub_self]
    cases b <;> rfl
  have hlen : ¬ (Bk L bh i).bs.length ≤ (Bk L bh i).at_ := by
    show ¬ (cat L ++ bh).length ≤ (cat (L.take i)).length
    rw [cat_split h, List.length_append, List.length_append, hone]; omega
  unfold boolS
  rw [if_neg (show ¬ (Bk L bh i).why ≠ 0 from fun h => h rfl), if_neg hlen, hd, if_neg (by cases b <;> decide)]
  show ((Bk L bh i).to ((cat (L.take i)).length + 1), _) = _
  rw [bk_next h bh (by rw [hone])]
  cases b <;> rfl
theorem bt_zero (L : List Pu) (bh : List Int) (i : Nat) (l : List ByteArray) : Bt L bh i l 0 = Bk L bh i := by simp [Bt, Bk, txts]
theorem bt_all {L : List Pu} {bh : List Int} {i : Nat} {p : Pu} (h : L[i]? = some p) (hl : laid p = txts p.texts) {m : Nat} (hm : p.texts.length = m) : Bt L bh i p.texts m = Bk L bh (i + 1) := by
  unfold Bt Bk
  rw [cat_snoc h, List.length_append, hl, ← hm, List.take_length]
theorem bt_text {L : List Pu} {bh : List Int} {i j : Nat} {p : Pu} {s : ByteArray} (h : L[i]? = some p) (hl : laid p = txts p.texts) (hs : p.texts[j]? = some s) (hz : s.size < 18446744073709551616) : textS (Bt L bh i p.texts j) (s.size : Int) = (Bt L bh i p.texts (j + 1), s) := by
  have hT := textAt_txt (cat (L.take i) ++ txts (p.texts.take j)) (txts (p.texts.drop (j + 1)) ++ (cat (L.drop (i + 1)) ++ bh)) s (s.size : Int) hz (Int.le_refl _)
  have e : cat (L.take i) ++ txts (p.texts.take j) ++ (txt s ++ (txts (p.texts.drop (j + 1)) ++ (cat (L.drop (i + 1)) ++ bh))) = cat L ++ bh := by
    rw [cat_split h, hl, txts_split hs]; simp only [List.append_assoc]
  rw [e, List.length_append] at hT
  unfold textS
  rw [if_neg (show ¬ (Bt L bh i p.texts j).why ≠ 0 from fun h => h rfl), if_neg (by omega)]
  rw [show textAt (Bt L bh i p.texts j).bs (Bt L bh i p.texts j).at_ (s.size : Int) = _ from hT, if_neg (fun h => h rfl)]
  unfold Bt Rd.to
  rw [txts_snoc hs, List.length_append, Nat.add_assoc]
theorem bk_list {L : List Pu} {bh : List Int} {i : Nat} {p : Pu} (h : L[i]? = some p) (hl : laid p = lst p.texts) (each : Int) (h0 : 0 ≤ each) (hs : ∀ s ∈ p.texts, s.size < 18446744073709551616 ∧ (s.size : Int) ≤ each) {m : Nat} (hm : p.texts.length = m) (hmm : m < 18446744073709551616) :
    listS (Bk L bh i) (m : Int) each = (Bk L bh (i + 1), p.texts) := by
  subst hm
  have hN := num_sh (cat (L.take i)) (txts p.texts ++ (cat (L.drop (i + 1)) ++ bh)) p.texts.length hmm
  have e1 : cat (L.take i) ++ (sh p.texts.length ++ (txts p.texts ++ (cat (L.drop (i + 1)) ++ bh))) = cat L ++ bh := by
    rw [cat_split h, hl]; unfold lst; simp only [List.append_assoc]
  rw [e1] at hN
  have hR := lstR_txts each p.texts (cat (L.take i) ++ sh p.texts.length) (cat (L.drop (i + 1)) ++ bh) [] hs
  have e2 : cat (L.take i) ++ sh p.texts.length ++ (txts p.texts ++ (cat (L.drop (i + 1)) ++ bh)) = cat L ++ bh := by rw [← e1]; simp only [List.append_assoc]
  rw [e2, List.length_append, List.nil_append] at hR
  unfold listS
  rw [if_neg (show ¬ (Bk L bh i).why ≠ 0 from fun h => h rfl), if_neg (by omega)]
  rw [show num (Bk L bh i).bs (Bk L bh i).at_ = _ from hN, if_neg (fun h => h rfl), if_neg (by show ¬ ((p.texts.length : Int) < (p.texts.length : Int)); omega)]
  dsimp only
  rw [show lstR (Bk L bh i).bs each p.texts.length ((Bk L bh i).at_ + (sh p.texts.length).length) [] = _ from hR, if_neg (fun h => h rfl)]
  dsimp only
  rw [bk_next h bh (by rw [hl]; unfold lst; rw [List.length_append, Nat.add_assoc])]
theorem laid_of {p : Pu} {k : Int} (hk : pk p.kind = k) : (k = 0 → laid p = sh p.u.toNat) ∧ (k = 1 → laid p = sh (zig p.i)) ∧ (k = 2 → laid p = tru (p.u % 2 == 1)) ∧ (k = 3 → laid p = txts p.texts) ∧ (k = 4 → laid p = lst p.texts) := by
  unfold laid
  rw [hk]
  refine ⟨?_, ?_, ?_, ?_, ?_⟩ <;> rintro rfl <;> rfl
theorem bk_ok {L : List Pu} {bh : List Int} {i : Nat} : (Bk L bh i).why = 0 := rfl
theorem bk_end {L : List Pu} {bh : List Int} {np : Nat} (h : L.length = np) : (Bk L bh np).at_ = (cat L).length := by
  show (cat (L.take np)).length = _
  rw [← h, List.take_length]
end Go.Kit
