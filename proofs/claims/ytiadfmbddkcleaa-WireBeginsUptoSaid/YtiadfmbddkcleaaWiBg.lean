/- The law's word: what one call reads, as bytes. -/
import Derived.Test.YtiadfmbddkcleaaWiBf
import Derived.Test.YtiadfmbddkcleaaWiAc
import Derived.Test.YtiadfmbddkcleaaWiD
namespace Go.Kit
theorem byteS_range {D D1 : Rd} (hok : D.ok) {v : Int} (h : byteS D = (D1, v)) : 0 ≤ v ∧ v < 256 := by
  unfold byteS at h
  split at h
  · cases h; omega
  split at h
  · cases h; omega
  · cases h; exact hok.1.get _
theorem countS_le {D D1 : Rd} {most : Int} {v : Nat} (h : countS D most = (D1, v)) : (v : Int) ≤ max most 0 := by
  unfold countS at h
  split at h
  · cases h; omega
  split at h
  · cases h; omega
  split at h
  · cases h; omega
  split at h
  · cases h; omega
  · next h1 => cases h; omega
theorem textS_size {D D1 : Rd} (hok : D.ok) {most : Int} {s : ByteArray} (h : textS D most = (D1, s)) : s.size ≤ D.bs.length := by
  unfold textS at h
  split at h
  · cases h; exact Nat.zero_le _
  split at h
  · cases h; exact Nat.zero_le _
  split at h
  · cases h; exact Nat.zero_le _
  · next h1 =>
    obtain ⟨s', en, x, hT⟩ : ∃ s' en x, textAt D.bs D.at_ most = (s', en, x) := ⟨_, _, _, rfl⟩
    rw [hT] at h h1
    cases h
    exact (((textAt_facts hok.1 hok.2.1 hT).1 (by simpa using h1)).2.2).1
theorem listS_facts {D D1 : Rd} (hok : D.ok) {most each : Int} {l : List ByteArray} (h : listS D most each = (D1, l)) : l.length ≤ D.bs.length ∧ ∀ s ∈ l, s.size ≤ D.bs.length := by
  have hf := num_facts hok.1 hok.2.1
  unfold listS at h
  split at h
  · cases h; exact ⟨Nat.zero_le _, fun s hs => by cases hs⟩
  split at h
  · cases h; exact ⟨Nat.zero_le _, fun s hs => by cases hs⟩
  split at h
  · cases h; exact ⟨Nat.zero_le _, fun s hs => by cases hs⟩
  split at h
  · cases h; exact ⟨Nat.zero_le _, fun s hs => by cases hs⟩
  split at h
  · cases h; exact ⟨Nat.zero_le _, fun s hs => by cases hs⟩
  · next h1 =>
    obtain ⟨l', en, x, hL⟩ : ∃ l' en x, lstR D.bs each (num D.bs D.at_).1 (D.at_ + (num D.bs D.at_).2.1) [] = (l', en, x) := ⟨_, _, _, rfl⟩
    rw [hL] at h h1
    cases h
    obtain rfl : x = 0 := by simpa using h1
    obtain ⟨l2, r1, r2, r3, r4, r5⟩ := txts_of_lstR hok.1 each _ _ [] _ _ hf.2.1 hL
    rw [List.nil_append] at r1
    subst r1
    refine ⟨by have := txts_len l'; dsimp only; omega, fun s hs => by have := txts_mem (l := l') hs; omega⟩
end Go.Kit
namespace Go.Proofs.Ytiadfmbddkcleaa
open Go.RowKit Go.Kit Go.Proofs.YtiadfmbddkcleaaW.PrintWords
section
variable {w w1 : World} {r n c : Nat} {A : Option Addr} {D : Rd}
/-- What a word leaves. -/
def Wrd (w : World) (r : Nat) (A : Option Addr) (n c : Nat) (D : Rd) (kz a b : Int) (e : Ending) (w' : World) : Prop := ∃ D1 ys v, e = .returned v ∧ Hid (wordS kz D a b = (D1, ys)) ∧ OB 5 w' w.heap.size v ys ∧ RS w' r A n c D1 ∧ Only w w' (fun k => k = r)
set_option maxHeartbeats 4000000 in
theorem word_0 (h : RS w r A n c D) (hn : n ≤ 1048576) (kd a b : Int) (ha : a ≤ 9223372036854775807) (hb : b ≤ 9223372036854775807) (hk : (wrap64 (kd.tmod 10 + 10)).tmod 10 = 0) :
    Calls Try.prog 33 #[.pointer (some ⟨r, 0, none⟩), .agg #[.int .i64 kd, .int .i64 a, .int .i64 b]] w (Wrd w r A n c D 0 a b) := by
  have hba := below_alloc (Below.refl w.heap.size w) (.cells #[.int .i64 kd, .int .i64 a, .int .i64 b] 59)
  have hbk := heap_alloc_new w (.cells #[.int .i64 kd, .int .i64 a, .int .i64 b] 59)
  have hok := h.ok
  have HL := Lib.hid h.row.len
  have hR0 := h.below hba
  clear h
  unfold Wrd
  go_enter Try.func33, Try.ntmps33
  go_upto_region 1 with (fail)
  generalize w.alloc (.cells #[.int .i64 kd, .int .i64 a, .int .i64 b] 59) = w1 at *
  have hc0 := cell_of_row w1 _ 0 _ _ _ hbk
  have hc1 := cell_of_row w1 _ 1 _ _ _ hbk
  have hc2 := cell_of_row w1 _ 2 _ _ _ hbk
  simp only [List.getElem?_toArray, List.getElem?_cons_zero, List.getElem?_cons_succ] at hc0 hc1 hc2
  have hs0 := hba.size
  go_wp2_with fail
  refine (Byte_any hR0).mono ?_
  rintro e w3 ⟨D1, v, rfl, HV, hR3, ho3⟩
  obtain ⟨hv0, hv1⟩ := byteS_range hok HV.out
  have HW : Hid (wordS 0 D a b = (D1, [v])) := Lib.hid (by unfold wordS; rw [if_pos rfl, HV.out])
  have hb4 := below_alloc (Below.refl w3.heap.size w3) (.cells #[.int .u8 v] 5)
  have hO4 : OB 5 (w3.alloc (.cells #[.int .u8 v] 5)) w3.heap.size (.slice (some ⟨w3.heap.size, 0, none⟩) 1 1) [v] := OB.of_block (rest := []) (Nat.le_refl _) (heap_alloc_new w3 _) rfl rfl (by decide) (Byt.one hv0 hv1)
  have ho5 : Only w (w3.alloc (.cells #[.int .u8 v] 5)) (fun k => k = r) := ((Only.of_below hba (fun k => k = r)).same ho3).below hb4
  have hR4 := hR3.below hb4
  replace hO4 := hO4.less (Nat.le_trans hs0 ho3.size)
  go_wp2_with fail
  go_ret
  exact ⟨D1, _, _, rfl, HW, hO4, hR4, ho5⟩
set_option maxHeartbeats 4000000 in
theorem word_1 (h : RS w r A n c D) (hn : n ≤ 1048576) (kd a b : Int) (ha : a ≤ 9223372036854775807) (hb : b ≤ 9223372036854775807) (hk : (wrap64 (kd.tmod 10 + 10)).tmod 10 = 1) :
    Calls Try.prog 33 #[.pointer (some ⟨r, 0, none⟩), .agg #[.int .i64 kd, .int .i64 a, .int .i64 b]] w (Wrd w r A n c D 1 a b) := by
  have hba := below_alloc (Below.refl w.heap.size w) (.cells #[.int .i64 kd, .int .i64 a, .int .i64 b] 59)
  have hbk := heap_alloc_new w (.cells #[.int .i64 kd, .int .i64 a, .int .i64 b] 59)
  have hok := h.ok
  have HL := Lib.hid h.row.len
  have hR0 := h.below hba
  clear h
  unfold Wrd
  go_enter Try.func33, Try.ntmps33
  go_upto_region 1 with (fail)
  generalize w.alloc (.cells #[.int .i64 kd, .int .i64 a, .int .i64 b] 59) = w1 at *
  have hc0 := cell_of_row w1 _ 0 _ _ _ hbk
  have hc1 := cell_of_row w1 _ 1 _ _ _ hbk
  have hc2 := cell_of_row w1 _ 2 _ _ _ hbk
  simp only [List.getElem?_toArray, List.getElem?_cons_zero, List.getElem?_cons_succ] at hc0 hc1 hc2
  have hs0 := hba.size
  go_wp2_with fail
  refine (Uint_any hR0).mono ?_
  rintro e w3 ⟨D1, v, rfl, HV, hR3, ho3⟩
  have hv := uintS_lt hok HV.out
  have HW : Hid (wordS 1 D a b = (D1, sh v)) := Lib.hid (by unfold wordS; rw [if_neg (by decide), if_pos (by decide), HV.out])
  go_wp2_with fail
  refine (rUint_any v w3 hv).mono ?_
  rintro e w4 ⟨v4, rfl, hO4, hb4⟩
  have ho5 : Only w w4 (fun k => k = r) := ((Only.of_below hba (fun k => k = r)).same ho3).below hb4
  have hR4 := hR3.below hb4
  replace hO4 := hO4.less (Nat.le_trans hs0 ho3.size)
  go_wp2_with fail
  go_ret
  exact ⟨D1, _, _, rfl, HW, hO4, hR4, ho5⟩
set_option maxHeartbeats 4000000 in
theorem word_2 (h : RS w r A n c D) (hn : n ≤ 1048576) (kd a b : Int) (ha : a ≤ 9223372036854775807) (hb : b ≤ 9223372036854775807) (hk : (wrap64 (kd.tmod 10 + 10)).tmod 10 = 2) :
    Calls Try.prog 33 #[.pointer (some ⟨r, 0, none⟩), .agg #[.int .i64 kd, .int .i64 a, .int .i64 b]] w (Wrd w r A n c D 2 a b) := by
  have hba := below_alloc (Below.refl w.heap.size w) (.cells #[.int .i64 kd, .int .i64 a, .int .i64 b] 59)
  have hbk := heap_alloc_new w (.cells #[.int .i64 kd, .int .i64 a, .int .i64 b] 59)
  have hok := h.ok
  have HL := Lib.hid h.row.len
  have hR0 := h.below hba
  clear h
  unfold Wrd
  go_enter Try.func33, Try.ntmps33
  go_upto_region 1 with (fail)
  generalize w.alloc (.cells #[.int .i64 kd, .int .i64 a, .int .i64 b] 59) = w1 at *
  have hc0 := cell_of_row w1 _ 0 _ _ _ hbk
  have hc1 := cell_of_row w1 _ 1 _ _ _ hbk
  have hc2 := cell_of_row w1 _ 2 _ _ _ hbk
  simp only [List.getElem?_toArray, List.getElem?_cons_zero, List.getElem?_cons_succ] at hc0 hc1 hc2
  have hs0 := hba.size
  go_wp2_with fail
  refine (Int_any hR0).mono ?_
  rintro e w3 ⟨D1, v, rfl, HV, hR3, ho3⟩
  have hv := uintS_lt hok HV.out
  have hz1 : -9223372036854775808 ≤ unzig v := by unfold unzig; split <;> omega
  have hz2 : unzig v ≤ 9223372036854775807 := by unfold unzig; split <;> omega
  have HW : Hid (wordS 2 D a b = (D1, sh v)) := Lib.hid (by unfold wordS; rw [if_neg (by decide), if_pos (by decide), HV.out])
  go_wp2_with fail
  refine (rInt_any (unzig v) hz1 hz2).mono ?_
  rintro e w4 ⟨v4, rfl, hO4, hb4⟩
  rw [zig_unzig] at hO4
  have ho5 : Only w w4 (fun k => k = r) := ((Only.of_below hba (fun k => k = r)).same ho3).below hb4
  have hR4 := hR3.below hb4
  replace hO4 := hO4.less (Nat.le_trans hs0 ho3.size)
  go_wp2_with fail
  go_ret
  exact ⟨D1, _, _, rfl, HW, hO4, hR4, ho5⟩
set_option maxHeartbeats 4000000 in
theorem word_3 (h : RS w r A n c D) (hn : n ≤ 1048576) (kd a b : Int) (ha : a ≤ 9223372036854775807) (hb : b ≤ 9223372036854775807) (hk : (wrap64 (kd.tmod 10 + 10)).tmod 10 = 3) :
    Calls Try.prog 33 #[.pointer (some ⟨r, 0, none⟩), .agg #[.int .i64 kd, .int .i64 a, .int .i64 b]] w (Wrd w r A n c D 3 a b) := by
  have hba := below_alloc (Below.refl w.heap.size w) (.cells #[.int .i64 kd, .int .i64 a, .int .i64 b] 59)
  have hbk := heap_alloc_new w (.cells #[.int .i64 kd, .int .i64 a, .int .i64 b] 59)
  have hok := h.ok
  have HL := Lib.hid h.row.len
  have hR0 := h.below hba
  clear h
  unfold Wrd
  go_enter Try.func33, Try.ntmps33
  go_upto_region 1 with (fail)
  generalize w.alloc (.cells #[.int .i64 kd, .int .i64 a, .int .i64 b] 59) = w1 at *
  have hc0 := cell_of_row w1 _ 0 _ _ _ hbk
  have hc1 := cell_of_row w1 _ 1 _ _ _ hbk
  have hc2 := cell_of_row w1 _ 2 _ _ _ hbk
  simp only [List.getElem?_toArray, List.getElem?_cons_zero, List.getElem?_cons_succ] at hc0 hc1 hc2
  have hs0 := hba.size
  go_wp2_with fail
  refine (Count_any hR0 a ha).mono ?_
  rintro e w3 ⟨D1, v, rfl, HV, hR3, ho3⟩
  have hv := countS_le HV.out
  have HW : Hid (wordS 3 D a b = (D1, sh (zig (v : Int)))) := Lib.hid (by unfold wordS; rw [if_neg (by decide), if_neg (by decide), if_pos rfl, HV.out])
  go_wp2_with fail
  refine (rInt_any (v : Int) (by omega) (by omega)).mono ?_
  rintro e w4 ⟨v4, rfl, hO4, hb4⟩
  have ho5 : Only w w4 (fun k => k = r) := ((Only.of_below hba (fun k => k = r)).same ho3).below hb4
  have hR4 := hR3.below hb4
  replace hO4 := hO4.less (Nat.le_trans hs0 ho3.size)
  go_wp2_with fail
  go_ret
  exact ⟨D1, _, _, rfl, HW, hO4, hR4, ho5⟩
set_option maxHeartbeats 4000000 in
theorem word_4 (h : RS w r A n c D) (hn : n ≤ 1048576) (kd a b : Int) (ha : a ≤ 9223372036854775807) (hb : b ≤ 9223372036854775807) (hk : (wrap64 (kd.tmod 10 + 10)).tmod 10 = 4) :
    Calls Try.prog 33 #[.pointer (some ⟨r, 0, none⟩), .agg #[.int .i64 kd, .int .i64 a, .int .i64 b]] w (Wrd w r A n c D 4 a b) := by
  have hba := below_alloc (Below.refl w.heap.size w) (.cells #[.int .i64 kd, .int .i64 a, .int .i64 b] 59)
  have hbk := heap_alloc_new w (.cells #[.int .i64 kd, .int .i64 a, .int .i64 b] 59)
  have hok := h.ok
  have HL := Lib.hid h.row.len
  have hR0 := h.below hba
  clear h
  unfold Wrd
  go_enter Try.func33, Try.ntmps33
  go_upto_region 1 with (fail)
  generalize w.alloc (.cells #[.int .i64 kd, .int .i64 a, .int .i64 b] 59) = w1 at *
  have hc0 := cell_of_row w1 _ 0 _ _ _ hbk
  have hc1 := cell_of_row w1 _ 1 _ _ _ hbk
  have hc2 := cell_of_row w1 _ 2 _ _ _ hbk
  simp only [List.getElem?_toArray, List.getElem?_cons_zero, List.getElem?_cons_succ] at hc0 hc1 hc2
  have hs0 := hba.size
  go_wp2_with fail
  refine (Bool_any hR0).mono ?_
  rintro e w3 ⟨D1, v, rfl, HV, hR3, ho3⟩
  have HW : Hid (wordS 4 D a b = (D1, tru v)) := Lib.hid (by unfold wordS; rw [if_neg (by decide), if_neg (by decide), if_neg (by decide), if_pos rfl, HV.out])
  go_wp2_with fail
  refine (rBool_any v).mono ?_
  rintro e w4 ⟨v4, rfl, hO4, hb4⟩
  have ho5 : Only w w4 (fun k => k = r) := ((Only.of_below hba (fun k => k = r)).same ho3).below hb4
  have hR4 := hR3.below hb4
  replace hO4 := hO4.less (Nat.le_trans hs0 ho3.size)
  go_wp2_with fail
  go_ret
  exact ⟨D1, _, _, rfl, HW, hO4, hR4, ho5⟩
set_option maxHeartbeats 4000000 in
theorem word_5 (h : RS w r A n c D) (hn : n ≤ 1048576) (kd a b : Int) (ha : a ≤ 9223372036854775807) (hb : b ≤ 9223372036854775807) (hk : (wrap64 (kd.tmod 10 + 10)).tmod 10 = 5) :
    Calls Try.prog 33 #[.pointer (some ⟨r, 0, none⟩), .agg #[.int .i64 kd, .int .i64 a, .int .i64 b]] w (Wrd w r A n c D 5 a b) := by
  have hba := below_alloc (Below.refl w.heap.size w) (.cells #[.int .i64 kd, .int .i64 a, .int .i64 b] 59)
  have hbk := heap_alloc_new w (.cells #[.int .i64 kd, .int .i64 a, .int .i64 b] 59)
  have hok := h.ok
  have HL := Lib.hid h.row.len
  have hR0 := h.below hba
  clear h
  unfold Wrd
  go_enter Try.func33, Try.ntmps33
  go_upto_region 1 with (fail)
  generalize w.alloc (.cells #[.int .i64 kd, .int .i64 a, .int .i64 b] 59) = w1 at *
  have hc0 := cell_of_row w1 _ 0 _ _ _ hbk
  have hc1 := cell_of_row w1 _ 1 _ _ _ hbk
  have hc2 := cell_of_row w1 _ 2 _ _ _ hbk
  simp only [List.getElem?_toArray, List.getElem?_cons_zero, List.getElem?_cons_succ] at hc0 hc1 hc2
  have hs0 := hba.size
  go_wp2_with fail
  refine (Text_any hR0 a ha).mono ?_
  rintro e w3 ⟨D1, v, rfl, HV, hR3, ho3⟩
  have hv := textS_size hok HV.out
  rw [HL.out] at hv
  have HW : Hid (wordS 5 D a b = (D1, txt v)) := Lib.hid (by unfold wordS; rw [if_neg (by decide), if_neg (by decide), if_neg (by decide), if_neg (by decide), if_pos rfl, HV.out])
  go_wp2_with fail
  refine (rText_any v (by omega)).mono ?_
  rintro e w4 ⟨v4, rfl, hO4, hb4⟩
  have ho5 : Only w w4 (fun k => k = r) := ((Only.of_below hba (fun k => k = r)).same ho3).below hb4
  have hR4 := hR3.below hb4
  replace hO4 := hO4.less (Nat.le_trans hs0 ho3.size)
  go_wp2_with fail
  go_ret
  exact ⟨D1, _, _, rfl, HW, hO4, hR4, ho5⟩
set_option maxHeartbeats 4000000 in
theorem word_6 (h : RS w r A n c D) (hn : n ≤ 1048576) (kd a b : Int) (ha : a ≤ 9223372036854775807) (hb : b ≤ 9223372036854775807) (hk : (wrap64 (kd.tmod 10 + 10)).tmod 10 = 6) :
    Calls Try.prog 33 #[.pointer (some ⟨r, 0, none⟩), .agg #[.int .i64 kd, .int .i64 a, .int .i64 b]] w (Wrd w r A n c D 6 a b) := by
  have hba := below_alloc (Below.refl w.heap.size w) (.cells #[.int .i64 kd, .int .i64 a, .int .i64 b] 59)
  have hbk := heap_alloc_new w (.cells #[.int .i64 kd, .int .i64 a, .int .i64 b] 59)
  have hok := h.ok
  have HL := Lib.hid h.row.len
  have hR0 := h.below hba
  clear h
  unfold Wrd
  go_enter Try.func33, Try.ntmps33
  go_upto_region 1 with (fail)
  generalize w.alloc (.cells #[.int .i64 kd, .int .i64 a, .int .i64 b] 59) = w1 at *
  have hc0 := cell_of_row w1 _ 0 _ _ _ hbk
  have hc1 := cell_of_row w1 _ 1 _ _ _ hbk
  have hc2 := cell_of_row w1 _ 2 _ _ _ hbk
  simp only [List.getElem?_toArray, List.getElem?_cons_zero, List.getElem?_cons_succ] at hc0 hc1 hc2
  have hs0 := hba.size
  go_wp2_with fail
  refine (List_any hR0 (by omega) a b ha hb).mono ?_
  rintro e w3 ⟨D1, v3, l, rfl, HV, hO3, hR3, ho3⟩
  have hv := listS_facts hok HV.out
  rw [HL.out] at hv
  obtain ⟨A3, c3, rfl, hT3⟩ := hO3.reads
  obtain ⟨ml, hml⟩ : ∃ ml, l.length = ml := ⟨_, rfl⟩
  rw [hml] at hT3 hv ⊢
  have hmb : ml ≤ 1048576 := by omega
  have HSS : Hid (∀ x ∈ l, x.size ≤ 1048576) := Lib.hid (fun x hx => by have := hv.2 x hx; omega)
  clear hml hv hO3
  have HW : Hid (wordS 6 D a b = (D1, lst l)) := Lib.hid (by unfold wordS; rw [if_neg (by decide), if_neg (by decide), if_neg (by decide), if_neg (by decide), if_neg (by decide), if_pos rfl, HV.out])
  go_wp2_with fail
  refine (rList_any hT3 1048576 (by omega) HSS.out (by omega)).mono ?_
  rintro e w4 ⟨v4, rfl, hO4, hb4⟩
  have ho5 : Only w w4 (fun k => k = r) := ((Only.of_below hba (fun k => k = r)).same ho3).below hb4
  have hR4 := hR3.below hb4
  replace hO4 := hO4.less (Nat.le_trans hs0 ho3.size)
  go_wp2_with fail
  go_ret
  exact ⟨D1, _, _, rfl, HW, hO4, hR4, ho5⟩
set_option maxHeartbeats 4000000 in
theorem word_7 (h : RS w r A n c D) (hn : n ≤ 1048576) (kd a b : Int) (ha : a ≤ 9223372036854775807) (hb : b ≤ 9223372036854775807) (kz : Int) (hk : (wrap64 (kd.tmod 10 + 10)).tmod 10 = kz) (e0 : (kz == 0) = false) (e1 : (kz == 1) = false) (e2 : (kz == 2) = false) (e3 : (kz == 3) = false) (e4 : (kz == 4) = false) (e5 : (kz == 5) = false) (e6 : (kz == 6) = false) :
    Calls Try.prog 33 #[.pointer (some ⟨r, 0, none⟩), .agg #[.int .i64 kd, .int .i64 a, .int .i64 b]] w (Wrd w r A n c D kz a b) := by
  have hba := below_alloc (Below.refl w.heap.size w) (.cells #[.int .i64 kd, .int .i64 a, .int .i64 b] 59)
  have hbk := heap_alloc_new w (.cells #[.int .i64 kd, .int .i64 a, .int .i64 b] 59)
  have hok := h.ok
  have HL := Lib.hid h.row.len
  have hR0 := h.below hba
  clear h
  unfold Wrd
  go_enter Try.func33, Try.ntmps33
  go_upto_region 1 with (fail)
  generalize w.alloc (.cells #[.int .i64 kd, .int .i64 a, .int .i64 b] 59) = w1 at *
  have hc0 := cell_of_row w1 _ 0 _ _ _ hbk
  have hc1 := cell_of_row w1 _ 1 _ _ _ hbk
  have hc2 := cell_of_row w1 _ 2 _ _ _ hbk
  simp only [List.getElem?_toArray, List.getElem?_cons_zero, List.getElem?_cons_succ] at hc0 hc1 hc2
  have hs0 := hba.size
  go_wp2_with fail
  refine (Raw_any hR0 a ha).mono ?_
  rintro e w3 ⟨D1, v, ys, rfl, HV, hO3, hR3, ho3⟩
  have HW : Hid (wordS kz D a b = (D1, ys)) := Lib.hid (by
    unfold wordS
    rw [if_neg (by simpa using e0), if_neg (by simpa using ⟨by simpa using e1, by simpa using e2⟩), if_neg (by simpa using e3), if_neg (by simpa using e4), if_neg (by simpa using e5), if_neg (by simpa using e6), HV.out])
  have ho5 : Only w w3 (fun k => k = r) := (Only.of_below hba (fun k => k = r)).same ho3
  replace hO3 := hO3.less hs0
  go_wp2_with fail
  go_ret
  exact ⟨D1, _, _, rfl, HW, hO3, hR3, ho5⟩
theorem word_any (h : RS w r A n c D) (hn : n ≤ 1048576) (kd a b : Int) (ha : a ≤ 9223372036854775807) (hb : b ≤ 9223372036854775807) :
    Calls Try.prog 33 #[.pointer (some ⟨r, 0, none⟩), .agg #[.int .i64 kd, .int .i64 a, .int .i64 b]] w (Wrd w r A n c D ((wrap64 (kd.tmod 10 + 10)).tmod 10) a b) := by
  obtain ⟨kz, hk⟩ : ∃ kz, (wrap64 (kd.tmod 10 + 10)).tmod 10 = kz := ⟨_, rfl⟩
  rw [hk]
  by_cases k0 : kz = 0
  · subst k0; exact word_0 h hn kd a b ha hb hk
  by_cases k1 : kz = 1
  · subst k1; exact word_1 h hn kd a b ha hb hk
  by_cases k2 : kz = 2
  · subst k2; exact word_2 h hn kd a b ha hb hk
  by_cases k3 : kz = 3
  · subst k3; exact word_3 h hn kd a b ha hb hk
  by_cases k4 : kz = 4
  · subst k4; exact word_4 h hn kd a b ha hb hk
  by_cases k5 : kz = 5
  · subst k5; exact word_5 h hn kd a b ha hb hk
  by_cases k6 : kz = 6
  · subst k6; exact word_6 h hn kd a b ha hb hk
  exact word_7 h hn kd a b ha hb kz hk (beq_eq_false_iff_ne.2 k0) (beq_eq_false_iff_ne.2 k1) (beq_eq_false_iff_ne.2 k2) (beq_eq_false_iff_ne.2 k3) (beq_eq_false_iff_ne.2 k4) (beq_eq_false_iff_ne.2 k5) (beq_eq_false_iff_ne.2 k6)
end
end Go.Proofs.Ytiadfmbddkcleaa
