/- The law's step: one call of both readers; stands; alive. -/
import Derived.Test.YtiadfmbddkcleaaWiX
import Derived.Test.YtiadfmbddkcleaaWiAa
import Derived.Test.YtiadfmbddkcleaaRSm
namespace Go.Proofs.Ytiadfmbddkcleaa
open Go.RowKit Go.Kit Go.Proofs.YtiadfmbddkcleaaW.PrintWords
/-- Both readers, of one state. -/
structure Tr (w : World) (r q : Nat) (A : Option Addr) (n c : Nat) (B : Option Addr) (d : Nat) (D : Rd) : Prop where
  rs : RS w r A n c D
  qr : QR w q B n d D
  sep : Sep (rdf r A) (qrf q B)
theorem Tr.sepR {w : World} {r q n c d : Nat} {A B : Option Addr} {D : Rd} (h : Tr w r q A n c B d D) : Sep (qrf q B) (fun k => k = r) := fun k hk e => h.sep r (.inl rfl) (e ▸ hk)
theorem Tr.sepQ {w : World} {r q n c d : Nat} {A B : Option Addr} {D : Rd} (h : Tr w r q A n c B d D) : Sep (rdf r A) (fun k => k = q) := fun k hk e => h.sep k hk (.inl e)
theorem Tr.below {w w1 : World} {r q n c d : Nat} {A B : Option Addr} {D : Rd} (h : Tr w r q A n c B d D) (hb : Below w.heap.size w w1) : Tr w1 r q A n c B d D := ⟨h.rs.below hb, h.qr.below hb, h.sep⟩
/-- What one call leaves. -/
def Stp (w : World) (r q : Nat) (A : Option Addr) (n c : Nat) (B : Option Addr) (d : Nat) (e : Ending) (w' : World) : Prop := e = .returned (.bool true) ∧ ∃ D1, Tr w' r q A n c B d D1 ∧ Only w w' (fun k => k = r ∨ k = q)
section
variable {w w1 : World} {r q n c d : Nat} {A B : Option Addr} {D : Rd}
set_option maxHeartbeats 4000000 in
set_option maxRecDepth 100000 in
theorem step_0 (h : Tr w r q A n c B d D) (hn : n ≤ 4398046511104) (kd a b : Int) (ha : a ≤ 9223372036854775807) (hb : b ≤ 9223372036854775807) (hk : (wrap64 (kd.tmod 10 + 10)).tmod 10 = 0) :
    Calls Try.prog 35 #[.pointer (some ⟨r, 0, none⟩), .pointer (some ⟨q, 0, none⟩), .agg #[.int .i64 kd, .int .i64 a, .int .i64 b]] w (Stp w r q A n c B d) := by
  have hba := below_alloc (Below.refl w.heap.size w) (.cells #[.int .i64 kd, .int .i64 a, .int .i64 b] 59)
  have hbk := heap_alloc_new w (.cells #[.int .i64 kd, .int .i64 a, .int .i64 b] 59)
  have hgr : w.heap.size ≠ r := fun e => absurd (h.rs.oldF r (.inl rfl)) (by omega)
  have hgq : w.heap.size ≠ q := fun e => absurd (h.qr.oldF q (.inl rfl)) (by omega)
  have hR0 := h.rs.below hba
  have hQ0 := h.qr.below hba
  have hS1 := h.sepR
  have hS2 := h.sepQ
  have hsep := h.sep
  clear h
  unfold Stp
  go_enter Try.func35, Try.ntmps35
  go_upto_region 1 with (fail)
  generalize w.alloc (.cells #[.int .i64 kd, .int .i64 a, .int .i64 b] 59) = w1 at *
  have hc0 := cell_of_row w1 _ 0 _ _ _ hbk
  have hc1 := cell_of_row w1 _ 1 _ _ _ hbk
  have hc2 := cell_of_row w1 _ 2 _ _ _ hbk
  simp only [List.getElem?_toArray, List.getElem?_cons_zero, List.getElem?_cons_succ] at hc0 hc1 hc2
  generalize w.heap.size = gb at hc0 hc1 hc2 hgr hgq ⊢
  go_wp2_with fail
  refine (Byte_any hR0).mono ?_
  rintro e w3 ⟨D1, v, rfl, HU, hR3, ho3⟩
  have hQ3 := hQ0.only ho3 hS1
  go_wp2_with fail
  refine (rByte_any hQ3).mono ?_
  rintro e w4 ⟨D2, v', rfl, HU2, _, _, hQ4, ho4⟩
  have hR4 := hR3.only ho4 hS2
  have hee := HU.out.symm.trans HU2.out
  cases hee
  have how : Only w w4 (fun k => k = r ∨ k = q) := ((Only.of_below hba (fun k => k = r ∨ k = q)).same (ho3.mono (fun k e => .inl e))).same (ho4.mono (fun k e => .inr e))
  have hTr : Tr w4 r q A n c B d D1 := ⟨hR4, hQ4, hsep⟩
  clear ho3 ho4 hR3 hQ3 hR4 hQ4
  go_wp2_with fail
  go_ret
  exact ⟨rfl, D1, hTr, how⟩
set_option maxHeartbeats 4000000 in
set_option maxRecDepth 100000 in
theorem step_1 (h : Tr w r q A n c B d D) (hn : n ≤ 4398046511104) (kd a b : Int) (ha : a ≤ 9223372036854775807) (hb : b ≤ 9223372036854775807) (hk : (wrap64 (kd.tmod 10 + 10)).tmod 10 = 1) :
    Calls Try.prog 35 #[.pointer (some ⟨r, 0, none⟩), .pointer (some ⟨q, 0, none⟩), .agg #[.int .i64 kd, .int .i64 a, .int .i64 b]] w (Stp w r q A n c B d) := by
  have hba := below_alloc (Below.refl w.heap.size w) (.cells #[.int .i64 kd, .int .i64 a, .int .i64 b] 59)
  have hbk := heap_alloc_new w (.cells #[.int .i64 kd, .int .i64 a, .int .i64 b] 59)
  have hgr : w.heap.size ≠ r := fun e => absurd (h.rs.oldF r (.inl rfl)) (by omega)
  have hgq : w.heap.size ≠ q := fun e => absurd (h.qr.oldF q (.inl rfl)) (by omega)
  have hR0 := h.rs.below hba
  have hQ0 := h.qr.below hba
  have hS1 := h.sepR
  have hS2 := h.sepQ
  have hsep := h.sep
  clear h
  unfold Stp
  go_enter Try.func35, Try.ntmps35
  go_upto_region 1 with (fail)
  generalize w.alloc (.cells #[.int .i64 kd, .int .i64 a, .int .i64 b] 59) = w1 at *
  have hc0 := cell_of_row w1 _ 0 _ _ _ hbk
  have hc1 := cell_of_row w1 _ 1 _ _ _ hbk
  have hc2 := cell_of_row w1 _ 2 _ _ _ hbk
  simp only [List.getElem?_toArray, List.getElem?_cons_zero, List.getElem?_cons_succ] at hc0 hc1 hc2
  generalize w.heap.size = gb at hc0 hc1 hc2 hgr hgq ⊢
  go_wp2_with fail
  refine (Uint_any hR0).mono ?_
  rintro e w3 ⟨D1, v, rfl, HU, hR3, ho3⟩
  have hQ3 := hQ0.only ho3 hS1
  go_wp2_with fail
  refine (rRUint_any hQ3).mono ?_
  rintro e w4 ⟨D2, v', rfl, HU2, hQ4, ho4⟩
  have hR4 := hR3.only ho4 hS2
  have hee := HU.out.symm.trans HU2.out
  cases hee
  have how : Only w w4 (fun k => k = r ∨ k = q) := ((Only.of_below hba (fun k => k = r ∨ k = q)).same (ho3.mono (fun k e => .inl e))).same (ho4.mono (fun k e => .inr e))
  have hTr : Tr w4 r q A n c B d D1 := ⟨hR4, hQ4, hsep⟩
  clear ho3 ho4 hR3 hQ3 hR4 hQ4
  go_wp2_with fail
  go_ret
  exact ⟨rfl, D1, hTr, how⟩
set_option maxHeartbeats 4000000 in
set_option maxRecDepth 100000 in
theorem step_2 (h : Tr w r q A n c B d D) (hn : n ≤ 4398046511104) (kd a b : Int) (ha : a ≤ 9223372036854775807) (hb : b ≤ 9223372036854775807) (hk : (wrap64 (kd.tmod 10 + 10)).tmod 10 = 2) :
    Calls Try.prog 35 #[.pointer (some ⟨r, 0, none⟩), .pointer (some ⟨q, 0, none⟩), .agg #[.int .i64 kd, .int .i64 a, .int .i64 b]] w (Stp w r q A n c B d) := by
  have hba := below_alloc (Below.refl w.heap.size w) (.cells #[.int .i64 kd, .int .i64 a, .int .i64 b] 59)
  have hbk := heap_alloc_new w (.cells #[.int .i64 kd, .int .i64 a, .int .i64 b] 59)
  have hgr : w.heap.size ≠ r := fun e => absurd (h.rs.oldF r (.inl rfl)) (by omega)
  have hgq : w.heap.size ≠ q := fun e => absurd (h.qr.oldF q (.inl rfl)) (by omega)
  have hR0 := h.rs.below hba
  have hQ0 := h.qr.below hba
  have hS1 := h.sepR
  have hS2 := h.sepQ
  have hsep := h.sep
  clear h
  unfold Stp
  go_enter Try.func35, Try.ntmps35
  go_upto_region 1 with (fail)
  generalize w.alloc (.cells #[.int .i64 kd, .int .i64 a, .int .i64 b] 59) = w1 at *
  have hc0 := cell_of_row w1 _ 0 _ _ _ hbk
  have hc1 := cell_of_row w1 _ 1 _ _ _ hbk
  have hc2 := cell_of_row w1 _ 2 _ _ _ hbk
  simp only [List.getElem?_toArray, List.getElem?_cons_zero, List.getElem?_cons_succ] at hc0 hc1 hc2
  generalize w.heap.size = gb at hc0 hc1 hc2 hgr hgq ⊢
  go_wp2_with fail
  refine (Int_any hR0).mono ?_
  rintro e w3 ⟨D1, v, rfl, HU, hR3, ho3⟩
  have hQ3 := hQ0.only ho3 hS1
  go_wp2_with fail
  refine (rRInt_any hQ3).mono ?_
  rintro e w4 ⟨D2, v', rfl, HU2, hQ4, ho4⟩
  have hR4 := hR3.only ho4 hS2
  have hee := HU.out.symm.trans HU2.out
  cases hee
  have how : Only w w4 (fun k => k = r ∨ k = q) := ((Only.of_below hba (fun k => k = r ∨ k = q)).same (ho3.mono (fun k e => .inl e))).same (ho4.mono (fun k e => .inr e))
  have hTr : Tr w4 r q A n c B d D1 := ⟨hR4, hQ4, hsep⟩
  clear ho3 ho4 hR3 hQ3 hR4 hQ4
  go_wp2_with fail
  go_ret
  exact ⟨rfl, D1, hTr, how⟩
set_option maxHeartbeats 4000000 in
set_option maxRecDepth 100000 in
theorem step_4 (h : Tr w r q A n c B d D) (hn : n ≤ 4398046511104) (kd a b : Int) (ha : a ≤ 9223372036854775807) (hb : b ≤ 9223372036854775807) (hk : (wrap64 (kd.tmod 10 + 10)).tmod 10 = 4) :
    Calls Try.prog 35 #[.pointer (some ⟨r, 0, none⟩), .pointer (some ⟨q, 0, none⟩), .agg #[.int .i64 kd, .int .i64 a, .int .i64 b]] w (Stp w r q A n c B d) := by
  have hba := below_alloc (Below.refl w.heap.size w) (.cells #[.int .i64 kd, .int .i64 a, .int .i64 b] 59)
  have hbk := heap_alloc_new w (.cells #[.int .i64 kd, .int .i64 a, .int .i64 b] 59)
  have hgr : w.heap.size ≠ r := fun e => absurd (h.rs.oldF r (.inl rfl)) (by omega)
  have hgq : w.heap.size ≠ q := fun e => absurd (h.qr.oldF q (.inl rfl)) (by omega)
  have hR0 := h.rs.below hba
  have hQ0 := h.qr.below hba
  have hS1 := h.sepR
  have hS2 := h.sepQ
  have hsep := h.sep
  clear h
  unfold Stp
  go_enter Try.func35, Try.ntmps35
  go_upto_region 1 with (fail)
  generalize w.alloc (.cells #[.int .i64 kd, .int .i64 a, .int .i64 b] 59) = w1 at *
  have hc0 := cell_of_row w1 _ 0 _ _ _ hbk
  have hc1 := cell_of_row w1 _ 1 _ _ _ hbk
  have hc2 := cell_of_row w1 _ 2 _ _ _ hbk
  simp only [List.getElem?_toArray, List.getElem?_cons_zero, List.getElem?_cons_succ] at hc0 hc1 hc2
  generalize w.heap.size = gb at hc0 hc1 hc2 hgr hgq ⊢
  go_wp2_with fail
  refine (Bool_any hR0).mono ?_
  rintro e w3 ⟨D1, v, rfl, HU, hR3, ho3⟩
  have hQ3 := hQ0.only ho3 hS1
  go_wp2_with fail
  refine (rBool_any' hQ3).mono ?_
  rintro e w4 ⟨D2, v', rfl, HU2, hQ4, ho4⟩
  have hR4 := hR3.only ho4 hS2
  have hee := HU.out.symm.trans HU2.out
  cases hee
  have how : Only w w4 (fun k => k = r ∨ k = q) := ((Only.of_below hba (fun k => k = r ∨ k = q)).same (ho3.mono (fun k e => .inl e))).same (ho4.mono (fun k e => .inr e))
  have hTr : Tr w4 r q A n c B d D1 := ⟨hR4, hQ4, hsep⟩
  clear ho3 ho4 hR3 hQ3 hR4 hQ4
  go_wp2_with fail
  go_ret
  exact ⟨rfl, D1, hTr, how⟩
set_option maxHeartbeats 4000000 in
set_option maxRecDepth 100000 in
theorem step_3 (h : Tr w r q A n c B d D) (hn : n ≤ 4398046511104) (kd a b : Int) (ha : a ≤ 9223372036854775807) (hb : b ≤ 9223372036854775807) (hk : (wrap64 (kd.tmod 10 + 10)).tmod 10 = 3) :
    Calls Try.prog 35 #[.pointer (some ⟨r, 0, none⟩), .pointer (some ⟨q, 0, none⟩), .agg #[.int .i64 kd, .int .i64 a, .int .i64 b]] w (Stp w r q A n c B d) := by
  have hba := below_alloc (Below.refl w.heap.size w) (.cells #[.int .i64 kd, .int .i64 a, .int .i64 b] 59)
  have hbk := heap_alloc_new w (.cells #[.int .i64 kd, .int .i64 a, .int .i64 b] 59)
  have hgr : w.heap.size ≠ r := fun e => absurd (h.rs.oldF r (.inl rfl)) (by omega)
  have hgq : w.heap.size ≠ q := fun e => absurd (h.qr.oldF q (.inl rfl)) (by omega)
  have hR0 := h.rs.below hba
  have hQ0 := h.qr.below hba
  have hS1 := h.sepR
  have hS2 := h.sepQ
  have hsep := h.sep
  clear h
  unfold Stp
  go_enter Try.func35, Try.ntmps35
  go_upto_region 1 with (fail)
  generalize w.alloc (.cells #[.int .i64 kd, .int .i64 a, .int .i64 b] 59) = w1 at *
  have hc0 := cell_of_row w1 _ 0 _ _ _ hbk
  have hc1 := cell_of_row w1 _ 1 _ _ _ hbk
  have hc2 := cell_of_row w1 _ 2 _ _ _ hbk
  simp only [List.getElem?_toArray, List.getElem?_cons_zero, List.getElem?_cons_succ] at hc0 hc1 hc2
  generalize w.heap.size = gb at hc0 hc1 hc2 hgr hgq ⊢
  go_wp2_with fail
  replace hR0 := hR0.drewN 1
  replace hQ0 := hQ0.drewN 1
  refine wp_region_held_drew (S := fun w' => w'.cell? ⟨gb, 1, none⟩ = some (.int .i64 a) ∧ w'.cell? ⟨gb, 2, none⟩ = some (.int .i64 b)) (by kernel_rfl) (⟨hc1, hc2⟩) (fun hHeld => ?_)
  refine wpAnyH_take (i := 0) (v := (.pointer (some ⟨r, 0, none⟩))) (oi := ⟨_, _, _, _, _, _⟩) rfl (by kernel_rfl) (by kernel_rfl) (by kernel_rfl) (fun _ _ _ h => h) (Or.inl ⟨by kernel_rfl, fun W hS => ?_⟩) (by assumption) ?_
  · dsimp only at hS; go_split_ands; go_simp
  simp only [Act.put, List.setIfInBounds_toArray, List.set_cons_zero, List.set_cons_succ]
  refine wpAnyH_take (i := 1) (v := (.pointer (some ⟨gb, 1, none⟩))) (oi := ⟨_, _, _, _, _, _⟩) rfl (by kernel_rfl) (by kernel_rfl) (by kernel_rfl) (fun _ _ _ h => h) (Or.inl ⟨by kernel_rfl, fun W hS => ?_⟩) (by assumption) ?_
  · dsimp only at hS; go_split_ands; go_simp
  simp only [Act.put, List.setIfInBounds_toArray, List.set_cons_zero, List.set_cons_succ]
  refine wpAnyH_take (i := 2) (v := (.int .i64 a)) (oi := ⟨_, _, _, _, _, _⟩) rfl (by kernel_rfl) (by kernel_rfl) (by kernel_rfl) (fun _ _ _ h => h) (Or.inl ⟨by kernel_rfl, fun W hS => ?_⟩) (by assumption) ?_
  · dsimp only at hS; go_split_ands; go_simp
  simp only [Act.put, List.setIfInBounds_toArray, List.set_cons_zero, List.set_cons_succ]
  refine wpAnyH_take (i := 4) (v := (.pointer (some ⟨q, 0, none⟩))) (oi := ⟨_, _, _, _, _, _⟩) rfl (by kernel_rfl) (by kernel_rfl) (by kernel_rfl) (fun _ _ _ h => h) (Or.inl ⟨by kernel_rfl, fun W hS => ?_⟩) (by assumption) ?_
  · dsimp only at hS; go_split_ands; go_simp
  simp only [Act.put, List.setIfInBounds_toArray, List.set_cons_zero, List.set_cons_succ]
  refine wpAnyH_take (i := 5) (v := (.pointer (some ⟨gb, 1, none⟩))) (oi := ⟨_, _, _, _, _, _⟩) rfl (by kernel_rfl) (by kernel_rfl) (by kernel_rfl) (fun _ _ _ h => h) (Or.inl ⟨by kernel_rfl, fun W hS => ?_⟩) (by assumption) ?_
  · dsimp only at hS; go_split_ands; go_simp
  simp only [Act.put, List.setIfInBounds_toArray, List.set_cons_zero, List.set_cons_succ]
  refine wpAnyH_take (i := 6) (v := (.int .i64 a)) (oi := ⟨_, _, _, _, _, _⟩) rfl (by kernel_rfl) (by kernel_rfl) (by kernel_rfl) (fun _ _ _ h => h) (Or.inl ⟨by kernel_rfl, fun W hS => ?_⟩) (by assumption) ?_
  · dsimp only at hS; go_split_ands; go_simp
  simp only [Act.put, List.setIfInBounds_toArray, List.set_cons_zero, List.set_cons_succ]
  refine wpAnyH_ready (rs := [3]) (by kernel_rfl) (by decide) (AllReadyH.cons (o := ⟨_, _, _, _, _, _⟩) rfl (fun K hK => ?_) AllReadyH.nil)
  rw [if_pos (by kernel_rfl)]
  go_simp
  refine (Count_any hR0 a ha).mono ?_
  rintro e w3 ⟨D1, v, rfl, HU, hR3, ho3⟩
  have hQ3 := hQ0.only ho3 hS1
  go_wp2_with fail
  refine hK.out _ _ (⟨ho3.cell hHeld.1 hgr, ho3.cell hHeld.2 hgr⟩) (fun hHeld => ?_)
  clear hK K
  try simp only [Act.put, List.setIfInBounds_toArray, List.set_cons_zero, List.set_cons_succ]
  refine wpAnyH_ready (rs := [7]) (by kernel_rfl) (by decide) (AllReadyH.cons (o := ⟨_, _, _, _, _, _⟩) rfl (fun K hK => ?_) AllReadyH.nil)
  rw [if_pos (by kernel_rfl)]
  go_simp
  refine (rCount_any hQ3 a ha).mono ?_
  rintro e w4 ⟨D2, v', rfl, HU2, hQ4, ho4⟩
  have hR4 := hR3.only ho4 hS2
  have hee := HU.out.symm.trans HU2.out
  cases hee
  go_wp2_with fail
  refine hK.out _ _ (⟨ho4.cell hHeld.1 hgq, ho4.cell hHeld.2 hgq⟩) (fun hHeld => ?_)
  clear hK K
  try simp only [Act.put, List.setIfInBounds_toArray, List.set_cons_zero, List.set_cons_succ]
  refine wpAnyH_take (i := 8) (v := (.bool true)) (oi := ⟨_, _, _, _, _, _⟩) rfl (by kernel_rfl) (by kernel_rfl) (by kernel_rfl) (fun _ _ _ h => h) (Or.inl ⟨by kernel_rfl, fun W hS => ?_⟩) (by assumption) ?_
  · dsimp only at hS; go_split_ands; go_simp
  simp only [Act.put, List.setIfInBounds_toArray, List.set_cons_zero, List.set_cons_succ]
  refine wpAnyH_take (i := 9) (v := (.bool true)) (oi := ⟨_, _, _, _, _, _⟩) rfl (by kernel_rfl) (by kernel_rfl) (by kernel_rfl) (fun _ _ _ h => h) (Or.inl ⟨by kernel_rfl, fun W hS => ?_⟩) (by assumption) ?_
  · dsimp only at hS; go_split_ands; go_simp
  simp only [Act.put, List.setIfInBounds_toArray, List.set_cons_zero, List.set_cons_succ]
  refine wpAnyH_done (by kernel_rfl) ?_ _
  have how : Only w w4 (fun k => k = r ∨ k = q) := (((Only.of_below hba (fun k => k = r ∨ k = q)).drew).same (ho3.mono (fun k e => .inl e))).same (ho4.mono (fun k e => .inr e))
  have hTr : Tr w4 r q A n c B d D1 := ⟨hR4, hQ4, hsep⟩
  clear ho3 ho4 hR3 hQ3 hR4 hQ4
  go_wp2_with fail
  go_ret
  exact ⟨rfl, D1, hTr, how⟩
set_option maxHeartbeats 4000000 in
set_option maxRecDepth 100000 in
theorem step_5 (h : Tr w r q A n c B d D) (hn : n ≤ 4398046511104) (kd a b : Int) (ha : a ≤ 9223372036854775807) (hb : b ≤ 9223372036854775807) (hk : (wrap64 (kd.tmod 10 + 10)).tmod 10 = 5) :
    Calls Try.prog 35 #[.pointer (some ⟨r, 0, none⟩), .pointer (some ⟨q, 0, none⟩), .agg #[.int .i64 kd, .int .i64 a, .int .i64 b]] w (Stp w r q A n c B d) := by
  have hba := below_alloc (Below.refl w.heap.size w) (.cells #[.int .i64 kd, .int .i64 a, .int .i64 b] 59)
  have hbk := heap_alloc_new w (.cells #[.int .i64 kd, .int .i64 a, .int .i64 b] 59)
  have hgr : w.heap.size ≠ r := fun e => absurd (h.rs.oldF r (.inl rfl)) (by omega)
  have hgq : w.heap.size ≠ q := fun e => absurd (h.qr.oldF q (.inl rfl)) (by omega)
  have hR0 := h.rs.below hba
  have hQ0 := h.qr.below hba
  have hS1 := h.sepR
  have hS2 := h.sepQ
  have hsep := h.sep
  clear h
  unfold Stp
  go_enter Try.func35, Try.ntmps35
  go_upto_region 1 with (fail)
  generalize w.alloc (.cells #[.int .i64 kd, .int .i64 a, .int .i64 b] 59) = w1 at *
  have hc0 := cell_of_row w1 _ 0 _ _ _ hbk
  have hc1 := cell_of_row w1 _ 1 _ _ _ hbk
  have hc2 := cell_of_row w1 _ 2 _ _ _ hbk
  simp only [List.getElem?_toArray, List.getElem?_cons_zero, List.getElem?_cons_succ] at hc0 hc1 hc2
  generalize w.heap.size = gb at hc0 hc1 hc2 hgr hgq ⊢
  go_wp2_with fail
  replace hR0 := hR0.drewN 1
  replace hQ0 := hQ0.drewN 1
  refine wp_region_held_drew (S := fun w' => w'.cell? ⟨gb, 1, none⟩ = some (.int .i64 a) ∧ w'.cell? ⟨gb, 2, none⟩ = some (.int .i64 b)) (by kernel_rfl) (⟨hc1, hc2⟩) (fun hHeld => ?_)
  refine wpAnyH_take (i := 0) (v := (.pointer (some ⟨r, 0, none⟩))) (oi := ⟨_, _, _, _, _, _⟩) rfl (by kernel_rfl) (by kernel_rfl) (by kernel_rfl) (fun _ _ _ h => h) (Or.inl ⟨by kernel_rfl, fun W hS => ?_⟩) (by assumption) ?_
  · dsimp only at hS; go_split_ands; go_simp
  simp only [Act.put, List.setIfInBounds_toArray, List.set_cons_zero, List.set_cons_succ]
  refine wpAnyH_take (i := 1) (v := (.pointer (some ⟨gb, 1, none⟩))) (oi := ⟨_, _, _, _, _, _⟩) rfl (by kernel_rfl) (by kernel_rfl) (by kernel_rfl) (fun _ _ _ h => h) (Or.inl ⟨by kernel_rfl, fun W hS => ?_⟩) (by assumption) ?_
  · dsimp only at hS; go_split_ands; go_simp
  simp only [Act.put, List.setIfInBounds_toArray, List.set_cons_zero, List.set_cons_succ]
  refine wpAnyH_take (i := 2) (v := (.int .i64 a)) (oi := ⟨_, _, _, _, _, _⟩) rfl (by kernel_rfl) (by kernel_rfl) (by kernel_rfl) (fun _ _ _ h => h) (Or.inl ⟨by kernel_rfl, fun W hS => ?_⟩) (by assumption) ?_
  · dsimp only at hS; go_split_ands; go_simp
  simp only [Act.put, List.setIfInBounds_toArray, List.set_cons_zero, List.set_cons_succ]
  refine wpAnyH_take (i := 4) (v := (.pointer (some ⟨q, 0, none⟩))) (oi := ⟨_, _, _, _, _, _⟩) rfl (by kernel_rfl) (by kernel_rfl) (by kernel_rfl) (fun _ _ _ h => h) (Or.inl ⟨by kernel_rfl, fun W hS => ?_⟩) (by assumption) ?_
  · dsimp only at hS; go_split_ands; go_simp
  simp only [Act.put, List.setIfInBounds_toArray, List.set_cons_zero, List.set_cons_succ]
  refine wpAnyH_take (i := 5) (v := (.pointer (some ⟨gb, 1, none⟩))) (oi := ⟨_, _, _, _, _, _⟩) rfl (by kernel_rfl) (by kernel_rfl) (by kernel_rfl) (fun _ _ _ h => h) (Or.inl ⟨by kernel_rfl, fun W hS => ?_⟩) (by assumption) ?_
  · dsimp only at hS; go_split_ands; go_simp
  simp only [Act.put, List.setIfInBounds_toArray, List.set_cons_zero, List.set_cons_succ]
  refine wpAnyH_take (i := 6) (v := (.int .i64 a)) (oi := ⟨_, _, _, _, _, _⟩) rfl (by kernel_rfl) (by kernel_rfl) (by kernel_rfl) (fun _ _ _ h => h) (Or.inl ⟨by kernel_rfl, fun W hS => ?_⟩) (by assumption) ?_
  · dsimp only at hS; go_split_ands; go_simp
  simp only [Act.put, List.setIfInBounds_toArray, List.set_cons_zero, List.set_cons_succ]
  refine wpAnyH_ready (rs := [3]) (by kernel_rfl) (by decide) (AllReadyH.cons (o := ⟨_, _, _, _, _, _⟩) rfl (fun K hK => ?_) AllReadyH.nil)
  rw [if_pos (by kernel_rfl)]
  go_simp
  refine (Text_any hR0 a ha).mono ?_
  rintro e w3 ⟨D1, v, rfl, HU, hR3, ho3⟩
  have hQ3 := hQ0.only ho3 hS1
  go_wp2_with fail
  refine hK.out _ _ (⟨ho3.cell hHeld.1 hgr, ho3.cell hHeld.2 hgr⟩) (fun hHeld => ?_)
  clear hK K
  try simp only [Act.put, List.setIfInBounds_toArray, List.set_cons_zero, List.set_cons_succ]
  refine wpAnyH_ready (rs := [7]) (by kernel_rfl) (by decide) (AllReadyH.cons (o := ⟨_, _, _, _, _, _⟩) rfl (fun K hK => ?_) AllReadyH.nil)
  rw [if_pos (by kernel_rfl)]
  go_simp
  refine (rRText_any hQ3 a ha).mono ?_
  rintro e w4 ⟨D2, v', rfl, HU2, hQ4, ho4⟩
  have hR4 := hR3.only ho4 hS2
  have hee := HU.out.symm.trans HU2.out
  cases hee
  go_wp2_with fail
  refine hK.out _ _ (⟨ho4.cell hHeld.1 hgq, ho4.cell hHeld.2 hgq⟩) (fun hHeld => ?_)
  clear hK K
  try simp only [Act.put, List.setIfInBounds_toArray, List.set_cons_zero, List.set_cons_succ]
  refine wpAnyH_take (i := 8) (v := (.bool true)) (oi := ⟨_, _, _, _, _, _⟩) rfl (by kernel_rfl) (by kernel_rfl) (by kernel_rfl) (fun _ _ _ h => h) (Or.inl ⟨by kernel_rfl, fun W hS => ?_⟩) (by assumption) ?_
  · dsimp only at hS; go_split_ands; go_simp
  simp only [Act.put, List.setIfInBounds_toArray, List.set_cons_zero, List.set_cons_succ]
  refine wpAnyH_take (i := 9) (v := (.bool true)) (oi := ⟨_, _, _, _, _, _⟩) rfl (by kernel_rfl) (by kernel_rfl) (by kernel_rfl) (fun _ _ _ h => h) (Or.inl ⟨by kernel_rfl, fun W hS => ?_⟩) (by assumption) ?_
  · dsimp only at hS; go_split_ands; go_simp
  simp only [Act.put, List.setIfInBounds_toArray, List.set_cons_zero, List.set_cons_succ]
  refine wpAnyH_done (by kernel_rfl) ?_ _
  have how : Only w w4 (fun k => k = r ∨ k = q) := (((Only.of_below hba (fun k => k = r ∨ k = q)).drew).same (ho3.mono (fun k e => .inl e))).same (ho4.mono (fun k e => .inr e))
  have hTr : Tr w4 r q A n c B d D1 := ⟨hR4, hQ4, hsep⟩
  clear ho3 ho4 hR3 hQ3 hR4 hQ4
  go_wp2_with fail
  go_ret
  exact ⟨rfl, D1, hTr, how⟩
set_option maxHeartbeats 4000000 in
set_option maxRecDepth 100000 in
theorem step_6 (h : Tr w r q A n c B d D) (hn : n ≤ 4398046511104) (kd a b : Int) (ha : a ≤ 9223372036854775807) (hb : b ≤ 9223372036854775807) (hk : (wrap64 (kd.tmod 10 + 10)).tmod 10 = 6) :
    Calls Try.prog 35 #[.pointer (some ⟨r, 0, none⟩), .pointer (some ⟨q, 0, none⟩), .agg #[.int .i64 kd, .int .i64 a, .int .i64 b]] w (Stp w r q A n c B d) := by
  have hba := below_alloc (Below.refl w.heap.size w) (.cells #[.int .i64 kd, .int .i64 a, .int .i64 b] 59)
  have hbk := heap_alloc_new w (.cells #[.int .i64 kd, .int .i64 a, .int .i64 b] 59)
  have hgr : w.heap.size ≠ r := fun e => absurd (h.rs.oldF r (.inl rfl)) (by omega)
  have hgq : w.heap.size ≠ q := fun e => absurd (h.qr.oldF q (.inl rfl)) (by omega)
  have hR0 := h.rs.below hba
  have hQ0 := h.qr.below hba
  have hS1 := h.sepR
  have hS2 := h.sepQ
  have hsep := h.sep
  clear h
  unfold Stp
  go_enter Try.func35, Try.ntmps35
  go_upto_region 1 with (fail)
  generalize w.alloc (.cells #[.int .i64 kd, .int .i64 a, .int .i64 b] 59) = w1 at *
  have hc0 := cell_of_row w1 _ 0 _ _ _ hbk
  have hc1 := cell_of_row w1 _ 1 _ _ _ hbk
  have hc2 := cell_of_row w1 _ 2 _ _ _ hbk
  simp only [List.getElem?_toArray, List.getElem?_cons_zero, List.getElem?_cons_succ] at hc0 hc1 hc2
  generalize w.heap.size = gb at hc0 hc1 hc2 hgr hgq ⊢
  go_wp2_with fail
  replace hR0 := hR0.drewN 1
  replace hQ0 := hQ0.drewN 1
  refine wp_region_held_drew (S := fun w' => w'.cell? ⟨gb, 1, none⟩ = some (.int .i64 a) ∧ w'.cell? ⟨gb, 2, none⟩ = some (.int .i64 b)) (by kernel_rfl) (⟨hc1, hc2⟩) (fun hHeld => ?_)
  refine wpAnyH_take (i := 0) (v := (.pointer (some ⟨r, 0, none⟩))) (oi := ⟨_, _, _, _, _, _⟩) rfl (by kernel_rfl) (by kernel_rfl) (by kernel_rfl) (fun _ _ _ h => h) (Or.inl ⟨by kernel_rfl, fun W hS => ?_⟩) (by assumption) ?_
  · dsimp only at hS; go_split_ands; go_simp
  simp only [Act.put, List.setIfInBounds_toArray, List.set_cons_zero, List.set_cons_succ]
  refine wpAnyH_take (i := 1) (v := (.pointer (some ⟨gb, 1, none⟩))) (oi := ⟨_, _, _, _, _, _⟩) rfl (by kernel_rfl) (by kernel_rfl) (by kernel_rfl) (fun _ _ _ h => h) (Or.inl ⟨by kernel_rfl, fun W hS => ?_⟩) (by assumption) ?_
  · dsimp only at hS; go_split_ands; go_simp
  simp only [Act.put, List.setIfInBounds_toArray, List.set_cons_zero, List.set_cons_succ]
  refine wpAnyH_take (i := 2) (v := (.int .i64 a)) (oi := ⟨_, _, _, _, _, _⟩) rfl (by kernel_rfl) (by kernel_rfl) (by kernel_rfl) (fun _ _ _ h => h) (Or.inl ⟨by kernel_rfl, fun W hS => ?_⟩) (by assumption) ?_
  · dsimp only at hS; go_split_ands; go_simp
  simp only [Act.put, List.setIfInBounds_toArray, List.set_cons_zero, List.set_cons_succ]
  refine wpAnyH_take (i := 3) (v := (.pointer (some ⟨gb, 2, none⟩))) (oi := ⟨_, _, _, _, _, _⟩) rfl (by kernel_rfl) (by kernel_rfl) (by kernel_rfl) (fun _ _ _ h => h) (Or.inl ⟨by kernel_rfl, fun W hS => ?_⟩) (by assumption) ?_
  · dsimp only at hS; go_split_ands; go_simp
  simp only [Act.put, List.setIfInBounds_toArray, List.set_cons_zero, List.set_cons_succ]
  refine wpAnyH_take (i := 4) (v := (.int .i64 b)) (oi := ⟨_, _, _, _, _, _⟩) rfl (by kernel_rfl) (by kernel_rfl) (by kernel_rfl) (fun _ _ _ h => h) (Or.inl ⟨by kernel_rfl, fun W hS => ?_⟩) (by assumption) ?_
  · dsimp only at hS; go_split_ands; go_simp
  simp only [Act.put, List.setIfInBounds_toArray, List.set_cons_zero, List.set_cons_succ]
  refine wpAnyH_take (i := 6) (v := (.pointer (some ⟨q, 0, none⟩))) (oi := ⟨_, _, _, _, _, _⟩) rfl (by kernel_rfl) (by kernel_rfl) (by kernel_rfl) (fun _ _ _ h => h) (Or.inl ⟨by kernel_rfl, fun W hS => ?_⟩) (by assumption) ?_
  · dsimp only at hS; go_split_ands; go_simp
  simp only [Act.put, List.setIfInBounds_toArray, List.set_cons_zero, List.set_cons_succ]
  refine wpAnyH_take (i := 7) (v := (.pointer (some ⟨gb, 1, none⟩))) (oi := ⟨_, _, _, _, _, _⟩) rfl (by kernel_rfl) (by kernel_rfl) (by kernel_rfl) (fun _ _ _ h => h) (Or.inl ⟨by kernel_rfl, fun W hS => ?_⟩) (by assumption) ?_
  · dsimp only at hS; go_split_ands; go_simp
  simp only [Act.put, List.setIfInBounds_toArray, List.set_cons_zero, List.set_cons_succ]
  refine wpAnyH_take (i := 8) (v := (.int .i64 a)) (oi := ⟨_, _, _, _, _, _⟩) rfl (by kernel_rfl) (by kernel_rfl) (by kernel_rfl) (fun _ _ _ h => h) (Or.inl ⟨by kernel_rfl, fun W hS => ?_⟩) (by assumption) ?_
  · dsimp only at hS; go_split_ands; go_simp
  simp only [Act.put, List.setIfInBounds_toArray, List.set_cons_zero, List.set_cons_succ]
  refine wpAnyH_take (i := 9) (v := (.pointer (some ⟨gb, 2, none⟩))) (oi := ⟨_, _, _, _, _, _⟩) rfl (by kernel_rfl) (by kernel_rfl) (by kernel_rfl) (fun _ _ _ h => h) (Or.inl ⟨by kernel_rfl, fun W hS => ?_⟩) (by assumption) ?_
  · dsimp only at hS; go_split_ands; go_simp
  simp only [Act.put, List.setIfInBounds_toArray, List.set_cons_zero, List.set_cons_succ]
  refine wpAnyH_take (i := 10) (v := (.int .i64 b)) (oi := ⟨_, _, _, _, _, _⟩) rfl (by kernel_rfl) (by kernel_rfl) (by kernel_rfl) (fun _ _ _ h => h) (Or.inl ⟨by kernel_rfl, fun W hS => ?_⟩) (by assumption) ?_
  · dsimp only at hS; go_split_ands; go_simp
  simp only [Act.put, List.setIfInBounds_toArray, List.set_cons_zero, List.set_cons_succ]
  refine wpAnyH_ready (rs := [5]) (by kernel_rfl) (by decide) (AllReadyH.cons (o := ⟨_, _, _, _, _, _⟩) rfl (fun K hK => ?_) AllReadyH.nil)
  rw [if_pos (by kernel_rfl)]
  go_simp
  refine (List_any hR0 hn a b ha hb).mono ?_
  rintro e w3 ⟨D1, v3, v, rfl, HU, hO3, hR3, ho3⟩
  have hOld := fun A' c' (e : v3 = .slice A' v.length c') => trivial
  clear hOld
  have hQ3 := hQ0.only ho3 hS1
  go_wp2_with fail
  refine hK.out _ _ (⟨ho3.cell hHeld.1 hgr, ho3.cell hHeld.2 hgr⟩) (fun hHeld => ?_)
  clear hK K
  try simp only [Act.put, List.setIfInBounds_toArray, List.set_cons_zero, List.set_cons_succ]
  refine wpAnyH_ready (rs := [11]) (by kernel_rfl) (by decide) (AllReadyH.cons (o := ⟨_, _, _, _, _, _⟩) rfl (fun K hK => ?_) AllReadyH.nil)
  rw [if_pos (by kernel_rfl)]
  go_simp
  refine (rRList_any hQ3 hn a b ha hb).mono ?_
  rintro e w4 ⟨D2, v4, v', rfl, HU2, hO4, hQ4, ho4⟩
  have hR4 := hR3.only ho4 hS2
  have hee := HU.out.symm.trans HU2.out
  cases hee
  have hO3' := ot_kept4 hO3 ho4 (own_not_q hO3 hQ3.qk)
  obtain ⟨A3, c3, rfl, hT3⟩ := hO3'.reads
  obtain ⟨A4, c4, rfl, hT4⟩ := hO4.reads
  clear hO3 hO4 hO3'
  go_wp2_with fail
  refine hK.out _ _ (⟨ho4.cell hHeld.1 hgq, ho4.cell hHeld.2 hgq⟩) (fun hHeld => ?_)
  clear hK K
  try simp only [Act.put, List.setIfInBounds_toArray, List.set_cons_zero, List.set_cons_succ]
  refine wpAnyH_ready (rs := [12]) (by kernel_rfl) (by decide) (AllReadyH.cons (o := ⟨_, _, _, _, _, _⟩) rfl (fun K hK => ?_) AllReadyH.nil)
  rw [if_pos (by kernel_rfl)]
  go_simp
  refine (RSame_any _ _ _ _ _ _ v v w4 hT3 hT4).mono ?_
  rintro e w5 ⟨t, rfl, Ht, hb5⟩
  obtain rfl : t = true := by rw [Ht.out]; exact decide_eq_true rfl
  replace hR4 := hR4.below hb5
  replace hQ4 := hQ4.below hb5
  go_wp2_with fail
  refine hK.out _ _ (⟨pw_cell_below hb5 hHeld.1, pw_cell_below hb5 hHeld.2⟩) (fun hHeld => ?_)
  clear hK K
  try simp only [Act.put, List.setIfInBounds_toArray, List.set_cons_zero, List.set_cons_succ]
  refine wpAnyH_take (i := 13) (v := (.bool true)) (oi := ⟨_, _, _, _, _, _⟩) rfl (by kernel_rfl) (by kernel_rfl) (by kernel_rfl) (fun _ _ _ h => h) (Or.inl ⟨by kernel_rfl, fun W hS => ?_⟩) (by assumption) ?_
  · dsimp only at hS; go_split_ands; go_simp
  simp only [Act.put, List.setIfInBounds_toArray, List.set_cons_zero, List.set_cons_succ]
  refine wpAnyH_done (by kernel_rfl) ?_ _
  have how : Only w w5 (fun k => k = r ∨ k = q) := ((((Only.of_below hba (fun k => k = r ∨ k = q)).drew).same (ho3.mono (fun k e => .inl e))).same (ho4.mono (fun k e => .inr e))).below hb5
  have hTr : Tr w5 r q A n c B d D1 := ⟨hR4, hQ4, hsep⟩
  clear ho3 ho4 hR3 hQ3 hR4 hQ4
  go_wp2_with fail
  go_ret
  exact ⟨rfl, D1, hTr, how⟩
set_option maxHeartbeats 4000000 in
set_option maxRecDepth 100000 in
theorem step_7 (h : Tr w r q A n c B d D) (hn : n ≤ 4398046511104) (kd a b : Int) (ha : a ≤ 9223372036854775807) (hb : b ≤ 9223372036854775807) (hk : (wrap64 (kd.tmod 10 + 10)).tmod 10 = 7) :
    Calls Try.prog 35 #[.pointer (some ⟨r, 0, none⟩), .pointer (some ⟨q, 0, none⟩), .agg #[.int .i64 kd, .int .i64 a, .int .i64 b]] w (Stp w r q A n c B d) := by
  have hba := below_alloc (Below.refl w.heap.size w) (.cells #[.int .i64 kd, .int .i64 a, .int .i64 b] 59)
  have hbk := heap_alloc_new w (.cells #[.int .i64 kd, .int .i64 a, .int .i64 b] 59)
  have hgr : w.heap.size ≠ r := fun e => absurd (h.rs.oldF r (.inl rfl)) (by omega)
  have hgq : w.heap.size ≠ q := fun e => absurd (h.qr.oldF q (.inl rfl)) (by omega)
  have hR0 := h.rs.below hba
  have hQ0 := h.qr.below hba
  have hS1 := h.sepR
  have hS2 := h.sepQ
  have hsep := h.sep
  clear h
  unfold Stp
  go_enter Try.func35, Try.ntmps35
  go_upto_region 1 with (fail)
  generalize w.alloc (.cells #[.int .i64 kd, .int .i64 a, .int .i64 b] 59) = w1 at *
  have hc0 := cell_of_row w1 _ 0 _ _ _ hbk
  have hc1 := cell_of_row w1 _ 1 _ _ _ hbk
  have hc2 := cell_of_row w1 _ 2 _ _ _ hbk
  simp only [List.getElem?_toArray, List.getElem?_cons_zero, List.getElem?_cons_succ] at hc0 hc1 hc2
  generalize w.heap.size = gb at hc0 hc1 hc2 hgr hgq ⊢
  go_wp2_with fail
  replace hR0 := hR0.drewN 1
  replace hQ0 := hQ0.drewN 1
  refine wp_region_held_drew (S := fun w' => w'.cell? ⟨gb, 1, none⟩ = some (.int .i64 a) ∧ w'.cell? ⟨gb, 2, none⟩ = some (.int .i64 b)) (by kernel_rfl) (⟨hc1, hc2⟩) (fun hHeld => ?_)
  refine wpAnyH_take (i := 0) (v := (.pointer (some ⟨r, 0, none⟩))) (oi := ⟨_, _, _, _, _, _⟩) rfl (by kernel_rfl) (by kernel_rfl) (by kernel_rfl) (fun _ _ _ h => h) (Or.inl ⟨by kernel_rfl, fun W hS => ?_⟩) (by assumption) ?_
  · dsimp only at hS; go_split_ands; go_simp
  simp only [Act.put, List.setIfInBounds_toArray, List.set_cons_zero, List.set_cons_succ]
  refine wpAnyH_take (i := 1) (v := (.pointer (some ⟨gb, 1, none⟩))) (oi := ⟨_, _, _, _, _, _⟩) rfl (by kernel_rfl) (by kernel_rfl) (by kernel_rfl) (fun _ _ _ h => h) (Or.inl ⟨by kernel_rfl, fun W hS => ?_⟩) (by assumption) ?_
  · dsimp only at hS; go_split_ands; go_simp
  simp only [Act.put, List.setIfInBounds_toArray, List.set_cons_zero, List.set_cons_succ]
  refine wpAnyH_take (i := 2) (v := (.int .i64 a)) (oi := ⟨_, _, _, _, _, _⟩) rfl (by kernel_rfl) (by kernel_rfl) (by kernel_rfl) (fun _ _ _ h => h) (Or.inl ⟨by kernel_rfl, fun W hS => ?_⟩) (by assumption) ?_
  · dsimp only at hS; go_split_ands; go_simp
  simp only [Act.put, List.setIfInBounds_toArray, List.set_cons_zero, List.set_cons_succ]
  refine wpAnyH_take (i := 4) (v := (.pointer (some ⟨q, 0, none⟩))) (oi := ⟨_, _, _, _, _, _⟩) rfl (by kernel_rfl) (by kernel_rfl) (by kernel_rfl) (fun _ _ _ h => h) (Or.inl ⟨by kernel_rfl, fun W hS => ?_⟩) (by assumption) ?_
  · dsimp only at hS; go_split_ands; go_simp
  simp only [Act.put, List.setIfInBounds_toArray, List.set_cons_zero, List.set_cons_succ]
  refine wpAnyH_take (i := 5) (v := (.pointer (some ⟨gb, 1, none⟩))) (oi := ⟨_, _, _, _, _, _⟩) rfl (by kernel_rfl) (by kernel_rfl) (by kernel_rfl) (fun _ _ _ h => h) (Or.inl ⟨by kernel_rfl, fun W hS => ?_⟩) (by assumption) ?_
  · dsimp only at hS; go_split_ands; go_simp
  simp only [Act.put, List.setIfInBounds_toArray, List.set_cons_zero, List.set_cons_succ]
  refine wpAnyH_take (i := 6) (v := (.int .i64 a)) (oi := ⟨_, _, _, _, _, _⟩) rfl (by kernel_rfl) (by kernel_rfl) (by kernel_rfl) (fun _ _ _ h => h) (Or.inl ⟨by kernel_rfl, fun W hS => ?_⟩) (by assumption) ?_
  · dsimp only at hS; go_split_ands; go_simp
  simp only [Act.put, List.setIfInBounds_toArray, List.set_cons_zero, List.set_cons_succ]
  refine wpAnyH_ready (rs := [3]) (by kernel_rfl) (by decide) (AllReadyH.cons (o := ⟨_, _, _, _, _, _⟩) rfl (fun K hK => ?_) AllReadyH.nil)
  rw [if_pos (by kernel_rfl)]
  go_simp
  refine (Raw_any hR0 a ha).mono ?_
  rintro e w3 ⟨D1, v3, v, rfl, HU, hO3, hR3, ho3⟩
  have hQ3 := hQ0.only ho3 hS1
  go_wp2_with fail
  refine hK.out _ _ (⟨ho3.cell hHeld.1 hgr, ho3.cell hHeld.2 hgr⟩) (fun hHeld => ?_)
  clear hK K
  try simp only [Act.put, List.setIfInBounds_toArray, List.set_cons_zero, List.set_cons_succ]
  refine wpAnyH_ready (rs := [7]) (by kernel_rfl) (by decide) (AllReadyH.cons (o := ⟨_, _, _, _, _, _⟩) rfl (fun K hK => ?_) AllReadyH.nil)
  rw [if_pos (by kernel_rfl)]
  go_simp
  refine (rRaw_any hQ3 a ha).mono ?_
  rintro e w4 ⟨D2, v4, v', rfl, HU2, hO4, hQ4, ho4⟩
  have hR4 := hR3.only ho4 hS2
  have hee := HU.out.symm.trans HU2.out
  cases hee
  have hO3' := hO3.only ho4 (fun k hk e => hO3.not_block hQ3.qk (by decide) (e ▸ hk))
  obtain ⟨A3, c3, rfl, hB3, _⟩ := hO3'.reads'
  obtain ⟨A4, c4, rfl, hB4, _⟩ := hO4.reads'
  clear hO3 hO4 hO3'
  go_wp2_with fail
  refine hK.out _ _ (⟨ho4.cell hHeld.1 hgq, ho4.cell hHeld.2 hgq⟩) (fun hHeld => ?_)
  clear hK K
  try simp only [Act.put, List.setIfInBounds_toArray, List.set_cons_zero, List.set_cons_succ]
  refine wpAnyH_ready (rs := [8]) (by kernel_rfl) (by decide) (AllReadyH.cons (o := ⟨_, _, _, _, _, _⟩) rfl (fun K hK => ?_) AllReadyH.nil)
  rw [if_pos (by kernel_rfl)]
  go_simp
  refine (Equal_same hB3 hB4 rfl).mono ?_
  rintro e w5 ⟨rfl, rfl⟩
  go_wp2_with fail
  refine hK.out _ _ (hHeld) (fun hHeld => ?_)
  clear hK K
  try simp only [Act.put, List.setIfInBounds_toArray, List.set_cons_zero, List.set_cons_succ]
  refine wpAnyH_take (i := 9) (v := (.bool true)) (oi := ⟨_, _, _, _, _, _⟩) rfl (by kernel_rfl) (by kernel_rfl) (by kernel_rfl) (fun _ _ _ h => h) (Or.inl ⟨by kernel_rfl, fun W hS => ?_⟩) (by assumption) ?_
  · dsimp only at hS; go_split_ands; go_simp
  simp only [Act.put, List.setIfInBounds_toArray, List.set_cons_zero, List.set_cons_succ]
  refine wpAnyH_done (by kernel_rfl) ?_ _
  have how : Only w w5 (fun k => k = r ∨ k = q) := (((Only.of_below hba (fun k => k = r ∨ k = q)).drew).same (ho3.mono (fun k e => .inl e))).same (ho4.mono (fun k e => .inr e))
  have hTr : Tr w5 r q A n c B d D1 := ⟨hR4, hQ4, hsep⟩
  clear ho3 ho4 hR3 hQ3 hR4 hQ4
  go_wp2_with fail
  go_ret
  exact ⟨rfl, D1, hTr, how⟩
set_option maxHeartbeats 4000000 in
set_option maxRecDepth 100000 in
theorem step_8 (h : Tr w r q A n c B d D) (hn : n ≤ 4398046511104) (kd a b : Int) (ha : a ≤ 9223372036854775807) (hb : b ≤ 9223372036854775807) (hk : (wrap64 (kd.tmod 10 + 10)).tmod 10 = 8) :
    Calls Try.prog 35 #[.pointer (some ⟨r, 0, none⟩), .pointer (some ⟨q, 0, none⟩), .agg #[.int .i64 kd, .int .i64 a, .int .i64 b]] w (Stp w r q A n c B d) := by
  have hba := below_alloc (Below.refl w.heap.size w) (.cells #[.int .i64 kd, .int .i64 a, .int .i64 b] 59)
  have hbk := heap_alloc_new w (.cells #[.int .i64 kd, .int .i64 a, .int .i64 b] 59)
  have hgr : w.heap.size ≠ r := fun e => absurd (h.rs.oldF r (.inl rfl)) (by omega)
  have hgq : w.heap.size ≠ q := fun e => absurd (h.qr.oldF q (.inl rfl)) (by omega)
  have hR0 := h.rs.below hba
  have hQ0 := h.qr.below hba
  have hS1 := h.sepR
  have hS2 := h.sepQ
  have hsep := h.sep
  clear h
  unfold Stp
  go_enter Try.func35, Try.ntmps35
  go_upto_region 1 with (fail)
  generalize w.alloc (.cells #[.int .i64 kd, .int .i64 a, .int .i64 b] 59) = w1 at *
  have hc0 := cell_of_row w1 _ 0 _ _ _ hbk
  have hc1 := cell_of_row w1 _ 1 _ _ _ hbk
  have hc2 := cell_of_row w1 _ 2 _ _ _ hbk
  simp only [List.getElem?_toArray, List.getElem?_cons_zero, List.getElem?_cons_succ] at hc0 hc1 hc2
  generalize w.heap.size = gb at hc0 hc1 hc2 hgr hgq ⊢
  go_wp2_with fail
  refine (Fail_any hR0 a).mono ?_
  rintro e w3 ⟨rfl, hR3, ho3⟩
  have hQ3 := hQ0.only ho3 hS1
  have hc13 := ho3.cell hc1 hgr
  go_wp2_with fail
  refine (rFail_any hQ3 a).mono ?_
  rintro e w4 ⟨rfl, hQ4, ho4⟩
  have hR4 := hR3.only ho4 hS2
  obtain ⟨D1, hD1⟩ : ∃ D1, failS D a = D1 := ⟨_, rfl⟩
  rw [hD1] at hR3 hR4 hQ4
  clear hD1
  have how : Only w w4 (fun k => k = r ∨ k = q) := ((Only.of_below hba (fun k => k = r ∨ k = q)).same (ho3.mono (fun k e => .inl e))).same (ho4.mono (fun k e => .inr e))
  have hTr : Tr w4 r q A n c B d D1 := ⟨hR4, hQ4, hsep⟩
  clear ho3 ho4 hR3 hQ3 hR4 hQ4
  go_wp2_with fail
  go_ret
  exact ⟨rfl, D1, hTr, how⟩
set_option maxHeartbeats 4000000 in
set_option maxRecDepth 100000 in
theorem step_9 (h : Tr w r q A n c B d D) (hn : n ≤ 4398046511104) (kd a b : Int) (ha : a ≤ 9223372036854775807) (hb : b ≤ 9223372036854775807) (kz : Int) (hk : (wrap64 (kd.tmod 10 + 10)).tmod 10 = kz) (e0 : (kz == 0) = false) (e1 : (kz == 1) = false) (e2 : (kz == 2) = false) (e3 : (kz == 3) = false) (e4 : (kz == 4) = false) (e5 : (kz == 5) = false) (e6 : (kz == 6) = false) (e7 : (kz == 7) = false) (e8 : (kz == 8) = false) :
    Calls Try.prog 35 #[.pointer (some ⟨r, 0, none⟩), .pointer (some ⟨q, 0, none⟩), .agg #[.int .i64 kd, .int .i64 a, .int .i64 b]] w (Stp w r q A n c B d) := by
  have hba := below_alloc (Below.refl w.heap.size w) (.cells #[.int .i64 kd, .int .i64 a, .int .i64 b] 59)
  have hbk := heap_alloc_new w (.cells #[.int .i64 kd, .int .i64 a, .int .i64 b] 59)
  have hgr : w.heap.size ≠ r := fun e => absurd (h.rs.oldF r (.inl rfl)) (by omega)
  have hgq : w.heap.size ≠ q := fun e => absurd (h.qr.oldF q (.inl rfl)) (by omega)
  have hR0 := h.rs.below hba
  have hQ0 := h.qr.below hba
  have hS1 := h.sepR
  have hS2 := h.sepQ
  have hsep := h.sep
  clear h
  unfold Stp
  go_enter Try.func35, Try.ntmps35
  go_upto_region 1 with (fail)
  generalize w.alloc (.cells #[.int .i64 kd, .int .i64 a, .int .i64 b] 59) = w1 at *
  have hc0 := cell_of_row w1 _ 0 _ _ _ hbk
  have hc1 := cell_of_row w1 _ 1 _ _ _ hbk
  have hc2 := cell_of_row w1 _ 2 _ _ _ hbk
  simp only [List.getElem?_toArray, List.getElem?_cons_zero, List.getElem?_cons_succ] at hc0 hc1 hc2
  generalize w.heap.size = gb at hc0 hc1 hc2 hgr hgq ⊢
  go_wp2_with fail
  refine (End_any hR0).mono ?_
  rintro e w3 ⟨rfl, hR3, ho3⟩
  have hQ3 := hQ0.only ho3 hS1
  obtain ⟨D1, hD1⟩ : ∃ D1, endS D = D1 := ⟨_, rfl⟩
  rw [hD1] at hR3 ⊢
  have hbf := below_alloc (Below.refl w3.heap.size w3) (.cells #[.int .i64 D1.why, .int .i64 D1.wat] 50)
  have hfk := heap_alloc_new w3 (.cells #[.int .i64 D1.why, .int .i64 D1.wat] 50)
  have hR5 := hR3.below hbf
  have hQ5 := hQ3.below hbf
  have hgq2 : w3.heap.size ≠ q := fun e => absurd (hQ3.oldF q (.inl rfl)) (by omega)
  go_wp2_with fail
  generalize w3.alloc (.cells #[.int .i64 D1.why, .int .i64 D1.wat] 50) = w5 at *
  refine (rEnd_any hQ5).mono ?_
  rintro e w4 ⟨rfl, hQ4, ho4⟩
  rw [hD1] at hQ4 ⊢
  have hR4 := hR5.only ho4 hS2
  have hfk4 := ho4.kept hfk hgq2
  have f0 := cell_of_row w4 _ 0 _ _ _ hfk4
  have f1 := cell_of_row w4 _ 1 _ _ _ hfk4
  simp only [List.getElem?_toArray, List.getElem?_cons_zero, List.getElem?_cons_succ] at f0 f1
  generalize w3.heap.size = gf at f0 f1 ⊢
  have how : Only w w4 (fun k => k = r ∨ k = q) := (((Only.of_below hba (fun k => k = r ∨ k = q)).same (ho3.mono (fun k e => .inl e))).below hbf).same (ho4.mono (fun k e => .inr e))
  have hTr : Tr w4 r q A n c B d D1 := ⟨hR4, hQ4, hsep⟩
  clear ho3 ho4 hR3 hQ3 hR4 hQ4 hD1
  go_wp2_with fail
  go_ret
  exact ⟨rfl, D1, hTr, how⟩
theorem step_any (h : Tr w r q A n c B d D) (hn : n ≤ 4398046511104) (kd a b : Int) (ha : a ≤ 9223372036854775807) (hb : b ≤ 9223372036854775807) :
    Calls Try.prog 35 #[.pointer (some ⟨r, 0, none⟩), .pointer (some ⟨q, 0, none⟩), .agg #[.int .i64 kd, .int .i64 a, .int .i64 b]] w (Stp w r q A n c B d) := by
  obtain ⟨kz, hk⟩ : ∃ kz, (wrap64 (kd.tmod 10 + 10)).tmod 10 = kz := ⟨_, rfl⟩
  by_cases k0 : kz = 0
  · exact step_0 h hn kd a b ha hb (hk.trans k0)
  by_cases k1 : kz = 1
  · exact step_1 h hn kd a b ha hb (hk.trans k1)
  by_cases k2 : kz = 2
  · exact step_2 h hn kd a b ha hb (hk.trans k2)
  by_cases k3 : kz = 3
  · exact step_3 h hn kd a b ha hb (hk.trans k3)
  by_cases k4 : kz = 4
  · exact step_4 h hn kd a b ha hb (hk.trans k4)
  by_cases k5 : kz = 5
  · exact step_5 h hn kd a b ha hb (hk.trans k5)
  by_cases k6 : kz = 6
  · exact step_6 h hn kd a b ha hb (hk.trans k6)
  by_cases k7 : kz = 7
  · exact step_7 h hn kd a b ha hb (hk.trans k7)
  by_cases k8 : kz = 8
  · exact step_8 h hn kd a b ha hb (hk.trans k8)
  exact step_9 h hn kd a b ha hb kz hk (beq_eq_false_iff_ne.2 k0) (beq_eq_false_iff_ne.2 k1) (beq_eq_false_iff_ne.2 k2) (beq_eq_false_iff_ne.2 k3) (beq_eq_false_iff_ne.2 k4) (beq_eq_false_iff_ne.2 k5) (beq_eq_false_iff_ne.2 k6) (beq_eq_false_iff_ne.2 k7) (beq_eq_false_iff_ne.2 k8)
end
end Go.Proofs.Ytiadfmbddkcleaa
