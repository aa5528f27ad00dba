/- The law's lay and told: one thing laid down, by the program and as the document says. -/
import Derived.Test.YtiadfmbddkcleaaWiC
namespace Go.Proofs.Ytiadfmbddkcleaa
open Go.RowKit Go.Kit Go.Proofs.YtiadfmbddkcleaaW.PrintWords
theorem rUint_int {w : World} (u : Int) (h0 : 0 ≤ u) (h1 : u ≤ 18446744073709551615) :
    Calls Try.prog 13 #[.int .u64 u] w fun e w' => ∃ v', e = .returned v' ∧ OB 5 w' w.heap.size v' (sh u.toNat) ∧ Below w.heap.size w w' := by
  obtain ⟨m, rfl⟩ := Int.eq_ofNat_of_zero_le h0
  exact rUint_any m w (by omega)
theorem Size_int {w : World} (u : Int) (h0 : 0 ≤ u) (h1 : u ≤ 18446744073709551615) :
    Calls Try.prog 12 #[.int .u64 u] w fun e w' => e = .returned (.int .i64 ((sh u.toNat).length : Int)) ∧ w' = w := by
  obtain ⟨m, rfl⟩ := Int.eq_ofNat_of_zero_le h0
  exact Size_any m w (by omega)
set_option maxHeartbeats 2000000 in
set_option maxRecDepth 100000 in
theorem lay_any {w : World} {B : Option Addr} {m c : Nat} {A : Option Addr} {n cap : Nat} {xs : List Int} (hx : RB w A n xs) (p : Pu) (hT : RT w B m p.texts) (hp : p.ok) (K : Nat) (hK : K ≤ 140737488355000) (hs : ∀ s ∈ p.texts, s.size ≤ K) (hl : n + 16 + m * (10 + K) ≤ 140737488355328) :
    Calls Try.prog 9 #[.slice A n cap, .agg #[.int .i64 p.kind, .int .u64 p.u, .int .i64 p.i, .slice B m c]] w fun e w' => ∃ v, e = .returned v ∧ OB 5 w' w.heap.size v (xs ++ laid p) ∧ Below w.heap.size w w' := by
  obtain ⟨hu0, hu1, hi0, hi1⟩ := hp
  have hba := below_alloc (Below.refl w.heap.size w) (.cells #[.int .i64 p.kind, .int .u64 p.u, .int .i64 p.i, .slice B m c] 27)
  have hbk := heap_alloc_new w (.cells #[.int .i64 p.kind, .int .u64 p.u, .int .i64 p.i, .slice B m c] 27)
  have hT1 := hT.below hba
  have HS := Lib.hid hs
  clear hs
  have hx1 := hx.below hba
  have hl1 : n + 10 ≤ 140737488355328 := by omega
  have hl2 := hl
  go_enter Try.func9, Try.ntmps9
  go_upto_region 1 with (fail)
  generalize w.alloc (.cells #[.int .i64 p.kind, .int .u64 p.u, .int .i64 p.i, .slice B m c] 27) = w1 at *
  have hc0 := cell_of_row w1 _ 0 _ _ _ hbk
  have hc1 := cell_of_row w1 _ 1 _ _ _ hbk
  have hc2 := cell_of_row w1 _ 2 _ _ _ hbk
  have hc3 := cell_of_row w1 _ 3 _ _ _ hbk
  simp only [List.getElem?_toArray, List.getElem?_cons_zero, List.getElem?_cons_succ] at hc0 hc1 hc2 hc3
  obtain ⟨kz, hk⟩ : ∃ kz, (wrap64 (p.kind.tmod 5 + 5)).tmod 5 = kz := ⟨_, rfl⟩
  have HKK : Hid (pk p.kind = kz) := hk
  by_cases k0 : kz = 0
  · subst k0
    have HP : Hid (laid p = sh p.u.toNat) := Lib.hid (by unfold laid; rw [HKK.out]; rw [if_pos rfl])
    go_wp2_with fail
    refine (PutUint_any p.u hx1 hl1 hu0 hu1).mono ?_
    rintro e w2 ⟨v, rfl, hO, hb⟩
    rw [← HP.out] at hO
    have hb3 : Below w.heap.size w w2 := below_step hba hb
    replace hO := hO.less hba.size
    go_wp2_with fail
    go_ret
    exact ⟨_, rfl, hO, hb3⟩
  by_cases k1 : kz = 1
  · subst k1
    have HP : Hid (laid p = sh (zig p.i)) := Lib.hid (by unfold laid; rw [HKK.out]; rfl)
    go_wp2_with fail
    refine (PutInt_any p.i hx1 hl1 hi0 hi1).mono ?_
    rintro e w2 ⟨v, rfl, hO, hb⟩
    rw [← HP.out] at hO
    have hb3 : Below w.heap.size w w2 := below_step hba hb
    replace hO := hO.less hba.size
    go_wp2_with fail
    go_ret
    exact ⟨_, rfl, hO, hb3⟩
  by_cases k2 : kz = 2
  · subst k2
    have hr2 : p.u % 2 = 0 ∨ p.u % 2 = 1 := by omega
    have HP : Hid (laid p = tru (p.u % 2 == 1)) := Lib.hid (by unfold laid; rw [HKK.out]; rfl)
    go_wp2_with fail
    refine (PutBool_any (p.u % 2 == 1) hx1 hl1).mono ?_
    rintro e w2 ⟨v, rfl, hO, hb⟩
    rw [← HP.out] at hO
    have hb3 : Below w.heap.size w w2 := below_step hba hb
    replace hO := hO.less hba.size
    go_wp2_with fail
    go_ret
    exact ⟨_, rfl, hO, hb3⟩
  by_cases k3 : kz = 3
  · subst k3
    have HP : Hid (laid p = txts p.texts) := Lib.hid (by unfold laid; rw [HKK.out]; rfl)
    go_wp2_with fail
    refine (PutText_any hx1 hT1 K (by omega) HS.out hl2).mono ?_
    rintro e w2 ⟨v, rfl, hO, hb⟩
    rw [← HP.out] at hO
    have hb3 : Below w.heap.size w w2 := below_step hba hb
    replace hO := hO.less hba.size
    go_wp2_with fail
    go_ret
    exact ⟨_, rfl, hO, hb3⟩
  replace k0 := beq_eq_false_iff_ne.2 k0
  replace k1 := beq_eq_false_iff_ne.2 k1
  replace k2 := beq_eq_false_iff_ne.2 k2
  replace k3 := beq_eq_false_iff_ne.2 k3
  have HP : Hid (laid p = lst p.texts) := Lib.hid (by unfold laid; rw [HKK.out]; rw [if_neg (by simpa using k0), if_neg (by simpa using k1), if_neg (by simpa using k2), if_neg (by simpa using k3)])
  go_wp2_with fail
  refine (PutList_any hx1 hT1 K (by omega) HS.out hl2).mono ?_
  rintro e w2 ⟨v, rfl, hO, hb⟩
  rw [← HP.out] at hO
  have hb3 : Below w.heap.size w w2 := below_step hba hb
  replace hO := hO.less hba.size
  go_wp2_with fail
  go_ret
  exact ⟨_, rfl, hO, hb3⟩
set_option maxHeartbeats 2000000 in
set_option maxRecDepth 100000 in
theorem told_any {w : World} {B : Option Addr} {m c : Nat} (p : Pu) (hT : RT w B m p.texts) (hp : p.ok) (K : Nat) (hK : K ≤ 140737488355000) (hs : ∀ s ∈ p.texts, s.size ≤ K) (hl : 16 + m * (10 + K) ≤ 140737488355328) :
    Calls Try.prog 10 #[.agg #[.int .i64 p.kind, .int .u64 p.u, .int .i64 p.i, .slice B m c]] w fun e w' => ∃ v, e = .returned v ∧ OB 5 w' w.heap.size v (laid p) ∧ Below w.heap.size w w' := by
  obtain ⟨hu0, hu1, hi0, hi1⟩ := hp
  have hba := below_alloc (Below.refl w.heap.size w) (.cells #[.int .i64 p.kind, .int .u64 p.u, .int .i64 p.i, .slice B m c] 27)
  have hbk := heap_alloc_new w (.cells #[.int .i64 p.kind, .int .u64 p.u, .int .i64 p.i, .slice B m c] 27)
  have hT1 := hT.below hba
  have HS := Lib.hid hs
  clear hs
  go_enter Try.func10, Try.ntmps10
  go_upto_region 1 with (fail)
  generalize w.alloc (.cells #[.int .i64 p.kind, .int .u64 p.u, .int .i64 p.i, .slice B m c] 27) = w1 at *
  have hc0 := cell_of_row w1 _ 0 _ _ _ hbk
  have hc1 := cell_of_row w1 _ 1 _ _ _ hbk
  have hc2 := cell_of_row w1 _ 2 _ _ _ hbk
  have hc3 := cell_of_row w1 _ 3 _ _ _ hbk
  simp only [List.getElem?_toArray, List.getElem?_cons_zero, List.getElem?_cons_succ] at hc0 hc1 hc2 hc3
  obtain ⟨kz, hk⟩ : ∃ kz, (wrap64 (p.kind.tmod 5 + 5)).tmod 5 = kz := ⟨_, rfl⟩
  have HKK : Hid (pk p.kind = kz) := hk
  by_cases k0 : kz = 0
  · subst k0
    have HP : Hid (laid p = sh p.u.toNat) := Lib.hid (by unfold laid; rw [HKK.out]; rw [if_pos rfl])
    go_wp2_with fail
    refine (rUint_int p.u hu0 hu1).mono ?_
    rintro e w2 ⟨v, rfl, hO, hb⟩
    rw [← HP.out] at hO
    have hb3 : Below w.heap.size w w2 := below_step hba hb
    replace hO := hO.less hba.size
    go_wp2_with fail
    go_ret
    exact ⟨_, rfl, hO, hb3⟩
  by_cases k1 : kz = 1
  · subst k1
    have HP : Hid (laid p = sh (zig p.i)) := Lib.hid (by unfold laid; rw [HKK.out]; rfl)
    go_wp2_with fail
    refine (rInt_any p.i hi0 hi1).mono ?_
    rintro e w2 ⟨v, rfl, hO, hb⟩
    rw [← HP.out] at hO
    have hb3 : Below w.heap.size w w2 := below_step hba hb
    replace hO := hO.less hba.size
    go_wp2_with fail
    go_ret
    exact ⟨_, rfl, hO, hb3⟩
  by_cases k2 : kz = 2
  · subst k2
    have hr2 : p.u % 2 = 0 ∨ p.u % 2 = 1 := by omega
    have HP : Hid (laid p = tru (p.u % 2 == 1)) := Lib.hid (by unfold laid; rw [HKK.out]; rfl)
    go_wp2_with fail
    refine (rBool_any (p.u % 2 == 1)).mono ?_
    rintro e w2 ⟨v, rfl, hO, hb⟩
    rw [← HP.out] at hO
    have hb3 : Below w.heap.size w w2 := below_step hba hb
    replace hO := hO.less hba.size
    go_wp2_with fail
    go_ret
    exact ⟨_, rfl, hO, hb3⟩
  by_cases k3 : kz = 3
  · subst k3
    have HP : Hid (laid p = txts p.texts) := Lib.hid (by unfold laid; rw [HKK.out]; rfl)
    go_wp2_with fail
    refine (rTexts_any hT1 K hK HS.out (by omega)).mono ?_
    rintro e w2 ⟨v, rfl, hO, hb⟩
    rw [← HP.out] at hO
    have hb3 : Below w.heap.size w w2 := below_step hba hb
    replace hO := hO.less hba.size
    go_wp2_with fail
    go_ret
    exact ⟨_, rfl, hO, hb3⟩
  replace k0 := beq_eq_false_iff_ne.2 k0
  replace k1 := beq_eq_false_iff_ne.2 k1
  replace k2 := beq_eq_false_iff_ne.2 k2
  replace k3 := beq_eq_false_iff_ne.2 k3
  have HP : Hid (laid p = lst p.texts) := Lib.hid (by unfold laid; rw [HKK.out]; rw [if_neg (by simpa using k0), if_neg (by simpa using k1), if_neg (by simpa using k2), if_neg (by simpa using k3)])
  go_wp2_with fail
  refine (rList_any hT1 K hK HS.out (by omega)).mono ?_
  rintro e w2 ⟨v, rfl, hO, hb⟩
  rw [← HP.out] at hO
  have hb3 : Below w.heap.size w w2 := below_step hba hb
  replace hO := hO.less hba.size
  go_wp2_with fail
  go_ret
  exact ⟨_, rfl, hO, hb3⟩
end Go.Proofs.Ytiadfmbddkcleaa
