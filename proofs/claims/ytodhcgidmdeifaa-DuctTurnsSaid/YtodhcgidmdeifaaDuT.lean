/- The walk of DuctTurns. -/
import Derived.Test.YtodhcgidmdeifaaDuO
namespace Go.Proofs.Ytodhcgidmdeifaa
open Go.RowKit Go.Kit Go.Proofs.YtodhcgidmdeifaaW.PrintWords
theorem xor_back {x m : Int} (h0 : 0 ≤ x) (h1 : x < 256) (m0 : 0 ≤ m) (m1 : m < 256) : bits .xor .u8 (bits .xor .u8 x m) m = x := by
  have h2 := u8_xor_range h0 h1 m0 m1
  rw [u8_xor _ m h2.1 h2.2 m0 m1, u8_xor x m h0 h1 m0 m1]
  simp only [Int.toNat_natCast]
  rw [Nat.xor_assoc, Nat.xor_self, Nat.xor_zero]
  omega
theorem turn_twice (D : Dk) (i : Nat) (m : Int) (hi : i < D.held.length) (h0 : 0 ≤ D.held.getD i 0) (h1 : D.held.getD i 0 < 256) (m0 : 0 ≤ m) (m1 : m < 256) : (turnD (turnD D i m) i m).held = D.held := by
  unfold turnD
  simp only [List.set_set]
  have e1 : (D.held.set i (bits .xor .u8 (D.held.getD i 0) m)).getD i 0 = bits .xor .u8 (D.held.getD i 0) m := by
    rw [List.getD_eq_getElem?_getD, List.getElem?_set_self hi]; rfl
  rw [e1, xor_back h0 h1 m0 m1]
  apply List.ext_getElem (by simp)
  intro j h2 h3
  by_cases hj : i = j
  · subst hj; rw [List.getElem_set_self, List.getD_eq_getElem?_getD, List.getElem?_eq_getElem h3]; rfl
  · rw [List.getElem_set_ne hj]
set_option maxHeartbeats 8000000 in
set_option maxRecDepth 100000 in
theorem DuctTurns_walk (A : Option Addr) (len cap : Nat) (xs : List Int) (w : World) (hx : RB w A len xs) (hc : len ≤ cap) (hl : len ≤ 140737488351232) (q m : Int) (m0 : 0 ≤ m) (m1 : m < 256) :
    Calls Try.prog 4 #[.slice A len cap, .int .i64 q, .int .u8 m] w fun e w' => e = .returned (.bool true) ∧ Below w.heap.size w w' := by
  have HLen := Lib.hid hx.len
  go_enter Try.func4, Try.ntmps4
  by_cases hroom : 1 ≤ (len : Int) + 1 ∧ (len : Int) + 1 ≤ 4194304
  · go_wp2_with fail
    refine (new_p _ hroom.1 hroom.2 _).mono ?_
    rintro e w1 ⟨d, F, rfl, hD, hF, hb1⟩
    have hle : len ≤ 4194303 := by omega
    clear hroom hl
    go_wp2_with fail
    have hbox := heap_alloc_new w1 (.cells #[.slice A len cap] 22)
    have hba := below_alloc (Below.refl w1.heap.size w1) (.cells #[.slice A len cap] 22)
    have hbw := below_step hb1 hba
    have hold := hD.old
    have hD2 := hD.below hba
    have hw1 := hb1.size
    show Calls _ _ _ (w1.alloc (.cells #[.slice A len cap] 22)) _
    generalize w1.alloc (.cells #[.slice A len cap] 22) = w2 at *
    have hL : ∀ W, Only w2 W F → RBc W (some ⟨w1.heap.size, 0, none⟩) 1 [xs] := fun W ho =>
      RBc.one (hx.below (Below.only hbw ho hbw.size hF)) hc (ho.kept hbox (fun hk => by have := hold _ hk; omega))
    refine (write_p hD2 rfl _ 1 1 _ hL).mono ?_
    rintro e w3 ⟨F1, mm, rfl, HM, hD3, ho3, hn3⟩
    have hwa := write_all (newD ((len : Int) + 1)) [xs].flatten (by have := HLen.out; simp [newD]; omega)
    obtain ⟨D1, hD1⟩ : ∃ D1, D1 = writeD (newD ((len : Int) + 1)) (newD ((len : Int) + 1)).held.length [xs].flatten := ⟨_, rfl⟩
    have hD1h : D1.held = xs := by rw [hD1, hwa.2]; simp [newD]
    obtain rfl : mm = len := by rw [HM.out, hwa.1]; simp [HLen.out]
    rw [← hD1] at hD3
    have hF1 : ∀ k, F1 k → w.heap.size ≤ k := fun k hk => (hn3 k hk).elim (hF k) (fun e => by have := hbw.size; omega)
    have hb3 : Below w.heap.size w w3 := Below.only hbw ho3 hbw.size hF
    have hdl : D1.held.length = mm := by rw [hD1h]; exact HLen.out
    clear hwa HM hL hD1 hD2 hbox hba hbw hold hD ho3 hn3 hF hw1
    by_cases hat : 0 ≤ q ∧ q < (mm : Int)
    · obtain ⟨i, rfl⟩ : ∃ i : Nat, q = (i : Int) := ⟨q.toNat, by omega⟩
      have hi : i < mm := by omega
      have hq1 : ¬ (i : Int) < 0 := by omega
      have hq2 : (i : Int) < (mm : Int) := by omega
      obtain ⟨ad, x, rfl, hcx, x0, x1, HX⟩ := hx.at_ i hi
      have hgx : D1.held.getD i 0 = x := by rw [hD1h, List.getD_eq_getElem?_getD, HX.out]; rfl
      obtain ⟨y, hy⟩ : ∃ y, bits .xor .u8 x m = y := ⟨_, rfl⟩
      have htw := turn_twice D1 i m (by omega) (by rw [hgx]; exact x0) (by rw [hgx]; exact x1) m0 m1
      go_wp2_with fail
      refine (turn_p hD3 i (by omega) m m0 m1).mono ?_
      rintro e w4 ⟨rfl, hD4, ho4⟩
      have hb4 : Below w.heap.size w w4 := Below.only hb3 ho4 hb3.size hF1
      have hT1 : (turnD D1 i m).held = xs.set i y := by unfold turnD; rw [hgx, hy, hD1h]
      have hTl : (turnD D1 i m).held.length = mm := by rw [hT1, List.length_set]; exact HLen.out
      go_wp2_with fail
      refine (peek_p hD4 (mm : Int) mm (by rw [hTl]; omega)).mono ?_
      rintro e w5 ⟨vp, rfl, hOp, hb5⟩
      rw [List.take_of_length_le (by rw [hTl]; exact Nat.le_refl _), hT1] at hOp
      have hsl : (xs.set i y).length = mm := by rw [List.length_set]; exact HLen.out
      obtain ⟨gp, cp, rfl, _, _⟩ := hOp.open_ (by omega)
      rw [hsl] at hOp ⊢
      have hD5 := hD4.below hb5
      have hb5w := below_step hb4 hb5
      go_wp2_with fail
      refine (turn_p hD5 i (by omega) m m0 m1).mono ?_
      rintro e w6 ⟨rfl, hD6, ho6⟩
      have hO6 := hOp.only ho6 (Sep.new hD4.old hOp.from).symm
      have hb6 : Below w.heap.size w w6 := Below.only hb5w ho6 hb5w.size hF1
      obtain ⟨z, hcz, _, _, _, HZ⟩ := hO6.at_ hsl.symm i hi
      have hzy : z = y := by
        have := HZ.out
        rw [List.getElem?_set_self (by have := HLen.out; omega)] at this
        exact (Option.some.inj this).symm
      subst hzy
      have hcx6 := pw_cell_below hb6 hcx
      have hDf : (turnD (turnD D1 i m) i m).held = xs := by rw [htw, hD1h]
      have hgpF : ¬ F1 gp := fun h => (Sep.new hD4.old hOp.from) gp h rfl
      clear hD3 hD4 hD5 ho4 ho6 hOp hO6 hb3 hb4 hb5 hb5w hT1 hTl htw
      have hDu := hD6.drewN 1
      have HK2 : Hid ((mm : Int) = min (max (mm : Int) 0) (turnD (turnD D1 i m) i m).held.length) := Lib.hid (by rw [hDf, HLen.out]; omega)
      have HDf := Lib.hid hDf
      have HSl := Lib.hid hsl
      clear hDf hsl hgx hdl hD1h HZ
      go_wp2_with fail
      refine wp_region_held_drew (S := fun w' => Below w.heap.size w w' ∧ w'.cell? ⟨gp, i, none⟩ = some (.int .u8 z) ∧ w'.cell? (ad.add i) = some (.int .u8 x)) (by kernel_rfl) (⟨below_drew hb6, hcz, hcx6⟩) (fun hHeld => ?_)
      refine wpAnyH_take (i := 0) (v := (.int .i64 0)) (oi := ⟨_, _, _, _, _, _⟩) rfl (by kernel_rfl) (by kernel_rfl) (by kernel_rfl) (fun _ _ _ h => h) (Or.inl ⟨by kernel_rfl, fun W hS => ?_⟩) (by assumption) ?_
      · dsimp only at hS; go_split_ands; go_simp
      simp only [Act.put, List.setIfInBounds_toArray, List.set_cons_zero, List.set_cons_succ]
      refine wpAnyH_take (i := 1) (v := (.bool true)) (oi := ⟨_, _, _, _, _, _⟩) rfl (by kernel_rfl) (by kernel_rfl) (by kernel_rfl) (fun _ _ _ h => h) (Or.inl ⟨by kernel_rfl, fun W hS => ?_⟩) (by assumption) ?_
      · dsimp only at hS; go_split_ands; go_simp
      simp only [Act.put, List.setIfInBounds_toArray, List.set_cons_zero, List.set_cons_succ]
      refine wpAnyH_take (i := 2) (v := (.bool true)) (oi := ⟨_, _, _, _, _, _⟩) rfl (by kernel_rfl) (by kernel_rfl) (by kernel_rfl) (fun _ _ _ h => h) (Or.inl ⟨by kernel_rfl, fun W hS => ?_⟩) (by assumption) ?_
      · dsimp only at hS; go_split_ands; go_simp
      simp only [Act.put, List.setIfInBounds_toArray, List.set_cons_zero, List.set_cons_succ]
      refine wpAnyH_take (i := 3) (v := (.int .i64 0)) (oi := ⟨_, _, _, _, _, _⟩) rfl (by kernel_rfl) (by kernel_rfl) (by kernel_rfl) (fun _ _ _ h => h) (Or.inl ⟨by kernel_rfl, fun W hS => ?_⟩) (by assumption) ?_
      · dsimp only at hS; go_split_ands; go_simp
      simp only [Act.put, List.setIfInBounds_toArray, List.set_cons_zero, List.set_cons_succ]
      refine wpAnyH_take (i := 4) (v := (.bool true)) (oi := ⟨_, _, _, _, _, _⟩) rfl (by kernel_rfl) (by kernel_rfl) (by kernel_rfl) (fun _ _ _ h => h) (Or.inl ⟨by kernel_rfl, fun W hS => ?_⟩) (by assumption) ?_
      · dsimp only at hS; go_split_ands; go_simp
      simp only [Act.put, List.setIfInBounds_toArray, List.set_cons_zero, List.set_cons_succ]
      refine wpAnyH_take (i := 5) (v := (.bool true)) (oi := ⟨_, _, _, _, _, _⟩) rfl (by kernel_rfl) (by kernel_rfl) (by kernel_rfl) (fun _ _ _ h => h) (Or.inl ⟨by kernel_rfl, fun W hS => ?_⟩) (by assumption) ?_
      · dsimp only at hS; go_split_ands; go_simp
      simp only [Act.put, List.setIfInBounds_toArray, List.set_cons_zero, List.set_cons_succ]
      refine wpAnyH_take (i := 6) (v := (.bool true)) (oi := ⟨_, _, _, _, _, _⟩) rfl (by kernel_rfl) (by kernel_rfl) (by kernel_rfl) (fun _ _ _ h => h) (Or.inl ⟨by kernel_rfl, fun W hS => ?_⟩) (by assumption) ?_
      · dsimp only at hS; go_split_ands; go_simp
      simp only [Act.put, List.setIfInBounds_toArray, List.set_cons_zero, List.set_cons_succ]
      refine wpAnyH_take (i := 7) (v := (.int .i64 (mm : Int))) (oi := ⟨_, _, _, _, _, _⟩) rfl (by kernel_rfl) (by kernel_rfl) (by kernel_rfl) (fun _ _ _ h => h) (Or.inl ⟨by kernel_rfl, fun W hS => ?_⟩) (by assumption) ?_
      · dsimp only at hS; go_split_ands; go_simp
      simp only [Act.put, List.setIfInBounds_toArray, List.set_cons_zero, List.set_cons_succ]
      refine wpAnyH_take (i := 8) (v := (.slice (some ad) mm cap)) (oi := ⟨_, _, _, _, _, _⟩) rfl (by kernel_rfl) (by kernel_rfl) (by kernel_rfl) (fun _ _ _ h => h) (Or.inl ⟨by kernel_rfl, fun W hS => ?_⟩) (by assumption) ?_
      · dsimp only at hS; go_split_ands; go_simp
      simp only [Act.put, List.setIfInBounds_toArray, List.set_cons_zero, List.set_cons_succ]
      refine wpAnyH_take (i := 9) (v := (.int .i64 (mm : Int))) (oi := ⟨_, _, _, _, _, _⟩) rfl (by kernel_rfl) (by kernel_rfl) (by kernel_rfl) (fun _ _ _ h => h) (Or.inl ⟨by kernel_rfl, fun W hS => ?_⟩) (by assumption) ?_
      · dsimp only at hS; go_split_ands; go_simp
      simp only [Act.put, List.setIfInBounds_toArray, List.set_cons_zero, List.set_cons_succ]
      refine wpAnyH_take (i := 10) (v := (.bool true)) (oi := ⟨_, _, _, _, _, _⟩) rfl (by kernel_rfl) (by kernel_rfl) (by kernel_rfl) (fun _ _ _ h => h) (Or.inl ⟨by kernel_rfl, fun W hS => ?_⟩) (by assumption) ?_
      · dsimp only at hS; go_split_ands; go_simp
      simp only [Act.put, List.setIfInBounds_toArray, List.set_cons_zero, List.set_cons_succ]
      refine wpAnyH_take (i := 11) (v := (.bool true)) (oi := ⟨_, _, _, _, _, _⟩) rfl (by kernel_rfl) (by kernel_rfl) (by kernel_rfl) (fun _ _ _ h => h) (Or.inl ⟨by kernel_rfl, fun W hS => ?_⟩) (by assumption) ?_
      · dsimp only at hS; go_split_ands; go_simp
      simp only [Act.put, List.setIfInBounds_toArray, List.set_cons_zero, List.set_cons_succ]
      refine wpAnyH_take (i := 12) (v := (.bool true)) (oi := ⟨_, _, _, _, _, _⟩) rfl (by kernel_rfl) (by kernel_rfl) (by kernel_rfl) (fun _ _ _ h => h) (Or.inl ⟨by kernel_rfl, fun W hS => ?_⟩) (by assumption) ?_
      · dsimp only at hS; go_split_ands; go_simp
      simp only [Act.put, List.setIfInBounds_toArray, List.set_cons_zero, List.set_cons_succ]
      refine wpAnyH_take (i := 13) (v := (.slice (some ⟨gp, 0, none⟩) mm cp)) (oi := ⟨_, _, _, _, _, _⟩) rfl (by kernel_rfl) (by kernel_rfl) (by kernel_rfl) (fun _ _ _ h => h) (Or.inl ⟨by kernel_rfl, fun W hS => ?_⟩) (by assumption) ?_
      · dsimp only at hS; go_split_ands; go_simp
      simp only [Act.put, List.setIfInBounds_toArray, List.set_cons_zero, List.set_cons_succ]
      refine wpAnyH_take (i := 14) (v := (.int .i64 (mm : Int))) (oi := ⟨_, _, _, _, _, _⟩) rfl (by kernel_rfl) (by kernel_rfl) (by kernel_rfl) (fun _ _ _ h => h) (Or.inl ⟨by kernel_rfl, fun W hS => ?_⟩) (by assumption) ?_
      · dsimp only at hS; go_split_ands; go_simp
      simp only [Act.put, List.setIfInBounds_toArray, List.set_cons_zero, List.set_cons_succ]
      refine wpAnyH_take (i := 15) (v := (.int .i64 (mm : Int))) (oi := ⟨_, _, _, _, _, _⟩) rfl (by kernel_rfl) (by kernel_rfl) (by kernel_rfl) (fun _ _ _ h => h) (Or.inl ⟨by kernel_rfl, fun W hS => ?_⟩) (by assumption) ?_
      · dsimp only at hS; go_split_ands; go_simp
      simp only [Act.put, List.setIfInBounds_toArray, List.set_cons_zero, List.set_cons_succ]
      refine wpAnyH_take (i := 16) (v := (.bool true)) (oi := ⟨_, _, _, _, _, _⟩) rfl (by kernel_rfl) (by kernel_rfl) (by kernel_rfl) (fun _ _ _ h => h) (Or.inl ⟨by kernel_rfl, fun W hS => ?_⟩) (by assumption) ?_
      · dsimp only at hS; go_split_ands; go_simp
      simp only [Act.put, List.setIfInBounds_toArray, List.set_cons_zero, List.set_cons_succ]
      refine wpAnyH_take (i := 17) (v := (.bool true)) (oi := ⟨_, _, _, _, _, _⟩) rfl (by kernel_rfl) (by kernel_rfl) (by kernel_rfl) (fun _ _ _ h => h) (Or.inl ⟨by kernel_rfl, fun W hS => ?_⟩) (by assumption) ?_
      · dsimp only at hS; go_split_ands; go_simp
      simp only [Act.put, List.setIfInBounds_toArray, List.set_cons_zero, List.set_cons_succ]
      refine wpAnyH_take (i := 18) (v := (.bool true)) (oi := ⟨_, _, _, _, _, _⟩) rfl (by kernel_rfl) (by kernel_rfl) (by kernel_rfl) (fun _ _ _ h => h) (Or.inl ⟨by kernel_rfl, fun W hS => ?_⟩) (by assumption) ?_
      · dsimp only at hS; go_split_ands; go_simp
      simp only [Act.put, List.setIfInBounds_toArray, List.set_cons_zero, List.set_cons_succ]
      refine wpAnyH_take (i := 19) (v := (.slice (some ⟨gp, 0, none⟩) mm cp)) (oi := ⟨_, _, _, _, _, _⟩) rfl (by kernel_rfl) (by kernel_rfl) (by kernel_rfl) (fun _ _ _ h => h) (Or.inl ⟨by kernel_rfl, fun W hS => ?_⟩) (by assumption) ?_
      · dsimp only at hS; go_split_ands; go_simp
      simp only [Act.put, List.setIfInBounds_toArray, List.set_cons_zero, List.set_cons_succ]
      refine wpAnyH_take (i := 20) (v := (.int .i64 (i : Int))) (oi := ⟨_, _, _, _, _, _⟩) rfl (by kernel_rfl) (by kernel_rfl) (by kernel_rfl) (fun _ _ _ h => h) (Or.inl ⟨by kernel_rfl, fun W hS => ?_⟩) (by assumption) ?_
      · dsimp only at hS; go_split_ands; go_simp
      simp only [Act.put, List.setIfInBounds_toArray, List.set_cons_zero, List.set_cons_succ]
      refine wpAnyH_take (i := 21) (v := (.pointer (some ⟨gp, i, none⟩))) (oi := ⟨_, _, _, _, _, _⟩) rfl (by kernel_rfl) (by kernel_rfl) (by kernel_rfl) (fun _ _ _ h => h) (Or.inl ⟨by kernel_rfl, fun W hS => ?_⟩) (by assumption) ?_
      · dsimp only at hS; go_split_ands; go_simp
      simp only [Act.put, List.setIfInBounds_toArray, List.set_cons_zero, List.set_cons_succ]
      refine wpAnyH_take (i := 22) (v := (.int .u8 z)) (oi := ⟨_, _, _, _, _, _⟩) rfl (by kernel_rfl) (by kernel_rfl) (by kernel_rfl) (fun _ _ _ h => h) (Or.inl ⟨by kernel_rfl, fun W hS => ?_⟩) (by assumption) ?_
      · dsimp only at hS; go_split_ands; go_simp
      simp only [Act.put, List.setIfInBounds_toArray, List.set_cons_zero, List.set_cons_succ]
      refine wpAnyH_take (i := 23) (v := (.slice (some ad) mm cap)) (oi := ⟨_, _, _, _, _, _⟩) rfl (by kernel_rfl) (by kernel_rfl) (by kernel_rfl) (fun _ _ _ h => h) (Or.inl ⟨by kernel_rfl, fun W hS => ?_⟩) (by assumption) ?_
      · dsimp only at hS; go_split_ands; go_simp
      simp only [Act.put, List.setIfInBounds_toArray, List.set_cons_zero, List.set_cons_succ]
      refine wpAnyH_take (i := 24) (v := (.int .i64 (i : Int))) (oi := ⟨_, _, _, _, _, _⟩) rfl (by kernel_rfl) (by kernel_rfl) (by kernel_rfl) (fun _ _ _ h => h) (Or.inl ⟨by kernel_rfl, fun W hS => ?_⟩) (by assumption) ?_
      · dsimp only at hS; go_split_ands; go_simp
      simp only [Act.put, List.setIfInBounds_toArray, List.set_cons_zero, List.set_cons_succ]
      refine wpAnyH_take (i := 25) (v := (.pointer (some (ad.add i)))) (oi := ⟨_, _, _, _, _, _⟩) rfl (by kernel_rfl) (by kernel_rfl) (by kernel_rfl) (fun _ _ _ h => h) (Or.inl ⟨by kernel_rfl, fun W hS => ?_⟩) (by assumption) ?_
      · dsimp only at hS; go_split_ands; go_simp
      simp only [Act.put, List.setIfInBounds_toArray, List.set_cons_zero, List.set_cons_succ]
      refine wpAnyH_take (i := 26) (v := (.int .u8 x)) (oi := ⟨_, _, _, _, _, _⟩) rfl (by kernel_rfl) (by kernel_rfl) (by kernel_rfl) (fun _ _ _ h => h) (Or.inl ⟨by kernel_rfl, fun W hS => ?_⟩) (by assumption) ?_
      · dsimp only at hS; go_split_ands; go_simp
      simp only [Act.put, List.setIfInBounds_toArray, List.set_cons_zero, List.set_cons_succ]
      refine wpAnyH_take (i := 27) (v := (.int .u8 m)) (oi := ⟨_, _, _, _, _, _⟩) rfl (by kernel_rfl) (by kernel_rfl) (by kernel_rfl) (fun _ _ _ h => h) (Or.inl ⟨by kernel_rfl, fun W hS => ?_⟩) (by assumption) ?_
      · dsimp only at hS; go_split_ands; go_simp
      simp only [Act.put, List.setIfInBounds_toArray, List.set_cons_zero, List.set_cons_succ]
      refine wpAnyH_take (i := 28) (v := (.int .u8 z)) (oi := ⟨_, _, _, _, _, _⟩) rfl (by kernel_rfl) (by kernel_rfl) (by kernel_rfl) (fun _ _ _ h => h) (Or.inl ⟨by kernel_rfl, fun W hS => ?_⟩) (by assumption) ?_
      · dsimp only at hS; go_split_ands; go_simp
      simp only [Act.put, List.setIfInBounds_toArray, List.set_cons_zero, List.set_cons_succ]
      refine wpAnyH_take (i := 29) (v := (.bool true)) (oi := ⟨_, _, _, _, _, _⟩) rfl (by kernel_rfl) (by kernel_rfl) (by kernel_rfl) (fun _ _ _ h => h) (Or.inl ⟨by kernel_rfl, fun W hS => ?_⟩) (by assumption) ?_
      · dsimp only at hS; go_split_ands; go_simp
      simp only [Act.put, List.setIfInBounds_toArray, List.set_cons_zero, List.set_cons_succ]
      refine wpAnyH_take (i := 30) (v := (.bool true)) (oi := ⟨_, _, _, _, _, _⟩) rfl (by kernel_rfl) (by kernel_rfl) (by kernel_rfl) (fun _ _ _ h => h) (Or.inl ⟨by kernel_rfl, fun W hS => ?_⟩) (by assumption) ?_
      · dsimp only at hS; go_split_ands; go_simp
      simp only [Act.put, List.setIfInBounds_toArray, List.set_cons_zero, List.set_cons_succ]
      refine wpAnyH_take (i := 31) (v := (.bool true)) (oi := ⟨_, _, _, _, _, _⟩) rfl (by kernel_rfl) (by kernel_rfl) (by kernel_rfl) (fun _ _ _ h => h) (Or.inl ⟨by kernel_rfl, fun W hS => ?_⟩) (by assumption) ?_
      · dsimp only at hS; go_split_ands; go_simp
      simp only [Act.put, List.setIfInBounds_toArray, List.set_cons_zero, List.set_cons_succ]
      refine wpAnyH_take (i := 32) (v := (.pointer (some ⟨d, 0, none⟩))) (oi := ⟨_, _, _, _, _, _⟩) rfl (by kernel_rfl) (by kernel_rfl) (by kernel_rfl) (fun _ _ _ h => h) (Or.inl ⟨by kernel_rfl, fun W hS => ?_⟩) (by assumption) ?_
      · dsimp only at hS; go_split_ands; go_simp
      simp only [Act.put, List.setIfInBounds_toArray, List.set_cons_zero, List.set_cons_succ]
      refine wpAnyH_take (i := 33) (v := (.slice (some ad) mm cap)) (oi := ⟨_, _, _, _, _, _⟩) rfl (by kernel_rfl) (by kernel_rfl) (by kernel_rfl) (fun _ _ _ h => h) (Or.inl ⟨by kernel_rfl, fun W hS => ?_⟩) (by assumption) ?_
      · dsimp only at hS; go_split_ands; go_simp
      simp only [Act.put, List.setIfInBounds_toArray, List.set_cons_zero, List.set_cons_succ]
      refine wpAnyH_take (i := 34) (v := (.int .i64 (mm : Int))) (oi := ⟨_, _, _, _, _, _⟩) rfl (by kernel_rfl) (by kernel_rfl) (by kernel_rfl) (fun _ _ _ h => h) (Or.inl ⟨by kernel_rfl, fun W hS => ?_⟩) (by assumption) ?_
      · dsimp only at hS; go_split_ands; go_simp
      simp only [Act.put, List.setIfInBounds_toArray, List.set_cons_zero, List.set_cons_succ]
      refine wpAnyH_take (i := 36) (v := (.slice (some ad) mm cap)) (oi := ⟨_, _, _, _, _, _⟩) rfl (by kernel_rfl) (by kernel_rfl) (by kernel_rfl) (fun _ _ _ h => h) (Or.inl ⟨by kernel_rfl, fun W hS => ?_⟩) (by assumption) ?_
      · dsimp only at hS; go_split_ands; go_simp
      simp only [Act.put, List.setIfInBounds_toArray, List.set_cons_zero, List.set_cons_succ]
      refine wpAnyH_ready (rs := [35]) (by kernel_rfl) (by decide) (AllReadyH.cons (o := ⟨_, _, _, _, _, _⟩) rfl (fun K hK => ?_) AllReadyH.nil)
      rw [if_pos (by kernel_rfl)]
      go_simp
      refine (read_p hDu _ _ HK2.out).mono ?_
      rintro e w12 ⟨vR, F4, rfl, hOR, _, ho12, _, _⟩
      rw [HDf.out, List.take_of_length_le (by rw [HLen.out]; exact Nat.le_refl _)] at hOR
      obtain ⟨AR, cR, rfl, hRR, _⟩ := hOR.reads'
      rw [HLen.out] at hRR ⊢
      have hb12 : Below w.heap.size w w12 := Below.only hHeld.1 ho12 hHeld.1.size hF1
      go_wp2_with fail
      refine hK.out _ _ (⟨hb12, ho12.cell hHeld.2.1 hgpF, pw_cell_below hb12 hcx⟩) (fun hHeld => ?_)
      clear hK K
      try simp only [Act.put, List.setIfInBounds_toArray, List.set_cons_zero, List.set_cons_succ]
      refine wpAnyH_ready (rs := [37]) (by kernel_rfl) (by decide) (AllReadyH.cons (o := ⟨_, _, _, _, _, _⟩) rfl (fun K hK => ?_) AllReadyH.nil)
      rw [if_pos (by kernel_rfl)]
      go_simp
      refine (Equal_same hRR (hx.below hHeld.1) rfl).mono ?_
      rintro e w13 ⟨rfl, rfl⟩
      go_wp2_with fail
      refine hK.out _ _ (hHeld) (fun hHeld => ?_)
      clear hK K
      try simp only [Act.put, List.setIfInBounds_toArray, List.set_cons_zero, List.set_cons_succ]
      refine wpAnyH_take (i := 38) (v := (.bool true)) (oi := ⟨_, _, _, _, _, _⟩) rfl (by kernel_rfl) (by kernel_rfl) (by kernel_rfl) (fun _ _ _ h => h) (Or.inl ⟨by kernel_rfl, fun W hS => ?_⟩) (by assumption) ?_
      · dsimp only at hS; go_split_ands; go_simp
      simp only [Act.put, List.setIfInBounds_toArray, List.set_cons_zero, List.set_cons_succ]
      refine wpAnyH_take (i := 39) (v := (.bool true)) (oi := ⟨_, _, _, _, _, _⟩) rfl (by kernel_rfl) (by kernel_rfl) (by kernel_rfl) (fun _ _ _ h => h) (Or.inl ⟨by kernel_rfl, fun W hS => ?_⟩) (by assumption) ?_
      · dsimp only at hS; go_split_ands; go_simp
      simp only [Act.put, List.setIfInBounds_toArray, List.set_cons_zero, List.set_cons_succ]
      refine wpAnyH_ready (rs := [40]) (by kernel_rfl) (by decide) (AllReadyH.cons (o := ⟨_, _, _, _, _, _⟩) rfl (fun K hK => ?_) AllReadyH.nil)
      rw [if_pos (by kernel_rfl)]
      go_simp
      refine (alive_any _).mono ?_
      rintro e w14 ⟨rfl, hb14⟩
      go_wp2_with fail
      refine hK.out _ _ (⟨below_step hHeld.1 hb14, pw_cell_below hb14 hHeld.2.1, pw_cell_below hb14 hHeld.2.2⟩) (fun hHeld => ?_)
      clear hK K
      try simp only [Act.put, List.setIfInBounds_toArray, List.set_cons_zero, List.set_cons_succ]
      refine wpAnyH_take (i := 41) (v := (.bool true)) (oi := ⟨_, _, _, _, _, _⟩) rfl (by kernel_rfl) (by kernel_rfl) (by kernel_rfl) (fun _ _ _ h => h) (Or.inl ⟨by kernel_rfl, fun W hS => ?_⟩) (by assumption) ?_
      · dsimp only at hS; go_split_ands; go_simp
      simp only [Act.put, List.setIfInBounds_toArray, List.set_cons_zero, List.set_cons_succ]
      refine wpAnyH_take (i := 42) (v := (.bool true)) (oi := ⟨_, _, _, _, _, _⟩) rfl (by kernel_rfl) (by kernel_rfl) (by kernel_rfl) (fun _ _ _ h => h) (Or.inl ⟨by kernel_rfl, fun W hS => ?_⟩) (by assumption) ?_
      · dsimp only at hS; go_split_ands; go_simp
      simp only [Act.put, List.setIfInBounds_toArray, List.set_cons_zero, List.set_cons_succ]
      refine wpAnyH_done (by kernel_rfl) ?_ _
      go_wp2_with fail
      go_ret
      exact ⟨rfl, hHeld.1⟩
    · have HB : Hid (¬ (0 ≤ q ∧ q < (D1.held.length : Int))) := Lib.hid (by rw [hdl]; exact hat)
      have hqq : q < 0 ∨ (mm : Int) ≤ q := by omega
      have HD1h := Lib.hid hD1h
      clear hat hdl hD1h
      go_wp2_with fail
      refine (turnbad_p hD3 q m HB.out).mono ?_
      rintro e w4 ⟨rfl, rfl⟩
      go_wp2_with fail
      refine (peek_p hD3 (mm : Int) mm (by rw [HD1h.out, HLen.out]; omega)).mono ?_
      rintro e w5 ⟨vp, rfl, hOp, hb5⟩
      rw [HD1h.out, List.take_of_length_le (by rw [HLen.out]; exact Nat.le_refl _)] at hOp
      obtain ⟨Ap, cp, rfl, hRp, _⟩ := hOp.reads'
      rw [HLen.out] at hRp ⊢
      have hb5w := below_step hb3 hb5
      have hx5 := hx.below hb5w
      have hD5 := hD3.below hb5
      clear hOp hb3 hb5 hD3
      go_wp2_with fail
      refine (turnbad_p hD5 q m HB.out).mono ?_
      rintro e w6 ⟨rfl, rfl⟩
      clear hD5
      rcases hqq with hq | hq
      · go_wp2_with fail
        refine (Equal_same hRp hx5 rfl).mono ?_
        rintro e w7 ⟨rfl, rfl⟩
        go_wp2_with fail
        refine (alive_any _).mono ?_
        rintro e w8 ⟨rfl, hb8⟩
        go_wp2_with fail
        go_ret
        exact ⟨rfl, below_step hb5w hb8⟩
      · have hq2 : ¬ q < 0 := by omega
        have hq3 : q ≥ (mm : Int) := hq
        go_wp2_with fail
        refine (Equal_same hRp hx5 rfl).mono ?_
        rintro e w7 ⟨rfl, rfl⟩
        go_wp2_with fail
        refine (alive_any _).mono ?_
        rintro e w8 ⟨rfl, hb8⟩
        go_wp2_with fail
        go_ret
        exact ⟨rfl, below_step hb5w hb8⟩
  · have hge : (len : Int) ≥ 4194304 := by omega
    have hwr : IntKind.i64.wrap ((len : Int) + 1) = (len : Int) + 1 := by rw [IntKind.wrap_i64]; omega
    have HR := Lib.hid hroom
    clear hroom hl
    go_wp2_with fail
    refine (New_bad _ HR.out _).mono ?_
    rintro e w1 ⟨rfl, rfl⟩
    go_wp2_with fail
    refine (alive_any _).mono ?_
    rintro e w2 ⟨rfl, hb2⟩
    go_wp2_with fail
    go_ret
    exact ⟨rfl, hb2⟩
end Go.Proofs.Ytodhcgidmdeifaa
