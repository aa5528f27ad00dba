/- The walk of DuctCounts. -/
import Derived.Test.YtodhcgidmdeifaaDuG
namespace Go.Proofs.Ytodhcgidmdeifaa
open Go.RowKit Go.Kit Go.Proofs.YtodhcgidmdeifaaW.PrintWords
set_option maxHeartbeats 8000000 in
set_option maxRecDepth 100000 in
theorem DuctCounts_walk (r : Int) (A : Option Addr) (np cp : Nat) (L : List Ac) (w : World) (hA : RA w A np L) :
    Calls Try.prog 6 #[.int .i64 r, .slice A np cp] w fun e w' => e = .returned (.bool true) ∧ Below w.heap.size w w' := by
  have hmx := hA.max
  go_enter Try.func6, Try.ntmps6
  by_cases hroom : 1 ≤ r ∧ r ≤ 4194304
  · go_wp2_with fail
    refine (new_p _ hroom.1 hroom.2 _).mono ?_
    rintro e w1 ⟨d, F, rfl, hD, hF, hb1⟩
    go_wp2_with fail
    go_loopg [32] np (fun gk vi w' => ∃ (i : Nat) (F : Nat → Prop) (D : Dk), vi = .int .i64 (i : Int) ∧ Du w' d F D ∧ (∀ k, F k → w.heap.size ≤ k) ∧ Below w.heap.size w w' ∧ Hid (adds D) ∧ Hid (D.room = r) ∧ Hid (i ≤ np ∧ gk = np - i))
    case atStart => exact ⟨0, F, _, rfl, hD, hF, hb1, adds_new r, rfl, by omega, rfl⟩
    case round =>
      clear hD hF hb1
      obtain ⟨i, F, D, rfl, hD, hF, hb1, HA, HR, HG⟩ := hrel
      by_cases hi : i < np
      · obtain ⟨ad, Ai, ni, ci, x, rfl, h0, h1, h2, h3, hr, hx⟩ := hA.at0 i hi
        have hi2 : (i : Int) < (np : Int) := by omega
        obtain ⟨kk, hkk⟩ : ∃ kk, (wrap64 (x.kind.tmod 8 + 8)).tmod 8 = kk := ⟨_, rfl⟩
        have hba := below_alloc (Below.refl wr.heap.size wr) (.cells #[.int .i64 x.kind, .slice Ai ni ci, .int .i64 x.a, .int .i64 x.b] 54)
        have hD0 := hD.below hba
        have hb0 := below_step hb1 hba
        have hw1 := hb0.size
        have hr0 : ∀ W, Only (wr.alloc (.cells #[.int .i64 x.kind, .slice Ai ni ci, .int .i64 x.a, .int .i64 x.b] 54)) W F → RBc W Ai ni x.parts := fun W ho => hr.below (Below.only hb0 ho hw1 hF)
        clear hr
        replace h0 := pw_cell_below hb1 h0
        replace h1 := pw_cell_below hb1 h1
        replace h2 := pw_cell_below hb1 h2
        replace h3 := pw_cell_below hb1 h3
        by_cases k0 : kk = 0
        · subst k0
          go_wp2_with fail
          refine (write_q hD0 Ai ni ci x.parts hr0).mono ?_
          rintro e w2 ⟨v, F2, D2, rfl, hD2, ho2, hn2, ha2, hr2⟩
          have hF2 : ∀ k, F2 k → w.heap.size ≤ k := fun k hk => (hn2 k hk).elim (hF k) (fun e => Nat.le_trans hw1 e)
          have hb2 : Below w.heap.size w w2 := Below.only hb0 ho2 hw1 hF
          have HA2 := Lib.hid (ha2 HA.out)
          have HR2 := Lib.hid (hr2.trans HR.out)
          clear hD hD0 hr0 hn2 ho2 ha2 hr2 hba hb0 hw1 h0 h1 h2 h3
          go_wp2_with fail
          refine (count_p hD2).mono ?_
          rintro e w3 ⟨rfl, hb3⟩
          unfold countV
          have hcb := heap_alloc_new w3 (.cells #[.int .i64 D2.ci, .int .i64 D2.co, .int .i64 D2.ct, .int .i64 D2.cl] 41)
          have hbc := below_alloc (Below.refl w3.heap.size w3) (.cells #[.int .i64 D2.ci, .int .i64 D2.co, .int .i64 D2.ct, .int .i64 D2.cl] 41)
          have hD4 := (hD2.below hb3).below hbc
          have hb4 := below_step (below_step hb2 hb3) hbc
          clear hD2 hb2 hb3 hbc
          go_wp2_with fail
          generalize w3.alloc (.cells #[.int .i64 D2.ci, .int .i64 D2.co, .int .i64 D2.ct, .int .i64 D2.cl] 41) = w4 at *
          generalize w3.heap.size = gc at *
          have hc0 := cell_of_row w4 gc 0 _ _ _ hcb
          have hc1 := cell_of_row w4 gc 1 _ _ _ hcb
          have hc3 := cell_of_row w4 gc 3 _ _ _ hcb
          simp only [List.getElem?_toArray, List.getElem?_cons_zero, List.getElem?_cons_succ] at hc0 hc1 hc3
          obtain ⟨ln, hln⟩ : ∃ ln : Nat, D2.held.length = ln := ⟨_, rfl⟩
          obtain ⟨X, hX⟩ : ∃ X : Int, (if D2.shut then (0 : Int) else D2.room - D2.held.length) = X := ⟨_, rfl⟩
          have hfit := hD4.fit
          rw [hln, HR2.out] at hfit
          have hX2 : 0 ≤ X ∧ (ln : Int) + X ≤ r := by
            rw [hln, HR2.out] at hX
            split at hX <;> omega
          have hne : (D2.ci != wrap64 (wrap64 (D2.co + D2.cl) + (ln : Int))) = false := by rw [← hln, ← adds_is HA2.out]; simp
          have hwr : IntKind.i64.wrap ((ln : Int) + X) = (ln : Int) + X := by rw [IntKind.wrap_i64]; omega
          have hwa : IntKind.i64.wrap (D2.co + D2.cl) = wrap64 (D2.co + D2.cl) := wrap_is _
          have hwb : IntKind.i64.wrap (wrap64 (D2.co + D2.cl) + (ln : Int)) = wrap64 (wrap64 (D2.co + D2.cl) + (ln : Int)) := wrap_is _
          have hnr : ¬ ((ln : Int) + X > r) := by omega
          have HLn := Lib.hid hln
          have HX := Lib.hid hX
          clear hln hX hX2 hfit hcb
          refine wp_region_held_drew (S := fun w' => Du w' d F2 D2 ∧ Below w.heap.size w w' ∧ w'.cell? ⟨gc, 0, none⟩ = some (.int .i64 D2.ci) ∧ w'.cell? ⟨gc, 1, none⟩ = some (.int .i64 D2.co) ∧ w'.cell? ⟨gc, 3, none⟩ = some (.int .i64 D2.cl)) (by kernel_rfl) (⟨hD4.drewN 1, below_drew hb4, hc0, hc1, hc3⟩) (fun hHeld => ?_)
          refine wpAnyH_take (i := 0) (v := (.pointer (some ⟨gc, 0, none⟩))) (oi := ⟨_, _, _, _, _, _⟩) rfl (by kernel_rfl) (by kernel_rfl) (by kernel_rfl) (fun _ _ _ h => h) (Or.inl ⟨by kernel_rfl, fun W hS => ?_⟩) (by assumption) ?_
          · dsimp only at hS; go_split_ands; go_simp
          simp only [Act.put, List.setIfInBounds_toArray, List.set_cons_zero, List.set_cons_succ]
          refine wpAnyH_take (i := 1) (v := (.int .i64 (D2.ci))) (oi := ⟨_, _, _, _, _, _⟩) rfl (by kernel_rfl) (by kernel_rfl) (by kernel_rfl) (fun _ _ _ h => h) (Or.inl ⟨by kernel_rfl, fun W hS => ?_⟩) (by assumption) ?_
          · dsimp only at hS; go_split_ands; go_simp
          simp only [Act.put, List.setIfInBounds_toArray, List.set_cons_zero, List.set_cons_succ]
          refine wpAnyH_take (i := 2) (v := (.pointer (some ⟨gc, 1, none⟩))) (oi := ⟨_, _, _, _, _, _⟩) rfl (by kernel_rfl) (by kernel_rfl) (by kernel_rfl) (fun _ _ _ h => h) (Or.inl ⟨by kernel_rfl, fun W hS => ?_⟩) (by assumption) ?_
          · dsimp only at hS; go_split_ands; go_simp
          simp only [Act.put, List.setIfInBounds_toArray, List.set_cons_zero, List.set_cons_succ]
          refine wpAnyH_take (i := 3) (v := (.int .i64 (D2.co))) (oi := ⟨_, _, _, _, _, _⟩) rfl (by kernel_rfl) (by kernel_rfl) (by kernel_rfl) (fun _ _ _ h => h) (Or.inl ⟨by kernel_rfl, fun W hS => ?_⟩) (by assumption) ?_
          · dsimp only at hS; go_split_ands; go_simp
          simp only [Act.put, List.setIfInBounds_toArray, List.set_cons_zero, List.set_cons_succ]
          refine wpAnyH_take (i := 4) (v := (.pointer (some ⟨gc, 3, none⟩))) (oi := ⟨_, _, _, _, _, _⟩) rfl (by kernel_rfl) (by kernel_rfl) (by kernel_rfl) (fun _ _ _ h => h) (Or.inl ⟨by kernel_rfl, fun W hS => ?_⟩) (by assumption) ?_
          · dsimp only at hS; go_split_ands; go_simp
          simp only [Act.put, List.setIfInBounds_toArray, List.set_cons_zero, List.set_cons_succ]
          refine wpAnyH_take (i := 5) (v := (.int .i64 (D2.cl))) (oi := ⟨_, _, _, _, _, _⟩) rfl (by kernel_rfl) (by kernel_rfl) (by kernel_rfl) (fun _ _ _ h => h) (Or.inl ⟨by kernel_rfl, fun W hS => ?_⟩) (by assumption) ?_
          · dsimp only at hS; go_split_ands; go_simp
          simp only [Act.put, List.setIfInBounds_toArray, List.set_cons_zero, List.set_cons_succ]
          refine wpAnyH_take (i := 6) (v := (.int .i64 (wrap64 (D2.co + D2.cl)))) (oi := ⟨_, _, _, _, _, _⟩) rfl (by kernel_rfl) (by kernel_rfl) (by kernel_rfl) (fun _ _ _ h => h) (Or.inl ⟨by kernel_rfl, fun W hS => ?_⟩) (by assumption) ?_
          · dsimp only at hS; go_split_ands; go_simp
          simp only [Act.put, List.setIfInBounds_toArray, List.set_cons_zero, List.set_cons_succ]
          refine wpAnyH_take (i := 7) (v := (.pointer (some ⟨d, 0, none⟩))) (oi := ⟨_, _, _, _, _, _⟩) rfl (by kernel_rfl) (by kernel_rfl) (by kernel_rfl) (fun _ _ _ h => h) (Or.inl ⟨by kernel_rfl, fun W hS => ?_⟩) (by assumption) ?_
          · dsimp only at hS; go_split_ands; go_simp
          simp only [Act.put, List.setIfInBounds_toArray, List.set_cons_zero, List.set_cons_succ]
          refine wpAnyH_ready (rs := [8]) (by kernel_rfl) (by decide) (AllReadyH.cons (o := ⟨_, _, _, _, _, _⟩) rfl (fun K hK => ?_) AllReadyH.nil)
          rw [if_pos (by kernel_rfl)]
          go_simp
          refine (len_p hHeld.1).mono ?_
          rintro e w5 ⟨rfl, rfl⟩
          rw [HLn.out]
          go_wp2_with fail
          refine hK.out _ _ (hHeld) (fun hHeld => ?_)
          clear hK K
          try simp only [Act.put, List.setIfInBounds_toArray, List.set_cons_zero, List.set_cons_succ]
          refine wpAnyH_take (i := 9) (v := (.int .i64 (wrap64 (wrap64 (D2.co + D2.cl) + (ln : Int))))) (oi := ⟨_, _, _, _, _, _⟩) rfl (by kernel_rfl) (by kernel_rfl) (by kernel_rfl) (fun _ _ _ h => h) (Or.inl ⟨by kernel_rfl, fun W hS => ?_⟩) (by assumption) ?_
          · dsimp only at hS; go_split_ands; go_simp
          simp only [Act.put, List.setIfInBounds_toArray, List.set_cons_zero, List.set_cons_succ]
          refine wpAnyH_take (i := 10) (v := (.bool false)) (oi := ⟨_, _, _, _, _, _⟩) rfl (by kernel_rfl) (by kernel_rfl) (by kernel_rfl) (fun _ _ _ h => h) (Or.inl ⟨by kernel_rfl, fun W hS => ?_⟩) (by assumption) ?_
          · dsimp only at hS; go_split_ands; go_simp
          simp only [Act.put, List.setIfInBounds_toArray, List.set_cons_zero, List.set_cons_succ]
          refine wpAnyH_take (i := 11) (v := (.bool false)) (oi := ⟨_, _, _, _, _, _⟩) rfl (by kernel_rfl) (by kernel_rfl) (by kernel_rfl) (fun _ _ _ h => h) (Or.inl ⟨by kernel_rfl, fun W hS => ?_⟩) (by assumption) ?_
          · dsimp only at hS; go_split_ands; go_simp
          simp only [Act.put, List.setIfInBounds_toArray, List.set_cons_zero, List.set_cons_succ]
          refine wpAnyH_take (i := 12) (v := (.pointer (some ⟨d, 0, none⟩))) (oi := ⟨_, _, _, _, _, _⟩) rfl (by kernel_rfl) (by kernel_rfl) (by kernel_rfl) (fun _ _ _ h => h) (Or.inl ⟨by kernel_rfl, fun W hS => ?_⟩) (by assumption) ?_
          · dsimp only at hS; go_split_ands; go_simp
          simp only [Act.put, List.setIfInBounds_toArray, List.set_cons_zero, List.set_cons_succ]
          refine wpAnyH_take (i := 14) (v := (.pointer (some ⟨d, 0, none⟩))) (oi := ⟨_, _, _, _, _, _⟩) rfl (by kernel_rfl) (by kernel_rfl) (by kernel_rfl) (fun _ _ _ h => h) (Or.inl ⟨by kernel_rfl, fun W hS => ?_⟩) (by assumption) ?_
          · dsimp only at hS; go_split_ands; go_simp
          simp only [Act.put, List.setIfInBounds_toArray, List.set_cons_zero, List.set_cons_succ]
          refine wpAnyH_take (i := 17) (v := (.int .i64 (r))) (oi := ⟨_, _, _, _, _, _⟩) rfl (by kernel_rfl) (by kernel_rfl) (by kernel_rfl) (fun _ _ _ h => h) (Or.inl ⟨by kernel_rfl, fun W hS => ?_⟩) (by assumption) ?_
          · dsimp only at hS; go_split_ands; go_simp
          simp only [Act.put, List.setIfInBounds_toArray, List.set_cons_zero, List.set_cons_succ]
          refine wpAnyH_ready (rs := [13]) (by kernel_rfl) (by decide) (AllReadyH.cons (o := ⟨_, _, _, _, _, _⟩) rfl (fun K hK => ?_) AllReadyH.nil)
          rw [if_pos (by kernel_rfl)]
          go_simp
          refine (len_p hHeld.1).mono ?_
          rintro e w5 ⟨rfl, rfl⟩
          rw [HLn.out]
          go_wp2_with fail
          refine hK.out _ _ (hHeld) (fun hHeld => ?_)
          clear hK K
          try simp only [Act.put, List.setIfInBounds_toArray, List.set_cons_zero, List.set_cons_succ]
          refine wpAnyH_ready (rs := [15]) (by kernel_rfl) (by decide) (AllReadyH.cons (o := ⟨_, _, _, _, _, _⟩) rfl (fun K hK => ?_) AllReadyH.nil)
          rw [if_pos (by kernel_rfl)]
          go_simp
          refine (room_p hHeld.1).mono ?_
          rintro e w6 ⟨rfl, kd, rfl⟩
          rw [HX.out]
          go_wp2_with fail
          refine hK.out _ _ (⟨hD4.drewN _, pw_below_drewN hb4 _, hc0, hc1, hc3⟩) (fun hHeld => ?_)
          clear hK K
          try simp only [Act.put, List.setIfInBounds_toArray, List.set_cons_zero, List.set_cons_succ]
          refine wpAnyH_take (i := 16) (v := (.int .i64 ((ln : Int) + X))) (oi := ⟨_, _, _, _, _, _⟩) rfl (by kernel_rfl) (by kernel_rfl) (by kernel_rfl) (fun _ _ _ h => h) (Or.inl ⟨by kernel_rfl, fun W hS => ?_⟩) (by assumption) ?_
          · dsimp only at hS; go_split_ands; go_simp
          simp only [Act.put, List.setIfInBounds_toArray, List.set_cons_zero, List.set_cons_succ]
          refine wpAnyH_take (i := 18) (v := (.bool false)) (oi := ⟨_, _, _, _, _, _⟩) rfl (by kernel_rfl) (by kernel_rfl) (by kernel_rfl) (fun _ _ _ h => h) (Or.inl ⟨by kernel_rfl, fun W hS => ?_⟩) (by assumption) ?_
          · dsimp only at hS; go_split_ands; go_simp
          simp only [Act.put, List.setIfInBounds_toArray, List.set_cons_zero, List.set_cons_succ]
          refine wpAnyH_take (i := 19) (v := (.bool false)) (oi := ⟨_, _, _, _, _, _⟩) rfl (by kernel_rfl) (by kernel_rfl) (by kernel_rfl) (fun _ _ _ h => h) (Or.inl ⟨by kernel_rfl, fun W hS => ?_⟩) (by assumption) ?_
          · dsimp only at hS; go_split_ands; go_simp
          simp only [Act.put, List.setIfInBounds_toArray, List.set_cons_zero, List.set_cons_succ]
          refine wpAnyH_done (by kernel_rfl) ?_ _
          go_wp2_with fail
          go_roundg (gk - 1)
          case measure => have := HG.out.2; omega
          case rel => exact ⟨i + 1, F2, D2, by simp, hHeld.1, hF2, hHeld.2.1, HA2, HR2, by omega, by have := HG.out.2; omega⟩
        by_cases k1 : kk = 1
        · subst k1
          go_wp2_with fail
          refine (read_q hD0 x.a).mono ?_
          rintro e w2 ⟨v, F2, D2, rfl, hD2, ho2, hn2, ha2, hr2⟩
          have hF2 : ∀ k, F2 k → w.heap.size ≤ k := fun k hk => (hn2 k hk).elim (hF k) (fun e => Nat.le_trans hw1 e)
          have hb2 : Below w.heap.size w w2 := Below.only hb0 ho2 hw1 hF
          have HA2 := Lib.hid (ha2 HA.out)
          have HR2 := Lib.hid (hr2.trans HR.out)
          clear hD hD0 hr0 hn2 ho2 ha2 hr2 hba hb0 hw1 h0 h1 h2 h3
          go_wp2_with fail
          refine (count_p hD2).mono ?_
          rintro e w3 ⟨rfl, hb3⟩
          unfold countV
          have hcb := heap_alloc_new w3 (.cells #[.int .i64 D2.ci, .int .i64 D2.co, .int .i64 D2.ct, .int .i64 D2.cl] 41)
          have hbc := below_alloc (Below.refl w3.heap.size w3) (.cells #[.int .i64 D2.ci, .int .i64 D2.co, .int .i64 D2.ct, .int .i64 D2.cl] 41)
          have hD4 := (hD2.below hb3).below hbc
          have hb4 := below_step (below_step hb2 hb3) hbc
          clear hD2 hb2 hb3 hbc
          go_wp2_with fail
          generalize w3.alloc (.cells #[.int .i64 D2.ci, .int .i64 D2.co, .int .i64 D2.ct, .int .i64 D2.cl] 41) = w4 at *
          generalize w3.heap.size = gc at *
          have hc0 := cell_of_row w4 gc 0 _ _ _ hcb
          have hc1 := cell_of_row w4 gc 1 _ _ _ hcb
          have hc3 := cell_of_row w4 gc 3 _ _ _ hcb
          simp only [List.getElem?_toArray, List.getElem?_cons_zero, List.getElem?_cons_succ] at hc0 hc1 hc3
          obtain ⟨ln, hln⟩ : ∃ ln : Nat, D2.held.length = ln := ⟨_, rfl⟩
          obtain ⟨X, hX⟩ : ∃ X : Int, (if D2.shut then (0 : Int) else D2.room - D2.held.length) = X := ⟨_, rfl⟩
          have hfit := hD4.fit
          rw [hln, HR2.out] at hfit
          have hX2 : 0 ≤ X ∧ (ln : Int) + X ≤ r := by
            rw [hln, HR2.out] at hX
            split at hX <;> omega
          have hne : (D2.ci != wrap64 (wrap64 (D2.co + D2.cl) + (ln : Int))) = false := by rw [← hln, ← adds_is HA2.out]; simp
          have hwr : IntKind.i64.wrap ((ln : Int) + X) = (ln : Int) + X := by rw [IntKind.wrap_i64]; omega
          have hwa : IntKind.i64.wrap (D2.co + D2.cl) = wrap64 (D2.co + D2.cl) := wrap_is _
          have hwb : IntKind.i64.wrap (wrap64 (D2.co + D2.cl) + (ln : Int)) = wrap64 (wrap64 (D2.co + D2.cl) + (ln : Int)) := wrap_is _
          have hnr : ¬ ((ln : Int) + X > r) := by omega
          have HLn := Lib.hid hln
          have HX := Lib.hid hX
          clear hln hX hX2 hfit hcb
          refine wp_region_held_drew (S := fun w' => Du w' d F2 D2 ∧ Below w.heap.size w w' ∧ w'.cell? ⟨gc, 0, none⟩ = some (.int .i64 D2.ci) ∧ w'.cell? ⟨gc, 1, none⟩ = some (.int .i64 D2.co) ∧ w'.cell? ⟨gc, 3, none⟩ = some (.int .i64 D2.cl)) (by kernel_rfl) (⟨hD4.drewN 1, below_drew hb4, hc0, hc1, hc3⟩) (fun hHeld => ?_)
          refine wpAnyH_take (i := 0) (v := (.pointer (some ⟨gc, 0, none⟩))) (oi := ⟨_, _, _, _, _, _⟩) rfl (by kernel_rfl) (by kernel_rfl) (by kernel_rfl) (fun _ _ _ h => h) (Or.inl ⟨by kernel_rfl, fun W hS => ?_⟩) (by assumption) ?_
          · dsimp only at hS; go_split_ands; go_simp
          simp only [Act.put, List.setIfInBounds_toArray, List.set_cons_zero, List.set_cons_succ]
          refine wpAnyH_take (i := 1) (v := (.int .i64 (D2.ci))) (oi := ⟨_, _, _, _, _, _⟩) rfl (by kernel_rfl) (by kernel_rfl) (by kernel_rfl) (fun _ _ _ h => h) (Or.inl ⟨by kernel_rfl, fun W hS => ?_⟩) (by assumption) ?_
          · dsimp only at hS; go_split_ands; go_simp
          simp only [Act.put, List.setIfInBounds_toArray, List.set_cons_zero, List.set_cons_succ]
          refine wpAnyH_take (i := 2) (v := (.pointer (some ⟨gc, 1, none⟩))) (oi := ⟨_, _, _, _, _, _⟩) rfl (by kernel_rfl) (by kernel_rfl) (by kernel_rfl) (fun _ _ _ h => h) (Or.inl ⟨by kernel_rfl, fun W hS => ?_⟩) (by assumption) ?_
          · dsimp only at hS; go_split_ands; go_simp
          simp only [Act.put, List.setIfInBounds_toArray, List.set_cons_zero, List.set_cons_succ]
          refine wpAnyH_take (i := 3) (v := (.int .i64 (D2.co))) (oi := ⟨_, _, _, _, _, _⟩) rfl (by kernel_rfl) (by kernel_rfl) (by kernel_rfl) (fun _ _ _ h => h) (Or.inl ⟨by kernel_rfl, fun W hS => ?_⟩) (by assumption) ?_
          · dsimp only at hS; go_split_ands; go_simp
          simp only [Act.put, List.setIfInBounds_toArray, List.set_cons_zero, List.set_cons_succ]
          refine wpAnyH_take (i := 4) (v := (.pointer (some ⟨gc, 3, none⟩))) (oi := ⟨_, _, _, _, _, _⟩) rfl (by kernel_rfl) (by kernel_rfl) (by kernel_rfl) (fun _ _ _ h => h) (Or.inl ⟨by kernel_rfl, fun W hS => ?_⟩) (by assumption) ?_
          · dsimp only at hS; go_split_ands; go_simp
          simp only [Act.put, List.setIfInBounds_toArray, List.set_cons_zero, List.set_cons_succ]
          refine wpAnyH_take (i := 5) (v := (.int .i64 (D2.cl))) (oi := ⟨_, _, _, _, _, _⟩) rfl (by kernel_rfl) (by kernel_rfl) (by kernel_rfl) (fun _ _ _ h => h) (Or.inl ⟨by kernel_rfl, fun W hS => ?_⟩) (by assumption) ?_
          · dsimp only at hS; go_split_ands; go_simp
          simp only [Act.put, List.setIfInBounds_toArray, List.set_cons_zero, List.set_cons_succ]
          refine wpAnyH_take (i := 6) (v := (.int .i64 (wrap64 (D2.co + D2.cl)))) (oi := ⟨_, _, _, _, _, _⟩) rfl (by kernel_rfl) (by kernel_rfl) (by kernel_rfl) (fun _ _ _ h => h) (Or.inl ⟨by kernel_rfl, fun W hS => ?_⟩) (by assumption) ?_
          · dsimp only at hS; go_split_ands; go_simp
          simp only [Act.put, List.setIfInBounds_toArray, List.set_cons_zero, List.set_cons_succ]
          refine wpAnyH_take (i := 7) (v := (.pointer (some ⟨d, 0, none⟩))) (oi := ⟨_, _, _, _, _, _⟩) rfl (by kernel_rfl) (by kernel_rfl) (by kernel_rfl) (fun _ _ _ h => h) (Or.inl ⟨by kernel_rfl, fun W hS => ?_⟩) (by assumption) ?_
          · dsimp only at hS; go_split_ands; go_simp
          simp only [Act.put, List.setIfInBounds_toArray, List.set_cons_zero, List.set_cons_succ]
          refine wpAnyH_ready (rs := [8]) (by kernel_rfl) (by decide) (AllReadyH.cons (o := ⟨_, _, _, _, _, _⟩) rfl (fun K hK => ?_) AllReadyH.nil)
          rw [if_pos (by kernel_rfl)]
          go_simp
          refine (len_p hHeld.1).mono ?_
          rintro e w5 ⟨rfl, rfl⟩
          rw [HLn.out]
          go_wp2_with fail
          refine hK.out _ _ (hHeld) (fun hHeld => ?_)
          clear hK K
          try simp only [Act.put, List.setIfInBounds_toArray, List.set_cons_zero, List.set_cons_succ]
          refine wpAnyH_take (i := 9) (v := (.int .i64 (wrap64 (wrap64 (D2.co + D2.cl) + (ln : Int))))) (oi := ⟨_, _, _, _, _, _⟩) rfl (by kernel_rfl) (by kernel_rfl) (by kernel_rfl) (fun _ _ _ h => h) (Or.inl ⟨by kernel_rfl, fun W hS => ?_⟩) (by assumption) ?_
          · dsimp only at hS; go_split_ands; go_simp
          simp only [Act.put, List.setIfInBounds_toArray, List.set_cons_zero, List.set_cons_succ]
          refine wpAnyH_take (i := 10) (v := (.bool false)) (oi := ⟨_, _, _, _, _, _⟩) rfl (by kernel_rfl) (by kernel_rfl) (by kernel_rfl) (fun _ _ _ h => h) (Or.inl ⟨by kernel_rfl, fun W hS => ?_⟩) (by assumption) ?_
          · dsimp only at hS; go_split_ands; go_simp
          simp only [Act.put, List.setIfInBounds_toArray, List.set_cons_zero, List.set_cons_succ]
          refine wpAnyH_take (i := 11) (v := (.bool false)) (oi := ⟨_, _, _, _, _, _⟩) rfl (by kernel_rfl) (by kernel_rfl) (by kernel_rfl) (fun _ _ _ h => h) (Or.inl ⟨by kernel_rfl, fun W hS => ?_⟩) (by assumption) ?_
          · dsimp only at hS; go_split_ands; go_simp
          simp only [Act.put, List.setIfInBounds_toArray, List.set_cons_zero, List.set_cons_succ]
          refine wpAnyH_take (i := 12) (v := (.pointer (some ⟨d, 0, none⟩))) (oi := ⟨_, _, _, _, _, _⟩) rfl (by kernel_rfl) (by kernel_rfl) (by kernel_rfl) (fun _ _ _ h => h) (Or.inl ⟨by kernel_rfl, fun W hS => ?_⟩) (by assumption) ?_
          · dsimp only at hS; go_split_ands; go_simp
          simp only [Act.put, List.setIfInBounds_toArray, List.set_cons_zero, List.set_cons_succ]
          refine wpAnyH_take (i := 14) (v := (.pointer (some ⟨d, 0, none⟩))) (oi := ⟨_, _, _, _, _, _⟩) rfl (by kernel_rfl) (by kernel_rfl) (by kernel_rfl) (fun _ _ _ h => h) (Or.inl ⟨by kernel_rfl, fun W hS => ?_⟩) (by assumption) ?_
          · dsimp only at hS; go_split_ands; go_simp
          simp only [Act.put, List.setIfInBounds_toArray, List.set_cons_zero, List.set_cons_succ]
          refine wpAnyH_take (i := 17) (v := (.int .i64 (r))) (oi := ⟨_, _, _, _, _, _⟩) rfl (by kernel_rfl) (by kernel_rfl) (by kernel_rfl) (fun _ _ _ h => h) (Or.inl ⟨by kernel_rfl, fun W hS => ?_⟩) (by assumption) ?_
          · dsimp only at hS; go_split_ands; go_simp
          simp only [Act.put, List.setIfInBounds_toArray, List.set_cons_zero, List.set_cons_succ]
          refine wpAnyH_ready (rs := [13]) (by kernel_rfl) (by decide) (AllReadyH.cons (o := ⟨_, _, _, _, _, _⟩) rfl (fun K hK => ?_) AllReadyH.nil)
          rw [if_pos (by kernel_rfl)]
          go_simp
          refine (len_p hHeld.1).mono ?_
          rintro e w5 ⟨rfl, rfl⟩
          rw [HLn.out]
          go_wp2_with fail
          refine hK.out _ _ (hHeld) (fun hHeld => ?_)
          clear hK K
          try simp only [Act.put, List.setIfInBounds_toArray, List.set_cons_zero, List.set_cons_succ]
          refine wpAnyH_ready (rs := [15]) (by kernel_rfl) (by decide) (AllReadyH.cons (o := ⟨_, _, _, _, _, _⟩) rfl (fun K hK => ?_) AllReadyH.nil)
          rw [if_pos (by kernel_rfl)]
          go_simp
          refine (room_p hHeld.1).mono ?_
          rintro e w6 ⟨rfl, kd, rfl⟩
          rw [HX.out]
          go_wp2_with fail
          refine hK.out _ _ (⟨hD4.drewN _, pw_below_drewN hb4 _, hc0, hc1, hc3⟩) (fun hHeld => ?_)
          clear hK K
          try simp only [Act.put, List.setIfInBounds_toArray, List.set_cons_zero, List.set_cons_succ]
          refine wpAnyH_take (i := 16) (v := (.int .i64 ((ln : Int) + X))) (oi := ⟨_, _, _, _, _, _⟩) rfl (by kernel_rfl) (by kernel_rfl) (by kernel_rfl) (fun _ _ _ h => h) (Or.inl ⟨by kernel_rfl, fun W hS => ?_⟩) (by assumption) ?_
          · dsimp only at hS; go_split_ands; go_simp
          simp only [Act.put, List.setIfInBounds_toArray, List.set_cons_zero, List.set_cons_succ]
          refine wpAnyH_take (i := 18) (v := (.bool false)) (oi := ⟨_, _, _, _, _, _⟩) rfl (by kernel_rfl) (by kernel_rfl) (by kernel_rfl) (fun _ _ _ h => h) (Or.inl ⟨by kernel_rfl, fun W hS => ?_⟩) (by assumption) ?_
          · dsimp only at hS; go_split_ands; go_simp
          simp only [Act.put, List.setIfInBounds_toArray, List.set_cons_zero, List.set_cons_succ]
          refine wpAnyH_take (i := 19) (v := (.bool false)) (oi := ⟨_, _, _, _, _, _⟩) rfl (by kernel_rfl) (by kernel_rfl) (by kernel_rfl) (fun _ _ _ h => h) (Or.inl ⟨by kernel_rfl, fun W hS => ?_⟩) (by assumption) ?_
          · dsimp only at hS; go_split_ands; go_simp
          simp only [Act.put, List.setIfInBounds_toArray, List.set_cons_zero, List.set_cons_succ]
          refine wpAnyH_done (by kernel_rfl) ?_ _
          go_wp2_with fail
          go_roundg (gk - 1)
          case measure => have := HG.out.2; omega
          case rel => exact ⟨i + 1, F2, D2, by simp, hHeld.1, hF2, hHeld.2.1, HA2, HR2, by omega, by have := HG.out.2; omega⟩
        by_cases k3 : kk = 3
        · subst k3
          go_wp2_with fail
          refine (turn_q hD0 x.a (x.b % 256) (by omega) (by omega)).mono ?_
          rintro e w2 ⟨v, F2, D2, rfl, hD2, ho2, hn2, ha2, hr2⟩
          have hF2 : ∀ k, F2 k → w.heap.size ≤ k := fun k hk => (hn2 k hk).elim (hF k) (fun e => Nat.le_trans hw1 e)
          have hb2 : Below w.heap.size w w2 := Below.only hb0 ho2 hw1 hF
          have HA2 := Lib.hid (ha2 HA.out)
          have HR2 := Lib.hid (hr2.trans HR.out)
          clear hD hD0 hr0 hn2 ho2 ha2 hr2 hba hb0 hw1 h0 h1 h2 h3
          go_wp2_with fail
          refine (count_p hD2).mono ?_
          rintro e w3 ⟨rfl, hb3⟩
          unfold countV
          have hcb := heap_alloc_new w3 (.cells #[.int .i64 D2.ci, .int .i64 D2.co, .int .i64 D2.ct, .int .i64 D2.cl] 41)
          have hbc := below_alloc (Below.refl w3.heap.size w3) (.cells #[.int .i64 D2.ci, .int .i64 D2.co, .int .i64 D2.ct, .int .i64 D2.cl] 41)
          have hD4 := (hD2.below hb3).below hbc
          have hb4 := below_step (below_step hb2 hb3) hbc
          clear hD2 hb2 hb3 hbc
          go_wp2_with fail
          generalize w3.alloc (.cells #[.int .i64 D2.ci, .int .i64 D2.co, .int .i64 D2.ct, .int .i64 D2.cl] 41) = w4 at *
          generalize w3.heap.size = gc at *
          have hc0 := cell_of_row w4 gc 0 _ _ _ hcb
          have hc1 := cell_of_row w4 gc 1 _ _ _ hcb
          have hc3 := cell_of_row w4 gc 3 _ _ _ hcb
          simp only [List.getElem?_toArray, List.getElem?_cons_zero, List.getElem?_cons_succ] at hc0 hc1 hc3
          obtain ⟨ln, hln⟩ : ∃ ln : Nat, D2.held.length = ln := ⟨_, rfl⟩
          obtain ⟨X, hX⟩ : ∃ X : Int, (if D2.shut then (0 : Int) else D2.room - D2.held.length) = X := ⟨_, rfl⟩
          have hfit := hD4.fit
          rw [hln, HR2.out] at hfit
          have hX2 : 0 ≤ X ∧ (ln : Int) + X ≤ r := by
            rw [hln, HR2.out] at hX
            split at hX <;> omega
          have hne : (D2.ci != wrap64 (wrap64 (D2.co + D2.cl) + (ln : Int))) = false := by rw [← hln, ← adds_is HA2.out]; simp
          have hwr : IntKind.i64.wrap ((ln : Int) + X) = (ln : Int) + X := by rw [IntKind.wrap_i64]; omega
          have hwa : IntKind.i64.wrap (D2.co + D2.cl) = wrap64 (D2.co + D2.cl) := wrap_is _
          have hwb : IntKind.i64.wrap (wrap64 (D2.co + D2.cl) + (ln : Int)) = wrap64 (wrap64 (D2.co + D2.cl) + (ln : Int)) := wrap_is _
          have hnr : ¬ ((ln : Int) + X > r) := by omega
          have HLn := Lib.hid hln
          have HX := Lib.hid hX
          clear hln hX hX2 hfit hcb
          refine wp_region_held_drew (S := fun w' => Du w' d F2 D2 ∧ Below w.heap.size w w' ∧ w'.cell? ⟨gc, 0, none⟩ = some (.int .i64 D2.ci) ∧ w'.cell? ⟨gc, 1, none⟩ = some (.int .i64 D2.co) ∧ w'.cell? ⟨gc, 3, none⟩ = some (.int .i64 D2.cl)) (by kernel_rfl) (⟨hD4.drewN 1, below_drew hb4, hc0, hc1, hc3⟩) (fun hHeld => ?_)
          refine wpAnyH_take (i := 0) (v := (.pointer (some ⟨gc, 0, none⟩))) (oi := ⟨_, _, _, _, _, _⟩) rfl (by kernel_rfl) (by kernel_rfl) (by kernel_rfl) (fun _ _ _ h => h) (Or.inl ⟨by kernel_rfl, fun W hS => ?_⟩) (by assumption) ?_
          · dsimp only at hS; go_split_ands; go_simp
          simp only [Act.put, List.setIfInBounds_toArray, List.set_cons_zero, List.set_cons_succ]
          refine wpAnyH_take (i := 1) (v := (.int .i64 (D2.ci))) (oi := ⟨_, _, _, _, _, _⟩) rfl (by kernel_rfl) (by kernel_rfl) (by kernel_rfl) (fun _ _ _ h => h) (Or.inl ⟨by kernel_rfl, fun W hS => ?_⟩) (by assumption) ?_
          · dsimp only at hS; go_split_ands; go_simp
          simp only [Act.put, List.setIfInBounds_toArray, List.set_cons_zero, List.set_cons_succ]
          refine wpAnyH_take (i := 2) (v := (.pointer (some ⟨gc, 1, none⟩))) (oi := ⟨_, _, _, _, _, _⟩) rfl (by kernel_rfl) (by kernel_rfl) (by kernel_rfl) (fun _ _ _ h => h) (Or.inl ⟨by kernel_rfl, fun W hS => ?_⟩) (by assumption) ?_
          · dsimp only at hS; go_split_ands; go_simp
          simp only [Act.put, List.setIfInBounds_toArray, List.set_cons_zero, List.set_cons_succ]
          refine wpAnyH_take (i := 3) (v := (.int .i64 (D2.co))) (oi := ⟨_, _, _, _, _, _⟩) rfl (by kernel_rfl) (by kernel_rfl) (by kernel_rfl) (fun _ _ _ h => h) (Or.inl ⟨by kernel_rfl, fun W hS => ?_⟩) (by assumption) ?_
          · dsimp only at hS; go_split_ands; go_simp
          simp only [Act.put, List.setIfInBounds_toArray, List.set_cons_zero, List.set_cons_succ]
          refine wpAnyH_take (i := 4) (v := (.pointer (some ⟨gc, 3, none⟩))) (oi := ⟨_, _, _, _, _, _⟩) rfl (by kernel_rfl) (by kernel_rfl) (by kernel_rfl) (fun _ _ _ h => h) (Or.inl ⟨by kernel_rfl, fun W hS => ?_⟩) (by assumption) ?_
          · dsimp only at hS; go_split_ands; go_simp
          simp only [Act.put, List.setIfInBounds_toArray, List.set_cons_zero, List.set_cons_succ]
          refine wpAnyH_take (i := 5) (v := (.int .i64 (D2.cl))) (oi := ⟨_, _, _, _, _, _⟩) rfl (by kernel_rfl) (by kernel_rfl) (by kernel_rfl) (fun _ _ _ h => h) (Or.inl ⟨by kernel_rfl, fun W hS => ?_⟩) (by assumption) ?_
          · dsimp only at hS; go_split_ands; go_simp
          simp only [Act.put, List.setIfInBounds_toArray, List.set_cons_zero, List.set_cons_succ]
          refine wpAnyH_take (i := 6) (v := (.int .i64 (wrap64 (D2.co + D2.cl)))) (oi := ⟨_, _, _, _, _, _⟩) rfl (by kernel_rfl) (by kernel_rfl) (by kernel_rfl) (fun _ _ _ h => h) (Or.inl ⟨by kernel_rfl, fun W hS => ?_⟩) (by assumption) ?_
          · dsimp only at hS; go_split_ands; go_simp
          simp only [Act.put, List.setIfInBounds_toArray, List.set_cons_zero, List.set_cons_succ]
          refine wpAnyH_take (i := 7) (v := (.pointer (some ⟨d, 0, none⟩))) (oi := ⟨_, _, _, _, _, _⟩) rfl (by kernel_rfl) (by kernel_rfl) (by kernel_rfl) (fun _ _ _ h => h) (Or.inl ⟨by kernel_rfl, fun W hS => ?_⟩) (by assumption) ?_
          · dsimp only at hS; go_split_ands; go_simp
          simp only [Act.put, List.setIfInBounds_toArray, List.set_cons_zero, List.set_cons_succ]
          refine wpAnyH_ready (rs := [8]) (by kernel_rfl) (by decide) (AllReadyH.cons (o := ⟨_, _, _, _, _, _⟩) rfl (fun K hK => ?_) AllReadyH.nil)
          rw [if_pos (by kernel_rfl)]
          go_simp
          refine (len_p hHeld.1).mono ?_
          rintro e w5 ⟨rfl, rfl⟩
          rw [HLn.out]
          go_wp2_with fail
          refine hK.out _ _ (hHeld) (fun hHeld => ?_)
          clear hK K
          try simp only [Act.put, List.setIfInBounds_toArray, List.set_cons_zero, List.set_cons_succ]
          refine wpAnyH_take (i := 9) (v := (.int .i64 (wrap64 (wrap64 (D2.co + D2.cl) + (ln : Int))))) (oi := ⟨_, _, _, _, _, _⟩) rfl (by kernel_rfl) (by kernel_rfl) (by kernel_rfl) (fun _ _ _ h => h) (Or.inl ⟨by kernel_rfl, fun W hS => ?_⟩) (by assumption) ?_
          · dsimp only at hS; go_split_ands; go_simp
          simp only [Act.put, List.setIfInBounds_toArray, List.set_cons_zero, List.set_cons_succ]
          refine wpAnyH_take (i := 10) (v := (.bool false)) (oi := ⟨_, _, _, _, _, _⟩) rfl (by kernel_rfl) (by kernel_rfl) (by kernel_rfl) (fun _ _ _ h => h) (Or.inl ⟨by kernel_rfl, fun W hS => ?_⟩) (by assumption) ?_
          · dsimp only at hS; go_split_ands; go_simp
          simp only [Act.put, List.setIfInBounds_toArray, List.set_cons_zero, List.set_cons_succ]
          refine wpAnyH_take (i := 11) (v := (.bool false)) (oi := ⟨_, _, _, _, _, _⟩) rfl (by kernel_rfl) (by kernel_rfl) (by kernel_rfl) (fun _ _ _ h => h) (Or.inl ⟨by kernel_rfl, fun W hS => ?_⟩) (by assumption) ?_
          · dsimp only at hS; go_split_ands; go_simp
          simp only [Act.put, List.setIfInBounds_toArray, List.set_cons_zero, List.set_cons_succ]
          refine wpAnyH_take (i := 12) (v := (.pointer (some ⟨d, 0, none⟩))) (oi := ⟨_, _, _, _, _, _⟩) rfl (by kernel_rfl) (by kernel_rfl) (by kernel_rfl) (fun _ _ _ h => h) (Or.inl ⟨by kernel_rfl, fun W hS => ?_⟩) (by assumption) ?_
          · dsimp only at hS; go_split_ands; go_simp
          simp only [Act.put, List.setIfInBounds_toArray, List.set_cons_zero, List.set_cons_succ]
          refine wpAnyH_take (i := 14) (v := (.pointer (some ⟨d, 0, none⟩))) (oi := ⟨_, _, _, _, _, _⟩) rfl (by kernel_rfl) (by kernel_rfl) (by kernel_rfl) (fun _ _ _ h => h) (Or.inl ⟨by kernel_rfl, fun W hS => ?_⟩) (by assumption) ?_
          · dsimp only at hS; go_split_ands; go_simp
          simp only [Act.put, List.setIfInBounds_toArray, List.set_cons_zero, List.set_cons_succ]
          refine wpAnyH_take (i := 17) (v := (.int .i64 (r))) (oi := ⟨_, _, _, _, _, _⟩) rfl (by kernel_rfl) (by kernel_rfl) (by kernel_rfl) (fun _ _ _ h => h) (Or.inl ⟨by kernel_rfl, fun W hS => ?_⟩) (by assumption) ?_
          · dsimp only at hS; go_split_ands; go_simp
          simp only [Act.put, List.setIfInBounds_toArray, List.set_cons_zero, List.set_cons_succ]
          refine wpAnyH_ready (rs := [13]) (by kernel_rfl) (by decide) (AllReadyH.cons (o := ⟨_, _, _, _, _, _⟩) rfl (fun K hK => ?_) AllReadyH.nil)
          rw [if_pos (by kernel_rfl)]
          go_simp
          refine (len_p hHeld.1).mono ?_
          rintro e w5 ⟨rfl, rfl⟩
          rw [HLn.out]
          go_wp2_with fail
          refine hK.out _ _ (hHeld) (fun hHeld => ?_)
          clear hK K
          try simp only [Act.put, List.setIfInBounds_toArray, List.set_cons_zero, List.set_cons_succ]
          refine wpAnyH_ready (rs := [15]) (by kernel_rfl) (by decide) (AllReadyH.cons (o := ⟨_, _, _, _, _, _⟩) rfl (fun K hK => ?_) AllReadyH.nil)
          rw [if_pos (by kernel_rfl)]
          go_simp
          refine (room_p hHeld.1).mono ?_
          rintro e w6 ⟨rfl, kd, rfl⟩
          rw [HX.out]
          go_wp2_with fail
          refine hK.out _ _ (⟨hD4.drewN _, pw_below_drewN hb4 _, hc0, hc1, hc3⟩) (fun hHeld => ?_)
          clear hK K
          try simp only [Act.put, List.setIfInBounds_toArray, List.set_cons_zero, List.set_cons_succ]
          refine wpAnyH_take (i := 16) (v := (.int .i64 ((ln : Int) + X))) (oi := ⟨_, _, _, _, _, _⟩) rfl (by kernel_rfl) (by kernel_rfl) (by kernel_rfl) (fun _ _ _ h => h) (Or.inl ⟨by kernel_rfl, fun W hS => ?_⟩) (by assumption) ?_
          · dsimp only at hS; go_split_ands; go_simp
          simp only [Act.put, List.setIfInBounds_toArray, List.set_cons_zero, List.set_cons_succ]
          refine wpAnyH_take (i := 18) (v := (.bool false)) (oi := ⟨_, _, _, _, _, _⟩) rfl (by kernel_rfl) (by kernel_rfl) (by kernel_rfl) (fun _ _ _ h => h) (Or.inl ⟨by kernel_rfl, fun W hS => ?_⟩) (by assumption) ?_
          · dsimp only at hS; go_split_ands; go_simp
          simp only [Act.put, List.setIfInBounds_toArray, List.set_cons_zero, List.set_cons_succ]
          refine wpAnyH_take (i := 19) (v := (.bool false)) (oi := ⟨_, _, _, _, _, _⟩) rfl (by kernel_rfl) (by kernel_rfl) (by kernel_rfl) (fun _ _ _ h => h) (Or.inl ⟨by kernel_rfl, fun W hS => ?_⟩) (by assumption) ?_
          · dsimp only at hS; go_split_ands; go_simp
          simp only [Act.put, List.setIfInBounds_toArray, List.set_cons_zero, List.set_cons_succ]
          refine wpAnyH_done (by kernel_rfl) ?_ _
          go_wp2_with fail
          go_roundg (gk - 1)
          case measure => have := HG.out.2; omega
          case rel => exact ⟨i + 1, F2, D2, by simp, hHeld.1, hF2, hHeld.2.1, HA2, HR2, by omega, by have := HG.out.2; omega⟩
        by_cases k4 : kk = 4
        · subst k4
          go_wp2_with fail
          refine (lose_q hD0 x.a x.b).mono ?_
          rintro e w2 ⟨v, F2, D2, rfl, hD2, ho2, hn2, ha2, hr2⟩
          have hF2 : ∀ k, F2 k → w.heap.size ≤ k := fun k hk => (hn2 k hk).elim (hF k) (fun e => Nat.le_trans hw1 e)
          have hb2 : Below w.heap.size w w2 := Below.only hb0 ho2 hw1 hF
          have HA2 := Lib.hid (ha2 HA.out)
          have HR2 := Lib.hid (hr2.trans HR.out)
          clear hD hD0 hr0 hn2 ho2 ha2 hr2 hba hb0 hw1 h0 h1 h2 h3
          go_wp2_with fail
          refine (count_p hD2).mono ?_
          rintro e w3 ⟨rfl, hb3⟩
          unfold countV
          have hcb := heap_alloc_new w3 (.cells #[.int .i64 D2.ci, .int .i64 D2.co, .int .i64 D2.ct, .int .i64 D2.cl] 41)
          have hbc := below_alloc (Below.refl w3.heap.size w3) (.cells #[.int .i64 D2.ci, .int .i64 D2.co, .int .i64 D2.ct, .int .i64 D2.cl] 41)
          have hD4 := (hD2.below hb3).below hbc
          have hb4 := below_step (below_step hb2 hb3) hbc
          clear hD2 hb2 hb3 hbc
          go_wp2_with fail
          generalize w3.alloc (.cells #[.int .i64 D2.ci, .int .i64 D2.co, .int .i64 D2.ct, .int .i64 D2.cl] 41) = w4 at *
          generalize w3.heap.size = gc at *
          have hc0 := cell_of_row w4 gc 0 _ _ _ hcb
          have hc1 := cell_of_row w4 gc 1 _ _ _ hcb
          have hc3 := cell_of_row w4 gc 3 _ _ _ hcb
          simp only [List.getElem?_toArray, List.getElem?_cons_zero, List.getElem?_cons_succ] at hc0 hc1 hc3
          obtain ⟨ln, hln⟩ : ∃ ln : Nat, D2.held.length = ln := ⟨_, rfl⟩
          obtain ⟨X, hX⟩ : ∃ X : Int, (if D2.shut then (0 : Int) else D2.room - D2.held.length) = X := ⟨_, rfl⟩
          have hfit := hD4.fit
          rw [hln, HR2.out] at hfit
          have hX2 : 0 ≤ X ∧ (ln : Int) + X ≤ r := by
            rw [hln, HR2.out] at hX
            split at hX <;> omega
          have hne : (D2.ci != wrap64 (wrap64 (D2.co + D2.cl) + (ln : Int))) = false := by rw [← hln, ← adds_is HA2.out]; simp
          have hwr : IntKind.i64.wrap ((ln : Int) + X) = (ln : Int) + X := by rw [IntKind.wrap_i64]; omega
          have hwa : IntKind.i64.wrap (D2.co + D2.cl) = wrap64 (D2.co + D2.cl) := wrap_is _
          have hwb : IntKind.i64.wrap (wrap64 (D2.co + D2.cl) + (ln : Int)) = wrap64 (wrap64 (D2.co + D2.cl) + (ln : Int)) := wrap_is _
          have hnr : ¬ ((ln : Int) + X > r) := by omega
          have HLn := Lib.hid hln
          have HX := Lib.hid hX
          clear hln hX hX2 hfit hcb
          refine wp_region_held_drew (S := fun w' => Du w' d F2 D2 ∧ Below w.heap.size w w' ∧ w'.cell? ⟨gc, 0, none⟩ = some (.int .i64 D2.ci) ∧ w'.cell? ⟨gc, 1, none⟩ = some (.int .i64 D2.co) ∧ w'.cell? ⟨gc, 3, none⟩ = some (.int .i64 D2.cl)) (by kernel_rfl) (⟨hD4.drewN 1, below_drew hb4, hc0, hc1, hc3⟩) (fun hHeld => ?_)
          refine wpAnyH_take (i := 0) (v := (.pointer (some ⟨gc, 0, none⟩))) (oi := ⟨_, _, _, _, _, _⟩) rfl (by kernel_rfl) (by kernel_rfl) (by kernel_rfl) (fun _ _ _ h => h) (Or.inl ⟨by kernel_rfl, fun W hS => ?_⟩) (by assumption) ?_
          · dsimp only at hS; go_split_ands; go_simp
          simp only [Act.put, List.setIfInBounds_toArray, List.set_cons_zero, List.set_cons_succ]
          refine wpAnyH_take (i := 1) (v := (.int .i64 (D2.ci))) (oi := ⟨_, _, _, _, _, _⟩) rfl (by kernel_rfl) (by kernel_rfl) (by kernel_rfl) (fun _ _ _ h => h) (Or.inl ⟨by kernel_rfl, fun W hS => ?_⟩) (by assumption) ?_
          · dsimp only at hS; go_split_ands; go_simp
          simp only [Act.put, List.setIfInBounds_toArray, List.set_cons_zero, List.set_cons_succ]
          refine wpAnyH_take (i := 2) (v := (.pointer (some ⟨gc, 1, none⟩))) (oi := ⟨_, _, _, _, _, _⟩) rfl (by kernel_rfl) (by kernel_rfl) (by kernel_rfl) (fun _ _ _ h => h) (Or.inl ⟨by kernel_rfl, fun W hS => ?_⟩) (by assumption) ?_
          · dsimp only at hS; go_split_ands; go_simp
          simp only [Act.put, List.setIfInBounds_toArray, List.set_cons_zero, List.set_cons_succ]
          refine wpAnyH_take (i := 3) (v := (.int .i64 (D2.co))) (oi := ⟨_, _, _, _, _, _⟩) rfl (by kernel_rfl) (by kernel_rfl) (by kernel_rfl) (fun _ _ _ h => h) (Or.inl ⟨by kernel_rfl, fun W hS => ?_⟩) (by assumption) ?_
          · dsimp only at hS; go_split_ands; go_simp
          simp only [Act.put, List.setIfInBounds_toArray, List.set_cons_zero, List.set_cons_succ]
          refine wpAnyH_take (i := 4) (v := (.pointer (some ⟨gc, 3, none⟩))) (oi := ⟨_, _, _, _, _, _⟩) rfl (by kernel_rfl) (by kernel_rfl) (by kernel_rfl) (fun _ _ _ h => h) (Or.inl ⟨by kernel_rfl, fun W hS => ?_⟩) (by assumption) ?_
          · dsimp only at hS; go_split_ands; go_simp
          simp only [Act.put, List.setIfInBounds_toArray, List.set_cons_zero, List.set_cons_succ]
          refine wpAnyH_take (i := 5) (v := (.int .i64 (D2.cl))) (oi := ⟨_, _, _, _, _, _⟩) rfl (by kernel_rfl) (by kernel_rfl) (by kernel_rfl) (fun _ _ _ h => h) (Or.inl ⟨by kernel_rfl, fun W hS => ?_⟩) (by assumption) ?_
          · dsimp only at hS; go_split_ands; go_simp
          simp only [Act.put, List.setIfInBounds_toArray, List.set_cons_zero, List.set_cons_succ]
          refine wpAnyH_take (i := 6) (v := (.int .i64 (wrap64 (D2.co + D2.cl)))) (oi := ⟨_, _, _, _, _, _⟩) rfl (by kernel_rfl) (by kernel_rfl) (by kernel_rfl) (fun _ _ _ h => h) (Or.inl ⟨by kernel_rfl, fun W hS => ?_⟩) (by assumption) ?_
          · dsimp only at hS; go_split_ands; go_simp
          simp only [Act.put, List.setIfInBounds_toArray, List.set_cons_zero, List.set_cons_succ]
          refine wpAnyH_take (i := 7) (v := (.pointer (some ⟨d, 0, none⟩))) (oi := ⟨_, _, _, _, _, _⟩) rfl (by kernel_rfl) (by kernel_rfl) (by kernel_rfl) (fun _ _ _ h => h) (Or.inl ⟨by kernel_rfl, fun W hS => ?_⟩) (by assumption) ?_
          · dsimp only at hS; go_split_ands; go_simp
          simp only [Act.put, List.setIfInBounds_toArray, List.set_cons_zero, List.set_cons_succ]
          refine wpAnyH_ready (rs := [8]) (by kernel_rfl) (by decide) (AllReadyH.cons (o := ⟨_, _, _, _, _, _⟩) rfl (fun K hK => ?_) AllReadyH.nil)
          rw [if_pos (by kernel_rfl)]
          go_simp
          refine (len_p hHeld.1).mono ?_
          rintro e w5 ⟨rfl, rfl⟩
          rw [HLn.out]
          go_wp2_with fail
          refine hK.out _ _ (hHeld) (fun hHeld => ?_)
          clear hK K
          try simp only [Act.put, List.setIfInBounds_toArray, List.set_cons_zero, List.set_cons_succ]
          refine wpAnyH_take (i := 9) (v := (.int .i64 (wrap64 (wrap64 (D2.co + D2.cl) + (ln : Int))))) (oi := ⟨_, _, _, _, _, _⟩) rfl (by kernel_rfl) (by kernel_rfl) (by kernel_rfl) (fun _ _ _ h => h) (Or.inl ⟨by kernel_rfl, fun W hS => ?_⟩) (by assumption) ?_
          · dsimp only at hS; go_split_ands; go_simp
          simp only [Act.put, List.setIfInBounds_toArray, List.set_cons_zero, List.set_cons_succ]
          refine wpAnyH_take (i := 10) (v := (.bool false)) (oi := ⟨_, _, _, _, _, _⟩) rfl (by kernel_rfl) (by kernel_rfl) (by kernel_rfl) (fun _ _ _ h => h) (Or.inl ⟨by kernel_rfl, fun W hS => ?_⟩) (by assumption) ?_
          · dsimp only at hS; go_split_ands; go_simp
          simp only [Act.put, List.setIfInBounds_toArray, List.set_cons_zero, List.set_cons_succ]
          refine wpAnyH_take (i := 11) (v := (.bool false)) (oi := ⟨_, _, _, _, _, _⟩) rfl (by kernel_rfl) (by kernel_rfl) (by kernel_rfl) (fun _ _ _ h => h) (Or.inl ⟨by kernel_rfl, fun W hS => ?_⟩) (by assumption) ?_
          · dsimp only at hS; go_split_ands; go_simp
          simp only [Act.put, List.setIfInBounds_toArray, List.set_cons_zero, List.set_cons_succ]
          refine wpAnyH_take (i := 12) (v := (.pointer (some ⟨d, 0, none⟩))) (oi := ⟨_, _, _, _, _, _⟩) rfl (by kernel_rfl) (by kernel_rfl) (by kernel_rfl) (fun _ _ _ h => h) (Or.inl ⟨by kernel_rfl, fun W hS => ?_⟩) (by assumption) ?_
          · dsimp only at hS; go_split_ands; go_simp
          simp only [Act.put, List.setIfInBounds_toArray, List.set_cons_zero, List.set_cons_succ]
          refine wpAnyH_take (i := 14) (v := (.pointer (some ⟨d, 0, none⟩))) (oi := ⟨_, _, _, _, _, _⟩) rfl (by kernel_rfl) (by kernel_rfl) (by kernel_rfl) (fun _ _ _ h => h) (Or.inl ⟨by kernel_rfl, fun W hS => ?_⟩) (by assumption) ?_
          · dsimp only at hS; go_split_ands; go_simp
          simp only [Act.put, List.setIfInBounds_toArray, List.set_cons_zero, List.set_cons_succ]
          refine wpAnyH_take (i := 17) (v := (.int .i64 (r))) (oi := ⟨_, _, _, _, _, _⟩) rfl (by kernel_rfl) (by kernel_rfl) (by kernel_rfl) (fun _ _ _ h => h) (Or.inl ⟨by kernel_rfl, fun W hS => ?_⟩) (by assumption) ?_
          · dsimp only at hS; go_split_ands; go_simp
          simp only [Act.put, List.setIfInBounds_toArray, List.set_cons_zero, List.set_cons_succ]
          refine wpAnyH_ready (rs := [13]) (by kernel_rfl) (by decide) (AllReadyH.cons (o := ⟨_, _, _, _, _, _⟩) rfl (fun K hK => ?_) AllReadyH.nil)
          rw [if_pos (by kernel_rfl)]
          go_simp
          refine (len_p hHeld.1).mono ?_
          rintro e w5 ⟨rfl, rfl⟩
          rw [HLn.out]
          go_wp2_with fail
          refine hK.out _ _ (hHeld) (fun hHeld => ?_)
          clear hK K
          try simp only [Act.put, List.setIfInBounds_toArray, List.set_cons_zero, List.set_cons_succ]
          refine wpAnyH_ready (rs := [15]) (by kernel_rfl) (by decide) (AllReadyH.cons (o := ⟨_, _, _, _, _, _⟩) rfl (fun K hK => ?_) AllReadyH.nil)
          rw [if_pos (by kernel_rfl)]
          go_simp
          refine (room_p hHeld.1).mono ?_
          rintro e w6 ⟨rfl, kd, rfl⟩
          rw [HX.out]
          go_wp2_with fail
          refine hK.out _ _ (⟨hD4.drewN _, pw_below_drewN hb4 _, hc0, hc1, hc3⟩) (fun hHeld => ?_)
          clear hK K
          try simp only [Act.put, List.setIfInBounds_toArray, List.set_cons_zero, List.set_cons_succ]
          refine wpAnyH_take (i := 16) (v := (.int .i64 ((ln : Int) + X))) (oi := ⟨_, _, _, _, _, _⟩) rfl (by kernel_rfl) (by kernel_rfl) (by kernel_rfl) (fun _ _ _ h => h) (Or.inl ⟨by kernel_rfl, fun W hS => ?_⟩) (by assumption) ?_
          · dsimp only at hS; go_split_ands; go_simp
          simp only [Act.put, List.setIfInBounds_toArray, List.set_cons_zero, List.set_cons_succ]
          refine wpAnyH_take (i := 18) (v := (.bool false)) (oi := ⟨_, _, _, _, _, _⟩) rfl (by kernel_rfl) (by kernel_rfl) (by kernel_rfl) (fun _ _ _ h => h) (Or.inl ⟨by kernel_rfl, fun W hS => ?_⟩) (by assumption) ?_
          · dsimp only at hS; go_split_ands; go_simp
          simp only [Act.put, List.setIfInBounds_toArray, List.set_cons_zero, List.set_cons_succ]
          refine wpAnyH_take (i := 19) (v := (.bool false)) (oi := ⟨_, _, _, _, _, _⟩) rfl (by kernel_rfl) (by kernel_rfl) (by kernel_rfl) (fun _ _ _ h => h) (Or.inl ⟨by kernel_rfl, fun W hS => ?_⟩) (by assumption) ?_
          · dsimp only at hS; go_split_ands; go_simp
          simp only [Act.put, List.setIfInBounds_toArray, List.set_cons_zero, List.set_cons_succ]
          refine wpAnyH_done (by kernel_rfl) ?_ _
          go_wp2_with fail
          go_roundg (gk - 1)
          case measure => have := HG.out.2; omega
          case rel => exact ⟨i + 1, F2, D2, by simp, hHeld.1, hF2, hHeld.2.1, HA2, HR2, by omega, by have := HG.out.2; omega⟩
        by_cases k5 : kk = 5
        · subst k5
          go_wp2_with fail
          refine (shut_q hD0).mono ?_
          rintro e w2 ⟨v, F2, D2, rfl, hD2, ho2, hn2, ha2, hr2⟩
          have hF2 : ∀ k, F2 k → w.heap.size ≤ k := fun k hk => (hn2 k hk).elim (hF k) (fun e => Nat.le_trans hw1 e)
          have hb2 : Below w.heap.size w w2 := Below.only hb0 ho2 hw1 hF
          have HA2 := Lib.hid (ha2 HA.out)
          have HR2 := Lib.hid (hr2.trans HR.out)
          clear hD hD0 hr0 hn2 ho2 ha2 hr2 hba hb0 hw1 h0 h1 h2 h3
          go_wp2_with fail
          refine (count_p hD2).mono ?_
          rintro e w3 ⟨rfl, hb3⟩
          unfold countV
          have hcb := heap_alloc_new w3 (.cells #[.int .i64 D2.ci, .int .i64 D2.co, .int .i64 D2.ct, .int .i64 D2.cl] 41)
          have hbc := below_alloc (Below.refl w3.heap.size w3) (.cells #[.int .i64 D2.ci, .int .i64 D2.co, .int .i64 D2.ct, .int .i64 D2.cl] 41)
          have hD4 := (hD2.below hb3).below hbc
          have hb4 := below_step (below_step hb2 hb3) hbc
          clear hD2 hb2 hb3 hbc
          go_wp2_with fail
          generalize w3.alloc (.cells #[.int .i64 D2.ci, .int .i64 D2.co, .int .i64 D2.ct, .int .i64 D2.cl] 41) = w4 at *
          generalize w3.heap.size = gc at *
          have hc0 := cell_of_row w4 gc 0 _ _ _ hcb
          have hc1 := cell_of_row w4 gc 1 _ _ _ hcb
          have hc3 := cell_of_row w4 gc 3 _ _ _ hcb
          simp only [List.getElem?_toArray, List.getElem?_cons_zero, List.getElem?_cons_succ] at hc0 hc1 hc3
          obtain ⟨ln, hln⟩ : ∃ ln : Nat, D2.held.length = ln := ⟨_, rfl⟩
          obtain ⟨X, hX⟩ : ∃ X : Int, (if D2.shut then (0 : Int) else D2.room - D2.held.length) = X := ⟨_, rfl⟩
          have hfit := hD4.fit
          rw [hln, HR2.out] at hfit
          have hX2 : 0 ≤ X ∧ (ln : Int) + X ≤ r := by
            rw [hln, HR2.out] at hX
            split at hX <;> omega
          have hne : (D2.ci != wrap64 (wrap64 (D2.co + D2.cl) + (ln : Int))) = false := by rw [← hln, ← adds_is HA2.out]; simp
          have hwr : IntKind.i64.wrap ((ln : Int) + X) = (ln : Int) + X := by rw [IntKind.wrap_i64]; omega
          have hwa : IntKind.i64.wrap (D2.co + D2.cl) = wrap64 (D2.co + D2.cl) := wrap_is _
          have hwb : IntKind.i64.wrap (wrap64 (D2.co + D2.cl) + (ln : Int)) = wrap64 (wrap64 (D2.co + D2.cl) + (ln : Int)) := wrap_is _
          have hnr : ¬ ((ln : Int) + X > r) := by omega
          have HLn := Lib.hid hln
          have HX := Lib.hid hX
          clear hln hX hX2 hfit hcb
          refine wp_region_held_drew (S := fun w' => Du w' d F2 D2 ∧ Below w.heap.size w w' ∧ w'.cell? ⟨gc, 0, none⟩ = some (.int .i64 D2.ci) ∧ w'.cell? ⟨gc, 1, none⟩ = some (.int .i64 D2.co) ∧ w'.cell? ⟨gc, 3, none⟩ = some (.int .i64 D2.cl)) (by kernel_rfl) (⟨hD4.drewN 1, below_drew hb4, hc0, hc1, hc3⟩) (fun hHeld => ?_)
          refine wpAnyH_take (i := 0) (v := (.pointer (some ⟨gc, 0, none⟩))) (oi := ⟨_, _, _, _, _, _⟩) rfl (by kernel_rfl) (by kernel_rfl) (by kernel_rfl) (fun _ _ _ h => h) (Or.inl ⟨by kernel_rfl, fun W hS => ?_⟩) (by assumption) ?_
          · dsimp only at hS; go_split_ands; go_simp
          simp only [Act.put, List.setIfInBounds_toArray, List.set_cons_zero, List.set_cons_succ]
          refine wpAnyH_take (i := 1) (v := (.int .i64 (D2.ci))) (oi := ⟨_, _, _, _, _, _⟩) rfl (by kernel_rfl) (by kernel_rfl) (by kernel_rfl) (fun _ _ _ h => h) (Or.inl ⟨by kernel_rfl, fun W hS => ?_⟩) (by assumption) ?_
          · dsimp only at hS; go_split_ands; go_simp
          simp only [Act.put, List.setIfInBounds_toArray, List.set_cons_zero, List.set_cons_succ]
          refine wpAnyH_take (i := 2) (v := (.pointer (some ⟨gc, 1, none⟩))) (oi := ⟨_, _, _, _, _, _⟩) rfl (by kernel_rfl) (by kernel_rfl) (by kernel_rfl) (fun _ _ _ h => h) (Or.inl ⟨by kernel_rfl, fun W hS => ?_⟩) (by assumption) ?_
          · dsimp only at hS; go_split_ands; go_simp
          simp only [Act.put, List.setIfInBounds_toArray, List.set_cons_zero, List.set_cons_succ]
          refine wpAnyH_take (i := 3) (v := (.int .i64 (D2.co))) (oi := ⟨_, _, _, _, _, _⟩) rfl (by kernel_rfl) (by kernel_rfl) (by kernel_rfl) (fun _ _ _ h => h) (Or.inl ⟨by kernel_rfl, fun W hS => ?_⟩) (by assumption) ?_
          · dsimp only at hS; go_split_ands; go_simp
          simp only [Act.put, List.setIfInBounds_toArray, List.set_cons_zero, List.set_cons_succ]
          refine wpAnyH_take (i := 4) (v := (.pointer (some ⟨gc, 3, none⟩))) (oi := ⟨_, _, _, _, _, _⟩) rfl (by kernel_rfl) (by kernel_rfl) (by kernel_rfl) (fun _ _ _ h => h) (Or.inl ⟨by kernel_rfl, fun W hS => ?_⟩) (by assumption) ?_
          · dsimp only at hS; go_split_ands; go_simp
          simp only [Act.put, List.setIfInBounds_toArray, List.set_cons_zero, List.set_cons_succ]
          refine wpAnyH_take (i := 5) (v := (.int .i64 (D2.cl))) (oi := ⟨_, _, _, _, _, _⟩) rfl (by kernel_rfl) (by kernel_rfl) (by kernel_rfl) (fun _ _ _ h => h) (Or.inl ⟨by kernel_rfl, fun W hS => ?_⟩) (by assumption) ?_
          · dsimp only at hS; go_split_ands; go_simp
          simp only [Act.put, List.setIfInBounds_toArray, List.set_cons_zero, List.set_cons_succ]
          refine wpAnyH_take (i := 6) (v := (.int .i64 (wrap64 (D2.co + D2.cl)))) (oi := ⟨_, _, _, _, _, _⟩) rfl (by kernel_rfl) (by kernel_rfl) (by kernel_rfl) (fun _ _ _ h => h) (Or.inl ⟨by kernel_rfl, fun W hS => ?_⟩) (by assumption) ?_
          · dsimp only at hS; go_split_ands; go_simp
          simp only [Act.put, List.setIfInBounds_toArray, List.set_cons_zero, List.set_cons_succ]
          refine wpAnyH_take (i := 7) (v := (.pointer (some ⟨d, 0, none⟩))) (oi := ⟨_, _, _, _, _, _⟩) rfl (by kernel_rfl) (by kernel_rfl) (by kernel_rfl) (fun _ _ _ h => h) (Or.inl ⟨by kernel_rfl, fun W hS => ?_⟩) (by assumption) ?_
          · dsimp only at hS; go_split_ands; go_simp
          simp only [Act.put, List.setIfInBounds_toArray, List.set_cons_zero, List.set_cons_succ]
          refine wpAnyH_ready (rs := [8]) (by kernel_rfl) (by decide) (AllReadyH.cons (o := ⟨_, _, _, _, _, _⟩) rfl (fun K hK => ?_) AllReadyH.nil)
          rw [if_pos (by kernel_rfl)]
          go_simp
          refine (len_p hHeld.1).mono ?_
          rintro e w5 ⟨rfl, rfl⟩
          rw [HLn.out]
          go_wp2_with fail
          refine hK.out _ _ (hHeld) (fun hHeld => ?_)
          clear hK K
          try simp only [Act.put, List.setIfInBounds_toArray, List.set_cons_zero, List.set_cons_succ]
          refine wpAnyH_take (i := 9) (v := (.int .i64 (wrap64 (wrap64 (D2.co + D2.cl) + (ln : Int))))) (oi := ⟨_, _, _, _, _, _⟩) rfl (by kernel_rfl) (by kernel_rfl) (by kernel_rfl) (fun _ _ _ h => h) (Or.inl ⟨by kernel_rfl, fun W hS => ?_⟩) (by assumption) ?_
          · dsimp only at hS; go_split_ands; go_simp
          simp only [Act.put, List.setIfInBounds_toArray, List.set_cons_zero, List.set_cons_succ]
          refine wpAnyH_take (i := 10) (v := (.bool false)) (oi := ⟨_, _, _, _, _, _⟩) rfl (by kernel_rfl) (by kernel_rfl) (by kernel_rfl) (fun _ _ _ h => h) (Or.inl ⟨by kernel_rfl, fun W hS => ?_⟩) (by assumption) ?_
          · dsimp only at hS; go_split_ands; go_simp
          simp only [Act.put, List.setIfInBounds_toArray, List.set_cons_zero, List.set_cons_succ]
          refine wpAnyH_take (i := 11) (v := (.bool false)) (oi := ⟨_, _, _, _, _, _⟩) rfl (by kernel_rfl) (by kernel_rfl) (by kernel_rfl) (fun _ _ _ h => h) (Or.inl ⟨by kernel_rfl, fun W hS => ?_⟩) (by assumption) ?_
          · dsimp only at hS; go_split_ands; go_simp
          simp only [Act.put, List.setIfInBounds_toArray, List.set_cons_zero, List.set_cons_succ]
          refine wpAnyH_take (i := 12) (v := (.pointer (some ⟨d, 0, none⟩))) (oi := ⟨_, _, _, _, _, _⟩) rfl (by kernel_rfl) (by kernel_rfl) (by kernel_rfl) (fun _ _ _ h => h) (Or.inl ⟨by kernel_rfl, fun W hS => ?_⟩) (by assumption) ?_
          · dsimp only at hS; go_split_ands; go_simp
          simp only [Act.put, List.setIfInBounds_toArray, List.set_cons_zero, List.set_cons_succ]
          refine wpAnyH_take (i := 14) (v := (.pointer (some ⟨d, 0, none⟩))) (oi := ⟨_, _, _, _, _, _⟩) rfl (by kernel_rfl) (by kernel_rfl) (by kernel_rfl) (fun _ _ _ h => h) (Or.inl ⟨by kernel_rfl, fun W hS => ?_⟩) (by assumption) ?_
          · dsimp only at hS; go_split_ands; go_simp
          simp only [Act.put, List.setIfInBounds_toArray, List.set_cons_zero, List.set_cons_succ]
          refine wpAnyH_take (i := 17) (v := (.int .i64 (r))) (oi := ⟨_, _, _, _, _, _⟩) rfl (by kernel_rfl) (by kernel_rfl) (by kernel_rfl) (fun _ _ _ h => h) (Or.inl ⟨by kernel_rfl, fun W hS => ?_⟩) (by assumption) ?_
          · dsimp only at hS; go_split_ands; go_simp
          simp only [Act.put, List.setIfInBounds_toArray, List.set_cons_zero, List.set_cons_succ]
          refine wpAnyH_ready (rs := [13]) (by kernel_rfl) (by decide) (AllReadyH.cons (o := ⟨_, _, _, _, _, _⟩) rfl (fun K hK => ?_) AllReadyH.nil)
          rw [if_pos (by kernel_rfl)]
          go_simp
          refine (len_p hHeld.1).mono ?_
          rintro e w5 ⟨rfl, rfl⟩
          rw [HLn.out]
          go_wp2_with fail
          refine hK.out _ _ (hHeld) (fun hHeld => ?_)
          clear hK K
          try simp only [Act.put, List.setIfInBounds_toArray, List.set_cons_zero, List.set_cons_succ]
          refine wpAnyH_ready (rs := [15]) (by kernel_rfl) (by decide) (AllReadyH.cons (o := ⟨_, _, _, _, _, _⟩) rfl (fun K hK => ?_) AllReadyH.nil)
          rw [if_pos (by kernel_rfl)]
          go_simp
          refine (room_p hHeld.1).mono ?_
          rintro e w6 ⟨rfl, kd, rfl⟩
          rw [HX.out]
          go_wp2_with fail
          refine hK.out _ _ (⟨hD4.drewN _, pw_below_drewN hb4 _, hc0, hc1, hc3⟩) (fun hHeld => ?_)
          clear hK K
          try simp only [Act.put, List.setIfInBounds_toArray, List.set_cons_zero, List.set_cons_succ]
          refine wpAnyH_take (i := 16) (v := (.int .i64 ((ln : Int) + X))) (oi := ⟨_, _, _, _, _, _⟩) rfl (by kernel_rfl) (by kernel_rfl) (by kernel_rfl) (fun _ _ _ h => h) (Or.inl ⟨by kernel_rfl, fun W hS => ?_⟩) (by assumption) ?_
          · dsimp only at hS; go_split_ands; go_simp
          simp only [Act.put, List.setIfInBounds_toArray, List.set_cons_zero, List.set_cons_succ]
          refine wpAnyH_take (i := 18) (v := (.bool false)) (oi := ⟨_, _, _, _, _, _⟩) rfl (by kernel_rfl) (by kernel_rfl) (by kernel_rfl) (fun _ _ _ h => h) (Or.inl ⟨by kernel_rfl, fun W hS => ?_⟩) (by assumption) ?_
          · dsimp only at hS; go_split_ands; go_simp
          simp only [Act.put, List.setIfInBounds_toArray, List.set_cons_zero, List.set_cons_succ]
          refine wpAnyH_take (i := 19) (v := (.bool false)) (oi := ⟨_, _, _, _, _, _⟩) rfl (by kernel_rfl) (by kernel_rfl) (by kernel_rfl) (fun _ _ _ h => h) (Or.inl ⟨by kernel_rfl, fun W hS => ?_⟩) (by assumption) ?_
          · dsimp only at hS; go_split_ands; go_simp
          simp only [Act.put, List.setIfInBounds_toArray, List.set_cons_zero, List.set_cons_succ]
          refine wpAnyH_done (by kernel_rfl) ?_ _
          go_wp2_with fail
          go_roundg (gk - 1)
          case measure => have := HG.out.2; omega
          case rel => exact ⟨i + 1, F2, D2, by simp, hHeld.1, hF2, hHeld.2.1, HA2, HR2, by omega, by have := HG.out.2; omega⟩
        · have e0 : (kk == 0) = false := beq_eq_false_iff_ne.2 k0
          have e1 : (kk == 1) = false := beq_eq_false_iff_ne.2 k1
          have e3 : (kk == 3) = false := beq_eq_false_iff_ne.2 k3
          have e4 : (kk == 4) = false := beq_eq_false_iff_ne.2 k4
          have e5 : (kk == 5) = false := beq_eq_false_iff_ne.2 k5
          clear k0 k1 k3 k4 k5
          have hD2 := hD0
          have hb2 := hb0
          have hF2 := hF
          have HA2 := HA
          have HR2 := HR
          obtain ⟨D2, hDD⟩ : ∃ D2, D2 = D := ⟨_, rfl⟩
          obtain ⟨F2, hFF⟩ : ∃ F2, F2 = F := ⟨_, rfl⟩
          rw [← hDD] at hD2 HA2 HR2
          rw [← hFF] at hD2 hF2
          clear hDD hFF hD hD0 hr0 hba hb0 hw1 HA HR hF
          go_wp2_with fail
          refine (count_p hD2).mono ?_
          rintro e w3 ⟨rfl, hb3⟩
          unfold countV
          have hcb := heap_alloc_new w3 (.cells #[.int .i64 D2.ci, .int .i64 D2.co, .int .i64 D2.ct, .int .i64 D2.cl] 41)
          have hbc := below_alloc (Below.refl w3.heap.size w3) (.cells #[.int .i64 D2.ci, .int .i64 D2.co, .int .i64 D2.ct, .int .i64 D2.cl] 41)
          have hD4 := (hD2.below hb3).below hbc
          have hb4 := below_step (below_step hb2 hb3) hbc
          clear hD2 hb2 hb3 hbc
          go_wp2_with fail
          generalize w3.alloc (.cells #[.int .i64 D2.ci, .int .i64 D2.co, .int .i64 D2.ct, .int .i64 D2.cl] 41) = w4 at *
          generalize w3.heap.size = gc at *
          have hc0 := cell_of_row w4 gc 0 _ _ _ hcb
          have hc1 := cell_of_row w4 gc 1 _ _ _ hcb
          have hc3 := cell_of_row w4 gc 3 _ _ _ hcb
          simp only [List.getElem?_toArray, List.getElem?_cons_zero, List.getElem?_cons_succ] at hc0 hc1 hc3
          obtain ⟨ln, hln⟩ : ∃ ln : Nat, D2.held.length = ln := ⟨_, rfl⟩
          obtain ⟨X, hX⟩ : ∃ X : Int, (if D2.shut then (0 : Int) else D2.room - D2.held.length) = X := ⟨_, rfl⟩
          have hfit := hD4.fit
          rw [hln, HR2.out] at hfit
          have hX2 : 0 ≤ X ∧ (ln : Int) + X ≤ r := by
            rw [hln, HR2.out] at hX
            split at hX <;> omega
          have hne : (D2.ci != wrap64 (wrap64 (D2.co + D2.cl) + (ln : Int))) = false := by rw [← hln, ← adds_is HA2.out]; simp
          have hwr : IntKind.i64.wrap ((ln : Int) + X) = (ln : Int) + X := by rw [IntKind.wrap_i64]; omega
          have hwa : IntKind.i64.wrap (D2.co + D2.cl) = wrap64 (D2.co + D2.cl) := wrap_is _
          have hwb : IntKind.i64.wrap (wrap64 (D2.co + D2.cl) + (ln : Int)) = wrap64 (wrap64 (D2.co + D2.cl) + (ln : Int)) := wrap_is _
          have hnr : ¬ ((ln : Int) + X > r) := by omega
          have HLn := Lib.hid hln
          have HX := Lib.hid hX
          clear hln hX hX2 hfit hcb
          refine wp_region_held_drew (S := fun w' => Du w' d F2 D2 ∧ Below w.heap.size w w' ∧ w'.cell? ⟨gc, 0, none⟩ = some (.int .i64 D2.ci) ∧ w'.cell? ⟨gc, 1, none⟩ = some (.int .i64 D2.co) ∧ w'.cell? ⟨gc, 3, none⟩ = some (.int .i64 D2.cl)) (by kernel_rfl) (⟨hD4.drewN 1, below_drew hb4, hc0, hc1, hc3⟩) (fun hHeld => ?_)
          refine wpAnyH_take (i := 0) (v := (.pointer (some ⟨gc, 0, none⟩))) (oi := ⟨_, _, _, _, _, _⟩) rfl (by kernel_rfl) (by kernel_rfl) (by kernel_rfl) (fun _ _ _ h => h) (Or.inl ⟨by kernel_rfl, fun W hS => ?_⟩) (by assumption) ?_
          · dsimp only at hS; go_split_ands; go_simp
          simp only [Act.put, List.setIfInBounds_toArray, List.set_cons_zero, List.set_cons_succ]
          refine wpAnyH_take (i := 1) (v := (.int .i64 (D2.ci))) (oi := ⟨_, _, _, _, _, _⟩) rfl (by kernel_rfl) (by kernel_rfl) (by kernel_rfl) (fun _ _ _ h => h) (Or.inl ⟨by kernel_rfl, fun W hS => ?_⟩) (by assumption) ?_
          · dsimp only at hS; go_split_ands; go_simp
          simp only [Act.put, List.setIfInBounds_toArray, List.set_cons_zero, List.set_cons_succ]
          refine wpAnyH_take (i := 2) (v := (.pointer (some ⟨gc, 1, none⟩))) (oi := ⟨_, _, _, _, _, _⟩) rfl (by kernel_rfl) (by kernel_rfl) (by kernel_rfl) (fun _ _ _ h => h) (Or.inl ⟨by kernel_rfl, fun W hS => ?_⟩) (by assumption) ?_
          · dsimp only at hS; go_split_ands; go_simp
          simp only [Act.put, List.setIfInBounds_toArray, List.set_cons_zero, List.set_cons_succ]
          refine wpAnyH_take (i := 3) (v := (.int .i64 (D2.co))) (oi := ⟨_, _, _, _, _, _⟩) rfl (by kernel_rfl) (by kernel_rfl) (by kernel_rfl) (fun _ _ _ h => h) (Or.inl ⟨by kernel_rfl, fun W hS => ?_⟩) (by assumption) ?_
          · dsimp only at hS; go_split_ands; go_simp
          simp only [Act.put, List.setIfInBounds_toArray, List.set_cons_zero, List.set_cons_succ]
          refine wpAnyH_take (i := 4) (v := (.pointer (some ⟨gc, 3, none⟩))) (oi := ⟨_, _, _, _, _, _⟩) rfl (by kernel_rfl) (by kernel_rfl) (by kernel_rfl) (fun _ _ _ h => h) (Or.inl ⟨by kernel_rfl, fun W hS => ?_⟩) (by assumption) ?_
          · dsimp only at hS; go_split_ands; go_simp
          simp only [Act.put, List.setIfInBounds_toArray, List.set_cons_zero, List.set_cons_succ]
          refine wpAnyH_take (i := 5) (v := (.int .i64 (D2.cl))) (oi := ⟨_, _, _, _, _, _⟩) rfl (by kernel_rfl) (by kernel_rfl) (by kernel_rfl) (fun _ _ _ h => h) (Or.inl ⟨by kernel_rfl, fun W hS => ?_⟩) (by assumption) ?_
          · dsimp only at hS; go_split_ands; go_simp
          simp only [Act.put, List.setIfInBounds_toArray, List.set_cons_zero, List.set_cons_succ]
          refine wpAnyH_take (i := 6) (v := (.int .i64 (wrap64 (D2.co + D2.cl)))) (oi := ⟨_, _, _, _, _, _⟩) rfl (by kernel_rfl) (by kernel_rfl) (by kernel_rfl) (fun _ _ _ h => h) (Or.inl ⟨by kernel_rfl, fun W hS => ?_⟩) (by assumption) ?_
          · dsimp only at hS; go_split_ands; go_simp
          simp only [Act.put, List.setIfInBounds_toArray, List.set_cons_zero, List.set_cons_succ]
          refine wpAnyH_take (i := 7) (v := (.pointer (some ⟨d, 0, none⟩))) (oi := ⟨_, _, _, _, _, _⟩) rfl (by kernel_rfl) (by kernel_rfl) (by kernel_rfl) (fun _ _ _ h => h) (Or.inl ⟨by kernel_rfl, fun W hS => ?_⟩) (by assumption) ?_
          · dsimp only at hS; go_split_ands; go_simp
          simp only [Act.put, List.setIfInBounds_toArray, List.set_cons_zero, List.set_cons_succ]
          refine wpAnyH_ready (rs := [8]) (by kernel_rfl) (by decide) (AllReadyH.cons (o := ⟨_, _, _, _, _, _⟩) rfl (fun K hK => ?_) AllReadyH.nil)
          rw [if_pos (by kernel_rfl)]
          go_simp
          refine (len_p hHeld.1).mono ?_
          rintro e w5 ⟨rfl, rfl⟩
          rw [HLn.out]
          go_wp2_with fail
          refine hK.out _ _ (hHeld) (fun hHeld => ?_)
          clear hK K
          try simp only [Act.put, List.setIfInBounds_toArray, List.set_cons_zero, List.set_cons_succ]
          refine wpAnyH_take (i := 9) (v := (.int .i64 (wrap64 (wrap64 (D2.co + D2.cl) + (ln : Int))))) (oi := ⟨_, _, _, _, _, _⟩) rfl (by kernel_rfl) (by kernel_rfl) (by kernel_rfl) (fun _ _ _ h => h) (Or.inl ⟨by kernel_rfl, fun W hS => ?_⟩) (by assumption) ?_
          · dsimp only at hS; go_split_ands; go_simp
          simp only [Act.put, List.setIfInBounds_toArray, List.set_cons_zero, List.set_cons_succ]
          refine wpAnyH_take (i := 10) (v := (.bool false)) (oi := ⟨_, _, _, _, _, _⟩) rfl (by kernel_rfl) (by kernel_rfl) (by kernel_rfl) (fun _ _ _ h => h) (Or.inl ⟨by kernel_rfl, fun W hS => ?_⟩) (by assumption) ?_
          · dsimp only at hS; go_split_ands; go_simp
          simp only [Act.put, List.setIfInBounds_toArray, List.set_cons_zero, List.set_cons_succ]
          refine wpAnyH_take (i := 11) (v := (.bool false)) (oi := ⟨_, _, _, _, _, _⟩) rfl (by kernel_rfl) (by kernel_rfl) (by kernel_rfl) (fun _ _ _ h => h) (Or.inl ⟨by kernel_rfl, fun W hS => ?_⟩) (by assumption) ?_
          · dsimp only at hS; go_split_ands; go_simp
          simp only [Act.put, List.setIfInBounds_toArray, List.set_cons_zero, List.set_cons_succ]
          refine wpAnyH_take (i := 12) (v := (.pointer (some ⟨d, 0, none⟩))) (oi := ⟨_, _, _, _, _, _⟩) rfl (by kernel_rfl) (by kernel_rfl) (by kernel_rfl) (fun _ _ _ h => h) (Or.inl ⟨by kernel_rfl, fun W hS => ?_⟩) (by assumption) ?_
          · dsimp only at hS; go_split_ands; go_simp
          simp only [Act.put, List.setIfInBounds_toArray, List.set_cons_zero, List.set_cons_succ]
          refine wpAnyH_take (i := 14) (v := (.pointer (some ⟨d, 0, none⟩))) (oi := ⟨_, _, _, _, _, _⟩) rfl (by kernel_rfl) (by kernel_rfl) (by kernel_rfl) (fun _ _ _ h => h) (Or.inl ⟨by kernel_rfl, fun W hS => ?_⟩) (by assumption) ?_
          · dsimp only at hS; go_split_ands; go_simp
          simp only [Act.put, List.setIfInBounds_toArray, List.set_cons_zero, List.set_cons_succ]
          refine wpAnyH_take (i := 17) (v := (.int .i64 (r))) (oi := ⟨_, _, _, _, _, _⟩) rfl (by kernel_rfl) (by kernel_rfl) (by kernel_rfl) (fun _ _ _ h => h) (Or.inl ⟨by kernel_rfl, fun W hS => ?_⟩) (by assumption) ?_
          · dsimp only at hS; go_split_ands; go_simp
          simp only [Act.put, List.setIfInBounds_toArray, List.set_cons_zero, List.set_cons_succ]
          refine wpAnyH_ready (rs := [13]) (by kernel_rfl) (by decide) (AllReadyH.cons (o := ⟨_, _, _, _, _, _⟩) rfl (fun K hK => ?_) AllReadyH.nil)
          rw [if_pos (by kernel_rfl)]
          go_simp
          refine (len_p hHeld.1).mono ?_
          rintro e w5 ⟨rfl, rfl⟩
          rw [HLn.out]
          go_wp2_with fail
          refine hK.out _ _ (hHeld) (fun hHeld => ?_)
          clear hK K
          try simp only [Act.put, List.setIfInBounds_toArray, List.set_cons_zero, List.set_cons_succ]
          refine wpAnyH_ready (rs := [15]) (by kernel_rfl) (by decide) (AllReadyH.cons (o := ⟨_, _, _, _, _, _⟩) rfl (fun K hK => ?_) AllReadyH.nil)
          rw [if_pos (by kernel_rfl)]
          go_simp
          refine (room_p hHeld.1).mono ?_
          rintro e w6 ⟨rfl, kd, rfl⟩
          rw [HX.out]
          go_wp2_with fail
          refine hK.out _ _ (⟨hD4.drewN _, pw_below_drewN hb4 _, hc0, hc1, hc3⟩) (fun hHeld => ?_)
          clear hK K
          try simp only [Act.put, List.setIfInBounds_toArray, List.set_cons_zero, List.set_cons_succ]
          refine wpAnyH_take (i := 16) (v := (.int .i64 ((ln : Int) + X))) (oi := ⟨_, _, _, _, _, _⟩) rfl (by kernel_rfl) (by kernel_rfl) (by kernel_rfl) (fun _ _ _ h => h) (Or.inl ⟨by kernel_rfl, fun W hS => ?_⟩) (by assumption) ?_
          · dsimp only at hS; go_split_ands; go_simp
          simp only [Act.put, List.setIfInBounds_toArray, List.set_cons_zero, List.set_cons_succ]
          refine wpAnyH_take (i := 18) (v := (.bool false)) (oi := ⟨_, _, _, _, _, _⟩) rfl (by kernel_rfl) (by kernel_rfl) (by kernel_rfl) (fun _ _ _ h => h) (Or.inl ⟨by kernel_rfl, fun W hS => ?_⟩) (by assumption) ?_
          · dsimp only at hS; go_split_ands; go_simp
          simp only [Act.put, List.setIfInBounds_toArray, List.set_cons_zero, List.set_cons_succ]
          refine wpAnyH_take (i := 19) (v := (.bool false)) (oi := ⟨_, _, _, _, _, _⟩) rfl (by kernel_rfl) (by kernel_rfl) (by kernel_rfl) (fun _ _ _ h => h) (Or.inl ⟨by kernel_rfl, fun W hS => ?_⟩) (by assumption) ?_
          · dsimp only at hS; go_split_ands; go_simp
          simp only [Act.put, List.setIfInBounds_toArray, List.set_cons_zero, List.set_cons_succ]
          refine wpAnyH_done (by kernel_rfl) ?_ _
          go_wp2_with fail
          go_roundg (gk - 1)
          case measure => have := HG.out.2; omega
          case rel => exact ⟨i + 1, F2, D2, by simp, hHeld.1, hF2, hHeld.2.1, HA2, HR2, by omega, by have := HG.out.2; omega⟩
      · have hn : ¬ ((i : Int) < (np : Int)) := by omega
        clear HA HR HG hD hF
        go_wp2_with fail
        refine (alive_any _).mono ?_
        rintro e w2 ⟨rfl, hb2⟩
        go_wp2_with fail
        go_ret
        exact ⟨rfl, below_step hb1 hb2⟩
  · have HRm := Lib.hid hroom
    by_cases hr1 : r < 1
    · clear hroom
      go_wp2_with fail
      refine (New_bad _ HRm.out _).mono ?_
      rintro e w1 ⟨rfl, rfl⟩
      go_wp2_with fail
      refine (alive_any _).mono ?_
      rintro e w2 ⟨rfl, hb2⟩
      go_wp2_with fail
      go_ret
      exact ⟨rfl, hb2⟩
    · have hr2 : r > 4194304 := by omega
      clear hroom
      go_wp2_with fail
      refine (New_bad _ HRm.out _).mono ?_
      rintro e w1 ⟨rfl, rfl⟩
      go_wp2_with fail
      refine (alive_any _).mono ?_
      rintro e w2 ⟨rfl, hb2⟩
      go_wp2_with fail
      go_ret
      exact ⟨rfl, hb2⟩
end Go.Proofs.Ytodhcgidmdeifaa
