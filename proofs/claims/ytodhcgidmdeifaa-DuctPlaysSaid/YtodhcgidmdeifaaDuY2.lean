/- One call of a script: Count. -/
import Derived.Test.YtodhcgidmdeifaaDuY
import Derived.Test.YtodhcgidmdeifaaWEqStruct
namespace Go.Proofs.Ytodhcgidmdeifaa
open Go.RowKit Go.Kit Go.Proofs.YtodhcgidmdeifaaW.PrintWords
section
variable {w : World} {d q : Nat} {F G : Nat → Prop} {D : Dk}
set_option maxHeartbeats 4000000 in
set_option maxRecDepth 100000 in
theorem does_count (h : Tw w d q F G D) (x : Ac) (Ai : Option Addr) (ni ci : Nat) (kz : Int) (hk : (wrap64 (x.kind.tmod 8 + 8)).tmod 8 = kz) (e0 : (kz == 0) = false) (e1 : (kz == 1) = false) (e2 : (kz == 2) = false) (e3 : (kz == 3) = false) (e4 : (kz == 4) = false) (e5 : (kz == 5) = false) (e6 : (kz == 6) = false) :
    Calls Try.prog 26 #[.pointer (some ⟨d, 0, none⟩), .pointer (some ⟨q, 0, none⟩), .agg #[.int .i64 x.kind, .slice Ai ni ci, .int .i64 x.a, .int .i64 x.b]] w (Both w d q F G) := by
  have hDl := h.du.old
  have hQl := h.qu.old
  have HR := Lib.hid h.rng
  have hFG := h.sep
  have hba := below_alloc (Below.refl w.heap.size w) (.cells #[.int .i64 x.kind, .slice Ai ni ci, .int .i64 x.a, .int .i64 x.b] 54)
  have hbk := heap_alloc_new w (.cells #[.int .i64 x.kind, .slice Ai ni ci, .int .i64 x.a, .int .i64 x.b] 54)
  have hD0 := h.du.below hba
  have hE0 := h.qu.below hba
  have hgF : ¬ F w.heap.size := fun e => absurd (hDl _ e) (by omega)
  have hgG : ¬ G w.heap.size := fun e => absurd (hQl _ e) (by omega)
  clear h
  unfold Both
  go_enter Try.func26, Try.ntmps26
  go_upto_region 1 with (fail)
  generalize w.alloc (.cells #[.int .i64 x.kind, .slice Ai ni ci, .int .i64 x.a, .int .i64 x.b] 54) = w1 at *
  have hc0 := cell_of_row w1 _ 0 _ _ _ hbk
  have hc2 := cell_of_row w1 _ 2 _ _ _ hbk
  have hc3 := cell_of_row w1 _ 3 _ _ _ hbk
  simp only [List.getElem?_toArray, List.getElem?_cons_zero, List.getElem?_cons_succ] at hc0 hc2 hc3
  generalize w.heap.size = gb at hc0 hc2 hc3 hgF hgG ⊢
  have hDr : Du w1.drew d F D := hD0.drewN 1
  have hEr : Qu w1.drew q G D := hE0.drewN 1
  obtain ⟨Aq, nq, cq, hQS, _⟩ := hEr
  have hq3 := hQS.q3
  have hq4 := hQS.q4
  have hq5 := hQS.q5
  have hq6 := hQS.q6
  have hqg : Try.prog.eqGuardType Try.prog.depth 41 = false := by kernel_rfl
  have heq : ∀ W, (binOp .eql 41 (.agg #[.int .i64 D.ci, .int .i64 D.co, .int .i64 D.ct, .int .i64 D.cl]) (.agg #[.int .i64 D.ci, .int .i64 D.co, .int .i64 D.ct, .int .i64 D.cl])).run Try.prog W = .ok (.bool true) W := by
    intro W
    have he : (Op.equalIn 10000 41 (.agg #[.int .i64 D.ci, .int .i64 D.co, .int .i64 D.ct, .int .i64 D.cl]) (.agg #[.int .i64 D.ci, .int .i64 D.co, .int .i64 D.ct, .int .i64 D.cl])).run Try.prog W = .ok true W := by go_simp
    simp [run_eql_struct W 41 _ _, he]
  clear hQS
  go_wp2_with fail
  refine wp_region_held_drew (S := fun w' => w'.cell? ⟨q, 3, none⟩ = some (.int .i64 D.ci) ∧ w'.cell? ⟨q, 4, none⟩ = some (.int .i64 D.co) ∧ w'.cell? ⟨q, 5, none⟩ = some (.int .i64 D.ct) ∧ w'.cell? ⟨q, 6, none⟩ = some (.int .i64 D.cl)) (by kernel_rfl) (⟨hq3, hq4, hq5, hq6⟩) (fun hHeld => ?_)
  refine wpAnyH_take (i := 0) (v := (.pointer (some ⟨d, 0, none⟩))) (oi := ⟨_, _, _, _, _, _⟩) rfl (by kernel_rfl) (by kernel_rfl) (by kernel_rfl) (fun _ _ _ h => h) (Or.inl ⟨by kernel_rfl, fun W hS => ?_⟩) (by assumption) ?_
  · dsimp only at hS; go_split_ands; go_simp
  simp only [Act.put, List.setIfInBounds_toArray, List.set_cons_zero, List.set_cons_succ]
  refine wpAnyH_take (i := 2) (v := (.pointer (some ⟨q, 0, none⟩))) (oi := ⟨_, _, _, _, _, _⟩) rfl (by kernel_rfl) (by kernel_rfl) (by kernel_rfl) (fun _ _ _ h => h) (Or.inl ⟨by kernel_rfl, fun W hS => ?_⟩) (by assumption) ?_
  · dsimp only at hS; go_split_ands; go_simp
  simp only [Act.put, List.setIfInBounds_toArray, List.set_cons_zero, List.set_cons_succ]
  refine wpAnyH_take (i := 3) (v := (.pointer (some ⟨q, 0, none⟩))) (oi := ⟨_, _, _, _, _, _⟩) rfl (by kernel_rfl) (by kernel_rfl) (by kernel_rfl) (fun _ _ _ h => h) (Or.inl ⟨by kernel_rfl, fun W hS => ?_⟩) (by assumption) ?_
  · dsimp only at hS; go_split_ands; go_simp
  simp only [Act.put, List.setIfInBounds_toArray, List.set_cons_zero, List.set_cons_succ]
  refine wpAnyH_take (i := 4) (v := (.pointer (some ⟨q, 3, none⟩))) (oi := ⟨_, _, _, _, _, _⟩) rfl (by kernel_rfl) (by kernel_rfl) (by kernel_rfl) (fun _ _ _ h => h) (Or.inl ⟨by kernel_rfl, fun W hS => ?_⟩) (by assumption) ?_
  · dsimp only at hS; go_split_ands; go_simp
  simp only [Act.put, List.setIfInBounds_toArray, List.set_cons_zero, List.set_cons_succ]
  refine wpAnyH_take (i := 5) (v := (.agg #[.int .i64 D.ci, .int .i64 D.co, .int .i64 D.ct, .int .i64 D.cl])) (oi := ⟨_, _, _, _, _, _⟩) rfl (by kernel_rfl) (by kernel_rfl) (by kernel_rfl) (fun _ _ _ h => h) (Or.inl ⟨by kernel_rfl, fun W hS => ?_⟩) (by assumption) ?_
  · dsimp only at hS; go_split_ands; go_simp
  simp only [Act.put, List.setIfInBounds_toArray, List.set_cons_zero, List.set_cons_succ]
  refine wpAnyH_ready (rs := [1]) (by kernel_rfl) (by decide) (AllReadyH.cons (o := ⟨_, _, _, _, _, _⟩) rfl (fun K hK => ?_) AllReadyH.nil)
  rw [if_pos (by kernel_rfl)]
  go_simp
  refine (count_p hDr).mono ?_
  rintro e w3 ⟨rfl, hb3⟩
  unfold countV
  go_wp2_with fail
  refine hK.out _ _ (⟨pw_cell_below hb3 hHeld.1, pw_cell_below hb3 hHeld.2.1, pw_cell_below hb3 hHeld.2.2.1, pw_cell_below hb3 hHeld.2.2.2⟩) (fun hHeld => ?_)
  clear hK K
  try simp only [Act.put, List.setIfInBounds_toArray, List.set_cons_zero, List.set_cons_succ]
  refine wpAnyH_take (i := 6) (v := (.bool true)) (oi := ⟨_, _, _, _, _, _⟩) rfl (by kernel_rfl) (by kernel_rfl) (by kernel_rfl) (fun _ _ _ h => h) (Or.inl ⟨by kernel_rfl, fun W hS => ?_⟩) (by assumption) ?_
  · dsimp only at hS; go_split_ands; go_simp
  simp only [Act.put, List.setIfInBounds_toArray, List.set_cons_zero, List.set_cons_succ]
  refine wpAnyH_take (i := 7) (v := (.bool true)) (oi := ⟨_, _, _, _, _, _⟩) rfl (by kernel_rfl) (by kernel_rfl) (by kernel_rfl) (fun _ _ _ h => h) (Or.inl ⟨by kernel_rfl, fun W hS => ?_⟩) (by assumption) ?_
  · dsimp only at hS; go_split_ands; go_simp
  simp only [Act.put, List.setIfInBounds_toArray, List.set_cons_zero, List.set_cons_succ]
  refine wpAnyH_done (by kernel_rfl) ?_ _
  have hTw : Tw w3 d q F G D := ⟨(hD0.drewN 1).below hb3, (hE0.drewN 1).below hb3, hFG, HR.out⟩
  go_wp2_with fail
  go_ret
  exact ⟨F, G, _, rfl, hTw, Only.of_below (below_step (below_drew hba) hb3) _, Onto.refl _ _, Onto.refl _ _⟩
theorem does_any (h : Tw w d q F G D) (x : Ac) (Ai : Option Addr) (ni ci : Nat) (hL : ∀ W, Only w W (fun k => F k ∨ G k) → RBc W Ai ni x.parts) :
    Calls Try.prog 26 #[.pointer (some ⟨d, 0, none⟩), .pointer (some ⟨q, 0, none⟩), .agg #[.int .i64 x.kind, .slice Ai ni ci, .int .i64 x.a, .int .i64 x.b]] w (Both w d q F G) := by
  obtain ⟨kz, hk⟩ : ∃ kz, (wrap64 (x.kind.tmod 8 + 8)).tmod 8 = kz := ⟨_, rfl⟩
  by_cases k0 : kz = 0
  · exact does_write h x Ai ni ci (hk.trans k0) hL
  by_cases k1 : kz = 1
  · exact does_read h x Ai ni ci (hk.trans k1)
  by_cases k2 : kz = 2
  · exact does_peek h x Ai ni ci (hk.trans k2)
  by_cases k3 : kz = 3
  · exact does_turn h x Ai ni ci (hk.trans k3)
  by_cases k4 : kz = 4
  · exact does_lose h x Ai ni ci (hk.trans k4)
  by_cases k5 : kz = 5
  · exact does_shut h x Ai ni ci (hk.trans k5)
  by_cases k6 : kz = 6
  · exact does_done h x Ai ni ci (hk.trans k6)
  exact does_count h x Ai ni ci kz hk (beq_eq_false_iff_ne.2 k0) (beq_eq_false_iff_ne.2 k1) (beq_eq_false_iff_ne.2 k2) (beq_eq_false_iff_ne.2 k3) (beq_eq_false_iff_ne.2 k4) (beq_eq_false_iff_ne.2 k5) (beq_eq_false_iff_ne.2 k6)
end
end Go.Proofs.Ytodhcgidmdeifaa
