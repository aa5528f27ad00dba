/- One call of a script: the walk of does. -/
import Derived.Test.YtodhcgidmdeifaaDuQ
namespace Go.Proofs.Ytodhcgidmdeifaa
open Go.RowKit Go.Kit Go.Proofs.YtodhcgidmdeifaaW.PrintWords
/-- Both ducts, of one state. -/
structure Tw (w : World) (d q : Nat) (F G : Nat → Prop) (D : Dk) : Prop where
  du : Du w d F D
  qu : Qu w q G D
  sep : Sep F G
  rng : rng D
/-- What one call leaves. -/
def Both (w : World) (d q : Nat) (F G : Nat → Prop) (e : Ending) (w' : World) : Prop := ∃ F1 G1 D1, e = .returned (.bool true) ∧ Tw w' d q F1 G1 D1 ∧ Only w w' (fun k => F k ∨ G k) ∧ Onto w F F1 ∧ Onto w G G1
section
variable {w : World} {d q : Nat} {F G : Nat → Prop} {D : Dk}
set_option maxHeartbeats 4000000 in
set_option maxRecDepth 100000 in
theorem does_read (h : Tw w d q F G D) (x : Ac) (Ai : Option Addr) (ni ci : Nat) (hk : (wrap64 (x.kind.tmod 8 + 8)).tmod 8 = 1) :
    Calls Try.prog 26 #[.pointer (some ⟨d, 0, none⟩), .pointer (some ⟨q, 0, none⟩), .agg #[.int .i64 x.kind, .slice Ai ni ci, .int .i64 x.a, .int .i64 x.b]] w (Both w d q F G) := by
  have hDl := h.du.old
  have hQl := h.qu.old
  have HR := Lib.hid h.rng
  have hFG := h.sep
  have hba := below_alloc (Below.refl w.heap.size w) (.cells #[.int .i64 x.kind, .slice Ai ni ci, .int .i64 x.a, .int .i64 x.b] 54)
  have hbk := heap_alloc_new w (.cells #[.int .i64 x.kind, .slice Ai ni ci, .int .i64 x.a, .int .i64 x.b] 54)
  have hD0 := h.du.below hba
  have hE0 := h.qu.below hba
  have hgF : ¬ F w.heap.size := fun e => absurd (hDl _ e) (by omega)
  have hgG : ¬ G w.heap.size := fun e => absurd (hQl _ e) (by omega)
  clear h
  unfold Both
  go_enter Try.func26, Try.ntmps26
  go_upto_region 1 with (fail)
  generalize w.alloc (.cells #[.int .i64 x.kind, .slice Ai ni ci, .int .i64 x.a, .int .i64 x.b] 54) = w1 at *
  have hc0 := cell_of_row w1 _ 0 _ _ _ hbk
  have hc2 := cell_of_row w1 _ 2 _ _ _ hbk
  have hc3 := cell_of_row w1 _ 3 _ _ _ hbk
  simp only [List.getElem?_toArray, List.getElem?_cons_zero, List.getElem?_cons_succ] at hc0 hc2 hc3
  generalize w.heap.size = gb at hc0 hc2 hc3 hgF hgG ⊢
  have hDr : Du w1.drew d F D := hD0.drewN 1
  have hEr : Qu w1.drew q G D := hE0.drewN 1
  obtain ⟨kk, hkk⟩ : ∃ kk : Nat, (kk : Int) = min (max x.a 0) D.held.length := ⟨(min (max x.a 0) (D.held.length : Int)).toNat, by omega⟩
  have HKl : Hid ((D.held.take kk).length = kk) := Lib.hid (by rw [List.length_take]; omega)
  go_wp2_with fail
  refine wp_region_held_drew (S := fun w' => w'.cell? ⟨gb, 2, none⟩ = some (.int .i64 x.a) ∧ w'.cell? ⟨gb, 3, none⟩ = some (.int .i64 x.b)) (by kernel_rfl) (⟨hc2, hc3⟩) (fun hHeld => ?_)
  refine wpAnyH_take (i := 0) (v := (.pointer (some ⟨d, 0, none⟩))) (oi := ⟨_, _, _, _, _, _⟩) rfl (by kernel_rfl) (by kernel_rfl) (by kernel_rfl) (fun _ _ _ h => h) (Or.inl ⟨by kernel_rfl, fun W hS => ?_⟩) (by assumption) ?_
  · dsimp only at hS; go_split_ands; go_simp
  simp only [Act.put, List.setIfInBounds_toArray, List.set_cons_zero, List.set_cons_succ]
  refine wpAnyH_take (i := 1) (v := (.pointer (some ⟨gb, 2, none⟩))) (oi := ⟨_, _, _, _, _, _⟩) rfl (by kernel_rfl) (by kernel_rfl) (by kernel_rfl) (fun _ _ _ h => h) (Or.inl ⟨by kernel_rfl, fun W hS => ?_⟩) (by assumption) ?_
  · dsimp only at hS; go_split_ands; go_simp
  simp only [Act.put, List.setIfInBounds_toArray, List.set_cons_zero, List.set_cons_succ]
  refine wpAnyH_take (i := 2) (v := (.int .i64 x.a)) (oi := ⟨_, _, _, _, _, _⟩) rfl (by kernel_rfl) (by kernel_rfl) (by kernel_rfl) (fun _ _ _ h => h) (Or.inl ⟨by kernel_rfl, fun W hS => ?_⟩) (by assumption) ?_
  · dsimp only at hS; go_split_ands; go_simp
  simp only [Act.put, List.setIfInBounds_toArray, List.set_cons_zero, List.set_cons_succ]
  refine wpAnyH_take (i := 4) (v := (.pointer (some ⟨q, 0, none⟩))) (oi := ⟨_, _, _, _, _, _⟩) rfl (by kernel_rfl) (by kernel_rfl) (by kernel_rfl) (fun _ _ _ h => h) (Or.inl ⟨by kernel_rfl, fun W hS => ?_⟩) (by assumption) ?_
  · dsimp only at hS; go_split_ands; go_simp
  simp only [Act.put, List.setIfInBounds_toArray, List.set_cons_zero, List.set_cons_succ]
  refine wpAnyH_take (i := 5) (v := (.pointer (some ⟨gb, 2, none⟩))) (oi := ⟨_, _, _, _, _, _⟩) rfl (by kernel_rfl) (by kernel_rfl) (by kernel_rfl) (fun _ _ _ h => h) (Or.inl ⟨by kernel_rfl, fun W hS => ?_⟩) (by assumption) ?_
  · dsimp only at hS; go_split_ands; go_simp
  simp only [Act.put, List.setIfInBounds_toArray, List.set_cons_zero, List.set_cons_succ]
  refine wpAnyH_take (i := 6) (v := (.int .i64 x.a)) (oi := ⟨_, _, _, _, _, _⟩) rfl (by kernel_rfl) (by kernel_rfl) (by kernel_rfl) (fun _ _ _ h => h) (Or.inl ⟨by kernel_rfl, fun W hS => ?_⟩) (by assumption) ?_
  · dsimp only at hS; go_split_ands; go_simp
  simp only [Act.put, List.setIfInBounds_toArray, List.set_cons_zero, List.set_cons_succ]
  refine wpAnyH_ready (rs := [3]) (by kernel_rfl) (by decide) (AllReadyH.cons (o := ⟨_, _, _, _, _, _⟩) rfl (fun K hK => ?_) AllReadyH.nil)
  rw [if_pos (by kernel_rfl)]
  go_simp
  refine (read_p hDr x.a kk hkk).mono ?_
  rintro e w3 ⟨v3, F1, rfl, hO3, hD3, ho3, hn3, hs3⟩
  have hE3 := hEr.only ho3 hFG.symm
  have hF1G : Sep F1 G := hFG.onto hn3 hEr.old
  obtain ⟨A3, c3, rfl, _, _⟩ := hO3.reads'
  rw [HKl.out] at hO3 hs3 ⊢
  go_wp2_with fail
  refine hK.out _ _ (⟨ho3.cell hHeld.1 hgF, ho3.cell hHeld.2 hgF⟩) (fun hHeld => ?_)
  clear hK K
  try simp only [Act.put, List.setIfInBounds_toArray, List.set_cons_zero, List.set_cons_succ]
  refine wpAnyH_ready (rs := [7]) (by kernel_rfl) (by decide) (AllReadyH.cons (o := ⟨_, _, _, _, _, _⟩) rfl (fun K hK => ?_) AllReadyH.nil)
  rw [if_pos (by kernel_rfl)]
  go_simp
  refine (qread_p hE3 HR.out x.a kk hkk).mono ?_
  rintro e w4 ⟨v4, G1, rfl, hO4, hE4, ho4, hn4, hs4⟩
  have hD4 := hD3.only ho4 hF1G
  have hFG1 : Sep F1 G1 := (hF1G.symm.onto hn4 hD3.old).symm
  have hO34 := hO3.only ho4 (Sep.symm (Sep.new hEr.old hO3.from))
  obtain ⟨A4, c4, rfl, hR4, _⟩ := hO4.reads'
  rw [HKl.out] at hR4 ⊢
  go_wp2_with fail
  refine hK.out _ _ (⟨ho4.cell hHeld.1 hgG, ho4.cell hHeld.2 hgG⟩) (fun hHeld => ?_)
  clear hK K
  try simp only [Act.put, List.setIfInBounds_toArray, List.set_cons_zero, List.set_cons_succ]
  refine wpAnyH_ready (rs := [8]) (by kernel_rfl) (by decide) (AllReadyH.cons (o := ⟨_, _, _, _, _, _⟩) rfl (fun K hK => ?_) AllReadyH.nil)
  rw [if_pos (by kernel_rfl)]
  go_simp
  refine (Equal_same (hO34.rb HKl.out.symm) hR4 rfl).mono ?_
  rintro e w5 ⟨rfl, rfl⟩
  go_wp2_with fail
  refine hK.out _ _ (hHeld) (fun hHeld => ?_)
  clear hK K
  try simp only [Act.put, List.setIfInBounds_toArray, List.set_cons_zero, List.set_cons_succ]
  refine wpAnyH_take (i := 9) (v := (.bool true)) (oi := ⟨_, _, _, _, _, _⟩) rfl (by kernel_rfl) (by kernel_rfl) (by kernel_rfl) (fun _ _ _ h => h) (Or.inl ⟨by kernel_rfl, fun W hS => ?_⟩) (by assumption) ?_
  · dsimp only at hS; go_split_ands; go_simp
  simp only [Act.put, List.setIfInBounds_toArray, List.set_cons_zero, List.set_cons_succ]
  refine wpAnyH_done (by kernel_rfl) ?_ _
  have hof : Only w1 w5 (fun k => F k ∨ G k) := (((Only.refl w1 (fun k => F k ∨ G k)).drew).then_ ho3 (fun k hk => .inl (.inl hk))).then_ ho4 (fun k hk => .inl (.inr hk))
  have how : Only w w5 (fun k => F k ∨ G k) := (Only.of_below hba (fun k => F k ∨ G k)).same hof
  have hnF : Onto w F F1 := fun k hk => (hn3 k hk).elim .inl (fun e => .inr (Nat.le_trans hba.size e))
  have hnG : Onto w G G1 := fun k hk => (hn4 k hk).elim .inl (fun e => .inr (Nat.le_trans (Nat.le_trans hba.size ho3.size) e))
  have hTw : Tw w5 d q F1 G1 (readD D kk) := ⟨hD4, hE4, hFG1, rng_read HR.out kk⟩
  go_wp2_with fail
  go_ret
  exact ⟨F1, G1, _, rfl, hTw, how, hnF, hnG⟩
set_option maxHeartbeats 4000000 in
set_option maxRecDepth 100000 in
theorem does_peek (h : Tw w d q F G D) (x : Ac) (Ai : Option Addr) (ni ci : Nat) (hk : (wrap64 (x.kind.tmod 8 + 8)).tmod 8 = 2) :
    Calls Try.prog 26 #[.pointer (some ⟨d, 0, none⟩), .pointer (some ⟨q, 0, none⟩), .agg #[.int .i64 x.kind, .slice Ai ni ci, .int .i64 x.a, .int .i64 x.b]] w (Both w d q F G) := by
  have hDl := h.du.old
  have hQl := h.qu.old
  have HR := Lib.hid h.rng
  have hFG := h.sep
  have hba := below_alloc (Below.refl w.heap.size w) (.cells #[.int .i64 x.kind, .slice Ai ni ci, .int .i64 x.a, .int .i64 x.b] 54)
  have hbk := heap_alloc_new w (.cells #[.int .i64 x.kind, .slice Ai ni ci, .int .i64 x.a, .int .i64 x.b] 54)
  have hD0 := h.du.below hba
  have hE0 := h.qu.below hba
  have hgF : ¬ F w.heap.size := fun e => absurd (hDl _ e) (by omega)
  have hgG : ¬ G w.heap.size := fun e => absurd (hQl _ e) (by omega)
  clear h
  unfold Both
  go_enter Try.func26, Try.ntmps26
  go_upto_region 1 with (fail)
  generalize w.alloc (.cells #[.int .i64 x.kind, .slice Ai ni ci, .int .i64 x.a, .int .i64 x.b] 54) = w1 at *
  have hc0 := cell_of_row w1 _ 0 _ _ _ hbk
  have hc2 := cell_of_row w1 _ 2 _ _ _ hbk
  have hc3 := cell_of_row w1 _ 3 _ _ _ hbk
  simp only [List.getElem?_toArray, List.getElem?_cons_zero, List.getElem?_cons_succ] at hc0 hc2 hc3
  generalize w.heap.size = gb at hc0 hc2 hc3 hgF hgG ⊢
  have hDr : Du w1.drew d F D := hD0.drewN 1
  have hEr : Qu w1.drew q G D := hE0.drewN 1
  obtain ⟨kk, hkk⟩ : ∃ kk : Nat, (kk : Int) = min (max x.a 0) D.held.length := ⟨(min (max x.a 0) (D.held.length : Int)).toNat, by omega⟩
  have HKl : Hid ((D.held.take kk).length = kk) := Lib.hid (by rw [List.length_take]; omega)
  go_wp2_with fail
  refine wp_region_held_drew (S := fun w' => w'.cell? ⟨gb, 2, none⟩ = some (.int .i64 x.a) ∧ w'.cell? ⟨gb, 3, none⟩ = some (.int .i64 x.b)) (by kernel_rfl) (⟨hc2, hc3⟩) (fun hHeld => ?_)
  refine wpAnyH_take (i := 0) (v := (.pointer (some ⟨d, 0, none⟩))) (oi := ⟨_, _, _, _, _, _⟩) rfl (by kernel_rfl) (by kernel_rfl) (by kernel_rfl) (fun _ _ _ h => h) (Or.inl ⟨by kernel_rfl, fun W hS => ?_⟩) (by assumption) ?_
  · dsimp only at hS; go_split_ands; go_simp
  simp only [Act.put, List.setIfInBounds_toArray, List.set_cons_zero, List.set_cons_succ]
  refine wpAnyH_take (i := 1) (v := (.pointer (some ⟨gb, 2, none⟩))) (oi := ⟨_, _, _, _, _, _⟩) rfl (by kernel_rfl) (by kernel_rfl) (by kernel_rfl) (fun _ _ _ h => h) (Or.inl ⟨by kernel_rfl, fun W hS => ?_⟩) (by assumption) ?_
  · dsimp only at hS; go_split_ands; go_simp
  simp only [Act.put, List.setIfInBounds_toArray, List.set_cons_zero, List.set_cons_succ]
  refine wpAnyH_take (i := 2) (v := (.int .i64 x.a)) (oi := ⟨_, _, _, _, _, _⟩) rfl (by kernel_rfl) (by kernel_rfl) (by kernel_rfl) (fun _ _ _ h => h) (Or.inl ⟨by kernel_rfl, fun W hS => ?_⟩) (by assumption) ?_
  · dsimp only at hS; go_split_ands; go_simp
  simp only [Act.put, List.setIfInBounds_toArray, List.set_cons_zero, List.set_cons_succ]
  refine wpAnyH_take (i := 4) (v := (.pointer (some ⟨q, 0, none⟩))) (oi := ⟨_, _, _, _, _, _⟩) rfl (by kernel_rfl) (by kernel_rfl) (by kernel_rfl) (fun _ _ _ h => h) (Or.inl ⟨by kernel_rfl, fun W hS => ?_⟩) (by assumption) ?_
  · dsimp only at hS; go_split_ands; go_simp
  simp only [Act.put, List.setIfInBounds_toArray, List.set_cons_zero, List.set_cons_succ]
  refine wpAnyH_take (i := 5) (v := (.pointer (some ⟨gb, 2, none⟩))) (oi := ⟨_, _, _, _, _, _⟩) rfl (by kernel_rfl) (by kernel_rfl) (by kernel_rfl) (fun _ _ _ h => h) (Or.inl ⟨by kernel_rfl, fun W hS => ?_⟩) (by assumption) ?_
  · dsimp only at hS; go_split_ands; go_simp
  simp only [Act.put, List.setIfInBounds_toArray, List.set_cons_zero, List.set_cons_succ]
  refine wpAnyH_take (i := 6) (v := (.int .i64 x.a)) (oi := ⟨_, _, _, _, _, _⟩) rfl (by kernel_rfl) (by kernel_rfl) (by kernel_rfl) (fun _ _ _ h => h) (Or.inl ⟨by kernel_rfl, fun W hS => ?_⟩) (by assumption) ?_
  · dsimp only at hS; go_split_ands; go_simp
  simp only [Act.put, List.setIfInBounds_toArray, List.set_cons_zero, List.set_cons_succ]
  refine wpAnyH_ready (rs := [3]) (by kernel_rfl) (by decide) (AllReadyH.cons (o := ⟨_, _, _, _, _, _⟩) rfl (fun K hK => ?_) AllReadyH.nil)
  rw [if_pos (by kernel_rfl)]
  go_simp
  refine (peek_p hDr x.a kk hkk).mono ?_
  rintro e w3 ⟨v3, rfl, hO3, hb3⟩
  have hE3 := hEr.below hb3
  have hD3 := hDr.below hb3
  obtain ⟨A3, c3, rfl, hR3, _⟩ := hO3.reads'
  rw [HKl.out] at hR3 ⊢
  go_wp2_with fail
  refine hK.out _ _ (⟨pw_cell_below hb3 hHeld.1, pw_cell_below hb3 hHeld.2⟩) (fun hHeld => ?_)
  clear hK K
  try simp only [Act.put, List.setIfInBounds_toArray, List.set_cons_zero, List.set_cons_succ]
  refine wpAnyH_ready (rs := [7]) (by kernel_rfl) (by decide) (AllReadyH.cons (o := ⟨_, _, _, _, _, _⟩) rfl (fun K hK => ?_) AllReadyH.nil)
  rw [if_pos (by kernel_rfl)]
  go_simp
  refine (qpeek_p hE3 x.a kk hkk).mono ?_
  rintro e w4 ⟨v4, rfl, hO4, hb4⟩
  have hD4 := hD3.below hb4
  have hE4 := hE3.below hb4
  have hR34 := hR3.below hb4
  obtain ⟨A4, c4, rfl, hR4, _⟩ := hO4.reads'
  rw [HKl.out] at hR4 ⊢
  go_wp2_with fail
  refine hK.out _ _ (⟨pw_cell_below hb4 hHeld.1, pw_cell_below hb4 hHeld.2⟩) (fun hHeld => ?_)
  clear hK K
  try simp only [Act.put, List.setIfInBounds_toArray, List.set_cons_zero, List.set_cons_succ]
  refine wpAnyH_ready (rs := [8]) (by kernel_rfl) (by decide) (AllReadyH.cons (o := ⟨_, _, _, _, _, _⟩) rfl (fun K hK => ?_) AllReadyH.nil)
  rw [if_pos (by kernel_rfl)]
  go_simp
  refine (Equal_same hR34 hR4 rfl).mono ?_
  rintro e w5 ⟨rfl, rfl⟩
  go_wp2_with fail
  refine hK.out _ _ (hHeld) (fun hHeld => ?_)
  clear hK K
  try simp only [Act.put, List.setIfInBounds_toArray, List.set_cons_zero, List.set_cons_succ]
  refine wpAnyH_take (i := 9) (v := (.bool true)) (oi := ⟨_, _, _, _, _, _⟩) rfl (by kernel_rfl) (by kernel_rfl) (by kernel_rfl) (fun _ _ _ h => h) (Or.inl ⟨by kernel_rfl, fun W hS => ?_⟩) (by assumption) ?_
  · dsimp only at hS; go_split_ands; go_simp
  simp only [Act.put, List.setIfInBounds_toArray, List.set_cons_zero, List.set_cons_succ]
  refine wpAnyH_done (by kernel_rfl) ?_ _
  have hb5 := below_step (below_step (below_drew hba) hb3) hb4
  have hTw : Tw w5 d q F G D := ⟨hD4, hE4, hFG, HR.out⟩
  go_wp2_with fail
  go_ret
  exact ⟨F, G, _, rfl, hTw, Only.of_below hb5 _, Onto.refl _ _, Onto.refl _ _⟩
set_option maxHeartbeats 4000000 in
set_option maxRecDepth 100000 in
theorem does_shut (h : Tw w d q F G D) (x : Ac) (Ai : Option Addr) (ni ci : Nat) (hk : (wrap64 (x.kind.tmod 8 + 8)).tmod 8 = 5) :
    Calls Try.prog 26 #[.pointer (some ⟨d, 0, none⟩), .pointer (some ⟨q, 0, none⟩), .agg #[.int .i64 x.kind, .slice Ai ni ci, .int .i64 x.a, .int .i64 x.b]] w (Both w d q F G) := by
  have hDl := h.du.old
  have hQl := h.qu.old
  have HR := Lib.hid h.rng
  have hFG := h.sep
  have hba := below_alloc (Below.refl w.heap.size w) (.cells #[.int .i64 x.kind, .slice Ai ni ci, .int .i64 x.a, .int .i64 x.b] 54)
  have hbk := heap_alloc_new w (.cells #[.int .i64 x.kind, .slice Ai ni ci, .int .i64 x.a, .int .i64 x.b] 54)
  have hD0 := h.du.below hba
  have hE0 := h.qu.below hba
  have hgF : ¬ F w.heap.size := fun e => absurd (hDl _ e) (by omega)
  have hgG : ¬ G w.heap.size := fun e => absurd (hQl _ e) (by omega)
  clear h
  unfold Both
  go_enter Try.func26, Try.ntmps26
  go_upto_region 1 with (fail)
  generalize w.alloc (.cells #[.int .i64 x.kind, .slice Ai ni ci, .int .i64 x.a, .int .i64 x.b] 54) = w1 at *
  have hc0 := cell_of_row w1 _ 0 _ _ _ hbk
  have hc2 := cell_of_row w1 _ 2 _ _ _ hbk
  have hc3 := cell_of_row w1 _ 3 _ _ _ hbk
  simp only [List.getElem?_toArray, List.getElem?_cons_zero, List.getElem?_cons_succ] at hc0 hc2 hc3
  generalize w.heap.size = gb at hc0 hc2 hc3 hgF hgG ⊢
  have hDr : Du w1.drew d F D := hD0.drewN 1
  have hEr : Qu w1.drew q G D := hE0.drewN 1
  clear hDr hEr
  go_wp2_with fail
  refine (shut_p hD0).mono ?_
  rintro e w3 ⟨rfl, hD3, ho3⟩
  have hE3 := hE0.only ho3 hFG.symm
  obtain ⟨sv, hsv⟩ : ∃ sv : Int, (if D.shut then (91 : Int) else 0) = sv := ⟨_, rfl⟩
  rw [hsv]
  go_wp2_with fail
  refine (qshut_p hE3).mono ?_
  rintro e w4 ⟨rfl, hE4, ho4⟩
  rw [hsv]
  have hD4 := hD3.only ho4 hFG
  have how : Only w w4 (fun k => F k ∨ G k) := ((Only.of_below hba (fun k => F k ∨ G k)).then_ ho3 (fun k hk => .inl (.inl hk))).then_ ho4 (fun k hk => .inl (.inr hk))
  have hTw : Tw w4 d q F G { D with shut := true } := ⟨hD4, hE4, hFG, HR.out⟩
  clear hsv
  go_wp2_with fail
  go_ret
  exact ⟨F, G, _, rfl, hTw, how, Onto.refl _ _, Onto.refl _ _⟩
set_option maxHeartbeats 4000000 in
set_option maxRecDepth 100000 in
theorem does_done (h : Tw w d q F G D) (x : Ac) (Ai : Option Addr) (ni ci : Nat) (hk : (wrap64 (x.kind.tmod 8 + 8)).tmod 8 = 6) :
    Calls Try.prog 26 #[.pointer (some ⟨d, 0, none⟩), .pointer (some ⟨q, 0, none⟩), .agg #[.int .i64 x.kind, .slice Ai ni ci, .int .i64 x.a, .int .i64 x.b]] w (Both w d q F G) := by
  have hDl := h.du.old
  have hQl := h.qu.old
  have HR := Lib.hid h.rng
  have hFG := h.sep
  have hba := below_alloc (Below.refl w.heap.size w) (.cells #[.int .i64 x.kind, .slice Ai ni ci, .int .i64 x.a, .int .i64 x.b] 54)
  have hbk := heap_alloc_new w (.cells #[.int .i64 x.kind, .slice Ai ni ci, .int .i64 x.a, .int .i64 x.b] 54)
  have hD0 := h.du.below hba
  have hE0 := h.qu.below hba
  have hgF : ¬ F w.heap.size := fun e => absurd (hDl _ e) (by omega)
  have hgG : ¬ G w.heap.size := fun e => absurd (hQl _ e) (by omega)
  clear h
  unfold Both
  go_enter Try.func26, Try.ntmps26
  go_upto_region 1 with (fail)
  generalize w.alloc (.cells #[.int .i64 x.kind, .slice Ai ni ci, .int .i64 x.a, .int .i64 x.b] 54) = w1 at *
  have hc0 := cell_of_row w1 _ 0 _ _ _ hbk
  have hc2 := cell_of_row w1 _ 2 _ _ _ hbk
  have hc3 := cell_of_row w1 _ 3 _ _ _ hbk
  simp only [List.getElem?_toArray, List.getElem?_cons_zero, List.getElem?_cons_succ] at hc0 hc2 hc3
  generalize w.heap.size = gb at hc0 hc2 hc3 hgF hgG ⊢
  have hDr : Du w1.drew d F D := hD0.drewN 1
  have hEr : Qu w1.drew q G D := hE0.drewN 1
  clear hDr hEr
  go_wp2_with fail
  refine (done_p hD0).mono ?_
  rintro e w3 ⟨rfl, rfl⟩
  obtain ⟨sv, hsv⟩ : ∃ sv : Bool, (D.shut && decide (D.held.length = 0)) = sv := ⟨_, rfl⟩
  rw [hsv]
  go_wp2_with fail
  refine (qdone_p hE0).mono ?_
  rintro e w4 ⟨rfl, rfl⟩
  rw [hsv]
  have hTw : Tw w4 d q F G D := ⟨hD0, hE0, hFG, HR.out⟩
  clear hsv
  cases sv
  all_goals
    go_wp2_with fail
    go_ret
    exact ⟨F, G, _, rfl, hTw, Only.of_below hba _, Onto.refl _ _, Onto.refl _ _⟩
set_option maxHeartbeats 4000000 in
set_option maxRecDepth 100000 in
theorem does_write (h : Tw w d q F G D) (x : Ac) (Ai : Option Addr) (ni ci : Nat) (hk : (wrap64 (x.kind.tmod 8 + 8)).tmod 8 = 0) (hL : ∀ W, Only w W (fun k => F k ∨ G k) → RBc W Ai ni x.parts) :
    Calls Try.prog 26 #[.pointer (some ⟨d, 0, none⟩), .pointer (some ⟨q, 0, none⟩), .agg #[.int .i64 x.kind, .slice Ai ni ci, .int .i64 x.a, .int .i64 x.b]] w (Both w d q F G) := by
  have hDl := h.du.old
  have hQl := h.qu.old
  have HR := Lib.hid h.rng
  have hFG := h.sep
  have hba := below_alloc (Below.refl w.heap.size w) (.cells #[.int .i64 x.kind, .slice Ai ni ci, .int .i64 x.a, .int .i64 x.b] 54)
  have hbk := heap_alloc_new w (.cells #[.int .i64 x.kind, .slice Ai ni ci, .int .i64 x.a, .int .i64 x.b] 54)
  have hD0 := h.du.below hba
  have hE0 := h.qu.below hba
  have hgF : ¬ F w.heap.size := fun e => absurd (hDl _ e) (by omega)
  have hgG : ¬ G w.heap.size := fun e => absurd (hQl _ e) (by omega)
  clear h
  unfold Both
  go_enter Try.func26, Try.ntmps26
  go_upto_region 1 with (fail)
  generalize w.alloc (.cells #[.int .i64 x.kind, .slice Ai ni ci, .int .i64 x.a, .int .i64 x.b] 54) = w1 at *
  have hc0 := cell_of_row w1 _ 0 _ _ _ hbk
  have hc2 := cell_of_row w1 _ 2 _ _ _ hbk
  have hc3 := cell_of_row w1 _ 3 _ _ _ hbk
  simp only [List.getElem?_toArray, List.getElem?_cons_zero, List.getElem?_cons_succ] at hc0 hc2 hc3
  have hgF' := hgF
  have hDr : Du w1.drew d F D := hD0.drewN 1
  have hEr : Qu w1.drew q G D := hE0.drewN 1
  have hc1 := cell_of_row w1 _ 1 _ _ _ hbk
  simp only [List.getElem?_toArray, List.getElem?_cons_zero, List.getElem?_cons_succ] at hc1
  clear hDr hEr
  have HL := Lib.hid hL
  clear hL
  cases hs : D.shut
  · go_wp2_with fail
    refine (write_p hD0 hs Ai ni ci x.parts (fun W ho => HL.out W ((Only.of_below hba (fun k => F k ∨ G k)).then_ ho (fun k hk => .inl (.inl hk))))).mono ?_
    rintro e w3 ⟨F1, m, rfl, HM, hD3, ho3, hn3⟩
    have hE3 := hE0.only ho3 hFG.symm
    have hF1G : Sep F1 G := hFG.onto hn3 hE0.old
    have hc13 := ho3.cell hc1 hgF'
    have ho03 : Only w w3 (fun k => F k ∨ G k) := (Only.of_below hba (fun k => F k ∨ G k)).then_ ho3 (fun k hk => .inl (.inl hk))
    go_wp2_with fail
    refine (qwrite_p hE3 hs Ai ni ci x.parts (fun W ho => HL.out W (ho03.then_ ho (fun k hk => .inl (.inr hk))))).mono ?_
    rintro e w4 ⟨G1, m', rfl, HM', hE4, ho4, hn4⟩
    obtain rfl : m' = m := HM'.out.trans HM.out.symm
    have hD4 := hD3.only ho4 hF1G
    have hFG1 : Sep F1 G1 := (hF1G.symm.onto hn4 hD3.old).symm
    have how : Only w w4 (fun k => F k ∨ G k) := ho03.then_ ho4 (fun k hk => .inl (.inr hk))
    have hnF : Onto w F F1 := fun k hk => (hn3 k hk).elim .inl (fun e => .inr (Nat.le_trans hba.size e))
    have hnG : Onto w G G1 := fun k hk => (hn4 k hk).elim .inl (fun e => .inr (Nat.le_trans (Nat.le_trans hba.size ho3.size) e))
    have hTw : Tw w4 d q F1 G1 (writeD D D.held.length x.parts.flatten) := ⟨hD4, hE4, hFG1, HR.out⟩
    clear hc13 ho03 hn3 hn4 hD3 hE3 hD4 hE4
    go_wp2_with fail
    go_ret
    exact ⟨F1, G1, _, rfl, hTw, how, hnF, hnG⟩
  · go_wp2_with fail
    refine (wshut_p hD0 hs _).mono ?_
    rintro e w3 ⟨rfl, rfl⟩
    go_wp2_with fail
    refine (qwshut_p hE0 hs _).mono ?_
    rintro e w4 ⟨rfl, rfl⟩
    have hTw : Tw w4 d q F G D := ⟨hD0, hE0, hFG, HR.out⟩
    go_wp2_with fail
    go_ret
    exact ⟨F, G, _, rfl, hTw, Only.of_below hba _, Onto.refl _ _, Onto.refl _ _⟩
/-- What Lose answers, and leaves. -/
def LoseCase (D : Dk) (z m kv ev : Int) (D1 : Dk) : Prop := (¬ (0 ≤ z ∧ z ≤ D.held.length) ∧ kv = 0 ∧ ev = 30 ∧ D1 = D) ∨ ((0 ≤ z ∧ z ≤ D.held.length) ∧ m < 0 ∧ kv = 0 ∧ ev = 1 ∧ D1 = D) ∨ ∃ i k : Nat, z = (i : Int) ∧ i ≤ D.held.length ∧ 0 ≤ m ∧ (k : Int) = min m (D.held.length - i) ∧ kv = (k : Int) ∧ ev = 0 ∧ D1 = loseD D i k
theorem lose_cases (D : Dk) (z m : Int) : ∃ kv ev D1, LoseCase D z m kv ev D1 ∧ D1.co = D.co := by
  by_cases h : 0 ≤ z ∧ z ≤ D.held.length
  · by_cases hm : m < 0
    · exact ⟨_, _, _, .inr (.inl ⟨h, hm, rfl, rfl, rfl⟩), rfl⟩
    · exact ⟨_, _, _, .inr (.inr ⟨z.toNat, (min m (D.held.length - z.toNat)).toNat, by omega, by omega, by omega, by omega, rfl, rfl, rfl⟩), rfl⟩
  · exact ⟨_, _, _, .inl ⟨h, rfl, rfl, rfl⟩, rfl⟩
theorem lose_c (h : Du w d F D) {z m kv ev : Int} {D1 : Dk} (hc : LoseCase D z m kv ev D1) : Calls Try.prog 23 #[.pointer (some ⟨d, 0, none⟩), .int .i64 z, .int .i64 m] w fun e w' => ∃ F1, e = .returned (.tuple #[.int .i64 kv, .int .i64 ev]) ∧ Du w' d F1 D1 ∧ Only w w' F ∧ Onto w F F1 := by
  rcases hc with ⟨hb, rfl, rfl, rfl⟩ | ⟨hb, hm, rfl, rfl, rfl⟩ | ⟨i, k, rfl, hi, hm, hk, rfl, rfl, rfl⟩
  · exact (losebad_p h z m hb).mono fun _ _ ⟨he, hw⟩ => ⟨F, he, hw ▸ h, hw ▸ Only.refl _ _, Onto.refl _ _⟩
  · obtain ⟨i, rfl⟩ : ∃ i : Nat, z = (i : Int) := ⟨z.toNat, by omega⟩
    exact (loseneg_p h i (by omega) m hm).mono fun _ _ ⟨he, hw⟩ => ⟨F, he, hw ▸ h, hw ▸ Only.refl _ _, Onto.refl _ _⟩
  · exact lose_p h i hi m hm k hk
theorem qlose_c (h : Qu w q F D) {z m kv ev : Int} {D1 : Dk} (hc : LoseCase D z m kv ev D1) : Calls Try.prog 38 #[.pointer (some ⟨q, 0, none⟩), .int .i64 z, .int .i64 m] w fun e w' => ∃ F1, e = .returned (.tuple #[.int .i64 kv, .int .i64 ev]) ∧ Qu w' q F1 D1 ∧ Only w w' F ∧ Onto w F F1 := by
  rcases hc with ⟨hb, rfl, rfl, rfl⟩ | ⟨hb, hm, rfl, rfl, rfl⟩ | ⟨i, k, rfl, hi, hm, hk, rfl, rfl, rfl⟩
  · exact (qlosebad_p h z m hb).mono fun _ _ ⟨he, hw⟩ => ⟨F, he, hw ▸ h, hw ▸ Only.refl _ _, Onto.refl _ _⟩
  · obtain ⟨i, rfl⟩ : ∃ i : Nat, z = (i : Int) := ⟨z.toNat, by omega⟩
    exact (qloseneg_p h i (by omega) m hm).mono fun _ _ ⟨he, hw⟩ => ⟨F, he, hw ▸ h, hw ▸ Only.refl _ _, Onto.refl _ _⟩
  · exact qlose_p h i hi m hm k hk
set_option maxHeartbeats 4000000 in
set_option maxRecDepth 100000 in
theorem does_lose (h : Tw w d q F G D) (x : Ac) (Ai : Option Addr) (ni ci : Nat) (hk : (wrap64 (x.kind.tmod 8 + 8)).tmod 8 = 4) :
    Calls Try.prog 26 #[.pointer (some ⟨d, 0, none⟩), .pointer (some ⟨q, 0, none⟩), .agg #[.int .i64 x.kind, .slice Ai ni ci, .int .i64 x.a, .int .i64 x.b]] w (Both w d q F G) := by
  have hDl := h.du.old
  have hQl := h.qu.old
  have HR := Lib.hid h.rng
  have hFG := h.sep
  have hba := below_alloc (Below.refl w.heap.size w) (.cells #[.int .i64 x.kind, .slice Ai ni ci, .int .i64 x.a, .int .i64 x.b] 54)
  have hbk := heap_alloc_new w (.cells #[.int .i64 x.kind, .slice Ai ni ci, .int .i64 x.a, .int .i64 x.b] 54)
  have hD0 := h.du.below hba
  have hE0 := h.qu.below hba
  have hgF : ¬ F w.heap.size := fun e => absurd (hDl _ e) (by omega)
  have hgG : ¬ G w.heap.size := fun e => absurd (hQl _ e) (by omega)
  clear h
  unfold Both
  go_enter Try.func26, Try.ntmps26
  go_upto_region 1 with (fail)
  generalize w.alloc (.cells #[.int .i64 x.kind, .slice Ai ni ci, .int .i64 x.a, .int .i64 x.b] 54) = w1 at *
  have hc0 := cell_of_row w1 _ 0 _ _ _ hbk
  have hc2 := cell_of_row w1 _ 2 _ _ _ hbk
  have hc3 := cell_of_row w1 _ 3 _ _ _ hbk
  simp only [List.getElem?_toArray, List.getElem?_cons_zero, List.getElem?_cons_succ] at hc0 hc2 hc3
  generalize w.heap.size = gb at hc0 hc2 hc3 hgF hgG ⊢
  have hDr : Du w1.drew d F D := hD0.drewN 1
  have hEr : Qu w1.drew q G D := hE0.drewN 1
  clear hDr hEr
  obtain ⟨kv, ev, D1, hcase, hco⟩ := lose_cases D x.a x.b
  have HC := Lib.hid hcase
  clear hcase
  have HR1 : Hid (rng D1) := Lib.hid (by unfold rng; rw [hco]; exact HR.out)
  clear hco
  go_wp2_with fail
  refine (lose_c hD0 HC.out).mono ?_
  rintro e w3 ⟨F1, rfl, hD3, ho3, hn3⟩
  have hE3 := hE0.only ho3 hFG.symm
  have hF1G : Sep F1 G := hFG.onto hn3 hE0.old
  replace hc2 := ho3.cell hc2 hgF
  replace hc3 := ho3.cell hc3 hgF
  go_wp2_with fail
  refine (qlose_c hE3 HC.out).mono ?_
  rintro e w4 ⟨G1, rfl, hE4, ho4, hn4⟩
  have hD4 := hD3.only ho4 hF1G
  have hFG1 : Sep F1 G1 := (hF1G.symm.onto hn4 hD3.old).symm
  have how : Only w w4 (fun k => F k ∨ G k) := ((Only.of_below hba (fun k => F k ∨ G k)).then_ ho3 (fun k hk => .inl (.inl hk))).then_ ho4 (fun k hk => .inl (.inr hk))
  have hnF : Onto w F F1 := fun k hk => (hn3 k hk).elim .inl (fun e => .inr (Nat.le_trans hba.size e))
  have hnG : Onto w G G1 := fun k hk => (hn4 k hk).elim .inl (fun e => .inr (Nat.le_trans (Nat.le_trans hba.size ho3.size) e))
  have hTw : Tw w4 d q F1 G1 D1 := ⟨hD4, hE4, hFG1, HR1.out⟩
  clear hn3 hn4 hD3 hE3 hD4 hE4
  go_wp2_with fail
  go_ret
  exact ⟨F1, G1, _, rfl, hTw, how, hnF, hnG⟩
/-- What Turn answers, and leaves. -/
def TurnCase (D : Dk) (z m ev : Int) (D1 : Dk) : Prop := (¬ (0 ≤ z ∧ z < D.held.length) ∧ ev = 30 ∧ D1 = D) ∨ ∃ i : Nat, z = (i : Int) ∧ i < D.held.length ∧ ev = 0 ∧ D1 = turnD D i m
theorem turn_cases (D : Dk) (z m : Int) : ∃ ev D1, TurnCase D z m ev D1 ∧ D1.co = D.co := by
  by_cases h : 0 ≤ z ∧ z < D.held.length
  · exact ⟨_, _, .inr ⟨z.toNat, by omega, by omega, rfl, rfl⟩, rfl⟩
  · exact ⟨_, _, .inl ⟨h, rfl, rfl⟩, rfl⟩
theorem turn_c (h : Du w d F D) {z m ev : Int} {D1 : Dk} (hc : TurnCase D z m ev D1) (m0 : 0 ≤ m) (m1 : m < 256) : Calls Try.prog 16 #[.pointer (some ⟨d, 0, none⟩), .int .i64 z, .int .u8 m] w fun e w' => e = .returned (.int .i64 ev) ∧ Du w' d F D1 ∧ Only w w' F := by
  rcases hc with ⟨hb, rfl, rfl⟩ | ⟨i, rfl, hi, rfl, rfl⟩
  · exact (turnbad_p h z m hb).mono fun _ _ ⟨he, hw⟩ => ⟨he, hw ▸ h, hw ▸ Only.refl _ _⟩
  · exact turn_p h i hi m m0 m1
theorem qturn_c (h : Qu w q F D) {z m ev : Int} {D1 : Dk} (hc : TurnCase D z m ev D1) (m0 : 0 ≤ m) (m1 : m < 256) : Calls Try.prog 37 #[.pointer (some ⟨q, 0, none⟩), .int .i64 z, .int .u8 m] w fun e w' => e = .returned (.int .i64 ev) ∧ Qu w' q F D1 ∧ Only w w' F := by
  rcases hc with ⟨hb, rfl, rfl⟩ | ⟨i, rfl, hi, rfl, rfl⟩
  · exact (qturnbad_p h z m hb).mono fun _ _ ⟨he, hw⟩ => ⟨he, hw ▸ h, hw ▸ Only.refl _ _⟩
  · exact qturn_p h i hi m m0 m1
set_option maxHeartbeats 4000000 in
set_option maxRecDepth 100000 in
theorem does_turn (h : Tw w d q F G D) (x : Ac) (Ai : Option Addr) (ni ci : Nat) (hk : (wrap64 (x.kind.tmod 8 + 8)).tmod 8 = 3) :
    Calls Try.prog 26 #[.pointer (some ⟨d, 0, none⟩), .pointer (some ⟨q, 0, none⟩), .agg #[.int .i64 x.kind, .slice Ai ni ci, .int .i64 x.a, .int .i64 x.b]] w (Both w d q F G) := by
  have hDl := h.du.old
  have hQl := h.qu.old
  have HR := Lib.hid h.rng
  have hFG := h.sep
  have hba := below_alloc (Below.refl w.heap.size w) (.cells #[.int .i64 x.kind, .slice Ai ni ci, .int .i64 x.a, .int .i64 x.b] 54)
  have hbk := heap_alloc_new w (.cells #[.int .i64 x.kind, .slice Ai ni ci, .int .i64 x.a, .int .i64 x.b] 54)
  have hD0 := h.du.below hba
  have hE0 := h.qu.below hba
  have hgF : ¬ F w.heap.size := fun e => absurd (hDl _ e) (by omega)
  have hgG : ¬ G w.heap.size := fun e => absurd (hQl _ e) (by omega)
  clear h
  unfold Both
  go_enter Try.func26, Try.ntmps26
  go_upto_region 1 with (fail)
  generalize w.alloc (.cells #[.int .i64 x.kind, .slice Ai ni ci, .int .i64 x.a, .int .i64 x.b] 54) = w1 at *
  have hc0 := cell_of_row w1 _ 0 _ _ _ hbk
  have hc2 := cell_of_row w1 _ 2 _ _ _ hbk
  have hc3 := cell_of_row w1 _ 3 _ _ _ hbk
  simp only [List.getElem?_toArray, List.getElem?_cons_zero, List.getElem?_cons_succ] at hc0 hc2 hc3
  generalize w.heap.size = gb at hc0 hc2 hc3 hgF hgG ⊢
  have hDr : Du w1.drew d F D := hD0.drewN 1
  have hEr : Qu w1.drew q G D := hE0.drewN 1
  obtain ⟨ev, D1, hcase, hco⟩ := turn_cases D x.a (x.b % 256)
  have HC := Lib.hid hcase
  clear hcase
  have HR1 : Hid (rng D1) := Lib.hid (by unfold rng; rw [hco]; exact HR.out)
  have hw8 : IntKind.u8.wrap x.b = x.b % 256 := IntKind.wrap_u8' _
  have hm0 : 0 ≤ x.b % 256 := by omega
  have hm1 : x.b % 256 < 256 := by omega
  clear hco
  go_wp2_with fail
  refine wp_region_held_drew (S := fun w' => w'.cell? ⟨gb, 2, none⟩ = some (.int .i64 x.a) ∧ w'.cell? ⟨gb, 3, none⟩ = some (.int .i64 x.b)) (by kernel_rfl) (⟨hc2, hc3⟩) (fun hHeld => ?_)
  refine wpAnyH_take (i := 0) (v := (.pointer (some ⟨d, 0, none⟩))) (oi := ⟨_, _, _, _, _, _⟩) rfl (by kernel_rfl) (by kernel_rfl) (by kernel_rfl) (fun _ _ _ h => h) (Or.inl ⟨by kernel_rfl, fun W hS => ?_⟩) (by assumption) ?_
  · dsimp only at hS; go_split_ands; go_simp
  simp only [Act.put, List.setIfInBounds_toArray, List.set_cons_zero, List.set_cons_succ]
  refine wpAnyH_take (i := 1) (v := (.pointer (some ⟨gb, 2, none⟩))) (oi := ⟨_, _, _, _, _, _⟩) rfl (by kernel_rfl) (by kernel_rfl) (by kernel_rfl) (fun _ _ _ h => h) (Or.inl ⟨by kernel_rfl, fun W hS => ?_⟩) (by assumption) ?_
  · dsimp only at hS; go_split_ands; go_simp
  simp only [Act.put, List.setIfInBounds_toArray, List.set_cons_zero, List.set_cons_succ]
  refine wpAnyH_take (i := 2) (v := (.int .i64 x.a)) (oi := ⟨_, _, _, _, _, _⟩) rfl (by kernel_rfl) (by kernel_rfl) (by kernel_rfl) (fun _ _ _ h => h) (Or.inl ⟨by kernel_rfl, fun W hS => ?_⟩) (by assumption) ?_
  · dsimp only at hS; go_split_ands; go_simp
  simp only [Act.put, List.setIfInBounds_toArray, List.set_cons_zero, List.set_cons_succ]
  refine wpAnyH_take (i := 3) (v := (.pointer (some ⟨gb, 3, none⟩))) (oi := ⟨_, _, _, _, _, _⟩) rfl (by kernel_rfl) (by kernel_rfl) (by kernel_rfl) (fun _ _ _ h => h) (Or.inl ⟨by kernel_rfl, fun W hS => ?_⟩) (by assumption) ?_
  · dsimp only at hS; go_split_ands; go_simp
  simp only [Act.put, List.setIfInBounds_toArray, List.set_cons_zero, List.set_cons_succ]
  refine wpAnyH_take (i := 4) (v := (.int .i64 x.b)) (oi := ⟨_, _, _, _, _, _⟩) rfl (by kernel_rfl) (by kernel_rfl) (by kernel_rfl) (fun _ _ _ h => h) (Or.inl ⟨by kernel_rfl, fun W hS => ?_⟩) (by assumption) ?_
  · dsimp only at hS; go_split_ands; go_simp
  simp only [Act.put, List.setIfInBounds_toArray, List.set_cons_zero, List.set_cons_succ]
  refine wpAnyH_take (i := 5) (v := (.int .u8 (x.b % 256))) (oi := ⟨_, _, _, _, _, _⟩) rfl (by kernel_rfl) (by kernel_rfl) (by kernel_rfl) (fun _ _ _ h => h) (Or.inl ⟨by kernel_rfl, fun W hS => ?_⟩) (by assumption) ?_
  · dsimp only at hS; go_split_ands; go_simp
  simp only [Act.put, List.setIfInBounds_toArray, List.set_cons_zero, List.set_cons_succ]
  refine wpAnyH_take (i := 7) (v := (.pointer (some ⟨q, 0, none⟩))) (oi := ⟨_, _, _, _, _, _⟩) rfl (by kernel_rfl) (by kernel_rfl) (by kernel_rfl) (fun _ _ _ h => h) (Or.inl ⟨by kernel_rfl, fun W hS => ?_⟩) (by assumption) ?_
  · dsimp only at hS; go_split_ands; go_simp
  simp only [Act.put, List.setIfInBounds_toArray, List.set_cons_zero, List.set_cons_succ]
  refine wpAnyH_take (i := 8) (v := (.pointer (some ⟨gb, 2, none⟩))) (oi := ⟨_, _, _, _, _, _⟩) rfl (by kernel_rfl) (by kernel_rfl) (by kernel_rfl) (fun _ _ _ h => h) (Or.inl ⟨by kernel_rfl, fun W hS => ?_⟩) (by assumption) ?_
  · dsimp only at hS; go_split_ands; go_simp
  simp only [Act.put, List.setIfInBounds_toArray, List.set_cons_zero, List.set_cons_succ]
  refine wpAnyH_take (i := 9) (v := (.int .i64 x.a)) (oi := ⟨_, _, _, _, _, _⟩) rfl (by kernel_rfl) (by kernel_rfl) (by kernel_rfl) (fun _ _ _ h => h) (Or.inl ⟨by kernel_rfl, fun W hS => ?_⟩) (by assumption) ?_
  · dsimp only at hS; go_split_ands; go_simp
  simp only [Act.put, List.setIfInBounds_toArray, List.set_cons_zero, List.set_cons_succ]
  refine wpAnyH_take (i := 10) (v := (.pointer (some ⟨gb, 3, none⟩))) (oi := ⟨_, _, _, _, _, _⟩) rfl (by kernel_rfl) (by kernel_rfl) (by kernel_rfl) (fun _ _ _ h => h) (Or.inl ⟨by kernel_rfl, fun W hS => ?_⟩) (by assumption) ?_
  · dsimp only at hS; go_split_ands; go_simp
  simp only [Act.put, List.setIfInBounds_toArray, List.set_cons_zero, List.set_cons_succ]
  refine wpAnyH_take (i := 11) (v := (.int .i64 x.b)) (oi := ⟨_, _, _, _, _, _⟩) rfl (by kernel_rfl) (by kernel_rfl) (by kernel_rfl) (fun _ _ _ h => h) (Or.inl ⟨by kernel_rfl, fun W hS => ?_⟩) (by assumption) ?_
  · dsimp only at hS; go_split_ands; go_simp
  simp only [Act.put, List.setIfInBounds_toArray, List.set_cons_zero, List.set_cons_succ]
  refine wpAnyH_take (i := 12) (v := (.int .u8 (x.b % 256))) (oi := ⟨_, _, _, _, _, _⟩) rfl (by kernel_rfl) (by kernel_rfl) (by kernel_rfl) (fun _ _ _ h => h) (Or.inl ⟨by kernel_rfl, fun W hS => ?_⟩) (by assumption) ?_
  · dsimp only at hS; go_split_ands; go_simp
  simp only [Act.put, List.setIfInBounds_toArray, List.set_cons_zero, List.set_cons_succ]
  refine wpAnyH_ready (rs := [6]) (by kernel_rfl) (by decide) (AllReadyH.cons (o := ⟨_, _, _, _, _, _⟩) rfl (fun K hK => ?_) AllReadyH.nil)
  rw [if_pos (by kernel_rfl)]
  go_simp
  refine (turn_c hDr HC.out hm0 hm1).mono ?_
  rintro e w3 ⟨rfl, hD3, ho3⟩
  have hE3 := hEr.only ho3 hFG.symm
  go_wp2_with fail
  refine hK.out _ _ (⟨ho3.cell hHeld.1 hgF, ho3.cell hHeld.2 hgF⟩) (fun hHeld => ?_)
  clear hK K
  try simp only [Act.put, List.setIfInBounds_toArray, List.set_cons_zero, List.set_cons_succ]
  refine wpAnyH_ready (rs := [13]) (by kernel_rfl) (by decide) (AllReadyH.cons (o := ⟨_, _, _, _, _, _⟩) rfl (fun K hK => ?_) AllReadyH.nil)
  rw [if_pos (by kernel_rfl)]
  go_simp
  refine (qturn_c hE3 HC.out hm0 hm1).mono ?_
  rintro e w4 ⟨rfl, hE4, ho4⟩
  have hD4 := hD3.only ho4 hFG
  go_wp2_with fail
  refine hK.out _ _ (⟨ho4.cell hHeld.1 hgG, ho4.cell hHeld.2 hgG⟩) (fun hHeld => ?_)
  clear hK K
  try simp only [Act.put, List.setIfInBounds_toArray, List.set_cons_zero, List.set_cons_succ]
  refine wpAnyH_take (i := 14) (v := (.bool true)) (oi := ⟨_, _, _, _, _, _⟩) rfl (by kernel_rfl) (by kernel_rfl) (by kernel_rfl) (fun _ _ _ h => h) (Or.inl ⟨by kernel_rfl, fun W hS => ?_⟩) (by assumption) ?_
  · dsimp only at hS; go_split_ands; go_simp
  simp only [Act.put, List.setIfInBounds_toArray, List.set_cons_zero, List.set_cons_succ]
  refine wpAnyH_take (i := 15) (v := (.bool true)) (oi := ⟨_, _, _, _, _, _⟩) rfl (by kernel_rfl) (by kernel_rfl) (by kernel_rfl) (fun _ _ _ h => h) (Or.inl ⟨by kernel_rfl, fun W hS => ?_⟩) (by assumption) ?_
  · dsimp only at hS; go_split_ands; go_simp
  simp only [Act.put, List.setIfInBounds_toArray, List.set_cons_zero, List.set_cons_succ]
  refine wpAnyH_done (by kernel_rfl) ?_ _
  have how : Only w w4 (fun k => F k ∨ G k) := (((Only.of_below hba (fun k => F k ∨ G k)).drew).then_ ho3 (fun k hk => .inl (.inl hk))).then_ ho4 (fun k hk => .inl (.inr hk))
  have hTw : Tw w4 d q F G D1 := ⟨hD4, hE4, hFG, HR1.out⟩
  go_wp2_with fail
  go_ret
  exact ⟨F, G, _, rfl, hTw, how, Onto.refl _ _, Onto.refl _ _⟩
end
end Go.Proofs.Ytodhcgidmdeifaa
