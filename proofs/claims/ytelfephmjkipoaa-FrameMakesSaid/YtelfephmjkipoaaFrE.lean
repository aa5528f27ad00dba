/- The walk of FrameMakes. -/
import Derived.Test.YtelfephmjkipoaaFrC
import Derived.Test.YtelfephmjkipoaaFrD
namespace Go.Proofs.Ytelfephmjkipoaa
open Go.RowKit Go.Kit Go.Proofs.YtelfephmjkipoaaW.PrintWords
section
variable {W : World} {g : Nat} {f : Fr}
theorem ld_id (h : f.at_ 29 W g) : (Instr.loadAt 22 (.pointer (some ⟨g, 1, none⟩))).run Try.prog W = .ok (.int .u64 f.id) W := by
  have := h.c1
  simp [Instr.loadAt, Instr.sureAddr, loadVar, this, go_sem]
theorem ld_s (h : f.at_ 29 W g) : (Instr.loadAt 3 (.pointer (some ⟨g, 3, none⟩))).run Try.prog W = .ok (.int .i64 f.s) W := by
  have := h.c3
  simp [Instr.loadAt, Instr.sureAddr, loadVar, this, go_sem]
theorem ld_st (h : f.at_ 29 W g) : (Instr.loadAt 3 (.pointer (some ⟨g, 36, none⟩))).run Try.prog W = .ok (.int .i64 f.st) W := by
  have := h.c36
  simp [Instr.loadAt, Instr.sureAddr, loadVar, this, go_sem]
theorem ld_args (h : f.at_ 29 W g) : (Instr.loadAt 27 (.pointer (some ⟨g, 40, none⟩))).run Try.prog W = .ok (.slice f.A f.n f.c) W := by
  have := h.c40
  simp [Instr.loadAt, Instr.sureAddr, loadVar, this, go_sem]
theorem ld_body (h : f.at_ 29 W g) : (Instr.loadAt 9 (.pointer (some ⟨g, 41, none⟩))).run Try.prog W = .ok (.string f.body) W := by
  have := h.c41
  simp [Instr.loadAt, Instr.sureAddr, loadVar, this, go_sem]
theorem ld_tool (h : f.at_ 29 W g) : (Instr.loadAt 24 (.pointer (some ⟨g, 4, none⟩))).run Try.prog W = .ok (.agg (nums .u8 f.tool).toArray) W :=
  run_loadAt_mid W g 4 24 (nums .u8 f.tool) _ h.r4 Try.underlying24 rfl (by rw [nums_length, h.tool]; kernel_rfl)
theorem ld_lim (h : f.at_ 29 W g) : (Instr.loadAt 26 (.pointer (some ⟨g, 37, none⟩))).run Try.prog W = .ok (.agg #[.int .i64 f.mo, .int .i64 f.fu, .int .i64 f.di]) W :=
  run_loadAt_mid W g 37 26 f.lim _ h.r37 Try.underlying26 rfl (by show _ = some 3; kernel_rfl)
end
theorem keepM {f : Fr} {w W W1 : World} {ga : Nat} {t : TypeId} (hF : f.at_ t W ga) (hb : Below w.heap.size w W) (hk : Below W.heap.size W W1) :
    Below w.heap.size w W1 ∧ f.at_ t W1 ga := ⟨below_step hb hk, hF.below hk⟩
theorem rSame_own (f : Fr) (ht : f.tool.length = 32) (FA : Array Value) (hF : f.arr = FA) (hn : f.A = none) (h0 : f.n = 0) (ha : f.args = []) (w : World) :
    Calls Try.prog 13 #[.agg FA, .agg FA] w fun e w' => e = .returned (.bool true) ∧ Below w.heap.size w w' := by
  subst hF
  have : f.ok w := ⟨ht, by rw [hn, h0, ha]; exact RT.nil w⟩
  exact rSame_is f f true (same_self f) w this this
attribute [-go_sem] Instr.build
attribute [-go_sem] Instr.loadAt
set_option maxHeartbeats 8000000 in
set_option maxRecDepth 100000 in
theorem FrameMakes_walk (f : Fr) (w : World) (hf : f.ok w) (hn : f.n * 16 ≤ 140737488351232) :
    Calls Try.prog 4 #[f.val] w fun e w' => e = .returned (.bool true) ∧ Below w.heap.size w w' := by
  have cH := Hello_any f.s f.tool hf.tool
  have cR := fun W h => Request_any f.id f.mo f.fu f.di f.A f.n f.c f.args f.body W h hn
  have cP := Response_any f.id f.st f.body
  have cC := Cancel_any f.id
  have cB := Bye_any
  have cN := Note_any f.body
  have bH := hello_built f.s f.tool hf.tool
  have bR := fun A c => req_built f.id f.mo f.fu f.di A f.n c f.args f.body
  have bP := resp_built f.id f.st f.body
  have bC := cancel_built f.id
  have bB := bye_built
  have bN := note_built f.body
  have sH := rSame_own (helloF f.s f.tool) hf.tool _ rfl rfl rfl rfl
  have sP := rSame_own (respF f.id f.st f.body) rfl _ rfl rfl rfl rfl
  have sC := rSame_own (cancelF f.id) rfl _ rfl rfl rfl rfl
  have sB := rSame_own byeF rfl _ rfl rfl rfl rfl
  have sN := rSame_own (noteF f.body) rfl _ rfl rfl rfl rfl
  have sR : ∀ (W : World) (A1 : Option Addr) (c1 : Nat), RT W A1 f.n f.args → RT W f.A f.n f.args → Calls Try.prog 13 #[(reqF f.id f.mo f.fu f.di A1 f.n c1 f.args f.body).val, (reqF f.id f.mo f.fu f.di f.A f.n f.c f.args f.body).val] W fun e w' => e = .returned (.bool true) ∧ Below W.heap.size W w' := fun W A1 c1 h1 h2 =>
    rSame_is _ _ true (by simp [Fr.same, reqF, sameT_self]) W ⟨rfl, h1⟩ ⟨rfl, h2⟩
  unfold Fr.val at cH cR cP cC cB cN sR ⊢
  obtain ⟨RQ, hRQ⟩ : ∃ RQ : Option Addr → Nat → Array Value, ∀ A c, (reqF f.id f.mo f.fu f.di A f.n c f.args f.body).arr = RQ A c := ⟨_, fun _ _ => rfl⟩
  simp only [hRQ] at cR bR sR
  clear hRQ hn
  generalize (helloF f.s f.tool).arr = H1 at *
  generalize (respF f.id f.st f.body).arr = P1 at *
  generalize (cancelF f.id).arr = C1 at *
  generalize byeF.arr = B1 at *
  generalize (noteF f.body).arr = N1 at *
  go_enter Try.func4, Try.ntmps4
  have hF : f.at_ 29 (w.alloc (.cells f.arr 29)) w.heap.size := ⟨heap_alloc_new w _, hf.tool⟩
  have hb := below_alloc (Below.refl _ w) (.cells f.arr 29)
  go_upto_region 1 with (fail)
  generalize w.alloc (.cells f.arr 29) = w1 at *
  generalize f.arr = FA at *
  have l1 : ∀ W, f.at_ 29 W w.heap.size → (Instr.loadAt 22 (.pointer (some ⟨w.heap.size, 1, none⟩))).run Try.prog W = .ok (.int .u64 f.id) W := fun W h => ld_id h
  have l2 : ∀ W, f.at_ 29 W w.heap.size → (Instr.loadAt 3 (.pointer (some ⟨w.heap.size, 3, none⟩))).run Try.prog W = .ok (.int .i64 f.s) W := fun W h => ld_s h
  have l3 : ∀ W, f.at_ 29 W w.heap.size → (Instr.loadAt 24 (.pointer (some ⟨w.heap.size, 4, none⟩))).run Try.prog W = .ok (.agg (nums .u8 f.tool).toArray) W := fun W h => ld_tool h
  have l4 : ∀ W, f.at_ 29 W w.heap.size → (Instr.loadAt 3 (.pointer (some ⟨w.heap.size, 36, none⟩))).run Try.prog W = .ok (.int .i64 f.st) W := fun W h => ld_st h
  have l5 : ∀ W, f.at_ 29 W w.heap.size → (Instr.loadAt 26 (.pointer (some ⟨w.heap.size, 37, none⟩))).run Try.prog W = .ok (.agg #[.int .i64 f.mo, .int .i64 f.fu, .int .i64 f.di]) W := fun W h => ld_lim h
  have l6 : ∀ W, f.at_ 29 W w.heap.size → (Instr.loadAt 27 (.pointer (some ⟨w.heap.size, 40, none⟩))).run Try.prog W = .ok (.slice f.A f.n f.c) W := fun W h => ld_args h
  have l7 : ∀ W, f.at_ 29 W w.heap.size → (Instr.loadAt 9 (.pointer (some ⟨w.heap.size, 41, none⟩))).run Try.prog W = .ok (.string f.body) W := fun W h => ld_body h
  have hkeep : ∀ W1 W2 : World, f.at_ 29 W1 w.heap.size → Below w.heap.size w W1 → Below W1.heap.size W1 W2 → Below w.heap.size w W2 ∧ f.at_ 29 W2 w.heap.size := fun W1 W2 h1 h2 h3 => keepM h1 h2 h3
  generalize (nums .u8 f.tool).toArray = TA at *
  refine wp_region_held_drew (S := fun w' => Below w.heap.size w w' ∧ f.at_ 29 w' w.heap.size) (by kernel_rfl) (hkeep _ _ hF hb (below_drew (Below.refl _ _))) (fun hHeld => ?_)
  refine wpAnyH_take (i := 0) (v := (.pointer (some ⟨w.heap.size, 3, none⟩))) (oi := ⟨_, _, _, _, _, _⟩) rfl (by kernel_rfl) (by kernel_rfl) (by kernel_rfl) (fun _ _ _ h => h) (Or.inl ⟨by kernel_rfl, fun W hS => ?_⟩) (by assumption) ?_
  · dsimp only at hS; go_split_ands; go_simp
  simp only [Act.put, List.setIfInBounds_toArray, List.set_cons_zero, List.set_cons_succ]
  refine wpAnyH_take (i := 1) (v := (.int .i64 f.s)) (oi := ⟨_, _, _, _, _, _⟩) rfl (by kernel_rfl) (by kernel_rfl) (by kernel_rfl) (fun _ _ _ h => h) (Or.inl ⟨by kernel_rfl, fun W hS => ?_⟩) (by assumption) ?_
  · dsimp only at hS; go_split_ands; go_simp
  simp only [Act.put, List.setIfInBounds_toArray, List.set_cons_zero, List.set_cons_succ]
  refine wpAnyH_take (i := 2) (v := (.pointer (some ⟨w.heap.size, 4, none⟩))) (oi := ⟨_, _, _, _, _, _⟩) rfl (by kernel_rfl) (by kernel_rfl) (by kernel_rfl) (fun _ _ _ h => h) (Or.inl ⟨by kernel_rfl, fun W hS => ?_⟩) (by assumption) ?_
  · dsimp only at hS; go_split_ands; go_simp
  simp only [Act.put, List.setIfInBounds_toArray, List.set_cons_zero, List.set_cons_succ]
  refine wpAnyH_take (i := 3) (v := (.agg TA)) (oi := ⟨_, _, _, _, _, _⟩) rfl (by kernel_rfl) (by kernel_rfl) (by kernel_rfl) (fun _ _ _ h => h) (Or.inl ⟨by kernel_rfl, fun W hS => ?_⟩) (by assumption) ?_
  · dsimp only at hS; go_split_ands; go_simp
  simp only [Act.put, List.setIfInBounds_toArray, List.set_cons_zero, List.set_cons_succ]
  refine wpAnyH_take (i := 5) (v := (.pointer (some ⟨w.heap.size, 3, none⟩))) (oi := ⟨_, _, _, _, _, _⟩) rfl (by kernel_rfl) (by kernel_rfl) (by kernel_rfl) (fun _ _ _ h => h) (Or.inl ⟨by kernel_rfl, fun W hS => ?_⟩) (by assumption) ?_
  · dsimp only at hS; go_split_ands; go_simp
  simp only [Act.put, List.setIfInBounds_toArray, List.set_cons_zero, List.set_cons_succ]
  refine wpAnyH_take (i := 6) (v := (.int .i64 f.s)) (oi := ⟨_, _, _, _, _, _⟩) rfl (by kernel_rfl) (by kernel_rfl) (by kernel_rfl) (fun _ _ _ h => h) (Or.inl ⟨by kernel_rfl, fun W hS => ?_⟩) (by assumption) ?_
  · dsimp only at hS; go_split_ands; go_simp
  simp only [Act.put, List.setIfInBounds_toArray, List.set_cons_zero, List.set_cons_succ]
  refine wpAnyH_take (i := 7) (v := (.pointer (some ⟨w.heap.size, 4, none⟩))) (oi := ⟨_, _, _, _, _, _⟩) rfl (by kernel_rfl) (by kernel_rfl) (by kernel_rfl) (fun _ _ _ h => h) (Or.inl ⟨by kernel_rfl, fun W hS => ?_⟩) (by assumption) ?_
  · dsimp only at hS; go_split_ands; go_simp
  simp only [Act.put, List.setIfInBounds_toArray, List.set_cons_zero, List.set_cons_succ]
  refine wpAnyH_take (i := 8) (v := (.agg TA)) (oi := ⟨_, _, _, _, _, _⟩) rfl (by kernel_rfl) (by kernel_rfl) (by kernel_rfl) (fun _ _ _ h => h) (Or.inl ⟨by kernel_rfl, fun W hS => ?_⟩) (by assumption) ?_
  · dsimp only at hS; go_split_ands; go_simp
  simp only [Act.put, List.setIfInBounds_toArray, List.set_cons_zero, List.set_cons_succ]
  refine wpAnyH_take (i := 9) (v := (.agg H1)) (oi := ⟨_, _, _, _, _, _⟩) rfl (by kernel_rfl) (by kernel_rfl) (by kernel_rfl) (fun _ _ _ h => h) (Or.inl ⟨by kernel_rfl, fun W hS => ?_⟩) (by assumption) ?_
  · dsimp only at hS; go_split_ands; go_simp
  simp only [Act.put, List.setIfInBounds_toArray, List.set_cons_zero, List.set_cons_succ]
  refine wpAnyH_ready (rs := [4]) (by kernel_rfl) (by decide) (AllReadyH.cons rfl (fun K hK => ?_) AllReadyH.nil)
  rw [if_pos (by kernel_rfl)]
  go_simp
  refine (cH _).mono ?_
  rintro e w3 ⟨rfl, hb3⟩
  go_wp2_with fail
  refine hK.out _ _ (hkeep _ _ hHeld.2 hHeld.1 hb3) (fun hHeld => ?_)
  clear hK K
  try simp only [Act.put, List.setIfInBounds_toArray, List.set_cons_zero, List.set_cons_succ]
  refine wpAnyH_ready (rs := [10]) (by kernel_rfl) (by decide) (AllReadyH.cons rfl (fun K hK => ?_) AllReadyH.nil)
  rw [if_pos (by kernel_rfl)]
  go_simp
  refine (sH _).mono ?_
  rintro e w3 ⟨rfl, hb3⟩
  go_wp2_with fail
  refine hK.out _ _ (hkeep _ _ hHeld.2 hHeld.1 hb3) (fun hHeld => ?_)
  clear hK K
  try simp only [Act.put, List.setIfInBounds_toArray, List.set_cons_zero, List.set_cons_succ]
  refine wpAnyH_take (i := 11) (v := (.bool true)) (oi := ⟨_, _, _, _, _, _⟩) rfl (by kernel_rfl) (by kernel_rfl) (by kernel_rfl) (fun _ _ _ h => h) (Or.inl ⟨by kernel_rfl, fun W hS => ?_⟩) (by assumption) ?_
  · dsimp only at hS; go_split_ands; go_simp
  simp only [Act.put, List.setIfInBounds_toArray, List.set_cons_zero, List.set_cons_succ]
  refine wpAnyH_done (by kernel_rfl) ?_ _
  replace hb := hHeld.1
  replace hF := hHeld.2
  clear hHeld
  go_upto_region 2 with (fail)
  refine wp_region_held_drew (S := fun w' => Below w.heap.size w w' ∧ f.at_ 29 w' w.heap.size) (by kernel_rfl) (hkeep _ _ hF hb (below_drew (Below.refl _ _))) (fun hHeld => ?_)
  refine wpAnyH_take (i := 0) (v := (.bool true)) (oi := ⟨_, _, _, _, _, _⟩) rfl (by kernel_rfl) (by kernel_rfl) (by kernel_rfl) (fun _ _ _ h => h) (Or.inl ⟨by kernel_rfl, fun W hS => ?_⟩) (by assumption) ?_
  · dsimp only at hS; go_split_ands; go_simp
  simp only [Act.put, List.setIfInBounds_toArray, List.set_cons_zero, List.set_cons_succ]
  refine wpAnyH_take (i := 1) (v := (.bool true)) (oi := ⟨_, _, _, _, _, _⟩) rfl (by kernel_rfl) (by kernel_rfl) (by kernel_rfl) (fun _ _ _ h => h) (Or.inl ⟨by kernel_rfl, fun W hS => ?_⟩) (by assumption) ?_
  · dsimp only at hS; go_split_ands; go_simp
  simp only [Act.put, List.setIfInBounds_toArray, List.set_cons_zero, List.set_cons_succ]
  refine wpAnyH_take (i := 2) (v := (.pointer (some ⟨w.heap.size, 1, none⟩))) (oi := ⟨_, _, _, _, _, _⟩) rfl (by kernel_rfl) (by kernel_rfl) (by kernel_rfl) (fun _ _ _ h => h) (Or.inl ⟨by kernel_rfl, fun W hS => ?_⟩) (by assumption) ?_
  · dsimp only at hS; go_split_ands; go_simp
  simp only [Act.put, List.setIfInBounds_toArray, List.set_cons_zero, List.set_cons_succ]
  refine wpAnyH_take (i := 3) (v := (.int .u64 f.id)) (oi := ⟨_, _, _, _, _, _⟩) rfl (by kernel_rfl) (by kernel_rfl) (by kernel_rfl) (fun _ _ _ h => h) (Or.inl ⟨by kernel_rfl, fun W hS => ?_⟩) (by assumption) ?_
  · dsimp only at hS; go_split_ands; go_simp
  simp only [Act.put, List.setIfInBounds_toArray, List.set_cons_zero, List.set_cons_succ]
  refine wpAnyH_take (i := 4) (v := (.pointer (some ⟨w.heap.size, 37, none⟩))) (oi := ⟨_, _, _, _, _, _⟩) rfl (by kernel_rfl) (by kernel_rfl) (by kernel_rfl) (fun _ _ _ h => h) (Or.inl ⟨by kernel_rfl, fun W hS => ?_⟩) (by assumption) ?_
  · dsimp only at hS; go_split_ands; go_simp
  simp only [Act.put, List.setIfInBounds_toArray, List.set_cons_zero, List.set_cons_succ]
  refine wpAnyH_take (i := 5) (v := (.agg #[.int .i64 f.mo, .int .i64 f.fu, .int .i64 f.di])) (oi := ⟨_, _, _, _, _, _⟩) rfl (by kernel_rfl) (by kernel_rfl) (by kernel_rfl) (fun _ _ _ h => h) (Or.inl ⟨by kernel_rfl, fun W hS => ?_⟩) (by assumption) ?_
  · dsimp only at hS; go_split_ands; go_simp
  simp only [Act.put, List.setIfInBounds_toArray, List.set_cons_zero, List.set_cons_succ]
  refine wpAnyH_take (i := 6) (v := (.pointer (some ⟨w.heap.size, 41, none⟩))) (oi := ⟨_, _, _, _, _, _⟩) rfl (by kernel_rfl) (by kernel_rfl) (by kernel_rfl) (fun _ _ _ h => h) (Or.inl ⟨by kernel_rfl, fun W hS => ?_⟩) (by assumption) ?_
  · dsimp only at hS; go_split_ands; go_simp
  simp only [Act.put, List.setIfInBounds_toArray, List.set_cons_zero, List.set_cons_succ]
  refine wpAnyH_take (i := 7) (v := (.string f.body)) (oi := ⟨_, _, _, _, _, _⟩) rfl (by kernel_rfl) (by kernel_rfl) (by kernel_rfl) (fun _ _ _ h => h) (Or.inl ⟨by kernel_rfl, fun W hS => ?_⟩) (by assumption) ?_
  · dsimp only at hS; go_split_ands; go_simp
  simp only [Act.put, List.setIfInBounds_toArray, List.set_cons_zero, List.set_cons_succ]
  refine wpAnyH_take (i := 8) (v := (.pointer (some ⟨w.heap.size, 40, none⟩))) (oi := ⟨_, _, _, _, _, _⟩) rfl (by kernel_rfl) (by kernel_rfl) (by kernel_rfl) (fun _ _ _ h => h) (Or.inl ⟨by kernel_rfl, fun W hS => ?_⟩) (by assumption) ?_
  · dsimp only at hS; go_split_ands; go_simp
  simp only [Act.put, List.setIfInBounds_toArray, List.set_cons_zero, List.set_cons_succ]
  refine wpAnyH_take (i := 9) (v := (.slice f.A f.n f.c)) (oi := ⟨_, _, _, _, _, _⟩) rfl (by kernel_rfl) (by kernel_rfl) (by kernel_rfl) (fun _ _ _ h => h) (Or.inl ⟨by kernel_rfl, fun W hS => ?_⟩) (by assumption) ?_
  · dsimp only at hS; go_split_ands; go_simp
  simp only [Act.put, List.setIfInBounds_toArray, List.set_cons_zero, List.set_cons_succ]
  refine wpAnyH_take (i := 11) (v := (.pointer (some ⟨w.heap.size, 1, none⟩))) (oi := ⟨_, _, _, _, _, _⟩) rfl (by kernel_rfl) (by kernel_rfl) (by kernel_rfl) (fun _ _ _ h => h) (Or.inl ⟨by kernel_rfl, fun W hS => ?_⟩) (by assumption) ?_
  · dsimp only at hS; go_split_ands; go_simp
  simp only [Act.put, List.setIfInBounds_toArray, List.set_cons_zero, List.set_cons_succ]
  refine wpAnyH_take (i := 12) (v := (.int .u64 f.id)) (oi := ⟨_, _, _, _, _, _⟩) rfl (by kernel_rfl) (by kernel_rfl) (by kernel_rfl) (fun _ _ _ h => h) (Or.inl ⟨by kernel_rfl, fun W hS => ?_⟩) (by assumption) ?_
  · dsimp only at hS; go_split_ands; go_simp
  simp only [Act.put, List.setIfInBounds_toArray, List.set_cons_zero, List.set_cons_succ]
  refine wpAnyH_take (i := 13) (v := (.pointer (some ⟨w.heap.size, 37, none⟩))) (oi := ⟨_, _, _, _, _, _⟩) rfl (by kernel_rfl) (by kernel_rfl) (by kernel_rfl) (fun _ _ _ h => h) (Or.inl ⟨by kernel_rfl, fun W hS => ?_⟩) (by assumption) ?_
  · dsimp only at hS; go_split_ands; go_simp
  simp only [Act.put, List.setIfInBounds_toArray, List.set_cons_zero, List.set_cons_succ]
  refine wpAnyH_take (i := 14) (v := (.agg #[.int .i64 f.mo, .int .i64 f.fu, .int .i64 f.di])) (oi := ⟨_, _, _, _, _, _⟩) rfl (by kernel_rfl) (by kernel_rfl) (by kernel_rfl) (fun _ _ _ h => h) (Or.inl ⟨by kernel_rfl, fun W hS => ?_⟩) (by assumption) ?_
  · dsimp only at hS; go_split_ands; go_simp
  simp only [Act.put, List.setIfInBounds_toArray, List.set_cons_zero, List.set_cons_succ]
  refine wpAnyH_take (i := 15) (v := (.pointer (some ⟨w.heap.size, 40, none⟩))) (oi := ⟨_, _, _, _, _, _⟩) rfl (by kernel_rfl) (by kernel_rfl) (by kernel_rfl) (fun _ _ _ h => h) (Or.inl ⟨by kernel_rfl, fun W hS => ?_⟩) (by assumption) ?_
  · dsimp only at hS; go_split_ands; go_simp
  simp only [Act.put, List.setIfInBounds_toArray, List.set_cons_zero, List.set_cons_succ]
  refine wpAnyH_take (i := 16) (v := (.slice f.A f.n f.c)) (oi := ⟨_, _, _, _, _, _⟩) rfl (by kernel_rfl) (by kernel_rfl) (by kernel_rfl) (fun _ _ _ h => h) (Or.inl ⟨by kernel_rfl, fun W hS => ?_⟩) (by assumption) ?_
  · dsimp only at hS; go_split_ands; go_simp
  simp only [Act.put, List.setIfInBounds_toArray, List.set_cons_zero, List.set_cons_succ]
  refine wpAnyH_take (i := 17) (v := (.pointer (some ⟨w.heap.size, 41, none⟩))) (oi := ⟨_, _, _, _, _, _⟩) rfl (by kernel_rfl) (by kernel_rfl) (by kernel_rfl) (fun _ _ _ h => h) (Or.inl ⟨by kernel_rfl, fun W hS => ?_⟩) (by assumption) ?_
  · dsimp only at hS; go_split_ands; go_simp
  simp only [Act.put, List.setIfInBounds_toArray, List.set_cons_zero, List.set_cons_succ]
  refine wpAnyH_take (i := 18) (v := (.string f.body)) (oi := ⟨_, _, _, _, _, _⟩) rfl (by kernel_rfl) (by kernel_rfl) (by kernel_rfl) (fun _ _ _ h => h) (Or.inl ⟨by kernel_rfl, fun W hS => ?_⟩) (by assumption) ?_
  · dsimp only at hS; go_split_ands; go_simp
  simp only [Act.put, List.setIfInBounds_toArray, List.set_cons_zero, List.set_cons_succ]
  refine wpAnyH_take (i := 19) (v := (.agg (RQ f.A f.c))) (oi := ⟨_, _, _, _, _, _⟩) rfl (by kernel_rfl) (by kernel_rfl) (by kernel_rfl) (fun _ _ _ h => h) (Or.inl ⟨by kernel_rfl, fun W hS => ?_⟩) (by assumption) ?_
  · dsimp only at hS; go_split_ands; go_simp
  simp only [Act.put, List.setIfInBounds_toArray, List.set_cons_zero, List.set_cons_succ]
  refine wpAnyH_ready (rs := [10]) (by kernel_rfl) (by decide) (AllReadyH.cons rfl (fun K hK => ?_) AllReadyH.nil)
  rw [if_pos (by kernel_rfl)]
  go_simp
  refine (cR _ (hf.args.below hHeld.1)).mono ?_
  rintro e w3 ⟨A3, c3, rfl, _, hR3, hb3⟩
  go_wp2_with fail
  refine hK.out _ _ (hkeep _ _ hHeld.2 hHeld.1 hb3) (fun hHeld => ?_)
  clear hK K
  try simp only [Act.put, List.setIfInBounds_toArray, List.set_cons_zero, List.set_cons_succ]
  refine wpAnyH_ready (rs := [20]) (by kernel_rfl) (by decide) (AllReadyH.cons rfl (fun K hK => ?_) AllReadyH.nil)
  rw [if_pos (by kernel_rfl)]
  go_simp
  refine (sR _ A3 c3 hR3 (hf.args.below hHeld.1)).mono ?_
  rintro e w3 ⟨rfl, hb3⟩
  go_wp2_with fail
  refine hK.out _ _ (hkeep _ _ hHeld.2 hHeld.1 hb3) (fun hHeld => ?_)
  clear hK K
  try simp only [Act.put, List.setIfInBounds_toArray, List.set_cons_zero, List.set_cons_succ]
  refine wpAnyH_take (i := 21) (v := (.bool true)) (oi := ⟨_, _, _, _, _, _⟩) rfl (by kernel_rfl) (by kernel_rfl) (by kernel_rfl) (fun _ _ _ h => h) (Or.inl ⟨by kernel_rfl, fun W hS => ?_⟩) (by assumption) ?_
  · dsimp only at hS; go_split_ands; go_simp
  simp only [Act.put, List.setIfInBounds_toArray, List.set_cons_zero, List.set_cons_succ]
  refine wpAnyH_take (i := 22) (v := (.bool true)) (oi := ⟨_, _, _, _, _, _⟩) rfl (by kernel_rfl) (by kernel_rfl) (by kernel_rfl) (fun _ _ _ h => h) (Or.inl ⟨by kernel_rfl, fun W hS => ?_⟩) (by assumption) ?_
  · dsimp only at hS; go_split_ands; go_simp
  simp only [Act.put, List.setIfInBounds_toArray, List.set_cons_zero, List.set_cons_succ]
  refine wpAnyH_done (by kernel_rfl) ?_ _
  replace hb := hHeld.1
  replace hF := hHeld.2
  clear hHeld
  go_upto_region 3 with (fail)
  refine wp_region_held_drew (S := fun w' => Below w.heap.size w w' ∧ f.at_ 29 w' w.heap.size) (by kernel_rfl) (hkeep _ _ hF hb (below_drew (Below.refl _ _))) (fun hHeld => ?_)
  refine wpAnyH_take (i := 0) (v := (.bool true)) (oi := ⟨_, _, _, _, _, _⟩) rfl (by kernel_rfl) (by kernel_rfl) (by kernel_rfl) (fun _ _ _ h => h) (Or.inl ⟨by kernel_rfl, fun W hS => ?_⟩) (by assumption) ?_
  · dsimp only at hS; go_split_ands; go_simp
  simp only [Act.put, List.setIfInBounds_toArray, List.set_cons_zero, List.set_cons_succ]
  refine wpAnyH_take (i := 1) (v := (.bool true)) (oi := ⟨_, _, _, _, _, _⟩) rfl (by kernel_rfl) (by kernel_rfl) (by kernel_rfl) (fun _ _ _ h => h) (Or.inl ⟨by kernel_rfl, fun W hS => ?_⟩) (by assumption) ?_
  · dsimp only at hS; go_split_ands; go_simp
  simp only [Act.put, List.setIfInBounds_toArray, List.set_cons_zero, List.set_cons_succ]
  refine wpAnyH_take (i := 2) (v := (.pointer (some ⟨w.heap.size, 1, none⟩))) (oi := ⟨_, _, _, _, _, _⟩) rfl (by kernel_rfl) (by kernel_rfl) (by kernel_rfl) (fun _ _ _ h => h) (Or.inl ⟨by kernel_rfl, fun W hS => ?_⟩) (by assumption) ?_
  · dsimp only at hS; go_split_ands; go_simp
  simp only [Act.put, List.setIfInBounds_toArray, List.set_cons_zero, List.set_cons_succ]
  refine wpAnyH_take (i := 3) (v := (.int .u64 f.id)) (oi := ⟨_, _, _, _, _, _⟩) rfl (by kernel_rfl) (by kernel_rfl) (by kernel_rfl) (fun _ _ _ h => h) (Or.inl ⟨by kernel_rfl, fun W hS => ?_⟩) (by assumption) ?_
  · dsimp only at hS; go_split_ands; go_simp
  simp only [Act.put, List.setIfInBounds_toArray, List.set_cons_zero, List.set_cons_succ]
  refine wpAnyH_take (i := 4) (v := (.pointer (some ⟨w.heap.size, 36, none⟩))) (oi := ⟨_, _, _, _, _, _⟩) rfl (by kernel_rfl) (by kernel_rfl) (by kernel_rfl) (fun _ _ _ h => h) (Or.inl ⟨by kernel_rfl, fun W hS => ?_⟩) (by assumption) ?_
  · dsimp only at hS; go_split_ands; go_simp
  simp only [Act.put, List.setIfInBounds_toArray, List.set_cons_zero, List.set_cons_succ]
  refine wpAnyH_take (i := 5) (v := (.int .i64 f.st)) (oi := ⟨_, _, _, _, _, _⟩) rfl (by kernel_rfl) (by kernel_rfl) (by kernel_rfl) (fun _ _ _ h => h) (Or.inl ⟨by kernel_rfl, fun W hS => ?_⟩) (by assumption) ?_
  · dsimp only at hS; go_split_ands; go_simp
  simp only [Act.put, List.setIfInBounds_toArray, List.set_cons_zero, List.set_cons_succ]
  refine wpAnyH_take (i := 6) (v := (.pointer (some ⟨w.heap.size, 41, none⟩))) (oi := ⟨_, _, _, _, _, _⟩) rfl (by kernel_rfl) (by kernel_rfl) (by kernel_rfl) (fun _ _ _ h => h) (Or.inl ⟨by kernel_rfl, fun W hS => ?_⟩) (by assumption) ?_
  · dsimp only at hS; go_split_ands; go_simp
  simp only [Act.put, List.setIfInBounds_toArray, List.set_cons_zero, List.set_cons_succ]
  refine wpAnyH_take (i := 7) (v := (.string f.body)) (oi := ⟨_, _, _, _, _, _⟩) rfl (by kernel_rfl) (by kernel_rfl) (by kernel_rfl) (fun _ _ _ h => h) (Or.inl ⟨by kernel_rfl, fun W hS => ?_⟩) (by assumption) ?_
  · dsimp only at hS; go_split_ands; go_simp
  simp only [Act.put, List.setIfInBounds_toArray, List.set_cons_zero, List.set_cons_succ]
  refine wpAnyH_take (i := 9) (v := (.pointer (some ⟨w.heap.size, 1, none⟩))) (oi := ⟨_, _, _, _, _, _⟩) rfl (by kernel_rfl) (by kernel_rfl) (by kernel_rfl) (fun _ _ _ h => h) (Or.inl ⟨by kernel_rfl, fun W hS => ?_⟩) (by assumption) ?_
  · dsimp only at hS; go_split_ands; go_simp
  simp only [Act.put, List.setIfInBounds_toArray, List.set_cons_zero, List.set_cons_succ]
  refine wpAnyH_take (i := 10) (v := (.int .u64 f.id)) (oi := ⟨_, _, _, _, _, _⟩) rfl (by kernel_rfl) (by kernel_rfl) (by kernel_rfl) (fun _ _ _ h => h) (Or.inl ⟨by kernel_rfl, fun W hS => ?_⟩) (by assumption) ?_
  · dsimp only at hS; go_split_ands; go_simp
  simp only [Act.put, List.setIfInBounds_toArray, List.set_cons_zero, List.set_cons_succ]
  refine wpAnyH_take (i := 11) (v := (.pointer (some ⟨w.heap.size, 36, none⟩))) (oi := ⟨_, _, _, _, _, _⟩) rfl (by kernel_rfl) (by kernel_rfl) (by kernel_rfl) (fun _ _ _ h => h) (Or.inl ⟨by kernel_rfl, fun W hS => ?_⟩) (by assumption) ?_
  · dsimp only at hS; go_split_ands; go_simp
  simp only [Act.put, List.setIfInBounds_toArray, List.set_cons_zero, List.set_cons_succ]
  refine wpAnyH_take (i := 12) (v := (.int .i64 f.st)) (oi := ⟨_, _, _, _, _, _⟩) rfl (by kernel_rfl) (by kernel_rfl) (by kernel_rfl) (fun _ _ _ h => h) (Or.inl ⟨by kernel_rfl, fun W hS => ?_⟩) (by assumption) ?_
  · dsimp only at hS; go_split_ands; go_simp
  simp only [Act.put, List.setIfInBounds_toArray, List.set_cons_zero, List.set_cons_succ]
  refine wpAnyH_take (i := 13) (v := (.pointer (some ⟨w.heap.size, 41, none⟩))) (oi := ⟨_, _, _, _, _, _⟩) rfl (by kernel_rfl) (by kernel_rfl) (by kernel_rfl) (fun _ _ _ h => h) (Or.inl ⟨by kernel_rfl, fun W hS => ?_⟩) (by assumption) ?_
  · dsimp only at hS; go_split_ands; go_simp
  simp only [Act.put, List.setIfInBounds_toArray, List.set_cons_zero, List.set_cons_succ]
  refine wpAnyH_take (i := 14) (v := (.string f.body)) (oi := ⟨_, _, _, _, _, _⟩) rfl (by kernel_rfl) (by kernel_rfl) (by kernel_rfl) (fun _ _ _ h => h) (Or.inl ⟨by kernel_rfl, fun W hS => ?_⟩) (by assumption) ?_
  · dsimp only at hS; go_split_ands; go_simp
  simp only [Act.put, List.setIfInBounds_toArray, List.set_cons_zero, List.set_cons_succ]
  refine wpAnyH_take (i := 15) (v := (.agg P1)) (oi := ⟨_, _, _, _, _, _⟩) rfl (by kernel_rfl) (by kernel_rfl) (by kernel_rfl) (fun _ _ _ h => h) (Or.inl ⟨by kernel_rfl, fun W hS => ?_⟩) (by assumption) ?_
  · dsimp only at hS; go_split_ands; go_simp
  simp only [Act.put, List.setIfInBounds_toArray, List.set_cons_zero, List.set_cons_succ]
  refine wpAnyH_ready (rs := [8]) (by kernel_rfl) (by decide) (AllReadyH.cons rfl (fun K hK => ?_) AllReadyH.nil)
  rw [if_pos (by kernel_rfl)]
  go_simp
  refine (cP _).mono ?_
  rintro e w3 ⟨rfl, hb3⟩
  go_wp2_with fail
  refine hK.out _ _ (hkeep _ _ hHeld.2 hHeld.1 hb3) (fun hHeld => ?_)
  clear hK K
  try simp only [Act.put, List.setIfInBounds_toArray, List.set_cons_zero, List.set_cons_succ]
  refine wpAnyH_ready (rs := [16]) (by kernel_rfl) (by decide) (AllReadyH.cons rfl (fun K hK => ?_) AllReadyH.nil)
  rw [if_pos (by kernel_rfl)]
  go_simp
  refine (sP _).mono ?_
  rintro e w3 ⟨rfl, hb3⟩
  go_wp2_with fail
  refine hK.out _ _ (hkeep _ _ hHeld.2 hHeld.1 hb3) (fun hHeld => ?_)
  clear hK K
  try simp only [Act.put, List.setIfInBounds_toArray, List.set_cons_zero, List.set_cons_succ]
  refine wpAnyH_take (i := 17) (v := (.bool true)) (oi := ⟨_, _, _, _, _, _⟩) rfl (by kernel_rfl) (by kernel_rfl) (by kernel_rfl) (fun _ _ _ h => h) (Or.inl ⟨by kernel_rfl, fun W hS => ?_⟩) (by assumption) ?_
  · dsimp only at hS; go_split_ands; go_simp
  simp only [Act.put, List.setIfInBounds_toArray, List.set_cons_zero, List.set_cons_succ]
  refine wpAnyH_take (i := 18) (v := (.bool true)) (oi := ⟨_, _, _, _, _, _⟩) rfl (by kernel_rfl) (by kernel_rfl) (by kernel_rfl) (fun _ _ _ h => h) (Or.inl ⟨by kernel_rfl, fun W hS => ?_⟩) (by assumption) ?_
  · dsimp only at hS; go_split_ands; go_simp
  simp only [Act.put, List.setIfInBounds_toArray, List.set_cons_zero, List.set_cons_succ]
  refine wpAnyH_done (by kernel_rfl) ?_ _
  replace hb := hHeld.1
  replace hF := hHeld.2
  clear hHeld
  go_upto_region 4 with (fail)
  refine wp_region_held_drew (S := fun w' => Below w.heap.size w w' ∧ f.at_ 29 w' w.heap.size) (by kernel_rfl) (hkeep _ _ hF hb (below_drew (Below.refl _ _))) (fun hHeld => ?_)
  refine wpAnyH_take (i := 0) (v := (.bool true)) (oi := ⟨_, _, _, _, _, _⟩) rfl (by kernel_rfl) (by kernel_rfl) (by kernel_rfl) (fun _ _ _ h => h) (Or.inl ⟨by kernel_rfl, fun W hS => ?_⟩) (by assumption) ?_
  · dsimp only at hS; go_split_ands; go_simp
  simp only [Act.put, List.setIfInBounds_toArray, List.set_cons_zero, List.set_cons_succ]
  refine wpAnyH_take (i := 1) (v := (.bool true)) (oi := ⟨_, _, _, _, _, _⟩) rfl (by kernel_rfl) (by kernel_rfl) (by kernel_rfl) (fun _ _ _ h => h) (Or.inl ⟨by kernel_rfl, fun W hS => ?_⟩) (by assumption) ?_
  · dsimp only at hS; go_split_ands; go_simp
  simp only [Act.put, List.setIfInBounds_toArray, List.set_cons_zero, List.set_cons_succ]
  refine wpAnyH_take (i := 2) (v := (.pointer (some ⟨w.heap.size, 1, none⟩))) (oi := ⟨_, _, _, _, _, _⟩) rfl (by kernel_rfl) (by kernel_rfl) (by kernel_rfl) (fun _ _ _ h => h) (Or.inl ⟨by kernel_rfl, fun W hS => ?_⟩) (by assumption) ?_
  · dsimp only at hS; go_split_ands; go_simp
  simp only [Act.put, List.setIfInBounds_toArray, List.set_cons_zero, List.set_cons_succ]
  refine wpAnyH_take (i := 3) (v := (.int .u64 f.id)) (oi := ⟨_, _, _, _, _, _⟩) rfl (by kernel_rfl) (by kernel_rfl) (by kernel_rfl) (fun _ _ _ h => h) (Or.inl ⟨by kernel_rfl, fun W hS => ?_⟩) (by assumption) ?_
  · dsimp only at hS; go_split_ands; go_simp
  simp only [Act.put, List.setIfInBounds_toArray, List.set_cons_zero, List.set_cons_succ]
  refine wpAnyH_take (i := 5) (v := (.pointer (some ⟨w.heap.size, 1, none⟩))) (oi := ⟨_, _, _, _, _, _⟩) rfl (by kernel_rfl) (by kernel_rfl) (by kernel_rfl) (fun _ _ _ h => h) (Or.inl ⟨by kernel_rfl, fun W hS => ?_⟩) (by assumption) ?_
  · dsimp only at hS; go_split_ands; go_simp
  simp only [Act.put, List.setIfInBounds_toArray, List.set_cons_zero, List.set_cons_succ]
  refine wpAnyH_take (i := 6) (v := (.int .u64 f.id)) (oi := ⟨_, _, _, _, _, _⟩) rfl (by kernel_rfl) (by kernel_rfl) (by kernel_rfl) (fun _ _ _ h => h) (Or.inl ⟨by kernel_rfl, fun W hS => ?_⟩) (by assumption) ?_
  · dsimp only at hS; go_split_ands; go_simp
  simp only [Act.put, List.setIfInBounds_toArray, List.set_cons_zero, List.set_cons_succ]
  refine wpAnyH_take (i := 7) (v := (.agg C1)) (oi := ⟨_, _, _, _, _, _⟩) rfl (by kernel_rfl) (by kernel_rfl) (by kernel_rfl) (fun _ _ _ h => h) (Or.inl ⟨by kernel_rfl, fun W hS => ?_⟩) (by assumption) ?_
  · dsimp only at hS; go_split_ands; go_simp
  simp only [Act.put, List.setIfInBounds_toArray, List.set_cons_zero, List.set_cons_succ]
  refine wpAnyH_ready (rs := [4]) (by kernel_rfl) (by decide) (AllReadyH.cons rfl (fun K hK => ?_) AllReadyH.nil)
  rw [if_pos (by kernel_rfl)]
  go_simp
  refine (cC _).mono ?_
  rintro e w3 ⟨rfl, hb3⟩
  go_wp2_with fail
  refine hK.out _ _ (hkeep _ _ hHeld.2 hHeld.1 hb3) (fun hHeld => ?_)
  clear hK K
  try simp only [Act.put, List.setIfInBounds_toArray, List.set_cons_zero, List.set_cons_succ]
  refine wpAnyH_ready (rs := [8]) (by kernel_rfl) (by decide) (AllReadyH.cons rfl (fun K hK => ?_) AllReadyH.nil)
  rw [if_pos (by kernel_rfl)]
  go_simp
  refine (sC _).mono ?_
  rintro e w3 ⟨rfl, hb3⟩
  go_wp2_with fail
  refine hK.out _ _ (hkeep _ _ hHeld.2 hHeld.1 hb3) (fun hHeld => ?_)
  clear hK K
  try simp only [Act.put, List.setIfInBounds_toArray, List.set_cons_zero, List.set_cons_succ]
  refine wpAnyH_take (i := 9) (v := (.bool true)) (oi := ⟨_, _, _, _, _, _⟩) rfl (by kernel_rfl) (by kernel_rfl) (by kernel_rfl) (fun _ _ _ h => h) (Or.inl ⟨by kernel_rfl, fun W hS => ?_⟩) (by assumption) ?_
  · dsimp only at hS; go_split_ands; go_simp
  simp only [Act.put, List.setIfInBounds_toArray, List.set_cons_zero, List.set_cons_succ]
  refine wpAnyH_take (i := 10) (v := (.bool true)) (oi := ⟨_, _, _, _, _, _⟩) rfl (by kernel_rfl) (by kernel_rfl) (by kernel_rfl) (fun _ _ _ h => h) (Or.inl ⟨by kernel_rfl, fun W hS => ?_⟩) (by assumption) ?_
  · dsimp only at hS; go_split_ands; go_simp
  simp only [Act.put, List.setIfInBounds_toArray, List.set_cons_zero, List.set_cons_succ]
  refine wpAnyH_take (i := 12) (v := (.agg B1)) (oi := ⟨_, _, _, _, _, _⟩) rfl (by kernel_rfl) (by kernel_rfl) (by kernel_rfl) (fun _ _ _ h => h) (Or.inl ⟨by kernel_rfl, fun W hS => ?_⟩) (by assumption) ?_
  · dsimp only at hS; go_split_ands; go_simp
  simp only [Act.put, List.setIfInBounds_toArray, List.set_cons_zero, List.set_cons_succ]
  refine wpAnyH_ready (rs := [11]) (by kernel_rfl) (by decide) (AllReadyH.cons rfl (fun K hK => ?_) AllReadyH.nil)
  rw [if_pos (by kernel_rfl)]
  go_simp
  refine (cB _).mono ?_
  rintro e w3 ⟨rfl, hb3⟩
  go_wp2_with fail
  refine hK.out _ _ (hkeep _ _ hHeld.2 hHeld.1 hb3) (fun hHeld => ?_)
  clear hK K
  try simp only [Act.put, List.setIfInBounds_toArray, List.set_cons_zero, List.set_cons_succ]
  refine wpAnyH_ready (rs := [13]) (by kernel_rfl) (by decide) (AllReadyH.cons rfl (fun K hK => ?_) AllReadyH.nil)
  rw [if_pos (by kernel_rfl)]
  go_simp
  refine (sB _).mono ?_
  rintro e w3 ⟨rfl, hb3⟩
  go_wp2_with fail
  refine hK.out _ _ (hkeep _ _ hHeld.2 hHeld.1 hb3) (fun hHeld => ?_)
  clear hK K
  try simp only [Act.put, List.setIfInBounds_toArray, List.set_cons_zero, List.set_cons_succ]
  refine wpAnyH_take (i := 14) (v := (.bool true)) (oi := ⟨_, _, _, _, _, _⟩) rfl (by kernel_rfl) (by kernel_rfl) (by kernel_rfl) (fun _ _ _ h => h) (Or.inl ⟨by kernel_rfl, fun W hS => ?_⟩) (by assumption) ?_
  · dsimp only at hS; go_split_ands; go_simp
  simp only [Act.put, List.setIfInBounds_toArray, List.set_cons_zero, List.set_cons_succ]
  refine wpAnyH_take (i := 15) (v := (.bool true)) (oi := ⟨_, _, _, _, _, _⟩) rfl (by kernel_rfl) (by kernel_rfl) (by kernel_rfl) (fun _ _ _ h => h) (Or.inl ⟨by kernel_rfl, fun W hS => ?_⟩) (by assumption) ?_
  · dsimp only at hS; go_split_ands; go_simp
  simp only [Act.put, List.setIfInBounds_toArray, List.set_cons_zero, List.set_cons_succ]
  refine wpAnyH_done (by kernel_rfl) ?_ _
  replace hb := hHeld.1
  replace hF := hHeld.2
  clear hHeld
  go_upto_region 5 with (fail)
  refine wp_region_held_drew (S := fun w' => Below w.heap.size w w' ∧ f.at_ 29 w' w.heap.size) (by kernel_rfl) (hkeep _ _ hF hb (below_drew (Below.refl _ _))) (fun hHeld => ?_)
  refine wpAnyH_take (i := 0) (v := (.bool true)) (oi := ⟨_, _, _, _, _, _⟩) rfl (by kernel_rfl) (by kernel_rfl) (by kernel_rfl) (fun _ _ _ h => h) (Or.inl ⟨by kernel_rfl, fun W hS => ?_⟩) (by assumption) ?_
  · dsimp only at hS; go_split_ands; go_simp
  simp only [Act.put, List.setIfInBounds_toArray, List.set_cons_zero, List.set_cons_succ]
  refine wpAnyH_take (i := 1) (v := (.bool true)) (oi := ⟨_, _, _, _, _, _⟩) rfl (by kernel_rfl) (by kernel_rfl) (by kernel_rfl) (fun _ _ _ h => h) (Or.inl ⟨by kernel_rfl, fun W hS => ?_⟩) (by assumption) ?_
  · dsimp only at hS; go_split_ands; go_simp
  simp only [Act.put, List.setIfInBounds_toArray, List.set_cons_zero, List.set_cons_succ]
  refine wpAnyH_take (i := 2) (v := (.pointer (some ⟨w.heap.size, 41, none⟩))) (oi := ⟨_, _, _, _, _, _⟩) rfl (by kernel_rfl) (by kernel_rfl) (by kernel_rfl) (fun _ _ _ h => h) (Or.inl ⟨by kernel_rfl, fun W hS => ?_⟩) (by assumption) ?_
  · dsimp only at hS; go_split_ands; go_simp
  simp only [Act.put, List.setIfInBounds_toArray, List.set_cons_zero, List.set_cons_succ]
  refine wpAnyH_take (i := 3) (v := (.string f.body)) (oi := ⟨_, _, _, _, _, _⟩) rfl (by kernel_rfl) (by kernel_rfl) (by kernel_rfl) (fun _ _ _ h => h) (Or.inl ⟨by kernel_rfl, fun W hS => ?_⟩) (by assumption) ?_
  · dsimp only at hS; go_split_ands; go_simp
  simp only [Act.put, List.setIfInBounds_toArray, List.set_cons_zero, List.set_cons_succ]
  refine wpAnyH_take (i := 5) (v := (.pointer (some ⟨w.heap.size, 41, none⟩))) (oi := ⟨_, _, _, _, _, _⟩) rfl (by kernel_rfl) (by kernel_rfl) (by kernel_rfl) (fun _ _ _ h => h) (Or.inl ⟨by kernel_rfl, fun W hS => ?_⟩) (by assumption) ?_
  · dsimp only at hS; go_split_ands; go_simp
  simp only [Act.put, List.setIfInBounds_toArray, List.set_cons_zero, List.set_cons_succ]
  refine wpAnyH_take (i := 6) (v := (.string f.body)) (oi := ⟨_, _, _, _, _, _⟩) rfl (by kernel_rfl) (by kernel_rfl) (by kernel_rfl) (fun _ _ _ h => h) (Or.inl ⟨by kernel_rfl, fun W hS => ?_⟩) (by assumption) ?_
  · dsimp only at hS; go_split_ands; go_simp
  simp only [Act.put, List.setIfInBounds_toArray, List.set_cons_zero, List.set_cons_succ]
  refine wpAnyH_take (i := 7) (v := (.agg N1)) (oi := ⟨_, _, _, _, _, _⟩) rfl (by kernel_rfl) (by kernel_rfl) (by kernel_rfl) (fun _ _ _ h => h) (Or.inl ⟨by kernel_rfl, fun W hS => ?_⟩) (by assumption) ?_
  · dsimp only at hS; go_split_ands; go_simp
  simp only [Act.put, List.setIfInBounds_toArray, List.set_cons_zero, List.set_cons_succ]
  refine wpAnyH_ready (rs := [4]) (by kernel_rfl) (by decide) (AllReadyH.cons rfl (fun K hK => ?_) AllReadyH.nil)
  rw [if_pos (by kernel_rfl)]
  go_simp
  refine (cN _).mono ?_
  rintro e w3 ⟨rfl, hb3⟩
  go_wp2_with fail
  refine hK.out _ _ (hkeep _ _ hHeld.2 hHeld.1 hb3) (fun hHeld => ?_)
  clear hK K
  try simp only [Act.put, List.setIfInBounds_toArray, List.set_cons_zero, List.set_cons_succ]
  refine wpAnyH_ready (rs := [8]) (by kernel_rfl) (by decide) (AllReadyH.cons rfl (fun K hK => ?_) AllReadyH.nil)
  rw [if_pos (by kernel_rfl)]
  go_simp
  refine (sN _).mono ?_
  rintro e w3 ⟨rfl, hb3⟩
  go_wp2_with fail
  refine hK.out _ _ (hkeep _ _ hHeld.2 hHeld.1 hb3) (fun hHeld => ?_)
  clear hK K
  try simp only [Act.put, List.setIfInBounds_toArray, List.set_cons_zero, List.set_cons_succ]
  refine wpAnyH_take (i := 9) (v := (.bool true)) (oi := ⟨_, _, _, _, _, _⟩) rfl (by kernel_rfl) (by kernel_rfl) (by kernel_rfl) (fun _ _ _ h => h) (Or.inl ⟨by kernel_rfl, fun W hS => ?_⟩) (by assumption) ?_
  · dsimp only at hS; go_split_ands; go_simp
  simp only [Act.put, List.setIfInBounds_toArray, List.set_cons_zero, List.set_cons_succ]
  refine wpAnyH_take (i := 10) (v := (.bool true)) (oi := ⟨_, _, _, _, _, _⟩) rfl (by kernel_rfl) (by kernel_rfl) (by kernel_rfl) (fun _ _ _ h => h) (Or.inl ⟨by kernel_rfl, fun W hS => ?_⟩) (by assumption) ?_
  · dsimp only at hS; go_split_ands; go_simp
  simp only [Act.put, List.setIfInBounds_toArray, List.set_cons_zero, List.set_cons_succ]
  refine wpAnyH_done (by kernel_rfl) ?_ _
  go_wp2_with fail
  go_ret
  exact ⟨rfl, hHeld.1⟩
end Go.Proofs.Ytelfephmjkipoaa
