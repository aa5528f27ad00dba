/- The contracts of a duct's New, Peek, Read, Count. -/
import Derived.Test.YtodhcgidmdeifaaDuB
namespace Go.Proofs.Ytodhcgidmdeifaa
open Go.RowKit Go.Kit Go.Proofs.YtodhcgidmdeifaaW.PrintWords
attribute [local go_sem] Go.Proofs.YtodhcgidmdeifaaW.PrintMore.max_two Go.Proofs.YtodhcgidmdeifaaW.PrintMore.min_two
/-- An empty duct. -/
def newD (r : Int) : Dk := ⟨[], r, false, 0, 0, 0, 0⟩
set_option maxHeartbeats 1000000 in
theorem New_bad (r : Int) (h : ¬ (1 ≤ r ∧ r ≤ 4194304)) (w : World) : Calls Try.prog 10 #[.int .i64 r] w fun e w' => e = .returned (.tuple #[.pointer none, .int .i64 90]) ∧ w' = w := by
  go_enter Try.func10, Try.ntmps10
  by_cases h1 : r < 1
  · clear h
    go_wp2_with fail
    go_ret2
    exact ⟨rfl, rfl⟩
  · have h2 : r > 4194304 := by omega
    clear h
    go_wp2_with fail
    go_ret2
    exact ⟨rfl, rfl⟩
set_option maxHeartbeats 1000000 in
theorem New_any (r : Int) (h1 : 1 ≤ r) (h2 : r ≤ 4194304) (w : World) : Calls Try.prog 10 #[.int .i64 r] w fun e w' => ∃ d b, e = .returned (.tuple #[.pointer (some ⟨d, 0, none⟩), .int .i64 0]) ∧ DS w' d b none 0 0 (newD r) ∧ w.heap.size ≤ d ∧ w.heap.size ≤ b ∧ Below w.heap.size w w' := by
  go_enter Try.func10, Try.ntmps10
  have h3 : ¬ r < 1 := by omega
  have h4 : ¬ r > 4194304 := by omega
  go_wp2_with fail
  go_ret2
  refine ⟨_, rfl, _, ⟨?_, ?_, OB.nil _ _ _, rfl, by show (0 : Int) ≤ r; omega, h1, h2⟩, ?_, Nat.le_refl _, ?_⟩
  · exact heap_alloc2_new w _ _
  · exact (heap_alloc_old _ _ (by simp)).trans (heap_alloc_new w _)
  · simp
  · exact below_alloc (below_alloc (Below.refl _ _) _) _
section
variable {w : World} {d b n c : Nat} {A : Option Addr} {D : Dk}
set_option maxHeartbeats 2000000 in
theorem Peek_any (h : DS w d b A n c D) (m : Int) (k : Nat) (hk : (k : Int) = min (max m 0) n) : Calls Try.prog 14 #[.pointer (some ⟨d, 0, none⟩), .int .i64 m] w fun e w' => ∃ v, e = .returned v ∧ OB 5 w' w.heap.size v (D.held.take k) ∧ Below w.heap.size w w' := by
  have h0 := h.d0
  have h1 := h.b0
  have H := Lib.hid h
  have hcap := h.cap
  have hkn : k ≤ n := by omega
  have hm := h.max
  have HK := Lib.hid hk
  clear hk
  have hmk := fun W => mk_bytes 0 k (by omega) (by omega) W 0 (k : Int) rfl rfl
  clear h hm
  go_enter Try.func14, Try.ntmps14
  go_wp2_with fail
  refine (first_any H.out m k HK.out).mono ?_
  rintro e w1 ⟨rfl, rfl⟩
  by_cases hk0 : k = 0
  · subst hk0
    go_wp2_with fail
    go_ret
    exact ⟨_, rfl, OB.nil _ _ _, Below.refl _ _⟩
  · have hb : ((k : Int) == 0) = false := by simp; omega
    go_wp2_with fail
    have hkc : (k : Int) ≤ (c : Int) := by omega
    have hr := RB.take_ (H.out.row.rb H.out.len.symm) k hkn
    have hkm : k ≤ 4194304 := by have := H.out.max; omega
    have h1 : ∀ W, Below w1.heap.size w1 W → Below w1.heap.size w1 W ∧ W.cell? ⟨d, 0, none⟩ = some (.pointer (some ⟨b, 0, none⟩)) ∧ W.cell? ⟨b, 0, none⟩ = some (.slice A n c) := fun W hb => ⟨hb, pw_cell_below hb h0, pw_cell_below hb h1⟩
    clear h0
    go_region_held3 (fun w' => Below w1.heap.size w1 w' ∧ w'.cell? ⟨d, 0, none⟩ = some (.pointer (some ⟨b, 0, none⟩)) ∧ w'.cell? ⟨b, 0, none⟩ = some (.slice A n c))
      (first
        | assumption
        | exact h1 _ (below_drew (Below.refl _ _))
        | exact h1 _ (below_drew (below_alloc (Below.refl _ _) _))
        | (go_split_ands; refine h1 _ ?_; assumption))
      (first
        | (go_split_ands; refine at_list rfl ?_; intro Q2 hQ2; at_builtin; refine print_append_row (w0 := w1) w1.heap.size rfl (.tmp 11) (.tmp 20) 22 5 .u8 1 rfl Try.underlying22 u8_info (by decide) _ [] (D.held.take k) A k c rfl rfl ((OB.fresh w1 k (by omega)).below (below_drew (Below.refl _ _))).own (hr.below (by assumption)).rd (by assumption) (by simp) (by simp; omega) ?_; intro v2 w2 hown hb2 hg2 ha2; refine hQ2 _ _ ?_; clear hQ2 Q2 hg2 ha2))
    all_goals
      go_split_ands
      have hO : OB 5 w2 w1.heap.size v2 (D.held.take k) := ⟨by simpa using hown, hr.byt⟩
      clear hown
      go_wp2_with fail
      go_ret
      exact ⟨_, rfl, hO, by assumption⟩
/-- What Read leaves. -/
def readD (D : Dk) (k : Nat) : Dk := if k = 0 then D else { D with held := D.held.drop k, co := wrap64 (D.co + k) }
set_option maxHeartbeats 2000000 in
theorem Read_any (h : DS w d b A n c D) (m : Int) (k : Nat) (hk : (k : Int) = min (max m 0) n) : Calls Try.prog 15 #[.pointer (some ⟨d, 0, none⟩), .int .i64 m] w fun e w' => ∃ v A1 n1 c1, e = .returned v ∧ OB 5 w' w.heap.size v (D.held.take k) ∧ DS w' d b A1 n1 c1 (readD D k) ∧ Only w w' (df d b A n c) ∧ Onto w (df d b A n c) (df d b A1 n1 c1) ∧ Sep (rf v) (df d b A1 n1 c1) := by
  have h0 := h.d0
  have H := Lib.hid h
  have hcap := h.cap
  have hkn : k ≤ n := by omega
  have HK := Lib.hid hk
  clear hk h
  go_enter Try.func15, Try.ntmps15
  go_wp2_with fail
  refine (first_any H.out m k HK.out).mono ?_
  rintro e w1 ⟨rfl, rfl⟩
  by_cases hk0 : k = 0
  · subst hk0
    go_wp2_with fail
    go_ret
    exact ⟨_, A, n, c, rfl, OB.nil _ _ _, H.out, Only.refl _ _, Onto.refl _ _, fun k hk => by cases hk⟩
  · have hb : ((k : Int) == 0) = false := by simp; omega
    go_wp2_with fail
    refine (Peek_any H.out (k : Int) k (by omega)).mono ?_
    rintro e w2 ⟨v2, rfl, hO2, hb2⟩
    have H2 := Lib.hid (H.out.below hb2)
    have h0 := H2.out.d0
    have h1 := H2.out.b0
    obtain ⟨A', hcut, hA'⟩ := cut_bytes A n c k hkn hcap
    have hDd : DS w2.drew d b A n c D := H2.out.drewN 1
    have hrd : RB w2.drew A' (n - k) (D.held.drop k) := hA' _ _ (hDd.row.rb H2.out.len.symm)
    have hl : (D.held.drop k).length = n - k := by rw [List.length_drop, H2.out.len]
    have hmx := H2.out.max
    have hdb := H2.out.ne
    have h1d := hDd.b0
    have h0d := hDd.d0
    have HDd := Lib.hid hDd
    clear hA' h1 hDd
    go_wp2_with fail
    refine wp_region_held_drew (S := fun w' => w'.cell? ⟨d, 0, none⟩ = some (.pointer (some ⟨b, 0, none⟩))) (by kernel_rfl) (h0d) (fun hHeld => ?_)
    refine wpAnyH_take (i := 0) (v := (.pointer (some ⟨d, 0, none⟩))) (oi := ⟨_, _, _, _, _, _⟩) rfl (by kernel_rfl) (by kernel_rfl) (by kernel_rfl) (fun _ _ _ h => h) (Or.inl ⟨by kernel_rfl, fun W hS => ?_⟩) (by assumption) ?_
    · dsimp only at hS; go_split_ands; go_simp
    simp only [Act.put, List.setIfInBounds_toArray, List.set_cons_zero, List.set_cons_succ]
    refine wpAnyH_take (i := 1) (v := (.pointer (some ⟨d, 0, none⟩))) (oi := ⟨_, _, _, _, _, _⟩) rfl (by kernel_rfl) (by kernel_rfl) (by kernel_rfl) (fun _ _ _ h => h) (Or.inl ⟨by kernel_rfl, fun W hS => ?_⟩) (by assumption) ?_
    · dsimp only at hS; go_split_ands; go_simp
    simp only [Act.put, List.setIfInBounds_toArray, List.set_cons_zero, List.set_cons_succ]
    refine wpAnyH_take (i := 2) (v := (.pointer (some ⟨d, 0, none⟩))) (oi := ⟨_, _, _, _, _, _⟩) rfl (by kernel_rfl) (by kernel_rfl) (by kernel_rfl) (fun _ _ _ h => h) (Or.inl ⟨by kernel_rfl, fun W hS => ?_⟩) (by assumption) ?_
    · dsimp only at hS; go_split_ands; go_simp
    simp only [Act.put, List.setIfInBounds_toArray, List.set_cons_zero, List.set_cons_succ]
    refine wpAnyH_take (i := 3) (v := (.pointer (some ⟨b, 0, none⟩))) (oi := ⟨_, _, _, _, _, _⟩) rfl (by kernel_rfl) (by kernel_rfl) (by kernel_rfl) (fun _ _ _ h => h) (Or.inl ⟨by kernel_rfl, fun W hS => ?_⟩) (by assumption) ?_
    · dsimp only at hS; go_split_ands; go_simp
    simp only [Act.put, List.setIfInBounds_toArray, List.set_cons_zero, List.set_cons_succ]
    refine wpAnyH_take (i := 4) (v := (.pointer (some ⟨d, 0, none⟩))) (oi := ⟨_, _, _, _, _, _⟩) rfl (by kernel_rfl) (by kernel_rfl) (by kernel_rfl) (fun _ _ _ h => h) (Or.inl ⟨by kernel_rfl, fun W hS => ?_⟩) (by assumption) ?_
    · dsimp only at hS; go_split_ands; go_simp
    simp only [Act.put, List.setIfInBounds_toArray, List.set_cons_zero, List.set_cons_succ]
    refine wpAnyH_take (i := 5) (v := (.pointer (some ⟨d, 0, none⟩))) (oi := ⟨_, _, _, _, _, _⟩) rfl (by kernel_rfl) (by kernel_rfl) (by kernel_rfl) (fun _ _ _ h => h) (Or.inl ⟨by kernel_rfl, fun W hS => ?_⟩) (by assumption) ?_
    · dsimp only at hS; go_split_ands; go_simp
    simp only [Act.put, List.setIfInBounds_toArray, List.set_cons_zero, List.set_cons_succ]
    refine wpAnyH_take (i := 6) (v := (.pointer (some ⟨d, 0, none⟩))) (oi := ⟨_, _, _, _, _, _⟩) rfl (by kernel_rfl) (by kernel_rfl) (by kernel_rfl) (fun _ _ _ h => h) (Or.inl ⟨by kernel_rfl, fun W hS => ?_⟩) (by assumption) ?_
    · dsimp only at hS; go_split_ands; go_simp
    simp only [Act.put, List.setIfInBounds_toArray, List.set_cons_zero, List.set_cons_succ]
    refine wpAnyH_take (i := 7) (v := (.pointer (some ⟨b, 0, none⟩))) (oi := ⟨_, _, _, _, _, _⟩) rfl (by kernel_rfl) (by kernel_rfl) (by kernel_rfl) (fun _ _ _ h => h) (Or.inl ⟨by kernel_rfl, fun W hS => ?_⟩) (by assumption) ?_
    · dsimp only at hS; go_split_ands; go_simp
    simp only [Act.put, List.setIfInBounds_toArray, List.set_cons_zero, List.set_cons_succ]
    refine wpAnyH_take (i := 8) (v := (.pointer (some ⟨b, 0, none⟩))) (oi := ⟨_, _, _, _, _, _⟩) rfl (by kernel_rfl) (by kernel_rfl) (by kernel_rfl) (fun _ _ _ h => h) (Or.inl ⟨by kernel_rfl, fun W hS => ?_⟩) (by assumption) ?_
    · dsimp only at hS; go_split_ands; go_simp
    simp only [Act.put, List.setIfInBounds_toArray, List.set_cons_zero, List.set_cons_succ]
    refine wpAnyH_take (i := 9) (v := (.pointer (some ⟨b, 0, none⟩))) (oi := ⟨_, _, _, _, _, _⟩) rfl (by kernel_rfl) (by kernel_rfl) (by kernel_rfl) (fun _ _ _ h => h) (Or.inl ⟨by kernel_rfl, fun W hS => ?_⟩) (by assumption) ?_
    · dsimp only at hS; go_split_ands; go_simp
    simp only [Act.put, List.setIfInBounds_toArray, List.set_cons_zero, List.set_cons_succ]
    refine wpAnyH_take (i := 11) (v := (.int .i64 (k : Int))) (oi := ⟨_, _, _, _, _, _⟩) rfl (by kernel_rfl) (by kernel_rfl) (by kernel_rfl) (fun _ _ _ h => h) (Or.inl ⟨by kernel_rfl, fun W hS => ?_⟩) (by assumption) ?_
    · dsimp only at hS; go_split_ands; go_simp
    simp only [Act.put, List.setIfInBounds_toArray, List.set_cons_zero, List.set_cons_succ]
    refine wpAnyH_ready (rs := [10]) (by kernel_rfl) (by decide) (AllReadyH.cons (o := ⟨_, _, _, _, _, _⟩) rfl (fun K hK => ?_) AllReadyH.nil)
    rw [if_pos (by kernel_rfl)]
    go_simp
    refine hK.out _ _ (hHeld) (fun hHeld => ?_)
    clear hK K
    try simp only [Act.put, List.setIfInBounds_toArray, List.set_cons_zero, List.set_cons_succ]
    refine wpAnyH_take (i := 12) (v := (.slice A' (n - k) (c - k))) (oi := ⟨_, _, _, _, _, _⟩) rfl (by kernel_rfl) (by kernel_rfl) (by kernel_rfl) (fun _ _ _ h => h) (Or.inl ⟨by kernel_rfl, fun W hS => ?_⟩) (by assumption) ?_
    · dsimp only at hS; go_split_ands; go_simp
    simp only [Act.put, List.setIfInBounds_toArray, List.set_cons_zero, List.set_cons_succ]
    refine wpAnyH_ready (rs := [13]) (by kernel_rfl) (by decide) (AllReadyH.cons (o := ⟨_, _, _, _, _, _⟩) rfl (fun K hK => ?_) AllReadyH.nil)
    refine at_list rfl ?_; intro Q2 hQ2; at_builtin; refine print_append_row (w0 := w2.drew) w2.drew.heap.size rfl (.const (.slice none 0 0)) (.tmp 26) 22 5 .u8 1 rfl Try.underlying22 u8_info (by decide) (.slice none 0 0) [] (D.held.drop k) A' (n - k) (c - k) rfl rfl (own_nil _ _ _ _) hrd.rd (Below.refl _ _) (by first | exact Nat.le_refl _ | exact Nat.zero_le _) (by simp; omega) ?_; intro v3 w3 hown hb3 hg3 ha3; have hO3 : OB 5 w3 w2.drew.heap.size v3 (D.held.drop k) := ⟨by simpa using hown, hrd.byt⟩; clear hown ha3; obtain ⟨A3, c3, rfl, _, _⟩ := hO3.reads'; rw [hl] at hO3 ⊢; refine hQ2 _ _ ?_; clear hQ2 Q2
    refine hK.out _ _ (pw_cell_below hb3 h0d) (fun hHeld => ?_)
    clear hK K
    try simp only [Act.put, List.setIfInBounds_toArray, List.set_cons_zero, List.set_cons_succ]
    refine wpAnyH_take (i := 14) (v := (.pointer (some ⟨b, 0, none⟩))) (oi := ⟨_, _, _, _, _, _⟩) rfl (by kernel_rfl) (by kernel_rfl) (by kernel_rfl) (fun _ _ _ h => h) (Or.inl ⟨by kernel_rfl, fun W hS => ?_⟩) (by assumption) ?_
    · dsimp only at hS; go_split_ands; go_simp
    simp only [Act.put, List.setIfInBounds_toArray, List.set_cons_zero, List.set_cons_succ]
    refine wpAnyH_take (i := 15) (v := (.pointer (some ⟨b, 0, none⟩))) (oi := ⟨_, _, _, _, _, _⟩) rfl (by kernel_rfl) (by kernel_rfl) (by kernel_rfl) (fun _ _ _ h => h) (Or.inl ⟨by kernel_rfl, fun W hS => ?_⟩) (by assumption) ?_
    · dsimp only at hS; go_split_ands; go_simp
    simp only [Act.put, List.setIfInBounds_toArray, List.set_cons_zero, List.set_cons_succ]
    refine wpAnyH_ready (rs := [16]) (by kernel_rfl) (by decide) (AllReadyH.cons (o := ⟨_, _, _, _, _, _⟩) rfl (fun K hK => ?_) AllReadyH.nil)
    have hf3 := (HDd.out.below hb3).fb 0
    have hb3c := (HDd.out.below hb3).b0
    rw [if_pos (by kernel_rfl)]
    go_simp
    refine hK.out _ _ (by rw [World.cell?_setCell_far _ _ _ _ hdb.symm]; exact hHeld) (fun hHeld => ?_)
    clear hK K
    try simp only [Act.put, List.setIfInBounds_toArray, List.set_cons_zero, List.set_cons_succ]
    refine wpAnyH_done (by kernel_rfl) ?_ _
    have H5 := Lib.hid (HDd.out.setHeld hg3 (.inl rfl) (hO3.less (Nat.zero_le _)) hl (by have := HDd.out.fit; omega))
    have hd5 := H5.out.d3
    have hf5 := H5.out.fd 3
    have hne := H5.out.rd
    have ho5 : Only w1 (w3.setCell ⟨b, 0, none⟩ (.slice A3 (n - k) c3)) (df d b A n c) := ((Only.of_below (below_step (below_drew hb2) hb3) _).set b 0 _ (.inl (.inr (.inl rfl))))
    have hv5 : OB 5 (w3.setCell ⟨b, 0, none⟩ (.slice A3 (n - k) c3)) w1.heap.size v2 (D.held.take k) := ((hO2.below (below_drew (Below.refl _ _))).below hb3).kept (grown_set w3 b 0 _) (.inr (fun e => by have := hO2.from b e; have := lt_of_block H.out.bk; omega))
    have hsz : w2.heap.size ≤ w3.heap.size := hb3.size
    generalize w3.setCell ⟨b, 0, none⟩ (.slice A3 (n - k) c3) = w5 at *
    clear hHeld hrd hcut h0d h1d h0 hf3 hb3c hne
    go_wp2_with fail
    go_ret
    have hs2 := hb2.size
    have hd1 := lt_of_block H.out.dk
    have hb1 := lt_of_block H.out.bk
    have h3f : ∀ j, rf (.slice A3 (n - k) c3) j → w2.heap.size ≤ j := fun j hj => hO3.from j hj
    refine ⟨v2, rfl, hv5.kept (grown_set w5 d 3 _) (.inr (fun e => by have := hO2.from d e; omega)), A3, n - k, c3, ?_, ho5.set d 3 _ (.inl (.inl rfl)), ?_, ?_⟩
    · unfold readD; rw [if_neg hk0]; exact H5.out.setOut _
    · rintro j (rfl | rfl | hj)
      · exact .inl (.inl rfl)
      · exact .inl (.inr (.inl rfl))
      · exact .inr (by have := h3f j hj; omega)
    · rintro j hj (rfl | rfl | hk)
      · have := hO2.from _ hj; omega
      · have := hO2.from _ hj; omega
      · have := h3f j hk; have := hO2.old j hj; omega
end
end Go.Proofs.Ytodhcgidmdeifaa
