/- The contract of the document's Lose. -/
import Derived.Test.YtodhcgidmdeifaaDuS
namespace Go.Proofs.Ytodhcgidmdeifaa
open Go.RowKit Go.Kit Go.Proofs.YtodhcgidmdeifaaW.PrintWords
section
variable {w : World} {q n c : Nat} {A : Option Addr} {D : Dk}
set_option maxHeartbeats 1000000 in
theorem rLose_bad (h : QS w q A n c D) (at_ z : Int) (hb : ¬ (0 ≤ at_ ∧ at_ ≤ n)) : Calls Try.prog 38 #[.pointer (some ⟨q, 0, none⟩), .int .i64 at_, .int .i64 z] w fun e w' => e = .returned (.tuple #[.int .i64 0, .int .i64 30]) ∧ w' = w := by
  have h1 := h.q1
  clear h
  go_enter Try.func38, Try.ntmps38
  by_cases h3 : at_ < 0
  · clear hb
    go_wp2_with fail
    go_ret2
    exact ⟨rfl, rfl⟩
  · have h4 : at_ > (n : Int) := by omega
    clear hb
    go_wp2_with fail
    go_ret2
    exact ⟨rfl, rfl⟩
set_option maxHeartbeats 1000000 in
theorem rLose_neg (h : QS w q A n c D) (i : Nat) (hi : i ≤ n) (z : Int) (hz : z < 0) : Calls Try.prog 38 #[.pointer (some ⟨q, 0, none⟩), .int .i64 (i : Int), .int .i64 z] w fun e w' => e = .returned (.tuple #[.int .i64 0, .int .i64 1]) ∧ w' = w := by
  have h1 := h.q1
  have h2 : ¬ ((i : Int) > (n : Int)) := by omega
  clear h
  go_enter Try.func38, Try.ntmps38
  go_wp2_with fail
  go_ret2
  exact ⟨rfl, rfl⟩
set_option maxHeartbeats 4000000 in
set_option maxRecDepth 100000 in
theorem rLose_core (h : QS w q A n c D) (i : Nat) (hi : i ≤ n) (z : Int) (hz : 0 ≤ z) (k : Nat) (hk : (z > (n : Int) - (i : Int) ∧ (k : Int) = (n : Int) - (i : Int)) ∨ (¬ z > (n : Int) - (i : Int) ∧ z = (k : Int))) : Calls Try.prog 38 #[.pointer (some ⟨q, 0, none⟩), .int .i64 (i : Int), .int .i64 z] w fun e w' => ∃ A1 n1 c1, e = .returned (.tuple #[.int .i64 (k : Int), .int .i64 0]) ∧ QS w' q A1 n1 c1 (loseD D i k) ∧ Only w w' (qf q A n c) ∧ Onto w (qf q A n c) (qf q A1 n1 c1) := by
  have h1 := h.q1
  have H := Lib.hid h
  have hmx := h.max
  have hcap := h.cap
  have h2 : ¬ ((i : Int) > (n : Int)) := by omega
  have h3 : ¬ z < 0 := by omega
  have h4 : (i : Int) ≤ (n : Int) := by omega
  have hik : i + k ≤ n := by omega
  have hik2 : (i : Int) + (k : Int) ≤ (n : Int) := by omega
  have hic : (i : Int) ≤ (c : Int) := by omega
  have hwr : IntKind.i64.wrap ((i : Int) + (k : Int)) = (i : Int) + (k : Int) := by rw [IntKind.wrap_i64]; omega
  have hDd : QS w.drew q A n c D := h.drewN 1
  have h0d := hDd.q0
  have h1d := hDd.q1
  have hr1 := RB.take_ (hDd.row.rb hDd.len.symm) i hi
  obtain ⟨A', hcut, hA'⟩ := cut_bytes A n c (i + k) hik hcap
  rw [Int.natCast_add] at hcut
  have hr2 := hA' _ _ (hDd.row.rb hDd.len.symm)
  have hl : (D.held.take i ++ D.held.drop (i + k)).length = n - k := by rw [List.length_append, List.length_take, List.length_drop, hDd.len]; omega
  have HL := Lib.hid hl
  have HDd := Lib.hid hDd
  clear h hDd hA' hz hl
  go_enter Try.func38, Try.ntmps38
  rcases hk with ⟨hk1, hk2⟩ | ⟨hk1, rfl⟩
  · have hk3 : z > (k : Int) := by omega
    have hs2 : (n : Int) - (i : Int) = (k : Int) := hk2.symm
    clear hk1 hk2
    go_wp2_with fail
    clear hs2 hk3
    refine wp_region_held_drew (S := fun w' => w'.cell? ⟨q, 0, none⟩ = some (.int .i64 D.room)) (by kernel_rfl) (h0d) (fun hHeld => ?_)
    refine wpAnyH_take (i := 0) (v := (.pointer (some ⟨q, 0, none⟩))) (oi := ⟨_, _, _, _, _, _⟩) rfl (by kernel_rfl) (by kernel_rfl) (by kernel_rfl) (fun _ _ _ h => h) (Or.inl ⟨by kernel_rfl, fun W hS => ?_⟩) (by assumption) ?_
    · dsimp only at hS; go_split_ands; go_simp
    simp only [Act.put, List.setIfInBounds_toArray, List.set_cons_zero, List.set_cons_succ]
    refine wpAnyH_take (i := 1) (v := (.pointer (some ⟨q, 0, none⟩))) (oi := ⟨_, _, _, _, _, _⟩) rfl (by kernel_rfl) (by kernel_rfl) (by kernel_rfl) (fun _ _ _ h => h) (Or.inl ⟨by kernel_rfl, fun W hS => ?_⟩) (by assumption) ?_
    · dsimp only at hS; go_split_ands; go_simp
    simp only [Act.put, List.setIfInBounds_toArray, List.set_cons_zero, List.set_cons_succ]
    refine wpAnyH_take (i := 2) (v := (.pointer (some ⟨q, 0, none⟩))) (oi := ⟨_, _, _, _, _, _⟩) rfl (by kernel_rfl) (by kernel_rfl) (by kernel_rfl) (fun _ _ _ h => h) (Or.inl ⟨by kernel_rfl, fun W hS => ?_⟩) (by assumption) ?_
    · dsimp only at hS; go_split_ands; go_simp
    simp only [Act.put, List.setIfInBounds_toArray, List.set_cons_zero, List.set_cons_succ]
    refine wpAnyH_take (i := 3) (v := (.pointer (some ⟨q, 1, none⟩))) (oi := ⟨_, _, _, _, _, _⟩) rfl (by kernel_rfl) (by kernel_rfl) (by kernel_rfl) (fun _ _ _ h => h) (Or.inl ⟨by kernel_rfl, fun W hS => ?_⟩) (by assumption) ?_
    · dsimp only at hS; go_split_ands; go_simp
    simp only [Act.put, List.setIfInBounds_toArray, List.set_cons_zero, List.set_cons_succ]
    refine wpAnyH_take (i := 5) (v := (.int .i64 (i : Int))) (oi := ⟨_, _, _, _, _, _⟩) rfl (by kernel_rfl) (by kernel_rfl) (by kernel_rfl) (fun _ _ _ h => h) (Or.inl ⟨by kernel_rfl, fun W hS => ?_⟩) (by assumption) ?_
    · dsimp only at hS; go_split_ands; go_simp
    simp only [Act.put, List.setIfInBounds_toArray, List.set_cons_zero, List.set_cons_succ]
    refine wpAnyH_take (i := 8) (v := (.pointer (some ⟨q, 0, none⟩))) (oi := ⟨_, _, _, _, _, _⟩) rfl (by kernel_rfl) (by kernel_rfl) (by kernel_rfl) (fun _ _ _ h => h) (Or.inl ⟨by kernel_rfl, fun W hS => ?_⟩) (by assumption) ?_
    · dsimp only at hS; go_split_ands; go_simp
    simp only [Act.put, List.setIfInBounds_toArray, List.set_cons_zero, List.set_cons_succ]
    refine wpAnyH_take (i := 9) (v := (.pointer (some ⟨q, 0, none⟩))) (oi := ⟨_, _, _, _, _, _⟩) rfl (by kernel_rfl) (by kernel_rfl) (by kernel_rfl) (fun _ _ _ h => h) (Or.inl ⟨by kernel_rfl, fun W hS => ?_⟩) (by assumption) ?_
    · dsimp only at hS; go_split_ands; go_simp
    simp only [Act.put, List.setIfInBounds_toArray, List.set_cons_zero, List.set_cons_succ]
    refine wpAnyH_take (i := 10) (v := (.pointer (some ⟨q, 1, none⟩))) (oi := ⟨_, _, _, _, _, _⟩) rfl (by kernel_rfl) (by kernel_rfl) (by kernel_rfl) (fun _ _ _ h => h) (Or.inl ⟨by kernel_rfl, fun W hS => ?_⟩) (by assumption) ?_
    · dsimp only at hS; go_split_ands; go_simp
    simp only [Act.put, List.setIfInBounds_toArray, List.set_cons_zero, List.set_cons_succ]
    refine wpAnyH_take (i := 12) (v := (.int .i64 (i : Int))) (oi := ⟨_, _, _, _, _, _⟩) rfl (by kernel_rfl) (by kernel_rfl) (by kernel_rfl) (fun _ _ _ h => h) (Or.inl ⟨by kernel_rfl, fun W hS => ?_⟩) (by assumption) ?_
    · dsimp only at hS; go_split_ands; go_simp
    simp only [Act.put, List.setIfInBounds_toArray, List.set_cons_zero, List.set_cons_succ]
    refine wpAnyH_take (i := 13) (v := (.int .i64 (k : Int))) (oi := ⟨_, _, _, _, _, _⟩) rfl (by kernel_rfl) (by kernel_rfl) (by kernel_rfl) (fun _ _ _ h => h) (Or.inl ⟨by kernel_rfl, fun W hS => ?_⟩) (by assumption) ?_
    · dsimp only at hS; go_split_ands; go_simp
    simp only [Act.put, List.setIfInBounds_toArray, List.set_cons_zero, List.set_cons_succ]
    refine wpAnyH_take (i := 14) (v := (.int .i64 ((i : Int) + (k : Int)))) (oi := ⟨_, _, _, _, _, _⟩) rfl (by kernel_rfl) (by kernel_rfl) (by kernel_rfl) (fun _ _ _ h => h) (Or.inl ⟨by kernel_rfl, fun W hS => ?_⟩) (by assumption) ?_
    · dsimp only at hS; go_split_ands; go_simp
    simp only [Act.put, List.setIfInBounds_toArray, List.set_cons_zero, List.set_cons_succ]
    refine wpAnyH_ready (rs := [4, 11]) (by kernel_rfl) (by decide) (AllReadyH.cons (o := ⟨_, _, _, _, _, _⟩) rfl (fun K hK => ?_) (AllReadyH.cons (o := ⟨_, _, _, _, _, _⟩) rfl (fun K hK => ?_) AllReadyH.nil))
    · skip
      rw [if_pos (by kernel_rfl)]
      go_simp
      refine hK.out _ _ (hHeld) (fun hHeld => ?_)
      clear hK K
      try simp only [Act.put, List.setIfInBounds_toArray, List.set_cons_zero, List.set_cons_succ]
      refine wpAnyH_take (i := 6) (v := (.slice A i c)) (oi := ⟨_, _, _, _, _, _⟩) rfl (by kernel_rfl) (by kernel_rfl) (by kernel_rfl) (fun _ _ _ h => h) (Or.inl ⟨by kernel_rfl, fun W hS => ?_⟩) (by assumption) ?_
      · dsimp only at hS; go_split_ands; go_simp
      simp only [Act.put, List.setIfInBounds_toArray, List.set_cons_zero, List.set_cons_succ]
      refine wpAnyH_ready (rs := [7, 11]) (by kernel_rfl) (by decide) (AllReadyH.cons (o := ⟨_, _, _, _, _, _⟩) rfl (fun K hK => ?_) (AllReadyH.cons (o := ⟨_, _, _, _, _, _⟩) rfl (fun K hK => ?_) AllReadyH.nil))
      · skip
        refine at_list rfl ?_; intro Q2 hQ2; at_builtin; refine print_append_row (w0 := w.drew) w.drew.heap.size rfl (.const (.slice none 0 0)) (.tmp 43) 22 5 .u8 1 rfl Try.underlying22 u8_info (by decide) (.slice none 0 0) [] (D.held.take i) A i c rfl rfl (own_nil _ _ _ _) hr1.rd (Below.refl _ _) (by first | exact Nat.le_refl _ | exact Nat.zero_le _) (by simp; omega) ?_; intro v3 w3 hown hb3 hg3 ha3; have hO3 : OB 5 w3 w.drew.heap.size v3 (D.held.take i) := ⟨by simpa using hown, hr1.byt⟩; clear hown ha3 hg3; have h1d3 := pw_cell_below hb3 h1d; refine hQ2 _ _ ?_; clear hQ2 Q2
        refine hK.out _ _ (pw_cell_below hb3 h0d) (fun hHeld => ?_)
        clear hK K
        try simp only [Act.put, List.setIfInBounds_toArray, List.set_cons_zero, List.set_cons_succ]
        refine wpAnyH_ready (rs := [11]) (by kernel_rfl) (by decide) (AllReadyH.cons (o := ⟨_, _, _, _, _, _⟩) rfl (fun K hK => ?_) AllReadyH.nil)
        rw [if_pos (by kernel_rfl)]
        go_simp
        refine hK.out _ _ (hHeld) (fun hHeld => ?_)
        clear hK K
        try simp only [Act.put, List.setIfInBounds_toArray, List.set_cons_zero, List.set_cons_succ]
        refine wpAnyH_take (i := 15) (v := (.slice A' (n - (i + k)) (c - (i + k)))) (oi := ⟨_, _, _, _, _, _⟩) rfl (by kernel_rfl) (by kernel_rfl) (by kernel_rfl) (fun _ _ _ h => h) (Or.inl ⟨by kernel_rfl, fun W hS => ?_⟩) (by assumption) ?_
        · dsimp only at hS; go_split_ands; go_simp
        simp only [Act.put, List.setIfInBounds_toArray, List.set_cons_zero, List.set_cons_succ]
        refine wpAnyH_ready (rs := [16]) (by kernel_rfl) (by decide) (AllReadyH.cons (o := ⟨_, _, _, _, _, _⟩) rfl (fun K hK => ?_) AllReadyH.nil)
        refine at_list rfl ?_; intro Q2 hQ2; at_builtin; refine print_append_row (w0 := w.drew) w.drew.heap.size rfl (.tmp 44) (.tmp 52) 22 5 .u8 1 rfl Try.underlying22 u8_info (by decide) v3 (D.held.take i) (D.held.drop (i + k)) A' (n - (i + k)) (c - (i + k)) rfl rfl hO3.own (hr2.below hb3).rd hb3 hb3.size (by rw [List.length_take, HDd.out.len]; omega) ?_; intro v4 w4 hown4 hb4 hg4 ha4; have hO4 : OB 5 w4 w.drew.heap.size v4 (D.held.take i ++ D.held.drop (i + k)) := ⟨hown4, hr1.byt.append hr2.byt⟩; clear hown4 ha4 hg4; obtain ⟨A4, c4, rfl, _, _⟩ := hO4.reads'; rw [HL.out] at hO4 ⊢; refine hQ2 _ _ ?_; clear hQ2 Q2
        refine hK.out _ _ (pw_cell_below hb4 h0d) (fun hHeld => ?_)
        clear hK K
        try simp only [Act.put, List.setIfInBounds_toArray, List.set_cons_zero, List.set_cons_succ]
        refine wpAnyH_take (i := 17) (v := (.pointer (some ⟨q, 0, none⟩))) (oi := ⟨_, _, _, _, _, _⟩) rfl (by kernel_rfl) (by kernel_rfl) (by kernel_rfl) (fun _ _ _ h => h) (Or.inl ⟨by kernel_rfl, fun W hS => ?_⟩) (by assumption) ?_
        · dsimp only at hS; go_split_ands; go_simp
        simp only [Act.put, List.setIfInBounds_toArray, List.set_cons_zero, List.set_cons_succ]
        refine wpAnyH_take (i := 18) (v := (.pointer (some ⟨q, 1, none⟩))) (oi := ⟨_, _, _, _, _, _⟩) rfl (by kernel_rfl) (by kernel_rfl) (by kernel_rfl) (fun _ _ _ h => h) (Or.inl ⟨by kernel_rfl, fun W hS => ?_⟩) (by assumption) ?_
        · dsimp only at hS; go_split_ands; go_simp
        simp only [Act.put, List.setIfInBounds_toArray, List.set_cons_zero, List.set_cons_succ]
        refine wpAnyH_ready (rs := [19]) (by kernel_rfl) (by decide) (AllReadyH.cons (o := ⟨_, _, _, _, _, _⟩) rfl (fun K hK => ?_) AllReadyH.nil)
        have hD4 := HDd.out.below hb4
        have hb4c := hD4.q1
        have hf4 := hD4.fq 1
        rw [if_pos (by kernel_rfl)]
        go_simp
        refine hK.out _ _ (by have hsc := World.cell?_setCell_other (w := w4) (a := ⟨q, 1, none⟩) (b := ⟨q, 0, none⟩) (v := .slice A4 (n - k) c4) (by simp); rw [hsc]; exact hHeld) (fun hHeld => ?_)
        clear hK K
        try simp only [Act.put, List.setIfInBounds_toArray, List.set_cons_zero, List.set_cons_succ]
        refine wpAnyH_done (by kernel_rfl) ?_ _
        have H5 := Lib.hid (hD4.setHeld (grown_refl w4) (.inl rfl) (hO4.less (Nat.zero_le _)) HL.out (by have := HDd.out.fit; omega))
        have hd5 := H5.out.q6
        have hf5 := H5.out.fq 6
        have ho5 : Only w (w4.setCell ⟨q, 1, none⟩ (.slice A4 (n - k) c4)) (qf q A n c) := ((Only.of_below (below_step (below_drew (Below.refl _ _)) hb4) _).set q 1 _ (.inl (.inl rfl)))
        have hfr : ∀ j, rf (.slice A4 (n - k) c4) j → w.heap.size ≤ j := fun j hj => hO4.from j hj
        clear hHeld hr1 hr2 hcut h0d h1d hb4c hf4 hD4 hO4 hO3 h1d3
        generalize w4.setCell ⟨q, 1, none⟩ (.slice A4 (n - k) c4) = w5 at *
        go_wp2_with fail
        go_ret2
        refine ⟨rfl, A4, n - k, c4, ?_, ho5.set q 6 _ (.inl (.inl rfl)), ?_⟩
        · exact H5.out.setLost _
        · rintro j (rfl | hj)
          · exact .inl (.inl rfl)
          · exact .inr (hfr j hj)
      · skip
        rw [if_pos (by kernel_rfl)]
        go_simp
        refine hK.out _ _ (hHeld) (fun hHeld => ?_)
        clear hK K
        try simp only [Act.put, List.setIfInBounds_toArray, List.set_cons_zero, List.set_cons_succ]
        refine wpAnyH_take (i := 15) (v := (.slice A' (n - (i + k)) (c - (i + k)))) (oi := ⟨_, _, _, _, _, _⟩) rfl (by kernel_rfl) (by kernel_rfl) (by kernel_rfl) (fun _ _ _ h => h) (Or.inl ⟨by kernel_rfl, fun W hS => ?_⟩) (by assumption) ?_
        · dsimp only at hS; go_split_ands; go_simp
        simp only [Act.put, List.setIfInBounds_toArray, List.set_cons_zero, List.set_cons_succ]
        refine wpAnyH_ready (rs := [7]) (by kernel_rfl) (by decide) (AllReadyH.cons (o := ⟨_, _, _, _, _, _⟩) rfl (fun K hK => ?_) AllReadyH.nil)
        refine at_list rfl ?_; intro Q2 hQ2; at_builtin; refine print_append_row (w0 := w.drew) w.drew.heap.size rfl (.const (.slice none 0 0)) (.tmp 43) 22 5 .u8 1 rfl Try.underlying22 u8_info (by decide) (.slice none 0 0) [] (D.held.take i) A i c rfl rfl (own_nil _ _ _ _) hr1.rd (Below.refl _ _) (by first | exact Nat.le_refl _ | exact Nat.zero_le _) (by simp; omega) ?_; intro v3 w3 hown hb3 hg3 ha3; have hO3 : OB 5 w3 w.drew.heap.size v3 (D.held.take i) := ⟨by simpa using hown, hr1.byt⟩; clear hown ha3 hg3; have h1d3 := pw_cell_below hb3 h1d; refine hQ2 _ _ ?_; clear hQ2 Q2
        refine hK.out _ _ (pw_cell_below hb3 h0d) (fun hHeld => ?_)
        clear hK K
        try simp only [Act.put, List.setIfInBounds_toArray, List.set_cons_zero, List.set_cons_succ]
        refine wpAnyH_ready (rs := [16]) (by kernel_rfl) (by decide) (AllReadyH.cons (o := ⟨_, _, _, _, _, _⟩) rfl (fun K hK => ?_) AllReadyH.nil)
        refine at_list rfl ?_; intro Q2 hQ2; at_builtin; refine print_append_row (w0 := w.drew) w.drew.heap.size rfl (.tmp 44) (.tmp 52) 22 5 .u8 1 rfl Try.underlying22 u8_info (by decide) v3 (D.held.take i) (D.held.drop (i + k)) A' (n - (i + k)) (c - (i + k)) rfl rfl hO3.own (hr2.below hb3).rd hb3 hb3.size (by rw [List.length_take, HDd.out.len]; omega) ?_; intro v4 w4 hown4 hb4 hg4 ha4; have hO4 : OB 5 w4 w.drew.heap.size v4 (D.held.take i ++ D.held.drop (i + k)) := ⟨hown4, hr1.byt.append hr2.byt⟩; clear hown4 ha4 hg4; obtain ⟨A4, c4, rfl, _, _⟩ := hO4.reads'; rw [HL.out] at hO4 ⊢; refine hQ2 _ _ ?_; clear hQ2 Q2
        refine hK.out _ _ (pw_cell_below hb4 h0d) (fun hHeld => ?_)
        clear hK K
        try simp only [Act.put, List.setIfInBounds_toArray, List.set_cons_zero, List.set_cons_succ]
        refine wpAnyH_take (i := 17) (v := (.pointer (some ⟨q, 0, none⟩))) (oi := ⟨_, _, _, _, _, _⟩) rfl (by kernel_rfl) (by kernel_rfl) (by kernel_rfl) (fun _ _ _ h => h) (Or.inl ⟨by kernel_rfl, fun W hS => ?_⟩) (by assumption) ?_
        · dsimp only at hS; go_split_ands; go_simp
        simp only [Act.put, List.setIfInBounds_toArray, List.set_cons_zero, List.set_cons_succ]
        refine wpAnyH_take (i := 18) (v := (.pointer (some ⟨q, 1, none⟩))) (oi := ⟨_, _, _, _, _, _⟩) rfl (by kernel_rfl) (by kernel_rfl) (by kernel_rfl) (fun _ _ _ h => h) (Or.inl ⟨by kernel_rfl, fun W hS => ?_⟩) (by assumption) ?_
        · dsimp only at hS; go_split_ands; go_simp
        simp only [Act.put, List.setIfInBounds_toArray, List.set_cons_zero, List.set_cons_succ]
        refine wpAnyH_ready (rs := [19]) (by kernel_rfl) (by decide) (AllReadyH.cons (o := ⟨_, _, _, _, _, _⟩) rfl (fun K hK => ?_) AllReadyH.nil)
        have hD4 := HDd.out.below hb4
        have hb4c := hD4.q1
        have hf4 := hD4.fq 1
        rw [if_pos (by kernel_rfl)]
        go_simp
        refine hK.out _ _ (by have hsc := World.cell?_setCell_other (w := w4) (a := ⟨q, 1, none⟩) (b := ⟨q, 0, none⟩) (v := .slice A4 (n - k) c4) (by simp); rw [hsc]; exact hHeld) (fun hHeld => ?_)
        clear hK K
        try simp only [Act.put, List.setIfInBounds_toArray, List.set_cons_zero, List.set_cons_succ]
        refine wpAnyH_done (by kernel_rfl) ?_ _
        have H5 := Lib.hid (hD4.setHeld (grown_refl w4) (.inl rfl) (hO4.less (Nat.zero_le _)) HL.out (by have := HDd.out.fit; omega))
        have hd5 := H5.out.q6
        have hf5 := H5.out.fq 6
        have ho5 : Only w (w4.setCell ⟨q, 1, none⟩ (.slice A4 (n - k) c4)) (qf q A n c) := ((Only.of_below (below_step (below_drew (Below.refl _ _)) hb4) _).set q 1 _ (.inl (.inl rfl)))
        have hfr : ∀ j, rf (.slice A4 (n - k) c4) j → w.heap.size ≤ j := fun j hj => hO4.from j hj
        clear hHeld hr1 hr2 hcut h0d h1d hb4c hf4 hD4 hO4 hO3 h1d3
        generalize w4.setCell ⟨q, 1, none⟩ (.slice A4 (n - k) c4) = w5 at *
        go_wp2_with fail
        go_ret2
        refine ⟨rfl, A4, n - k, c4, ?_, ho5.set q 6 _ (.inl (.inl rfl)), ?_⟩
        · exact H5.out.setLost _
        · rintro j (rfl | hj)
          · exact .inl (.inl rfl)
          · exact .inr (hfr j hj)
    · skip
      rw [if_pos (by kernel_rfl)]
      go_simp
      refine hK.out _ _ (hHeld) (fun hHeld => ?_)
      clear hK K
      try simp only [Act.put, List.setIfInBounds_toArray, List.set_cons_zero, List.set_cons_succ]
      refine wpAnyH_take (i := 15) (v := (.slice A' (n - (i + k)) (c - (i + k)))) (oi := ⟨_, _, _, _, _, _⟩) rfl (by kernel_rfl) (by kernel_rfl) (by kernel_rfl) (fun _ _ _ h => h) (Or.inl ⟨by kernel_rfl, fun W hS => ?_⟩) (by assumption) ?_
      · dsimp only at hS; go_split_ands; go_simp
      simp only [Act.put, List.setIfInBounds_toArray, List.set_cons_zero, List.set_cons_succ]
      refine wpAnyH_ready (rs := [4]) (by kernel_rfl) (by decide) (AllReadyH.cons (o := ⟨_, _, _, _, _, _⟩) rfl (fun K hK => ?_) AllReadyH.nil)
      rw [if_pos (by kernel_rfl)]
      go_simp
      refine hK.out _ _ (hHeld) (fun hHeld => ?_)
      clear hK K
      try simp only [Act.put, List.setIfInBounds_toArray, List.set_cons_zero, List.set_cons_succ]
      refine wpAnyH_take (i := 6) (v := (.slice A i c)) (oi := ⟨_, _, _, _, _, _⟩) rfl (by kernel_rfl) (by kernel_rfl) (by kernel_rfl) (fun _ _ _ h => h) (Or.inl ⟨by kernel_rfl, fun W hS => ?_⟩) (by assumption) ?_
      · dsimp only at hS; go_split_ands; go_simp
      simp only [Act.put, List.setIfInBounds_toArray, List.set_cons_zero, List.set_cons_succ]
      refine wpAnyH_ready (rs := [7]) (by kernel_rfl) (by decide) (AllReadyH.cons (o := ⟨_, _, _, _, _, _⟩) rfl (fun K hK => ?_) AllReadyH.nil)
      refine at_list rfl ?_; intro Q2 hQ2; at_builtin; refine print_append_row (w0 := w.drew) w.drew.heap.size rfl (.const (.slice none 0 0)) (.tmp 43) 22 5 .u8 1 rfl Try.underlying22 u8_info (by decide) (.slice none 0 0) [] (D.held.take i) A i c rfl rfl (own_nil _ _ _ _) hr1.rd (Below.refl _ _) (by first | exact Nat.le_refl _ | exact Nat.zero_le _) (by simp; omega) ?_; intro v3 w3 hown hb3 hg3 ha3; have hO3 : OB 5 w3 w.drew.heap.size v3 (D.held.take i) := ⟨by simpa using hown, hr1.byt⟩; clear hown ha3 hg3; have h1d3 := pw_cell_below hb3 h1d; refine hQ2 _ _ ?_; clear hQ2 Q2
      refine hK.out _ _ (pw_cell_below hb3 h0d) (fun hHeld => ?_)
      clear hK K
      try simp only [Act.put, List.setIfInBounds_toArray, List.set_cons_zero, List.set_cons_succ]
      refine wpAnyH_ready (rs := [16]) (by kernel_rfl) (by decide) (AllReadyH.cons (o := ⟨_, _, _, _, _, _⟩) rfl (fun K hK => ?_) AllReadyH.nil)
      refine at_list rfl ?_; intro Q2 hQ2; at_builtin; refine print_append_row (w0 := w.drew) w.drew.heap.size rfl (.tmp 44) (.tmp 52) 22 5 .u8 1 rfl Try.underlying22 u8_info (by decide) v3 (D.held.take i) (D.held.drop (i + k)) A' (n - (i + k)) (c - (i + k)) rfl rfl hO3.own (hr2.below hb3).rd hb3 hb3.size (by rw [List.length_take, HDd.out.len]; omega) ?_; intro v4 w4 hown4 hb4 hg4 ha4; have hO4 : OB 5 w4 w.drew.heap.size v4 (D.held.take i ++ D.held.drop (i + k)) := ⟨hown4, hr1.byt.append hr2.byt⟩; clear hown4 ha4 hg4; obtain ⟨A4, c4, rfl, _, _⟩ := hO4.reads'; rw [HL.out] at hO4 ⊢; refine hQ2 _ _ ?_; clear hQ2 Q2
      refine hK.out _ _ (pw_cell_below hb4 h0d) (fun hHeld => ?_)
      clear hK K
      try simp only [Act.put, List.setIfInBounds_toArray, List.set_cons_zero, List.set_cons_succ]
      refine wpAnyH_take (i := 17) (v := (.pointer (some ⟨q, 0, none⟩))) (oi := ⟨_, _, _, _, _, _⟩) rfl (by kernel_rfl) (by kernel_rfl) (by kernel_rfl) (fun _ _ _ h => h) (Or.inl ⟨by kernel_rfl, fun W hS => ?_⟩) (by assumption) ?_
      · dsimp only at hS; go_split_ands; go_simp
      simp only [Act.put, List.setIfInBounds_toArray, List.set_cons_zero, List.set_cons_succ]
      refine wpAnyH_take (i := 18) (v := (.pointer (some ⟨q, 1, none⟩))) (oi := ⟨_, _, _, _, _, _⟩) rfl (by kernel_rfl) (by kernel_rfl) (by kernel_rfl) (fun _ _ _ h => h) (Or.inl ⟨by kernel_rfl, fun W hS => ?_⟩) (by assumption) ?_
      · dsimp only at hS; go_split_ands; go_simp
      simp only [Act.put, List.setIfInBounds_toArray, List.set_cons_zero, List.set_cons_succ]
      refine wpAnyH_ready (rs := [19]) (by kernel_rfl) (by decide) (AllReadyH.cons (o := ⟨_, _, _, _, _, _⟩) rfl (fun K hK => ?_) AllReadyH.nil)
      have hD4 := HDd.out.below hb4
      have hb4c := hD4.q1
      have hf4 := hD4.fq 1
      rw [if_pos (by kernel_rfl)]
      go_simp
      refine hK.out _ _ (by have hsc := World.cell?_setCell_other (w := w4) (a := ⟨q, 1, none⟩) (b := ⟨q, 0, none⟩) (v := .slice A4 (n - k) c4) (by simp); rw [hsc]; exact hHeld) (fun hHeld => ?_)
      clear hK K
      try simp only [Act.put, List.setIfInBounds_toArray, List.set_cons_zero, List.set_cons_succ]
      refine wpAnyH_done (by kernel_rfl) ?_ _
      have H5 := Lib.hid (hD4.setHeld (grown_refl w4) (.inl rfl) (hO4.less (Nat.zero_le _)) HL.out (by have := HDd.out.fit; omega))
      have hd5 := H5.out.q6
      have hf5 := H5.out.fq 6
      have ho5 : Only w (w4.setCell ⟨q, 1, none⟩ (.slice A4 (n - k) c4)) (qf q A n c) := ((Only.of_below (below_step (below_drew (Below.refl _ _)) hb4) _).set q 1 _ (.inl (.inl rfl)))
      have hfr : ∀ j, rf (.slice A4 (n - k) c4) j → w.heap.size ≤ j := fun j hj => hO4.from j hj
      clear hHeld hr1 hr2 hcut h0d h1d hb4c hf4 hD4 hO4 hO3 h1d3
      generalize w4.setCell ⟨q, 1, none⟩ (.slice A4 (n - k) c4) = w5 at *
      go_wp2_with fail
      go_ret2
      refine ⟨rfl, A4, n - k, c4, ?_, ho5.set q 6 _ (.inl (.inl rfl)), ?_⟩
      · exact H5.out.setLost _
      · rintro j (rfl | hj)
        · exact .inl (.inl rfl)
        · exact .inr (hfr j hj)
  · go_wp2_with fail
    refine wp_region_held_drew (S := fun w' => w'.cell? ⟨q, 0, none⟩ = some (.int .i64 D.room)) (by kernel_rfl) (h0d) (fun hHeld => ?_)
    refine wpAnyH_take (i := 0) (v := (.pointer (some ⟨q, 0, none⟩))) (oi := ⟨_, _, _, _, _, _⟩) rfl (by kernel_rfl) (by kernel_rfl) (by kernel_rfl) (fun _ _ _ h => h) (Or.inl ⟨by kernel_rfl, fun W hS => ?_⟩) (by assumption) ?_
    · dsimp only at hS; go_split_ands; go_simp
    simp only [Act.put, List.setIfInBounds_toArray, List.set_cons_zero, List.set_cons_succ]
    refine wpAnyH_take (i := 1) (v := (.pointer (some ⟨q, 0, none⟩))) (oi := ⟨_, _, _, _, _, _⟩) rfl (by kernel_rfl) (by kernel_rfl) (by kernel_rfl) (fun _ _ _ h => h) (Or.inl ⟨by kernel_rfl, fun W hS => ?_⟩) (by assumption) ?_
    · dsimp only at hS; go_split_ands; go_simp
    simp only [Act.put, List.setIfInBounds_toArray, List.set_cons_zero, List.set_cons_succ]
    refine wpAnyH_take (i := 2) (v := (.pointer (some ⟨q, 0, none⟩))) (oi := ⟨_, _, _, _, _, _⟩) rfl (by kernel_rfl) (by kernel_rfl) (by kernel_rfl) (fun _ _ _ h => h) (Or.inl ⟨by kernel_rfl, fun W hS => ?_⟩) (by assumption) ?_
    · dsimp only at hS; go_split_ands; go_simp
    simp only [Act.put, List.setIfInBounds_toArray, List.set_cons_zero, List.set_cons_succ]
    refine wpAnyH_take (i := 3) (v := (.pointer (some ⟨q, 1, none⟩))) (oi := ⟨_, _, _, _, _, _⟩) rfl (by kernel_rfl) (by kernel_rfl) (by kernel_rfl) (fun _ _ _ h => h) (Or.inl ⟨by kernel_rfl, fun W hS => ?_⟩) (by assumption) ?_
    · dsimp only at hS; go_split_ands; go_simp
    simp only [Act.put, List.setIfInBounds_toArray, List.set_cons_zero, List.set_cons_succ]
    refine wpAnyH_take (i := 5) (v := (.int .i64 (i : Int))) (oi := ⟨_, _, _, _, _, _⟩) rfl (by kernel_rfl) (by kernel_rfl) (by kernel_rfl) (fun _ _ _ h => h) (Or.inl ⟨by kernel_rfl, fun W hS => ?_⟩) (by assumption) ?_
    · dsimp only at hS; go_split_ands; go_simp
    simp only [Act.put, List.setIfInBounds_toArray, List.set_cons_zero, List.set_cons_succ]
    refine wpAnyH_take (i := 8) (v := (.pointer (some ⟨q, 0, none⟩))) (oi := ⟨_, _, _, _, _, _⟩) rfl (by kernel_rfl) (by kernel_rfl) (by kernel_rfl) (fun _ _ _ h => h) (Or.inl ⟨by kernel_rfl, fun W hS => ?_⟩) (by assumption) ?_
    · dsimp only at hS; go_split_ands; go_simp
    simp only [Act.put, List.setIfInBounds_toArray, List.set_cons_zero, List.set_cons_succ]
    refine wpAnyH_take (i := 9) (v := (.pointer (some ⟨q, 0, none⟩))) (oi := ⟨_, _, _, _, _, _⟩) rfl (by kernel_rfl) (by kernel_rfl) (by kernel_rfl) (fun _ _ _ h => h) (Or.inl ⟨by kernel_rfl, fun W hS => ?_⟩) (by assumption) ?_
    · dsimp only at hS; go_split_ands; go_simp
    simp only [Act.put, List.setIfInBounds_toArray, List.set_cons_zero, List.set_cons_succ]
    refine wpAnyH_take (i := 10) (v := (.pointer (some ⟨q, 1, none⟩))) (oi := ⟨_, _, _, _, _, _⟩) rfl (by kernel_rfl) (by kernel_rfl) (by kernel_rfl) (fun _ _ _ h => h) (Or.inl ⟨by kernel_rfl, fun W hS => ?_⟩) (by assumption) ?_
    · dsimp only at hS; go_split_ands; go_simp
    simp only [Act.put, List.setIfInBounds_toArray, List.set_cons_zero, List.set_cons_succ]
    refine wpAnyH_take (i := 12) (v := (.int .i64 (i : Int))) (oi := ⟨_, _, _, _, _, _⟩) rfl (by kernel_rfl) (by kernel_rfl) (by kernel_rfl) (fun _ _ _ h => h) (Or.inl ⟨by kernel_rfl, fun W hS => ?_⟩) (by assumption) ?_
    · dsimp only at hS; go_split_ands; go_simp
    simp only [Act.put, List.setIfInBounds_toArray, List.set_cons_zero, List.set_cons_succ]
    refine wpAnyH_take (i := 13) (v := (.int .i64 (k : Int))) (oi := ⟨_, _, _, _, _, _⟩) rfl (by kernel_rfl) (by kernel_rfl) (by kernel_rfl) (fun _ _ _ h => h) (Or.inl ⟨by kernel_rfl, fun W hS => ?_⟩) (by assumption) ?_
    · dsimp only at hS; go_split_ands; go_simp
    simp only [Act.put, List.setIfInBounds_toArray, List.set_cons_zero, List.set_cons_succ]
    refine wpAnyH_take (i := 14) (v := (.int .i64 ((i : Int) + (k : Int)))) (oi := ⟨_, _, _, _, _, _⟩) rfl (by kernel_rfl) (by kernel_rfl) (by kernel_rfl) (fun _ _ _ h => h) (Or.inl ⟨by kernel_rfl, fun W hS => ?_⟩) (by assumption) ?_
    · dsimp only at hS; go_split_ands; go_simp
    simp only [Act.put, List.setIfInBounds_toArray, List.set_cons_zero, List.set_cons_succ]
    refine wpAnyH_ready (rs := [4, 11]) (by kernel_rfl) (by decide) (AllReadyH.cons (o := ⟨_, _, _, _, _, _⟩) rfl (fun K hK => ?_) (AllReadyH.cons (o := ⟨_, _, _, _, _, _⟩) rfl (fun K hK => ?_) AllReadyH.nil))
    · skip
      rw [if_pos (by kernel_rfl)]
      go_simp
      refine hK.out _ _ (hHeld) (fun hHeld => ?_)
      clear hK K
      try simp only [Act.put, List.setIfInBounds_toArray, List.set_cons_zero, List.set_cons_succ]
      refine wpAnyH_take (i := 6) (v := (.slice A i c)) (oi := ⟨_, _, _, _, _, _⟩) rfl (by kernel_rfl) (by kernel_rfl) (by kernel_rfl) (fun _ _ _ h => h) (Or.inl ⟨by kernel_rfl, fun W hS => ?_⟩) (by assumption) ?_
      · dsimp only at hS; go_split_ands; go_simp
      simp only [Act.put, List.setIfInBounds_toArray, List.set_cons_zero, List.set_cons_succ]
      refine wpAnyH_ready (rs := [7, 11]) (by kernel_rfl) (by decide) (AllReadyH.cons (o := ⟨_, _, _, _, _, _⟩) rfl (fun K hK => ?_) (AllReadyH.cons (o := ⟨_, _, _, _, _, _⟩) rfl (fun K hK => ?_) AllReadyH.nil))
      · skip
        refine at_list rfl ?_; intro Q2 hQ2; at_builtin; refine print_append_row (w0 := w.drew) w.drew.heap.size rfl (.const (.slice none 0 0)) (.tmp 43) 22 5 .u8 1 rfl Try.underlying22 u8_info (by decide) (.slice none 0 0) [] (D.held.take i) A i c rfl rfl (own_nil _ _ _ _) hr1.rd (Below.refl _ _) (by first | exact Nat.le_refl _ | exact Nat.zero_le _) (by simp; omega) ?_; intro v3 w3 hown hb3 hg3 ha3; have hO3 : OB 5 w3 w.drew.heap.size v3 (D.held.take i) := ⟨by simpa using hown, hr1.byt⟩; clear hown ha3 hg3; have h1d3 := pw_cell_below hb3 h1d; refine hQ2 _ _ ?_; clear hQ2 Q2
        refine hK.out _ _ (pw_cell_below hb3 h0d) (fun hHeld => ?_)
        clear hK K
        try simp only [Act.put, List.setIfInBounds_toArray, List.set_cons_zero, List.set_cons_succ]
        refine wpAnyH_ready (rs := [11]) (by kernel_rfl) (by decide) (AllReadyH.cons (o := ⟨_, _, _, _, _, _⟩) rfl (fun K hK => ?_) AllReadyH.nil)
        rw [if_pos (by kernel_rfl)]
        go_simp
        refine hK.out _ _ (hHeld) (fun hHeld => ?_)
        clear hK K
        try simp only [Act.put, List.setIfInBounds_toArray, List.set_cons_zero, List.set_cons_succ]
        refine wpAnyH_take (i := 15) (v := (.slice A' (n - (i + k)) (c - (i + k)))) (oi := ⟨_, _, _, _, _, _⟩) rfl (by kernel_rfl) (by kernel_rfl) (by kernel_rfl) (fun _ _ _ h => h) (Or.inl ⟨by kernel_rfl, fun W hS => ?_⟩) (by assumption) ?_
        · dsimp only at hS; go_split_ands; go_simp
        simp only [Act.put, List.setIfInBounds_toArray, List.set_cons_zero, List.set_cons_succ]
        refine wpAnyH_ready (rs := [16]) (by kernel_rfl) (by decide) (AllReadyH.cons (o := ⟨_, _, _, _, _, _⟩) rfl (fun K hK => ?_) AllReadyH.nil)
        refine at_list rfl ?_; intro Q2 hQ2; at_builtin; refine print_append_row (w0 := w.drew) w.drew.heap.size rfl (.tmp 44) (.tmp 52) 22 5 .u8 1 rfl Try.underlying22 u8_info (by decide) v3 (D.held.take i) (D.held.drop (i + k)) A' (n - (i + k)) (c - (i + k)) rfl rfl hO3.own (hr2.below hb3).rd hb3 hb3.size (by rw [List.length_take, HDd.out.len]; omega) ?_; intro v4 w4 hown4 hb4 hg4 ha4; have hO4 : OB 5 w4 w.drew.heap.size v4 (D.held.take i ++ D.held.drop (i + k)) := ⟨hown4, hr1.byt.append hr2.byt⟩; clear hown4 ha4 hg4; obtain ⟨A4, c4, rfl, _, _⟩ := hO4.reads'; rw [HL.out] at hO4 ⊢; refine hQ2 _ _ ?_; clear hQ2 Q2
        refine hK.out _ _ (pw_cell_below hb4 h0d) (fun hHeld => ?_)
        clear hK K
        try simp only [Act.put, List.setIfInBounds_toArray, List.set_cons_zero, List.set_cons_succ]
        refine wpAnyH_take (i := 17) (v := (.pointer (some ⟨q, 0, none⟩))) (oi := ⟨_, _, _, _, _, _⟩) rfl (by kernel_rfl) (by kernel_rfl) (by kernel_rfl) (fun _ _ _ h => h) (Or.inl ⟨by kernel_rfl, fun W hS => ?_⟩) (by assumption) ?_
        · dsimp only at hS; go_split_ands; go_simp
        simp only [Act.put, List.setIfInBounds_toArray, List.set_cons_zero, List.set_cons_succ]
        refine wpAnyH_take (i := 18) (v := (.pointer (some ⟨q, 1, none⟩))) (oi := ⟨_, _, _, _, _, _⟩) rfl (by kernel_rfl) (by kernel_rfl) (by kernel_rfl) (fun _ _ _ h => h) (Or.inl ⟨by kernel_rfl, fun W hS => ?_⟩) (by assumption) ?_
        · dsimp only at hS; go_split_ands; go_simp
        simp only [Act.put, List.setIfInBounds_toArray, List.set_cons_zero, List.set_cons_succ]
        refine wpAnyH_ready (rs := [19]) (by kernel_rfl) (by decide) (AllReadyH.cons (o := ⟨_, _, _, _, _, _⟩) rfl (fun K hK => ?_) AllReadyH.nil)
        have hD4 := HDd.out.below hb4
        have hb4c := hD4.q1
        have hf4 := hD4.fq 1
        rw [if_pos (by kernel_rfl)]
        go_simp
        refine hK.out _ _ (by have hsc := World.cell?_setCell_other (w := w4) (a := ⟨q, 1, none⟩) (b := ⟨q, 0, none⟩) (v := .slice A4 (n - k) c4) (by simp); rw [hsc]; exact hHeld) (fun hHeld => ?_)
        clear hK K
        try simp only [Act.put, List.setIfInBounds_toArray, List.set_cons_zero, List.set_cons_succ]
        refine wpAnyH_done (by kernel_rfl) ?_ _
        have H5 := Lib.hid (hD4.setHeld (grown_refl w4) (.inl rfl) (hO4.less (Nat.zero_le _)) HL.out (by have := HDd.out.fit; omega))
        have hd5 := H5.out.q6
        have hf5 := H5.out.fq 6
        have ho5 : Only w (w4.setCell ⟨q, 1, none⟩ (.slice A4 (n - k) c4)) (qf q A n c) := ((Only.of_below (below_step (below_drew (Below.refl _ _)) hb4) _).set q 1 _ (.inl (.inl rfl)))
        have hfr : ∀ j, rf (.slice A4 (n - k) c4) j → w.heap.size ≤ j := fun j hj => hO4.from j hj
        clear hHeld hr1 hr2 hcut h0d h1d hb4c hf4 hD4 hO4 hO3 h1d3
        generalize w4.setCell ⟨q, 1, none⟩ (.slice A4 (n - k) c4) = w5 at *
        go_wp2_with fail
        go_ret2
        refine ⟨rfl, A4, n - k, c4, ?_, ho5.set q 6 _ (.inl (.inl rfl)), ?_⟩
        · exact H5.out.setLost _
        · rintro j (rfl | hj)
          · exact .inl (.inl rfl)
          · exact .inr (hfr j hj)
      · skip
        rw [if_pos (by kernel_rfl)]
        go_simp
        refine hK.out _ _ (hHeld) (fun hHeld => ?_)
        clear hK K
        try simp only [Act.put, List.setIfInBounds_toArray, List.set_cons_zero, List.set_cons_succ]
        refine wpAnyH_take (i := 15) (v := (.slice A' (n - (i + k)) (c - (i + k)))) (oi := ⟨_, _, _, _, _, _⟩) rfl (by kernel_rfl) (by kernel_rfl) (by kernel_rfl) (fun _ _ _ h => h) (Or.inl ⟨by kernel_rfl, fun W hS => ?_⟩) (by assumption) ?_
        · dsimp only at hS; go_split_ands; go_simp
        simp only [Act.put, List.setIfInBounds_toArray, List.set_cons_zero, List.set_cons_succ]
        refine wpAnyH_ready (rs := [7]) (by kernel_rfl) (by decide) (AllReadyH.cons (o := ⟨_, _, _, _, _, _⟩) rfl (fun K hK => ?_) AllReadyH.nil)
        refine at_list rfl ?_; intro Q2 hQ2; at_builtin; refine print_append_row (w0 := w.drew) w.drew.heap.size rfl (.const (.slice none 0 0)) (.tmp 43) 22 5 .u8 1 rfl Try.underlying22 u8_info (by decide) (.slice none 0 0) [] (D.held.take i) A i c rfl rfl (own_nil _ _ _ _) hr1.rd (Below.refl _ _) (by first | exact Nat.le_refl _ | exact Nat.zero_le _) (by simp; omega) ?_; intro v3 w3 hown hb3 hg3 ha3; have hO3 : OB 5 w3 w.drew.heap.size v3 (D.held.take i) := ⟨by simpa using hown, hr1.byt⟩; clear hown ha3 hg3; have h1d3 := pw_cell_below hb3 h1d; refine hQ2 _ _ ?_; clear hQ2 Q2
        refine hK.out _ _ (pw_cell_below hb3 h0d) (fun hHeld => ?_)
        clear hK K
        try simp only [Act.put, List.setIfInBounds_toArray, List.set_cons_zero, List.set_cons_succ]
        refine wpAnyH_ready (rs := [16]) (by kernel_rfl) (by decide) (AllReadyH.cons (o := ⟨_, _, _, _, _, _⟩) rfl (fun K hK => ?_) AllReadyH.nil)
        refine at_list rfl ?_; intro Q2 hQ2; at_builtin; refine print_append_row (w0 := w.drew) w.drew.heap.size rfl (.tmp 44) (.tmp 52) 22 5 .u8 1 rfl Try.underlying22 u8_info (by decide) v3 (D.held.take i) (D.held.drop (i + k)) A' (n - (i + k)) (c - (i + k)) rfl rfl hO3.own (hr2.below hb3).rd hb3 hb3.size (by rw [List.length_take, HDd.out.len]; omega) ?_; intro v4 w4 hown4 hb4 hg4 ha4; have hO4 : OB 5 w4 w.drew.heap.size v4 (D.held.take i ++ D.held.drop (i + k)) := ⟨hown4, hr1.byt.append hr2.byt⟩; clear hown4 ha4 hg4; obtain ⟨A4, c4, rfl, _, _⟩ := hO4.reads'; rw [HL.out] at hO4 ⊢; refine hQ2 _ _ ?_; clear hQ2 Q2
        refine hK.out _ _ (pw_cell_below hb4 h0d) (fun hHeld => ?_)
        clear hK K
        try simp only [Act.put, List.setIfInBounds_toArray, List.set_cons_zero, List.set_cons_succ]
        refine wpAnyH_take (i := 17) (v := (.pointer (some ⟨q, 0, none⟩))) (oi := ⟨_, _, _, _, _, _⟩) rfl (by kernel_rfl) (by kernel_rfl) (by kernel_rfl) (fun _ _ _ h => h) (Or.inl ⟨by kernel_rfl, fun W hS => ?_⟩) (by assumption) ?_
        · dsimp only at hS; go_split_ands; go_simp
        simp only [Act.put, List.setIfInBounds_toArray, List.set_cons_zero, List.set_cons_succ]
        refine wpAnyH_take (i := 18) (v := (.pointer (some ⟨q, 1, none⟩))) (oi := ⟨_, _, _, _, _, _⟩) rfl (by kernel_rfl) (by kernel_rfl) (by kernel_rfl) (fun _ _ _ h => h) (Or.inl ⟨by kernel_rfl, fun W hS => ?_⟩) (by assumption) ?_
        · dsimp only at hS; go_split_ands; go_simp
        simp only [Act.put, List.setIfInBounds_toArray, List.set_cons_zero, List.set_cons_succ]
        refine wpAnyH_ready (rs := [19]) (by kernel_rfl) (by decide) (AllReadyH.cons (o := ⟨_, _, _, _, _, _⟩) rfl (fun K hK => ?_) AllReadyH.nil)
        have hD4 := HDd.out.below hb4
        have hb4c := hD4.q1
        have hf4 := hD4.fq 1
        rw [if_pos (by kernel_rfl)]
        go_simp
        refine hK.out _ _ (by have hsc := World.cell?_setCell_other (w := w4) (a := ⟨q, 1, none⟩) (b := ⟨q, 0, none⟩) (v := .slice A4 (n - k) c4) (by simp); rw [hsc]; exact hHeld) (fun hHeld => ?_)
        clear hK K
        try simp only [Act.put, List.setIfInBounds_toArray, List.set_cons_zero, List.set_cons_succ]
        refine wpAnyH_done (by kernel_rfl) ?_ _
        have H5 := Lib.hid (hD4.setHeld (grown_refl w4) (.inl rfl) (hO4.less (Nat.zero_le _)) HL.out (by have := HDd.out.fit; omega))
        have hd5 := H5.out.q6
        have hf5 := H5.out.fq 6
        have ho5 : Only w (w4.setCell ⟨q, 1, none⟩ (.slice A4 (n - k) c4)) (qf q A n c) := ((Only.of_below (below_step (below_drew (Below.refl _ _)) hb4) _).set q 1 _ (.inl (.inl rfl)))
        have hfr : ∀ j, rf (.slice A4 (n - k) c4) j → w.heap.size ≤ j := fun j hj => hO4.from j hj
        clear hHeld hr1 hr2 hcut h0d h1d hb4c hf4 hD4 hO4 hO3 h1d3
        generalize w4.setCell ⟨q, 1, none⟩ (.slice A4 (n - k) c4) = w5 at *
        go_wp2_with fail
        go_ret2
        refine ⟨rfl, A4, n - k, c4, ?_, ho5.set q 6 _ (.inl (.inl rfl)), ?_⟩
        · exact H5.out.setLost _
        · rintro j (rfl | hj)
          · exact .inl (.inl rfl)
          · exact .inr (hfr j hj)
    · skip
      rw [if_pos (by kernel_rfl)]
      go_simp
      refine hK.out _ _ (hHeld) (fun hHeld => ?_)
      clear hK K
      try simp only [Act.put, List.setIfInBounds_toArray, List.set_cons_zero, List.set_cons_succ]
      refine wpAnyH_take (i := 15) (v := (.slice A' (n - (i + k)) (c - (i + k)))) (oi := ⟨_, _, _, _, _, _⟩) rfl (by kernel_rfl) (by kernel_rfl) (by kernel_rfl) (fun _ _ _ h => h) (Or.inl ⟨by kernel_rfl, fun W hS => ?_⟩) (by assumption) ?_
      · dsimp only at hS; go_split_ands; go_simp
      simp only [Act.put, List.setIfInBounds_toArray, List.set_cons_zero, List.set_cons_succ]
      refine wpAnyH_ready (rs := [4]) (by kernel_rfl) (by decide) (AllReadyH.cons (o := ⟨_, _, _, _, _, _⟩) rfl (fun K hK => ?_) AllReadyH.nil)
      rw [if_pos (by kernel_rfl)]
      go_simp
      refine hK.out _ _ (hHeld) (fun hHeld => ?_)
      clear hK K
      try simp only [Act.put, List.setIfInBounds_toArray, List.set_cons_zero, List.set_cons_succ]
      refine wpAnyH_take (i := 6) (v := (.slice A i c)) (oi := ⟨_, _, _, _, _, _⟩) rfl (by kernel_rfl) (by kernel_rfl) (by kernel_rfl) (fun _ _ _ h => h) (Or.inl ⟨by kernel_rfl, fun W hS => ?_⟩) (by assumption) ?_
      · dsimp only at hS; go_split_ands; go_simp
      simp only [Act.put, List.setIfInBounds_toArray, List.set_cons_zero, List.set_cons_succ]
      refine wpAnyH_ready (rs := [7]) (by kernel_rfl) (by decide) (AllReadyH.cons (o := ⟨_, _, _, _, _, _⟩) rfl (fun K hK => ?_) AllReadyH.nil)
      refine at_list rfl ?_; intro Q2 hQ2; at_builtin; refine print_append_row (w0 := w.drew) w.drew.heap.size rfl (.const (.slice none 0 0)) (.tmp 43) 22 5 .u8 1 rfl Try.underlying22 u8_info (by decide) (.slice none 0 0) [] (D.held.take i) A i c rfl rfl (own_nil _ _ _ _) hr1.rd (Below.refl _ _) (by first | exact Nat.le_refl _ | exact Nat.zero_le _) (by simp; omega) ?_; intro v3 w3 hown hb3 hg3 ha3; have hO3 : OB 5 w3 w.drew.heap.size v3 (D.held.take i) := ⟨by simpa using hown, hr1.byt⟩; clear hown ha3 hg3; have h1d3 := pw_cell_below hb3 h1d; refine hQ2 _ _ ?_; clear hQ2 Q2
      refine hK.out _ _ (pw_cell_below hb3 h0d) (fun hHeld => ?_)
      clear hK K
      try simp only [Act.put, List.setIfInBounds_toArray, List.set_cons_zero, List.set_cons_succ]
      refine wpAnyH_ready (rs := [16]) (by kernel_rfl) (by decide) (AllReadyH.cons (o := ⟨_, _, _, _, _, _⟩) rfl (fun K hK => ?_) AllReadyH.nil)
      refine at_list rfl ?_; intro Q2 hQ2; at_builtin; refine print_append_row (w0 := w.drew) w.drew.heap.size rfl (.tmp 44) (.tmp 52) 22 5 .u8 1 rfl Try.underlying22 u8_info (by decide) v3 (D.held.take i) (D.held.drop (i + k)) A' (n - (i + k)) (c - (i + k)) rfl rfl hO3.own (hr2.below hb3).rd hb3 hb3.size (by rw [List.length_take, HDd.out.len]; omega) ?_; intro v4 w4 hown4 hb4 hg4 ha4; have hO4 : OB 5 w4 w.drew.heap.size v4 (D.held.take i ++ D.held.drop (i + k)) := ⟨hown4, hr1.byt.append hr2.byt⟩; clear hown4 ha4 hg4; obtain ⟨A4, c4, rfl, _, _⟩ := hO4.reads'; rw [HL.out] at hO4 ⊢; refine hQ2 _ _ ?_; clear hQ2 Q2
      refine hK.out _ _ (pw_cell_below hb4 h0d) (fun hHeld => ?_)
      clear hK K
      try simp only [Act.put, List.setIfInBounds_toArray, List.set_cons_zero, List.set_cons_succ]
      refine wpAnyH_take (i := 17) (v := (.pointer (some ⟨q, 0, none⟩))) (oi := ⟨_, _, _, _, _, _⟩) rfl (by kernel_rfl) (by kernel_rfl) (by kernel_rfl) (fun _ _ _ h => h) (Or.inl ⟨by kernel_rfl, fun W hS => ?_⟩) (by assumption) ?_
      · dsimp only at hS; go_split_ands; go_simp
      simp only [Act.put, List.setIfInBounds_toArray, List.set_cons_zero, List.set_cons_succ]
      refine wpAnyH_take (i := 18) (v := (.pointer (some ⟨q, 1, none⟩))) (oi := ⟨_, _, _, _, _, _⟩) rfl (by kernel_rfl) (by kernel_rfl) (by kernel_rfl) (fun _ _ _ h => h) (Or.inl ⟨by kernel_rfl, fun W hS => ?_⟩) (by assumption) ?_
      · dsimp only at hS; go_split_ands; go_simp
      simp only [Act.put, List.setIfInBounds_toArray, List.set_cons_zero, List.set_cons_succ]
      refine wpAnyH_ready (rs := [19]) (by kernel_rfl) (by decide) (AllReadyH.cons (o := ⟨_, _, _, _, _, _⟩) rfl (fun K hK => ?_) AllReadyH.nil)
      have hD4 := HDd.out.below hb4
      have hb4c := hD4.q1
      have hf4 := hD4.fq 1
      rw [if_pos (by kernel_rfl)]
      go_simp
      refine hK.out _ _ (by have hsc := World.cell?_setCell_other (w := w4) (a := ⟨q, 1, none⟩) (b := ⟨q, 0, none⟩) (v := .slice A4 (n - k) c4) (by simp); rw [hsc]; exact hHeld) (fun hHeld => ?_)
      clear hK K
      try simp only [Act.put, List.setIfInBounds_toArray, List.set_cons_zero, List.set_cons_succ]
      refine wpAnyH_done (by kernel_rfl) ?_ _
      have H5 := Lib.hid (hD4.setHeld (grown_refl w4) (.inl rfl) (hO4.less (Nat.zero_le _)) HL.out (by have := HDd.out.fit; omega))
      have hd5 := H5.out.q6
      have hf5 := H5.out.fq 6
      have ho5 : Only w (w4.setCell ⟨q, 1, none⟩ (.slice A4 (n - k) c4)) (qf q A n c) := ((Only.of_below (below_step (below_drew (Below.refl _ _)) hb4) _).set q 1 _ (.inl (.inl rfl)))
      have hfr : ∀ j, rf (.slice A4 (n - k) c4) j → w.heap.size ≤ j := fun j hj => hO4.from j hj
      clear hHeld hr1 hr2 hcut h0d h1d hb4c hf4 hD4 hO4 hO3 h1d3
      generalize w4.setCell ⟨q, 1, none⟩ (.slice A4 (n - k) c4) = w5 at *
      go_wp2_with fail
      go_ret2
      refine ⟨rfl, A4, n - k, c4, ?_, ho5.set q 6 _ (.inl (.inl rfl)), ?_⟩
      · exact H5.out.setLost _
      · rintro j (rfl | hj)
        · exact .inl (.inl rfl)
        · exact .inr (hfr j hj)
end
end Go.Proofs.Ytodhcgidmdeifaa
