/- The contracts of a duct's Turn, Lose, Count. -/
import Derived.Test.YtodhcgidmdeifaaDuD
namespace Go.Proofs.Ytodhcgidmdeifaa
open Go.RowKit Go.Kit Go.Proofs.YtodhcgidmdeifaaW.PrintWords
attribute [local go_sem] Go.Proofs.YtodhcgidmdeifaaW.PrintMore.max_two Go.Proofs.YtodhcgidmdeifaaW.PrintMore.min_two
def turnD (D : Dk) (i : Nat) (m : Int) : Dk := { D with held := D.held.set i (bits .xor .u8 (D.held.getD i 0) m), ct := if m = 0 then D.ct else wrap64 (D.ct + 1) }
section
variable {w : World} {d b n c : Nat} {A : Option Addr} {D : Dk}
set_option maxHeartbeats 1000000 in
theorem Turn_bad (h : DS w d b A n c D) (at_ m : Int) (hb : ¬ (0 ≤ at_ ∧ at_ < n)) : Calls Try.prog 16 #[.pointer (some ⟨d, 0, none⟩), .int .i64 at_, .int .u8 m] w fun e w' => e = .returned (.int .i64 30) ∧ w' = w := by
  have h0 := h.d0
  have h1 := h.b0
  have H := Lib.hid h
  clear h
  go_enter Try.func16, Try.ntmps16
  by_cases h3 : at_ < 0
  · clear hb
    go_wp2_with fail
    refine (made_any H.out).mono ?_
    rintro e w1 ⟨rfl, rfl⟩
    go_wp2_with fail
    go_ret
    exact ⟨rfl, rfl⟩
  · have h4 : at_ ≥ (n : Int) := by omega
    clear hb
    go_wp2_with fail
    refine (made_any H.out).mono ?_
    rintro e w1 ⟨rfl, rfl⟩
    go_wp2_with fail
    go_ret
    exact ⟨rfl, rfl⟩
set_option maxHeartbeats 1000000 in
theorem Turn_any (h : DS w d b A n c D) (i : Nat) (hi : i < n) (m : Int) (m0 : 0 ≤ m) (m1 : m < 256) : Calls Try.prog 16 #[.pointer (some ⟨d, 0, none⟩), .int .i64 (i : Int), .int .u8 m] w fun e w' => e = .returned (.int .i64 0) ∧ DS w' d b A n c (turnD D i m) ∧ Only w w' (df d b A n c) := by
  have h0 := h.d0
  have h1 := h.b0
  have H := Lib.hid h
  obtain ⟨g, cap, hv, _, _⟩ := h.row.open_ (by rw [h.len]; omega)
  injection hv with e1 e2 e3
  subst e1
  obtain ⟨x, hc, hf, x0, x1, HX⟩ := h.row.at_ h.len.symm i hi
  have hg : D.held.getD i 0 = x := by rw [List.getD_eq_getElem?_getD, HX.out]; rfl
  have hx := u8_xor_range x0 x1 m0 m1
  obtain ⟨y, hy⟩ : ∃ y, bits .xor .u8 x m = y := ⟨_, rfl⟩
  rw [hy] at hx
  have hS := h.setByte i y hx.1 hx.2
  have hO : Only w (w.setCell ⟨g, i, none⟩ (.int .u8 y)) (df d b (some ⟨g, 0, none⟩) n c) := (Only.refl _ _).set g i _ (.inl (.inr (.inr rfl)))
  have hi2 : (i : Int) < (n : Int) := by omega
  clear h e2 e3
  go_enter Try.func16, Try.ntmps16
  go_wp2_with fail
  refine (made_any H.out).mono ?_
  rintro e w1 ⟨rfl, rfl⟩
  by_cases hm : m = 0
  · subst hm
    go_wp2_with fail
    go_ret
    refine ⟨rfl, ?_, hO⟩
    unfold turnD; rw [hg, hy, if_pos rfl]; exact hS
  · have hb : (m != 0) = true := by simp [hm]
    have h4 := hS.d4
    have h5 := hS.fd 4
    go_wp2_with fail
    go_ret
    refine ⟨rfl, ?_, hO.set d 4 _ (.inl (.inl rfl))⟩
    unfold turnD; rw [hg, hy, if_neg hm]; exact hS.setTurned _
def loseD (D : Dk) (i k : Nat) : Dk := { D with held := D.held.take i ++ D.held.drop (i + k), cl := wrap64 (D.cl + k) }
set_option maxHeartbeats 1000000 in
theorem Lose_bad (h : DS w d b A n c D) (at_ q : Int) (hb : ¬ (0 ≤ at_ ∧ at_ ≤ n)) : Calls Try.prog 23 #[.pointer (some ⟨d, 0, none⟩), .int .i64 at_, .int .i64 q] w fun e w' => e = .returned (.tuple #[.int .i64 0, .int .i64 30]) ∧ w' = w := by
  have h0 := h.d0
  have h1 := h.b0
  have H := Lib.hid h
  clear h
  go_enter Try.func23, Try.ntmps23
  by_cases h3 : at_ < 0
  · clear hb
    go_wp2_with fail
    refine (made_any H.out).mono ?_
    rintro e w1 ⟨rfl, rfl⟩
    go_wp2_with fail
    go_ret2
    exact ⟨rfl, rfl⟩
  · have h4 : at_ > (n : Int) := by omega
    clear hb
    go_wp2_with fail
    refine (made_any H.out).mono ?_
    rintro e w1 ⟨rfl, rfl⟩
    go_wp2_with fail
    go_ret2
    exact ⟨rfl, rfl⟩
set_option maxHeartbeats 1000000 in
theorem Lose_neg (h : DS w d b A n c D) (i : Nat) (hi : i ≤ n) (q : Int) (hq : q < 0) : Calls Try.prog 23 #[.pointer (some ⟨d, 0, none⟩), .int .i64 (i : Int), .int .i64 q] w fun e w' => e = .returned (.tuple #[.int .i64 0, .int .i64 1]) ∧ w' = w := by
  have h0 := h.d0
  have h1 := h.b0
  have H := Lib.hid h
  have h2 : ¬ ((i : Int) > (n : Int)) := by omega
  clear h
  go_enter Try.func23, Try.ntmps23
  go_wp2_with fail
  refine (made_any H.out).mono ?_
  rintro e w1 ⟨rfl, rfl⟩
  go_wp2_with fail
  go_ret2
  exact ⟨rfl, rfl⟩
set_option maxHeartbeats 4000000 in
set_option maxRecDepth 100000 in
theorem Lose_any (h : DS w d b A n c D) (i : Nat) (hi : i ≤ n) (q : Int) (hq : 0 ≤ q) (k : Nat) (hk : (k : Int) = min q (n - i)) : Calls Try.prog 23 #[.pointer (some ⟨d, 0, none⟩), .int .i64 (i : Int), .int .i64 q] w fun e w' => ∃ A1 n1 c1, e = .returned (.tuple #[.int .i64 (k : Int), .int .i64 0]) ∧ DS w' d b A1 n1 c1 (loseD D i k) ∧ Only w w' (df d b A n c) ∧ Onto w (df d b A n c) (df d b A1 n1 c1) := by
  have h0 := h.d0
  have h1 := h.b0
  have H := Lib.hid h
  have hmx := h.max
  have hcap := h.cap
  have h2 : ¬ ((i : Int) > (n : Int)) := by omega
  have h3 : ¬ q < 0 := by omega
  have h4 : (i : Int) ≤ (n : Int) := by omega
  have hmin : Builtin.min2 (.int .i64 q) (.int .i64 ((n : Int) - (i : Int))) = pure (.int .i64 (k : Int)) := min2_is hk.symm
  have hik : i + k ≤ n := by omega
  have hik2 : (i : Int) + (k : Int) ≤ (n : Int) := by omega
  have hic : (i : Int) ≤ (c : Int) := by omega
  have hwr : IntKind.i64.wrap ((i : Int) + (k : Int)) = (i : Int) + (k : Int) := by rw [IntKind.wrap_i64]; omega
  have HK := Lib.hid hk
  have hDd : DS w.drew d b A n c D := h.drewN 1
  have h0d := hDd.d0
  have h1d := hDd.b0
  have hdb := hDd.ne
  have hr1 := RB.take_ (hDd.row.rb hDd.len.symm) i hi
  obtain ⟨A', hcut, hA'⟩ := cut_bytes A n c (i + k) hik hcap
  rw [Int.natCast_add] at hcut
  have hr2 := hA' _ _ (hDd.row.rb hDd.len.symm)
  have hl : (D.held.take i ++ D.held.drop (i + k)).length = n - k := by rw [List.length_append, List.length_take, List.length_drop, hDd.len]; omega
  have HDd := Lib.hid hDd
  clear h hk hDd hA' hq
  go_enter Try.func23, Try.ntmps23
  go_wp2_with fail
  refine (made_any H.out).mono ?_
  rintro e w1 ⟨rfl, rfl⟩
  go_wp2_with fail
  clear hmin h0 h1
  refine wp_region_held_drew (S := fun w' => w'.cell? ⟨d, 0, none⟩ = some (.pointer (some ⟨b, 0, none⟩))) (by kernel_rfl) (h0d) (fun hHeld => ?_)
  refine wpAnyH_take (i := 0) (v := (.pointer (some ⟨d, 0, none⟩))) (oi := ⟨_, _, _, _, _, _⟩) rfl (by kernel_rfl) (by kernel_rfl) (by kernel_rfl) (fun _ _ _ h => h) (Or.inl ⟨by kernel_rfl, fun W hS => ?_⟩) (by assumption) ?_
  · dsimp only at hS; go_split_ands; go_simp
  simp only [Act.put, List.setIfInBounds_toArray, List.set_cons_zero, List.set_cons_succ]
  refine wpAnyH_take (i := 1) (v := (.pointer (some ⟨d, 0, none⟩))) (oi := ⟨_, _, _, _, _, _⟩) rfl (by kernel_rfl) (by kernel_rfl) (by kernel_rfl) (fun _ _ _ h => h) (Or.inl ⟨by kernel_rfl, fun W hS => ?_⟩) (by assumption) ?_
  · dsimp only at hS; go_split_ands; go_simp
  simp only [Act.put, List.setIfInBounds_toArray, List.set_cons_zero, List.set_cons_succ]
  refine wpAnyH_take (i := 2) (v := (.pointer (some ⟨d, 0, none⟩))) (oi := ⟨_, _, _, _, _, _⟩) rfl (by kernel_rfl) (by kernel_rfl) (by kernel_rfl) (fun _ _ _ h => h) (Or.inl ⟨by kernel_rfl, fun W hS => ?_⟩) (by assumption) ?_
  · dsimp only at hS; go_split_ands; go_simp
  simp only [Act.put, List.setIfInBounds_toArray, List.set_cons_zero, List.set_cons_succ]
  refine wpAnyH_take (i := 3) (v := (.pointer (some ⟨b, 0, none⟩))) (oi := ⟨_, _, _, _, _, _⟩) rfl (by kernel_rfl) (by kernel_rfl) (by kernel_rfl) (fun _ _ _ h => h) (Or.inl ⟨by kernel_rfl, fun W hS => ?_⟩) (by assumption) ?_
  · dsimp only at hS; go_split_ands; go_simp
  simp only [Act.put, List.setIfInBounds_toArray, List.set_cons_zero, List.set_cons_succ]
  refine wpAnyH_take (i := 4) (v := (.pointer (some ⟨d, 0, none⟩))) (oi := ⟨_, _, _, _, _, _⟩) rfl (by kernel_rfl) (by kernel_rfl) (by kernel_rfl) (fun _ _ _ h => h) (Or.inl ⟨by kernel_rfl, fun W hS => ?_⟩) (by assumption) ?_
  · dsimp only at hS; go_split_ands; go_simp
  simp only [Act.put, List.setIfInBounds_toArray, List.set_cons_zero, List.set_cons_succ]
  refine wpAnyH_take (i := 5) (v := (.pointer (some ⟨d, 0, none⟩))) (oi := ⟨_, _, _, _, _, _⟩) rfl (by kernel_rfl) (by kernel_rfl) (by kernel_rfl) (fun _ _ _ h => h) (Or.inl ⟨by kernel_rfl, fun W hS => ?_⟩) (by assumption) ?_
  · dsimp only at hS; go_split_ands; go_simp
  simp only [Act.put, List.setIfInBounds_toArray, List.set_cons_zero, List.set_cons_succ]
  refine wpAnyH_take (i := 6) (v := (.pointer (some ⟨d, 0, none⟩))) (oi := ⟨_, _, _, _, _, _⟩) rfl (by kernel_rfl) (by kernel_rfl) (by kernel_rfl) (fun _ _ _ h => h) (Or.inl ⟨by kernel_rfl, fun W hS => ?_⟩) (by assumption) ?_
  · dsimp only at hS; go_split_ands; go_simp
  simp only [Act.put, List.setIfInBounds_toArray, List.set_cons_zero, List.set_cons_succ]
  refine wpAnyH_take (i := 7) (v := (.pointer (some ⟨b, 0, none⟩))) (oi := ⟨_, _, _, _, _, _⟩) rfl (by kernel_rfl) (by kernel_rfl) (by kernel_rfl) (fun _ _ _ h => h) (Or.inl ⟨by kernel_rfl, fun W hS => ?_⟩) (by assumption) ?_
  · dsimp only at hS; go_split_ands; go_simp
  simp only [Act.put, List.setIfInBounds_toArray, List.set_cons_zero, List.set_cons_succ]
  refine wpAnyH_take (i := 8) (v := (.pointer (some ⟨b, 0, none⟩))) (oi := ⟨_, _, _, _, _, _⟩) rfl (by kernel_rfl) (by kernel_rfl) (by kernel_rfl) (fun _ _ _ h => h) (Or.inl ⟨by kernel_rfl, fun W hS => ?_⟩) (by assumption) ?_
  · dsimp only at hS; go_split_ands; go_simp
  simp only [Act.put, List.setIfInBounds_toArray, List.set_cons_zero, List.set_cons_succ]
  refine wpAnyH_take (i := 9) (v := (.pointer (some ⟨b, 0, none⟩))) (oi := ⟨_, _, _, _, _, _⟩) rfl (by kernel_rfl) (by kernel_rfl) (by kernel_rfl) (fun _ _ _ h => h) (Or.inl ⟨by kernel_rfl, fun W hS => ?_⟩) (by assumption) ?_
  · dsimp only at hS; go_split_ands; go_simp
  simp only [Act.put, List.setIfInBounds_toArray, List.set_cons_zero, List.set_cons_succ]
  refine wpAnyH_take (i := 11) (v := (.int .i64 (i : Int))) (oi := ⟨_, _, _, _, _, _⟩) rfl (by kernel_rfl) (by kernel_rfl) (by kernel_rfl) (fun _ _ _ h => h) (Or.inl ⟨by kernel_rfl, fun W hS => ?_⟩) (by assumption) ?_
  · dsimp only at hS; go_split_ands; go_simp
  simp only [Act.put, List.setIfInBounds_toArray, List.set_cons_zero, List.set_cons_succ]
  refine wpAnyH_take (i := 14) (v := (.pointer (some ⟨d, 0, none⟩))) (oi := ⟨_, _, _, _, _, _⟩) rfl (by kernel_rfl) (by kernel_rfl) (by kernel_rfl) (fun _ _ _ h => h) (Or.inl ⟨by kernel_rfl, fun W hS => ?_⟩) (by assumption) ?_
  · dsimp only at hS; go_split_ands; go_simp
  simp only [Act.put, List.setIfInBounds_toArray, List.set_cons_zero, List.set_cons_succ]
  refine wpAnyH_take (i := 15) (v := (.pointer (some ⟨d, 0, none⟩))) (oi := ⟨_, _, _, _, _, _⟩) rfl (by kernel_rfl) (by kernel_rfl) (by kernel_rfl) (fun _ _ _ h => h) (Or.inl ⟨by kernel_rfl, fun W hS => ?_⟩) (by assumption) ?_
  · dsimp only at hS; go_split_ands; go_simp
  simp only [Act.put, List.setIfInBounds_toArray, List.set_cons_zero, List.set_cons_succ]
  refine wpAnyH_take (i := 16) (v := (.pointer (some ⟨d, 0, none⟩))) (oi := ⟨_, _, _, _, _, _⟩) rfl (by kernel_rfl) (by kernel_rfl) (by kernel_rfl) (fun _ _ _ h => h) (Or.inl ⟨by kernel_rfl, fun W hS => ?_⟩) (by assumption) ?_
  · dsimp only at hS; go_split_ands; go_simp
  simp only [Act.put, List.setIfInBounds_toArray, List.set_cons_zero, List.set_cons_succ]
  refine wpAnyH_take (i := 17) (v := (.pointer (some ⟨b, 0, none⟩))) (oi := ⟨_, _, _, _, _, _⟩) rfl (by kernel_rfl) (by kernel_rfl) (by kernel_rfl) (fun _ _ _ h => h) (Or.inl ⟨by kernel_rfl, fun W hS => ?_⟩) (by assumption) ?_
  · dsimp only at hS; go_split_ands; go_simp
  simp only [Act.put, List.setIfInBounds_toArray, List.set_cons_zero, List.set_cons_succ]
  refine wpAnyH_take (i := 18) (v := (.pointer (some ⟨b, 0, none⟩))) (oi := ⟨_, _, _, _, _, _⟩) rfl (by kernel_rfl) (by kernel_rfl) (by kernel_rfl) (fun _ _ _ h => h) (Or.inl ⟨by kernel_rfl, fun W hS => ?_⟩) (by assumption) ?_
  · dsimp only at hS; go_split_ands; go_simp
  simp only [Act.put, List.setIfInBounds_toArray, List.set_cons_zero, List.set_cons_succ]
  refine wpAnyH_take (i := 19) (v := (.pointer (some ⟨b, 0, none⟩))) (oi := ⟨_, _, _, _, _, _⟩) rfl (by kernel_rfl) (by kernel_rfl) (by kernel_rfl) (fun _ _ _ h => h) (Or.inl ⟨by kernel_rfl, fun W hS => ?_⟩) (by assumption) ?_
  · dsimp only at hS; go_split_ands; go_simp
  simp only [Act.put, List.setIfInBounds_toArray, List.set_cons_zero, List.set_cons_succ]
  refine wpAnyH_take (i := 21) (v := (.int .i64 (i : Int))) (oi := ⟨_, _, _, _, _, _⟩) rfl (by kernel_rfl) (by kernel_rfl) (by kernel_rfl) (fun _ _ _ h => h) (Or.inl ⟨by kernel_rfl, fun W hS => ?_⟩) (by assumption) ?_
  · dsimp only at hS; go_split_ands; go_simp
  simp only [Act.put, List.setIfInBounds_toArray, List.set_cons_zero, List.set_cons_succ]
  refine wpAnyH_take (i := 22) (v := (.int .i64 (k : Int))) (oi := ⟨_, _, _, _, _, _⟩) rfl (by kernel_rfl) (by kernel_rfl) (by kernel_rfl) (fun _ _ _ h => h) (Or.inl ⟨by kernel_rfl, fun W hS => ?_⟩) (by assumption) ?_
  · dsimp only at hS; go_split_ands; go_simp
  simp only [Act.put, List.setIfInBounds_toArray, List.set_cons_zero, List.set_cons_succ]
  refine wpAnyH_take (i := 23) (v := (.int .i64 ((i : Int) + (k : Int)))) (oi := ⟨_, _, _, _, _, _⟩) rfl (by kernel_rfl) (by kernel_rfl) (by kernel_rfl) (fun _ _ _ h => h) (Or.inl ⟨by kernel_rfl, fun W hS => ?_⟩) (by assumption) ?_
  · dsimp only at hS; go_split_ands; go_simp
  simp only [Act.put, List.setIfInBounds_toArray, List.set_cons_zero, List.set_cons_succ]
  refine wpAnyH_ready (rs := [10, 20]) (by kernel_rfl) (by decide) (AllReadyH.cons (o := ⟨_, _, _, _, _, _⟩) rfl (fun K hK => ?_) (AllReadyH.cons (o := ⟨_, _, _, _, _, _⟩) rfl (fun K hK => ?_) AllReadyH.nil))
  · skip
    rw [if_pos (by kernel_rfl)]
    go_simp
    refine hK.out _ _ (hHeld) (fun hHeld => ?_)
    clear hK K
    try simp only [Act.put, List.setIfInBounds_toArray, List.set_cons_zero, List.set_cons_succ]
    refine wpAnyH_take (i := 12) (v := (.slice A i c)) (oi := ⟨_, _, _, _, _, _⟩) rfl (by kernel_rfl) (by kernel_rfl) (by kernel_rfl) (fun _ _ _ h => h) (Or.inl ⟨by kernel_rfl, fun W hS => ?_⟩) (by assumption) ?_
    · dsimp only at hS; go_split_ands; go_simp
    simp only [Act.put, List.setIfInBounds_toArray, List.set_cons_zero, List.set_cons_succ]
    refine wpAnyH_ready (rs := [13, 20]) (by kernel_rfl) (by decide) (AllReadyH.cons (o := ⟨_, _, _, _, _, _⟩) rfl (fun K hK => ?_) (AllReadyH.cons (o := ⟨_, _, _, _, _, _⟩) rfl (fun K hK => ?_) AllReadyH.nil))
    · skip
      refine at_list rfl ?_; intro Q2 hQ2; at_builtin; refine print_append_row (w0 := w1.drew) w1.drew.heap.size rfl (.const (.slice none 0 0)) (.tmp 54) 22 5 .u8 1 rfl Try.underlying22 u8_info (by decide) (.slice none 0 0) [] (D.held.take i) A i c rfl rfl (own_nil _ _ _ _) hr1.rd (Below.refl _ _) (by first | exact Nat.le_refl _ | exact Nat.zero_le _) (by simp; omega) ?_; intro v3 w3 hown hb3 hg3 ha3; have hO3 : OB 5 w3 w1.drew.heap.size v3 (D.held.take i) := ⟨by simpa using hown, hr1.byt⟩; clear hown ha3 hg3; have h1d3 := pw_cell_below hb3 h1d; refine hQ2 _ _ ?_; clear hQ2 Q2
      refine hK.out _ _ (pw_cell_below hb3 h0d) (fun hHeld => ?_)
      clear hK K
      try simp only [Act.put, List.setIfInBounds_toArray, List.set_cons_zero, List.set_cons_succ]
      refine wpAnyH_ready (rs := [20]) (by kernel_rfl) (by decide) (AllReadyH.cons (o := ⟨_, _, _, _, _, _⟩) rfl (fun K hK => ?_) AllReadyH.nil)
      rw [if_pos (by kernel_rfl)]
      go_simp
      refine hK.out _ _ (hHeld) (fun hHeld => ?_)
      clear hK K
      try simp only [Act.put, List.setIfInBounds_toArray, List.set_cons_zero, List.set_cons_succ]
      refine wpAnyH_take (i := 24) (v := (.slice A' (n - (i + k)) (c - (i + k)))) (oi := ⟨_, _, _, _, _, _⟩) rfl (by kernel_rfl) (by kernel_rfl) (by kernel_rfl) (fun _ _ _ h => h) (Or.inl ⟨by kernel_rfl, fun W hS => ?_⟩) (by assumption) ?_
      · dsimp only at hS; go_split_ands; go_simp
      simp only [Act.put, List.setIfInBounds_toArray, List.set_cons_zero, List.set_cons_succ]
      refine wpAnyH_ready (rs := [25]) (by kernel_rfl) (by decide) (AllReadyH.cons (o := ⟨_, _, _, _, _, _⟩) rfl (fun K hK => ?_) AllReadyH.nil)
      refine at_list rfl ?_; intro Q2 hQ2; at_builtin; refine print_append_row (w0 := w1.drew) w1.drew.heap.size rfl (.tmp 55) (.tmp 66) 22 5 .u8 1 rfl Try.underlying22 u8_info (by decide) v3 (D.held.take i) (D.held.drop (i + k)) A' (n - (i + k)) (c - (i + k)) rfl rfl hO3.own (hr2.below hb3).rd hb3 hb3.size (by rw [List.length_take, HDd.out.len]; omega) ?_; intro v4 w4 hown4 hb4 hg4 ha4; have hO4 : OB 5 w4 w1.drew.heap.size v4 (D.held.take i ++ D.held.drop (i + k)) := ⟨hown4, hr1.byt.append hr2.byt⟩; clear hown4 ha4 hg4; obtain ⟨A4, c4, rfl, _, _⟩ := hO4.reads'; rw [hl] at hO4 ⊢; refine hQ2 _ _ ?_; clear hQ2 Q2
      refine hK.out _ _ (pw_cell_below hb4 h0d) (fun hHeld => ?_)
      clear hK K
      try simp only [Act.put, List.setIfInBounds_toArray, List.set_cons_zero, List.set_cons_succ]
      refine wpAnyH_take (i := 26) (v := (.pointer (some ⟨b, 0, none⟩))) (oi := ⟨_, _, _, _, _, _⟩) rfl (by kernel_rfl) (by kernel_rfl) (by kernel_rfl) (fun _ _ _ h => h) (Or.inl ⟨by kernel_rfl, fun W hS => ?_⟩) (by assumption) ?_
      · dsimp only at hS; go_split_ands; go_simp
      simp only [Act.put, List.setIfInBounds_toArray, List.set_cons_zero, List.set_cons_succ]
      refine wpAnyH_take (i := 27) (v := (.pointer (some ⟨b, 0, none⟩))) (oi := ⟨_, _, _, _, _, _⟩) rfl (by kernel_rfl) (by kernel_rfl) (by kernel_rfl) (fun _ _ _ h => h) (Or.inl ⟨by kernel_rfl, fun W hS => ?_⟩) (by assumption) ?_
      · dsimp only at hS; go_split_ands; go_simp
      simp only [Act.put, List.setIfInBounds_toArray, List.set_cons_zero, List.set_cons_succ]
      refine wpAnyH_ready (rs := [28]) (by kernel_rfl) (by decide) (AllReadyH.cons (o := ⟨_, _, _, _, _, _⟩) rfl (fun K hK => ?_) AllReadyH.nil)
      have hD4 := HDd.out.below hb4
      have hb4c := hD4.b0
      have hf4 := hD4.fb 0
      rw [if_pos (by kernel_rfl)]
      go_simp
      refine hK.out _ _ (by rw [World.cell?_setCell_far _ _ _ _ hdb.symm]; exact hHeld) (fun hHeld => ?_)
      clear hK K
      try simp only [Act.put, List.setIfInBounds_toArray, List.set_cons_zero, List.set_cons_succ]
      refine wpAnyH_done (by kernel_rfl) ?_ _
      have H5 := Lib.hid (hD4.setHeld (grown_refl w4) (.inl rfl) (hO4.less (Nat.zero_le _)) hl (by have := HDd.out.fit; omega))
      have hd5 := H5.out.d5
      have hf5 := H5.out.fd 5
      have ho5 : Only w1 (w4.setCell ⟨b, 0, none⟩ (.slice A4 (n - k) c4)) (df d b A n c) := ((Only.of_below (below_step (below_drew (Below.refl _ _)) hb4) _).set b 0 _ (.inl (.inr (.inl rfl))))
      have hfr : ∀ j, rf (.slice A4 (n - k) c4) j → w1.heap.size ≤ j := fun j hj => hO4.from j hj
      clear hHeld hr1 hr2 hcut h0d h1d hb4c hf4 hD4 hO4 hO3 h1d3
      generalize w4.setCell ⟨b, 0, none⟩ (.slice A4 (n - k) c4) = w5 at *
      go_wp2_with fail
      go_ret2
      refine ⟨rfl, A4, n - k, c4, ?_, ho5.set d 5 _ (.inl (.inl rfl)), ?_⟩
      · exact H5.out.setLost _
      · rintro j (rfl | rfl | hj)
        · exact .inl (.inl rfl)
        · exact .inl (.inr (.inl rfl))
        · exact .inr (hfr j hj)
    · skip
      rw [if_pos (by kernel_rfl)]
      go_simp
      refine hK.out _ _ (hHeld) (fun hHeld => ?_)
      clear hK K
      try simp only [Act.put, List.setIfInBounds_toArray, List.set_cons_zero, List.set_cons_succ]
      refine wpAnyH_take (i := 24) (v := (.slice A' (n - (i + k)) (c - (i + k)))) (oi := ⟨_, _, _, _, _, _⟩) rfl (by kernel_rfl) (by kernel_rfl) (by kernel_rfl) (fun _ _ _ h => h) (Or.inl ⟨by kernel_rfl, fun W hS => ?_⟩) (by assumption) ?_
      · dsimp only at hS; go_split_ands; go_simp
      simp only [Act.put, List.setIfInBounds_toArray, List.set_cons_zero, List.set_cons_succ]
      refine wpAnyH_ready (rs := [13]) (by kernel_rfl) (by decide) (AllReadyH.cons (o := ⟨_, _, _, _, _, _⟩) rfl (fun K hK => ?_) AllReadyH.nil)
      refine at_list rfl ?_; intro Q2 hQ2; at_builtin; refine print_append_row (w0 := w1.drew) w1.drew.heap.size rfl (.const (.slice none 0 0)) (.tmp 54) 22 5 .u8 1 rfl Try.underlying22 u8_info (by decide) (.slice none 0 0) [] (D.held.take i) A i c rfl rfl (own_nil _ _ _ _) hr1.rd (Below.refl _ _) (by first | exact Nat.le_refl _ | exact Nat.zero_le _) (by simp; omega) ?_; intro v3 w3 hown hb3 hg3 ha3; have hO3 : OB 5 w3 w1.drew.heap.size v3 (D.held.take i) := ⟨by simpa using hown, hr1.byt⟩; clear hown ha3 hg3; have h1d3 := pw_cell_below hb3 h1d; refine hQ2 _ _ ?_; clear hQ2 Q2
      refine hK.out _ _ (pw_cell_below hb3 h0d) (fun hHeld => ?_)
      clear hK K
      try simp only [Act.put, List.setIfInBounds_toArray, List.set_cons_zero, List.set_cons_succ]
      refine wpAnyH_ready (rs := [25]) (by kernel_rfl) (by decide) (AllReadyH.cons (o := ⟨_, _, _, _, _, _⟩) rfl (fun K hK => ?_) AllReadyH.nil)
      refine at_list rfl ?_; intro Q2 hQ2; at_builtin; refine print_append_row (w0 := w1.drew) w1.drew.heap.size rfl (.tmp 55) (.tmp 66) 22 5 .u8 1 rfl Try.underlying22 u8_info (by decide) v3 (D.held.take i) (D.held.drop (i + k)) A' (n - (i + k)) (c - (i + k)) rfl rfl hO3.own (hr2.below hb3).rd hb3 hb3.size (by rw [List.length_take, HDd.out.len]; omega) ?_; intro v4 w4 hown4 hb4 hg4 ha4; have hO4 : OB 5 w4 w1.drew.heap.size v4 (D.held.take i ++ D.held.drop (i + k)) := ⟨hown4, hr1.byt.append hr2.byt⟩; clear hown4 ha4 hg4; obtain ⟨A4, c4, rfl, _, _⟩ := hO4.reads'; rw [hl] at hO4 ⊢; refine hQ2 _ _ ?_; clear hQ2 Q2
      refine hK.out _ _ (pw_cell_below hb4 h0d) (fun hHeld => ?_)
      clear hK K
      try simp only [Act.put, List.setIfInBounds_toArray, List.set_cons_zero, List.set_cons_succ]
      refine wpAnyH_take (i := 26) (v := (.pointer (some ⟨b, 0, none⟩))) (oi := ⟨_, _, _, _, _, _⟩) rfl (by kernel_rfl) (by kernel_rfl) (by kernel_rfl) (fun _ _ _ h => h) (Or.inl ⟨by kernel_rfl, fun W hS => ?_⟩) (by assumption) ?_
      · dsimp only at hS; go_split_ands; go_simp
      simp only [Act.put, List.setIfInBounds_toArray, List.set_cons_zero, List.set_cons_succ]
      refine wpAnyH_take (i := 27) (v := (.pointer (some ⟨b, 0, none⟩))) (oi := ⟨_, _, _, _, _, _⟩) rfl (by kernel_rfl) (by kernel_rfl) (by kernel_rfl) (fun _ _ _ h => h) (Or.inl ⟨by kernel_rfl, fun W hS => ?_⟩) (by assumption) ?_
      · dsimp only at hS; go_split_ands; go_simp
      simp only [Act.put, List.setIfInBounds_toArray, List.set_cons_zero, List.set_cons_succ]
      refine wpAnyH_ready (rs := [28]) (by kernel_rfl) (by decide) (AllReadyH.cons (o := ⟨_, _, _, _, _, _⟩) rfl (fun K hK => ?_) AllReadyH.nil)
      have hD4 := HDd.out.below hb4
      have hb4c := hD4.b0
      have hf4 := hD4.fb 0
      rw [if_pos (by kernel_rfl)]
      go_simp
      refine hK.out _ _ (by rw [World.cell?_setCell_far _ _ _ _ hdb.symm]; exact hHeld) (fun hHeld => ?_)
      clear hK K
      try simp only [Act.put, List.setIfInBounds_toArray, List.set_cons_zero, List.set_cons_succ]
      refine wpAnyH_done (by kernel_rfl) ?_ _
      have H5 := Lib.hid (hD4.setHeld (grown_refl w4) (.inl rfl) (hO4.less (Nat.zero_le _)) hl (by have := HDd.out.fit; omega))
      have hd5 := H5.out.d5
      have hf5 := H5.out.fd 5
      have ho5 : Only w1 (w4.setCell ⟨b, 0, none⟩ (.slice A4 (n - k) c4)) (df d b A n c) := ((Only.of_below (below_step (below_drew (Below.refl _ _)) hb4) _).set b 0 _ (.inl (.inr (.inl rfl))))
      have hfr : ∀ j, rf (.slice A4 (n - k) c4) j → w1.heap.size ≤ j := fun j hj => hO4.from j hj
      clear hHeld hr1 hr2 hcut h0d h1d hb4c hf4 hD4 hO4 hO3 h1d3
      generalize w4.setCell ⟨b, 0, none⟩ (.slice A4 (n - k) c4) = w5 at *
      go_wp2_with fail
      go_ret2
      refine ⟨rfl, A4, n - k, c4, ?_, ho5.set d 5 _ (.inl (.inl rfl)), ?_⟩
      · exact H5.out.setLost _
      · rintro j (rfl | rfl | hj)
        · exact .inl (.inl rfl)
        · exact .inl (.inr (.inl rfl))
        · exact .inr (hfr j hj)
  · skip
    rw [if_pos (by kernel_rfl)]
    go_simp
    refine hK.out _ _ (hHeld) (fun hHeld => ?_)
    clear hK K
    try simp only [Act.put, List.setIfInBounds_toArray, List.set_cons_zero, List.set_cons_succ]
    refine wpAnyH_take (i := 24) (v := (.slice A' (n - (i + k)) (c - (i + k)))) (oi := ⟨_, _, _, _, _, _⟩) rfl (by kernel_rfl) (by kernel_rfl) (by kernel_rfl) (fun _ _ _ h => h) (Or.inl ⟨by kernel_rfl, fun W hS => ?_⟩) (by assumption) ?_
    · dsimp only at hS; go_split_ands; go_simp
    simp only [Act.put, List.setIfInBounds_toArray, List.set_cons_zero, List.set_cons_succ]
    refine wpAnyH_ready (rs := [10]) (by kernel_rfl) (by decide) (AllReadyH.cons (o := ⟨_, _, _, _, _, _⟩) rfl (fun K hK => ?_) AllReadyH.nil)
    rw [if_pos (by kernel_rfl)]
    go_simp
    refine hK.out _ _ (hHeld) (fun hHeld => ?_)
    clear hK K
    try simp only [Act.put, List.setIfInBounds_toArray, List.set_cons_zero, List.set_cons_succ]
    refine wpAnyH_take (i := 12) (v := (.slice A i c)) (oi := ⟨_, _, _, _, _, _⟩) rfl (by kernel_rfl) (by kernel_rfl) (by kernel_rfl) (fun _ _ _ h => h) (Or.inl ⟨by kernel_rfl, fun W hS => ?_⟩) (by assumption) ?_
    · dsimp only at hS; go_split_ands; go_simp
    simp only [Act.put, List.setIfInBounds_toArray, List.set_cons_zero, List.set_cons_succ]
    refine wpAnyH_ready (rs := [13]) (by kernel_rfl) (by decide) (AllReadyH.cons (o := ⟨_, _, _, _, _, _⟩) rfl (fun K hK => ?_) AllReadyH.nil)
    refine at_list rfl ?_; intro Q2 hQ2; at_builtin; refine print_append_row (w0 := w1.drew) w1.drew.heap.size rfl (.const (.slice none 0 0)) (.tmp 54) 22 5 .u8 1 rfl Try.underlying22 u8_info (by decide) (.slice none 0 0) [] (D.held.take i) A i c rfl rfl (own_nil _ _ _ _) hr1.rd (Below.refl _ _) (by first | exact Nat.le_refl _ | exact Nat.zero_le _) (by simp; omega) ?_; intro v3 w3 hown hb3 hg3 ha3; have hO3 : OB 5 w3 w1.drew.heap.size v3 (D.held.take i) := ⟨by simpa using hown, hr1.byt⟩; clear hown ha3 hg3; have h1d3 := pw_cell_below hb3 h1d; refine hQ2 _ _ ?_; clear hQ2 Q2
    refine hK.out _ _ (pw_cell_below hb3 h0d) (fun hHeld => ?_)
    clear hK K
    try simp only [Act.put, List.setIfInBounds_toArray, List.set_cons_zero, List.set_cons_succ]
    refine wpAnyH_ready (rs := [25]) (by kernel_rfl) (by decide) (AllReadyH.cons (o := ⟨_, _, _, _, _, _⟩) rfl (fun K hK => ?_) AllReadyH.nil)
    refine at_list rfl ?_; intro Q2 hQ2; at_builtin; refine print_append_row (w0 := w1.drew) w1.drew.heap.size rfl (.tmp 55) (.tmp 66) 22 5 .u8 1 rfl Try.underlying22 u8_info (by decide) v3 (D.held.take i) (D.held.drop (i + k)) A' (n - (i + k)) (c - (i + k)) rfl rfl hO3.own (hr2.below hb3).rd hb3 hb3.size (by rw [List.length_take, HDd.out.len]; omega) ?_; intro v4 w4 hown4 hb4 hg4 ha4; have hO4 : OB 5 w4 w1.drew.heap.size v4 (D.held.take i ++ D.held.drop (i + k)) := ⟨hown4, hr1.byt.append hr2.byt⟩; clear hown4 ha4 hg4; obtain ⟨A4, c4, rfl, _, _⟩ := hO4.reads'; rw [hl] at hO4 ⊢; refine hQ2 _ _ ?_; clear hQ2 Q2
    refine hK.out _ _ (pw_cell_below hb4 h0d) (fun hHeld => ?_)
    clear hK K
    try simp only [Act.put, List.setIfInBounds_toArray, List.set_cons_zero, List.set_cons_succ]
    refine wpAnyH_take (i := 26) (v := (.pointer (some ⟨b, 0, none⟩))) (oi := ⟨_, _, _, _, _, _⟩) rfl (by kernel_rfl) (by kernel_rfl) (by kernel_rfl) (fun _ _ _ h => h) (Or.inl ⟨by kernel_rfl, fun W hS => ?_⟩) (by assumption) ?_
    · dsimp only at hS; go_split_ands; go_simp
    simp only [Act.put, List.setIfInBounds_toArray, List.set_cons_zero, List.set_cons_succ]
    refine wpAnyH_take (i := 27) (v := (.pointer (some ⟨b, 0, none⟩))) (oi := ⟨_, _, _, _, _, _⟩) rfl (by kernel_rfl) (by kernel_rfl) (by kernel_rfl) (fun _ _ _ h => h) (Or.inl ⟨by kernel_rfl, fun W hS => ?_⟩) (by assumption) ?_
    · dsimp only at hS; go_split_ands; go_simp
    simp only [Act.put, List.setIfInBounds_toArray, List.set_cons_zero, List.set_cons_succ]
    refine wpAnyH_ready (rs := [28]) (by kernel_rfl) (by decide) (AllReadyH.cons (o := ⟨_, _, _, _, _, _⟩) rfl (fun K hK => ?_) AllReadyH.nil)
    have hD4 := HDd.out.below hb4
    have hb4c := hD4.b0
    have hf4 := hD4.fb 0
    rw [if_pos (by kernel_rfl)]
    go_simp
    refine hK.out _ _ (by rw [World.cell?_setCell_far _ _ _ _ hdb.symm]; exact hHeld) (fun hHeld => ?_)
    clear hK K
    try simp only [Act.put, List.setIfInBounds_toArray, List.set_cons_zero, List.set_cons_succ]
    refine wpAnyH_done (by kernel_rfl) ?_ _
    have H5 := Lib.hid (hD4.setHeld (grown_refl w4) (.inl rfl) (hO4.less (Nat.zero_le _)) hl (by have := HDd.out.fit; omega))
    have hd5 := H5.out.d5
    have hf5 := H5.out.fd 5
    have ho5 : Only w1 (w4.setCell ⟨b, 0, none⟩ (.slice A4 (n - k) c4)) (df d b A n c) := ((Only.of_below (below_step (below_drew (Below.refl _ _)) hb4) _).set b 0 _ (.inl (.inr (.inl rfl))))
    have hfr : ∀ j, rf (.slice A4 (n - k) c4) j → w1.heap.size ≤ j := fun j hj => hO4.from j hj
    clear hHeld hr1 hr2 hcut h0d h1d hb4c hf4 hD4 hO4 hO3 h1d3
    generalize w4.setCell ⟨b, 0, none⟩ (.slice A4 (n - k) c4) = w5 at *
    go_wp2_with fail
    go_ret2
    refine ⟨rfl, A4, n - k, c4, ?_, ho5.set d 5 _ (.inl (.inl rfl)), ?_⟩
    · exact H5.out.setLost _
    · rintro j (rfl | rfl | hj)
      · exact .inl (.inl rfl)
      · exact .inl (.inr (.inl rfl))
      · exact .inr (hfr j hj)
end
end Go.Proofs.Ytodhcgidmdeifaa
