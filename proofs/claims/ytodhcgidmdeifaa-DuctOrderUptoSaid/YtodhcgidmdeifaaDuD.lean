/- The contract of a duct's Write. -/
import Derived.Test.YtodhcgidmdeifaaDuC
namespace Go.Proofs.Ytodhcgidmdeifaa
open Go.RowKit Go.Kit Go.Proofs.YtodhcgidmdeifaaW.PrintWords
attribute [local go_sem] Go.Proofs.YtodhcgidmdeifaaW.PrintMore.max_two Go.Proofs.YtodhcgidmdeifaaW.PrintMore.min_two
/-- What is held behind the first j parts. -/
def wHeld (D : Dk) (n : Nat) (F : List Int) : List Int := D.held ++ F.take (D.room.toNat - n)
/-- How many went in. -/
def wMuch (D : Dk) (n : Nat) (F : List Int) : Nat := min F.length (D.room.toNat - n)
def writeD (D : Dk) (n : Nat) (F : List Int) : Dk := { D with held := wHeld D n F, ci := wrap64 (D.ci + wMuch D n F) }
theorem wHeld_len (D : Dk) (n : Nat) (F : List Int) (h : D.held.length = n) : (wHeld D n F).length = n + wMuch D n F := by
  unfold wHeld wMuch; rw [List.length_append, List.length_take, h]; omega
theorem wHeld_step (D : Dk) (n : Nat) (F p : List Int) (k : Nat) (hk : k = min p.length (D.room.toNat - (n + wMuch D n F))) : wHeld D n F ++ p.take k = wHeld D n (F ++ p) := by
  unfold wHeld wMuch at *
  rw [List.append_assoc, List.take_append]
  congr 2
  rcases Nat.le_total p.length (D.room.toNat - n - F.length) with h | h
  · rw [List.take_of_length_le h, List.take_of_length_le (by omega)]
  · rw [show k = D.room.toNat - n - F.length from by omega]
theorem wMuch_step (D : Dk) (n : Nat) (F p : List Int) (k : Nat) (hk : k = min p.length (D.room.toNat - (n + wMuch D n F))) : wMuch D n F + k = wMuch D n (F ++ p) := by
  unfold wMuch at *; rw [List.length_append]; omega
section
variable {w : World} {d b n c : Nat} {A : Option Addr} {D : Dk}
theorem Write_shut (h : DS w d b A n c D) (hs : D.shut = true) (v : Value) : Calls Try.prog 12 #[.pointer (some ⟨d, 0, none⟩), v] w fun e w' => e = .returned (.tuple #[.int .i64 0, .int .i64 91]) ∧ w' = w := by
  have h1 := h.d1
  have H := Lib.hid h
  rw [hs] at h1
  clear h hs
  go_enter Try.func12, Try.ntmps12
  go_wp2_with fail
  refine (made_any H.out).mono ?_
  rintro e w1 ⟨rfl, rfl⟩
  go_wp2_with fail
  go_ret2
  exact ⟨rfl, rfl⟩
set_option maxHeartbeats 4000000 in
set_option maxRecDepth 100000 in
theorem Write_any (h : DS w d b A n c D) (hs : D.shut = false) (P : Option Addr) (np cp : Nat) (L : List (List Int)) (hL : ∀ W, Only w W (df d b A n c) → RBc W P np L) :
    Calls Try.prog 12 #[.pointer (some ⟨d, 0, none⟩), .slice P np cp] w fun e w' => ∃ A1 n1 c1, e = .returned (.tuple #[.int .i64 (wMuch D n L.flatten : Nat), .int .i64 0]) ∧ DS w' d b A1 n1 c1 (writeD D n L.flatten) ∧ Only w w' (df d b A n c) ∧ Onto w (df d b A n c) (df d b A1 n1 c1) := by
  have h1 := h.d1
  have H := Lib.hid h
  rw [hs] at h1
  have hnp := (hL w (Only.refl _ _)).max
  have HLn := Lib.hid (hL w (Only.refl _ _)).len
  have HL := Lib.hid hL
  clear h hs hL
  go_enter Try.func12, Try.ntmps12
  go_wp2_with fail
  refine (made_any H.out).mono ?_
  rintro e w1 ⟨rfl, rfl⟩
  go_wp2_with fail
  clear h1
  go_loopg [6, 21] np (fun g v6 v21 w' => ∃ (j : Nat) (A1 : Option Addr) (n1 c1 m : Nat), v6 = .int .i64 (m : Int) ∧ v21 = .int .i64 (j : Int) ∧ DS w' d b A1 n1 c1 { D with held := wHeld D n (L.take j).flatten } ∧ Only w1 w' (df d b A n c) ∧ Onto w1 (df d b A n c) (df d b A1 n1 c1) ∧ Hid (j + g = np) ∧ Hid (m = wMuch D n (L.take j).flatten))
  case atStart => exact ⟨0, A, n, c, 0, rfl, rfl, by have := H.out; unfold wHeld; simpa using this, Only.refl _ _, Onto.refl _ _, by show 0 + np = np; omega, by show 0 = _; simp [wMuch]⟩
  case round =>
    obtain ⟨j, A1, n1, c1, m, rfl, rfl, hS, hO, hN, HG, HM⟩ := hrel
    cases gk with
    | zero =>
      have hj : j = np := by have := HG.out; omega
      subst hj
      rw [List.take_of_length_le (by rw [HLn.out]; exact Nat.le_refl _)] at hS HM
      have h2 := hS.d2
      have h3 := hS.fd 2
      have HS := Lib.hid hS
      clear hS HG
      go_wp2_with fail
      go_ret2
      refine ⟨by rw [← HM.out]; rfl, A1, n1, c1, ?_, ?_, hN⟩
      · unfold writeD; rw [← HM.out]; exact HS.out.setIn _
      · exact hO.set d 2 _ (.inl (.inl rfl))
    | succ g =>
      have hjn : j < np := by have := HG.out; omega
      obtain ⟨ad, Ai, ni, ci, p, rfl, hcell, hrp, HX, hcap⟩ := (HL.out wr hO).at_ j hjn
      have hbj : (j : Int) < (np : Int) := by omega
      obtain ⟨r, hr⟩ : ∃ r : Nat, D.room = (r : Int) := ⟨D.room.toNat, by have := H.out.low; omega⟩
      have hfit := hS.fit
      have htop := hS.top
      have h0 := hS.d0
      have h1 := hS.b0
      have h2 := hS.b1
      simp only [hr] at hfit htop h2
      obtain ⟨k, hk⟩ : ∃ k : Nat, k = min ni (r - n1) := ⟨_, rfl⟩
      have hmin : Builtin.min2 (.int .i64 (ni : Int)) (.int .i64 ((r : Int) - (n1 : Int))) = pure (.int .i64 (k : Int)) := min2_is (by omega)
      have hkn : k ≤ ni := by omega
      have hkf : (n1 : Int) + k ≤ r := by omega
      have HK := Lib.hid hk
      have HS := Lib.hid hS
      have hmm : m ≤ 4194304 := by rw [HM.out]; unfold wMuch; omega
      clear hk hS
      go_wp2_with fail
      go_quiet (fail)
      go_wp2_with fail
      have hDd : DS (wr.drewN nq).drew d b A1 n1 c1 { D with held := wHeld D n (L.take j).flatten } := (HS.out.drewN nq).drewN 1
      have h0d := hDd.d0
      have h1d := hDd.b0
      have hdb := hDd.ne
      have HDd := Lib.hid hDd
      have hrd : RB (wr.drewN nq).drew Ai k (p.take k) := RB.take_ ((hrp.drewN nq).drewN 1) k hkn
      have hOd : Only w1 (wr.drewN nq).drew (df d b A n c) := (hO.drewN nq).drew
      have hkc : (k : Int) ≤ (ci : Int) := by omega
      have hn1 : n + wMuch D n (L.take j).flatten = n1 := by rw [← wHeld_len D n _ H.out.len]; exact HDd.out.len
      have hk' : k = min p.length (D.room.toNat - (n + wMuch D n (L.take j).flatten)) := by rw [hn1, hrp.len, hr]; exact HK.out
      have hst : wHeld D n (L.take j).flatten ++ p.take k = wHeld D n (L.take (j + 1)).flatten := by rw [flat_snoc HX.out]; exact wHeld_step D n _ p k hk'
      have hms : m + k = wMuch D n (L.take (j + 1)).flatten := by rw [flat_snoc HX.out, HM.out]; exact wMuch_step D n _ p k hk'
      have hl3 : (wHeld D n (L.take (j + 1)).flatten).length = n1 + k := by rw [wHeld_len D n _ H.out.len, ← hms, HM.out]; omega
      have HMS := Lib.hid hms
      have hfr : ((n1 + k : Nat) : Int) ≤ D.room := by rw [hr]; omega
      clear hDd hk' hms hn1 hcell hmin h2 hr
      refine wp_region_held_drew (S := fun w' => w'.cell? ⟨d, 0, none⟩ = some (.pointer (some ⟨b, 0, none⟩))) (by kernel_rfl) (h0d) (fun hHeld => ?_)
      refine wpAnyH_take (i := 0) (v := (.pointer (some ⟨d, 0, none⟩))) (oi := ⟨_, _, _, _, _, _⟩) rfl (by kernel_rfl) (by kernel_rfl) (by kernel_rfl) (fun _ _ _ h => h) (Or.inl ⟨by kernel_rfl, fun W hS => ?_⟩) (by assumption) ?_
      · dsimp only at hS; go_split_ands; go_simp
      simp only [Act.put, List.setIfInBounds_toArray, List.set_cons_zero, List.set_cons_succ]
      refine wpAnyH_take (i := 1) (v := (.pointer (some ⟨d, 0, none⟩))) (oi := ⟨_, _, _, _, _, _⟩) rfl (by kernel_rfl) (by kernel_rfl) (by kernel_rfl) (fun _ _ _ h => h) (Or.inl ⟨by kernel_rfl, fun W hS => ?_⟩) (by assumption) ?_
      · dsimp only at hS; go_split_ands; go_simp
      simp only [Act.put, List.setIfInBounds_toArray, List.set_cons_zero, List.set_cons_succ]
      refine wpAnyH_take (i := 2) (v := (.pointer (some ⟨d, 0, none⟩))) (oi := ⟨_, _, _, _, _, _⟩) rfl (by kernel_rfl) (by kernel_rfl) (by kernel_rfl) (fun _ _ _ h => h) (Or.inl ⟨by kernel_rfl, fun W hS => ?_⟩) (by assumption) ?_
      · dsimp only at hS; go_split_ands; go_simp
      simp only [Act.put, List.setIfInBounds_toArray, List.set_cons_zero, List.set_cons_succ]
      refine wpAnyH_take (i := 3) (v := (.pointer (some ⟨b, 0, none⟩))) (oi := ⟨_, _, _, _, _, _⟩) rfl (by kernel_rfl) (by kernel_rfl) (by kernel_rfl) (fun _ _ _ h => h) (Or.inl ⟨by kernel_rfl, fun W hS => ?_⟩) (by assumption) ?_
      · dsimp only at hS; go_split_ands; go_simp
      simp only [Act.put, List.setIfInBounds_toArray, List.set_cons_zero, List.set_cons_succ]
      refine wpAnyH_take (i := 4) (v := (.pointer (some ⟨d, 0, none⟩))) (oi := ⟨_, _, _, _, _, _⟩) rfl (by kernel_rfl) (by kernel_rfl) (by kernel_rfl) (fun _ _ _ h => h) (Or.inl ⟨by kernel_rfl, fun W hS => ?_⟩) (by assumption) ?_
      · dsimp only at hS; go_split_ands; go_simp
      simp only [Act.put, List.setIfInBounds_toArray, List.set_cons_zero, List.set_cons_succ]
      refine wpAnyH_take (i := 5) (v := (.pointer (some ⟨d, 0, none⟩))) (oi := ⟨_, _, _, _, _, _⟩) rfl (by kernel_rfl) (by kernel_rfl) (by kernel_rfl) (fun _ _ _ h => h) (Or.inl ⟨by kernel_rfl, fun W hS => ?_⟩) (by assumption) ?_
      · dsimp only at hS; go_split_ands; go_simp
      simp only [Act.put, List.setIfInBounds_toArray, List.set_cons_zero, List.set_cons_succ]
      refine wpAnyH_take (i := 6) (v := (.pointer (some ⟨d, 0, none⟩))) (oi := ⟨_, _, _, _, _, _⟩) rfl (by kernel_rfl) (by kernel_rfl) (by kernel_rfl) (fun _ _ _ h => h) (Or.inl ⟨by kernel_rfl, fun W hS => ?_⟩) (by assumption) ?_
      · dsimp only at hS; go_split_ands; go_simp
      simp only [Act.put, List.setIfInBounds_toArray, List.set_cons_zero, List.set_cons_succ]
      refine wpAnyH_take (i := 7) (v := (.pointer (some ⟨b, 0, none⟩))) (oi := ⟨_, _, _, _, _, _⟩) rfl (by kernel_rfl) (by kernel_rfl) (by kernel_rfl) (fun _ _ _ h => h) (Or.inl ⟨by kernel_rfl, fun W hS => ?_⟩) (by assumption) ?_
      · dsimp only at hS; go_split_ands; go_simp
      simp only [Act.put, List.setIfInBounds_toArray, List.set_cons_zero, List.set_cons_succ]
      refine wpAnyH_take (i := 8) (v := (.pointer (some ⟨b, 0, none⟩))) (oi := ⟨_, _, _, _, _, _⟩) rfl (by kernel_rfl) (by kernel_rfl) (by kernel_rfl) (fun _ _ _ h => h) (Or.inl ⟨by kernel_rfl, fun W hS => ?_⟩) (by assumption) ?_
      · dsimp only at hS; go_split_ands; go_simp
      simp only [Act.put, List.setIfInBounds_toArray, List.set_cons_zero, List.set_cons_succ]
      refine wpAnyH_take (i := 9) (v := (.pointer (some ⟨b, 0, none⟩))) (oi := ⟨_, _, _, _, _, _⟩) rfl (by kernel_rfl) (by kernel_rfl) (by kernel_rfl) (fun _ _ _ h => h) (Or.inl ⟨by kernel_rfl, fun W hS => ?_⟩) (by assumption) ?_
      · dsimp only at hS; go_split_ands; go_simp
      simp only [Act.put, List.setIfInBounds_toArray, List.set_cons_zero, List.set_cons_succ]
      refine wpAnyH_take (i := 11) (v := (.slice Ai ni ci)) (oi := ⟨_, _, _, _, _, _⟩) rfl (by kernel_rfl) (by kernel_rfl) (by kernel_rfl) (fun _ _ _ h => h) (Or.inl ⟨by kernel_rfl, fun W hS => ?_⟩) (by assumption) ?_
      · dsimp only at hS; go_split_ands; go_simp
      simp only [Act.put, List.setIfInBounds_toArray, List.set_cons_zero, List.set_cons_succ]
      refine wpAnyH_take (i := 12) (v := (.int .i64 (k : Int))) (oi := ⟨_, _, _, _, _, _⟩) rfl (by kernel_rfl) (by kernel_rfl) (by kernel_rfl) (fun _ _ _ h => h) (Or.inl ⟨by kernel_rfl, fun W hS => ?_⟩) (by assumption) ?_
      · dsimp only at hS; go_split_ands; go_simp
      simp only [Act.put, List.setIfInBounds_toArray, List.set_cons_zero, List.set_cons_succ]
      refine wpAnyH_take (i := 13) (v := (.slice Ai k ci)) (oi := ⟨_, _, _, _, _, _⟩) rfl (by kernel_rfl) (by kernel_rfl) (by kernel_rfl) (fun _ _ _ h => h) (Or.inl ⟨by kernel_rfl, fun W hS => ?_⟩) (by assumption) ?_
      · dsimp only at hS; go_split_ands; go_simp
      simp only [Act.put, List.setIfInBounds_toArray, List.set_cons_zero, List.set_cons_succ]
      refine wpAnyH_ready (rs := [10]) (by kernel_rfl) (by decide) (AllReadyH.cons (o := ⟨_, _, _, _, _, _⟩) rfl (fun K hK => ?_) AllReadyH.nil)
      rw [if_pos (by kernel_rfl)]
      go_simp
      refine hK.out _ _ (hHeld) (fun hHeld => ?_)
      clear hK K
      try simp only [Act.put, List.setIfInBounds_toArray, List.set_cons_zero, List.set_cons_succ]
      refine wpAnyH_ready (rs := [14]) (by kernel_rfl) (by decide) (AllReadyH.cons (o := ⟨_, _, _, _, _, _⟩) rfl (fun K hK => ?_) AllReadyH.nil)
      refine at_list rfl ?_; intro Q2 hQ2; at_builtin; refine print_append_row (w0 := (wr.drewN nq).drew) 0 rfl (.tmp 54) (.tmp 57) 22 5 .u8 1 rfl Try.underlying22 u8_info (by decide) (.slice A1 n1 c1) _ (p.take k) Ai k ci rfl rfl HDd.out.row.own hrd.rd (Below.refl _ _) (by first | exact Nat.le_refl _ | exact Nat.zero_le _) (by rw [HDd.out.len]; omega) ?_; intro v3 w3 hown hb3 hg3 ha3; have hO3 : OB 5 w3 0 v3 (wHeld D n (L.take (j + 1)).flatten) := (by rw [← hst]; exact ⟨hown, HDd.out.row.byt.append hrd.byt⟩); clear hown; obtain ⟨A3, c3, rfl, _, _⟩ := hO3.reads'; rw [hl3] at hO3 ha3 ⊢; refine hQ2 _ _ ?_; clear hQ2 Q2
      refine hK.out _ _ ((HDd.out.grow hg3 (.inr rfl)).1) (fun hHeld => ?_)
      clear hK K
      try simp only [Act.put, List.setIfInBounds_toArray, List.set_cons_zero, List.set_cons_succ]
      refine wpAnyH_take (i := 15) (v := (.pointer (some ⟨b, 0, none⟩))) (oi := ⟨_, _, _, _, _, _⟩) rfl (by kernel_rfl) (by kernel_rfl) (by kernel_rfl) (fun _ _ _ h => h) (Or.inl ⟨by kernel_rfl, fun W hS => ?_⟩) (by assumption) ?_
      · dsimp only at hS; go_split_ands; go_simp
      simp only [Act.put, List.setIfInBounds_toArray, List.set_cons_zero, List.set_cons_succ]
      refine wpAnyH_take (i := 16) (v := (.pointer (some ⟨b, 0, none⟩))) (oi := ⟨_, _, _, _, _, _⟩) rfl (by kernel_rfl) (by kernel_rfl) (by kernel_rfl) (fun _ _ _ h => h) (Or.inl ⟨by kernel_rfl, fun W hS => ?_⟩) (by assumption) ?_
      · dsimp only at hS; go_split_ands; go_simp
      simp only [Act.put, List.setIfInBounds_toArray, List.set_cons_zero, List.set_cons_succ]
      refine wpAnyH_ready (rs := [17]) (by kernel_rfl) (by decide) (AllReadyH.cons (o := ⟨_, _, _, _, _, _⟩) rfl (fun K hK => ?_) AllReadyH.nil)
      have hb3c := (HDd.out.grow hg3 (.inr rfl)).2.1
      have hf3 := (HDd.out.grow hg3 (.inr rfl)).2.2
      rw [if_pos (by kernel_rfl)]
      go_simp
      refine hK.out _ _ (by rw [World.cell?_setCell_far _ _ _ _ hdb.symm]; exact hHeld) (fun hHeld => ?_)
      clear hK K
      try simp only [Act.put, List.setIfInBounds_toArray, List.set_cons_zero, List.set_cons_succ]
      refine wpAnyH_done (by kernel_rfl) ?_ _
      have H5 := Lib.hid (HDd.out.setHeld hg3 (.inr rfl) hO3 hl3 hfr)
      have ho5 : Only w1 (w3.setCell ⟨b, 0, none⟩ (.slice A3 (n1 + k) c3)) (df d b A n c) := (hOd.grown hg3 (fun i e => hN i (.inr (.inr e)))).set b 0 _ (.inl (.inr (.inl rfl)))
      have hN5 : Onto w1 (df d b A n c) (df d b A3 (n1 + k) c3) := by
        rintro i (rfl | rfl | hi)
        · exact .inl (.inl rfl)
        · exact .inl (.inr (.inl rfl))
        · rcases ha3 with e | ⟨b', e, hb'⟩
          · exact hN i (.inr (.inr (e.symm.trans hi)))
          · have e1 : b' = i := Option.some.inj (e.symm.trans hi)
            subst e1
            exact .inr (Nat.le_trans hOd.size hb')
      clear hHeld hg3 ha3 hO3 hrd hOd hst h0d h1d h0 h1
      generalize w3.setCell ⟨b, 0, none⟩ (.slice A3 (n1 + k) c3) = w5 at *
      go_wp2_with fail
      go_roundg g
      case measure => omega
      case rel => exact ⟨j + 1, A3, n1 + k, c3, m + k, by simp, by simp, H5.out, ho5, hN5, by have := HG.out; show j + 1 + g = np; omega, HMS⟩
end
end Go.Proofs.Ytodhcgidmdeifaa
