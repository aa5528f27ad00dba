/- The walk of WirePuts. -/
import Derived.Test.YtiadfmbddkcleaaWiD
namespace Go.Proofs.Ytiadfmbddkcleaa
open Go.RowKit Go.Kit Go.Proofs.YtiadfmbddkcleaaW.PrintWords
theorem sh_300 : sh 300 = [172, 2] := by rw [sh_big (by omega), sh_small (by omega)]; rfl
theorem Size_300 (w : World) : Calls Try.prog 12 #[.int .u64 300] w fun e w' => e = .returned (.int .i64 2) ∧ w' = w := by
  refine (Size_any 300 w (by omega)).mono ?_
  rintro e w1 ⟨rfl, rfl⟩
  rw [sh_300]
  exact ⟨rfl, rfl⟩
theorem Put_300 (w : World) (A : Option Addr) (c : Nat) (h : RB w A 1 [7]) : Calls Try.prog 14 #[.slice A 1 c, .int .u64 300] w fun e w' => ∃ v, e = .returned v ∧ OB 5 w' w.heap.size v [7, 172, 2] ∧ Below w.heap.size w w' := by
  refine (PutUint_any 300 h (by omega) (by omega) (by omega)).mono ?_
  rintro e w1 ⟨v, rfl, hO, hb⟩
  rw [show (300 : Int).toNat = 300 from rfl, sh_300] at hO
  exact ⟨v, rfl, hO, hb⟩
set_option maxHeartbeats 8000000 in
set_option maxRecDepth 100000 in
theorem WirePuts_walk (A : Option Addr) (np cp : Nat) (L : List Pu) (w : World) (hP : RP w A np L) (hS : pws L ≤ 1048576) :
    Calls Try.prog 3 #[.slice A np cp] w fun e w' => e = .returned (.bool true) ∧ Below w.heap.size w w' := by
  have hmx := hP.max
  have HLn := Lib.hid hP.len
  have HC : Hid (∀ i, (cat (L.take i)).length ≤ 10485760) := Lib.hid (fun i => by
    have h1 := pws_take L i
    have h2 := cat_length (L.take i) (fun p hp => hP.all p (List.mem_of_mem_take hp)) (by omega)
    omega)
  have HS := Lib.hid hS
  clear hS
  go_enter Try.func3, Try.ntmps3
  go_wp2_with fail
  go_loopg [3, 4, 9] np (fun gk v3 v4 v9 w' => ∃ (i : Nat), v9 = .int .i64 (i : Int) ∧ OB 5 w' w.heap.size v3 (cat (L.take i)) ∧ OB 5 w' w.heap.size v4 (cat (L.take i)) ∧ Below w.heap.size w w' ∧ Hid (i ≤ np ∧ gk = np - i))
  case atStart => exact ⟨0, rfl, by simpa [cat] using OB.nil _ _ _, by simpa [cat] using OB.nil _ _ _, Below.refl _ _, by omega, rfl⟩
  case round =>
    obtain ⟨i, rfl, hO3, hO4, hb1, HG⟩ := hrel
    have hsz := hb1.size
    by_cases hi : i < np
    · obtain ⟨ad, B, m, c, p, rfl, h0, h1, h2, h3, hT, hok, hx⟩ := hP.at0 i hi
      have hi2 : (i : Int) < (np : Int) := by omega
      have HX := Lib.hid hx
      have hpw : pw p ≤ 1048576 := Nat.le_trans (pws_mem (List.mem_of_getElem? hx)) HS.out
      have HK : Hid (∀ s ∈ p.texts, s.size ≤ 1048576) := Lib.hid (fun s hs => by have := tw_mem hs; unfold pw at hpw; omega)
      have hm : m ≤ 1048576 := by have h := tw_len p.texts; rw [hT.len] at h; unfold pw at hpw; omega
      have HLL : Hid ((laid p).length ≤ 10485760) := Lib.hid (by have := laid_length hok (by omega); omega)
      clear hx hpw
      obtain ⟨hu0, hu1, hi0, hi1⟩ := hok
      have HOK : Hid p.ok := Lib.hid ⟨hu0, hu1, hi0, hi1⟩
      obtain ⟨ns, hns⟩ : ∃ ns : Nat, (sh p.u.toNat).length = ns := ⟨_, rfl⟩
      have hba := below_alloc (Below.refl wr.heap.size wr) (.cells #[.int .i64 p.kind, .int .u64 p.u, .int .i64 p.i, .slice B m c] 27)
      have hbk := heap_alloc_new wr (.cells #[.int .i64 p.kind, .int .u64 p.u, .int .i64 p.i, .slice B m c] 27)
      replace h0 := pw_cell_below hb1 h0
      replace h1 := pw_cell_below hb1 h1
      replace h2 := pw_cell_below hb1 h2
      replace h3 := pw_cell_below hb1 h3
      have hT1 := (hT.below hb1).below hba
      have hO3a := hO3.below hba
      have hO4a := hO4.below hba
      have hb2 := below_step hb1 hba
      clear hO3 hO4 hT
      obtain ⟨A3, c3, rfl, hR3, _⟩ := hO3a.reads'
      have HCi := Lib.hid (HC.out i)
      go_wp2_with fail
      generalize wr.alloc (.cells #[.int .i64 p.kind, .int .u64 p.u, .int .i64 p.i, .slice B m c] 27) = wa at *
      have hgp : wa.cell? ⟨wr.heap.size, 1, none⟩ = some (.int .u64 p.u) := cell_of_row wa _ 1 _ _ _ hbk
      generalize wr.heap.size = gp at *
      refine (lay_any hR3 p hT1 HOK.out 1048576 (by omega) HK.out (by have := HCi.out; omega)).mono ?_
      rintro e wb ⟨v3, rfl, hO3b, hbb⟩
      have hO4b := hO4a.below hbb
      have hTb := hT1.below hbb
      have hgpb := pw_cell_below hbb hgp
      have hb3 := below_step hb2 hbb
      have hkb := hbb.block _ (lt_of_block hbk)
      rw [hbk] at hkb
      have q0 := cell_of_row wb _ 0 _ _ _ hkb
      have q1 := cell_of_row wb _ 1 _ _ _ hkb
      have q2 := cell_of_row wb _ 2 _ _ _ hkb
      have q3 := cell_of_row wb _ 3 _ _ _ hkb
      simp only [List.getElem?_toArray, List.getElem?_cons_zero, List.getElem?_cons_succ] at q0 q1 q2 q3
      go_wp2_with fail
      clear q0 q1 q2 q3
      refine (told_any p hTb HOK.out 1048576 (by omega) HK.out (by omega)).mono ?_
      rintro e wc ⟨vt, rfl, hOt, hbc⟩
      have hO4c := hO4b.below hbc
      have hO3c := hO3b.below hbc
      have hgpc := pw_cell_below hbc hgpb
      have hb4 := below_step hb3 hbc
      have hkc := hbc.block _ (lt_of_block hkb)
      rw [hkb] at hkc
      have hne := apart_new hO3b.from hO4a.old
      have hgne := hO4c.not_block hkc (by decide)
      obtain ⟨At, ct, rfl, hRt, _⟩ := hOt.reads'
      have hs4 := hb4.size
      have hsa := hb2.size
      clear hO3a hO4a hR3 hT1 hTb hOt hO4b hO3b hgpb hgp hbk hkb hkc hb2 hb3 hba hbb hbc
      go_wp2_with (at_builtin; refine push_row (w0 := w) w.heap.size rfl (.tmp 16) (.tmp 18) 23 (laid p) At _ ct rfl Try.underlying23 u8_info rfl rfl hO4c hRt hb4 hs4 (by have := HCi.out; have := HLL.out; omega) ?_)
      intro v4 wd hO4 hb5 hg _
      have hO3 : OB 5 wd w.heap.size v3 (cat (L.take (i + 1))) := by
        rw [cat_snoc HX.out]
        exact (hO3c.kept hg hne).less hsa
      replace hO4 : OB 5 wd w.heap.size v4 (cat (L.take (i + 1))) := by rw [cat_snoc HX.out]; exact hO4
      have hgp : wd.cell? ⟨gp, 1, none⟩ = some (.int .u64 p.u) := ((Only.refl wc (rf u4)).grown hg (fun k e => .inl e)).cell hgpc hgne
      clear hO3c hO4c hRt hg hne hgne hgpc hb4 hs4
      obtain ⟨A1, c1, rfl, hR1, _⟩ := hO3.reads'
      obtain ⟨A2, c2, rfl, hR2, _⟩ := hO4.reads'
      obtain ⟨nc, hnc⟩ : ∃ nc, (cat (L.take (i + 1))).length = nc := ⟨_, rfl⟩
      rw [hnc] at hO3 hO4 hR1 hR2 ⊢
      replace hO3 := hO3.below (pw_below_drewN (Below.refl _ _) 1)
      replace hO4 := hO4.below (pw_below_drewN (Below.refl _ _) 1)
      replace hR1 := hR1.drew
      replace hR2 := hR2.drew
      have hb4 := below_drew hb5
      clear hb5 hnc
      go_wp2_with fail
      refine wp_region_held_drew (S := fun w' => w'.cell? ⟨gp, 1, none⟩ = some (.int .u64 p.u)) (by kernel_rfl) (hgp) (fun hHeld => ?_)
      refine wpAnyH_take (i := 0) (v := (.slice A1 nc c1)) (oi := ⟨_, _, _, _, _, _⟩) rfl (by kernel_rfl) (by kernel_rfl) (by kernel_rfl) (fun _ _ _ h => h) (Or.inl ⟨by kernel_rfl, fun W hS => ?_⟩) (by assumption) ?_
      · dsimp only at hS; go_split_ands; go_simp
      simp only [Act.put, List.setIfInBounds_toArray, List.set_cons_zero, List.set_cons_succ]
      refine wpAnyH_take (i := 1) (v := (.slice A2 nc c2)) (oi := ⟨_, _, _, _, _, _⟩) rfl (by kernel_rfl) (by kernel_rfl) (by kernel_rfl) (fun _ _ _ h => h) (Or.inl ⟨by kernel_rfl, fun W hS => ?_⟩) (by assumption) ?_
      · dsimp only at hS; go_split_ands; go_simp
      simp only [Act.put, List.setIfInBounds_toArray, List.set_cons_zero, List.set_cons_succ]
      refine wpAnyH_ready (rs := [2]) (by kernel_rfl) (by decide) (AllReadyH.cons (o := ⟨_, _, _, _, _, _⟩) rfl (fun K hK => ?_) AllReadyH.nil)
      rw [if_pos (by kernel_rfl)]
      go_simp
      refine (Equal_same hR1 hR2 rfl).mono ?_
      rintro e w5 ⟨rfl, rfl⟩
      go_wp2_with fail
      refine hK.out _ _ (hHeld) (fun hHeld => ?_)
      clear hK K
      try simp only [Act.put, List.setIfInBounds_toArray, List.set_cons_zero, List.set_cons_succ]
      refine wpAnyH_take (i := 3) (v := (.bool false)) (oi := ⟨_, _, _, _, _, _⟩) rfl (by kernel_rfl) (by kernel_rfl) (by kernel_rfl) (fun _ _ _ h => h) (Or.inl ⟨by kernel_rfl, fun W hS => ?_⟩) (by assumption) ?_
      · dsimp only at hS; go_split_ands; go_simp
      simp only [Act.put, List.setIfInBounds_toArray, List.set_cons_zero, List.set_cons_succ]
      refine wpAnyH_take (i := 4) (v := (.bool false)) (oi := ⟨_, _, _, _, _, _⟩) rfl (by kernel_rfl) (by kernel_rfl) (by kernel_rfl) (fun _ _ _ h => h) (Or.inl ⟨by kernel_rfl, fun W hS => ?_⟩) (by assumption) ?_
      · dsimp only at hS; go_split_ands; go_simp
      simp only [Act.put, List.setIfInBounds_toArray, List.set_cons_zero, List.set_cons_succ]
      refine wpAnyH_take (i := 5) (v := (.pointer (some ⟨gp, 1, none⟩))) (oi := ⟨_, _, _, _, _, _⟩) rfl (by kernel_rfl) (by kernel_rfl) (by kernel_rfl) (fun _ _ _ h => h) (Or.inl ⟨by kernel_rfl, fun W hS => ?_⟩) (by assumption) ?_
      · dsimp only at hS; go_split_ands; go_simp
      simp only [Act.put, List.setIfInBounds_toArray, List.set_cons_zero, List.set_cons_succ]
      refine wpAnyH_take (i := 6) (v := (.int .u64 p.u)) (oi := ⟨_, _, _, _, _, _⟩) rfl (by kernel_rfl) (by kernel_rfl) (by kernel_rfl) (fun _ _ _ h => h) (Or.inl ⟨by kernel_rfl, fun W hS => ?_⟩) (by assumption) ?_
      · dsimp only at hS; go_split_ands; go_simp
      simp only [Act.put, List.setIfInBounds_toArray, List.set_cons_zero, List.set_cons_succ]
      refine wpAnyH_take (i := 8) (v := (.pointer (some ⟨gp, 1, none⟩))) (oi := ⟨_, _, _, _, _, _⟩) rfl (by kernel_rfl) (by kernel_rfl) (by kernel_rfl) (fun _ _ _ h => h) (Or.inl ⟨by kernel_rfl, fun W hS => ?_⟩) (by assumption) ?_
      · dsimp only at hS; go_split_ands; go_simp
      simp only [Act.put, List.setIfInBounds_toArray, List.set_cons_zero, List.set_cons_succ]
      refine wpAnyH_take (i := 9) (v := (.int .u64 p.u)) (oi := ⟨_, _, _, _, _, _⟩) rfl (by kernel_rfl) (by kernel_rfl) (by kernel_rfl) (fun _ _ _ h => h) (Or.inl ⟨by kernel_rfl, fun W hS => ?_⟩) (by assumption) ?_
      · dsimp only at hS; go_split_ands; go_simp
      simp only [Act.put, List.setIfInBounds_toArray, List.set_cons_zero, List.set_cons_succ]
      refine wpAnyH_ready (rs := [7]) (by kernel_rfl) (by decide) (AllReadyH.cons (o := ⟨_, _, _, _, _, _⟩) rfl (fun K hK => ?_) AllReadyH.nil)
      rw [if_pos (by kernel_rfl)]
      go_simp
      refine (Size_int p.u hu0 hu1).mono ?_
      rintro e w6 ⟨rfl, rfl⟩
      rw [hns]
      go_wp2_with fail
      refine hK.out _ _ (hHeld) (fun hHeld => ?_)
      clear hK K
      try simp only [Act.put, List.setIfInBounds_toArray, List.set_cons_zero, List.set_cons_succ]
      refine wpAnyH_ready (rs := [10]) (by kernel_rfl) (by decide) (AllReadyH.cons (o := ⟨_, _, _, _, _, _⟩) rfl (fun K hK => ?_) AllReadyH.nil)
      rw [if_pos (by kernel_rfl)]
      go_simp
      refine (rUint_int p.u hu0 hu1).mono ?_
      rintro e w7 ⟨v7, rfl, hO7, hb7⟩
      obtain ⟨A7, c7, rfl, _, _⟩ := hO7.reads'
      rw [hns]
      replace hO3 := hO3.below hb7
      replace hO4 := hO4.below hb7
      have hb8 := below_step hb4 hb7
      clear hO7
      go_wp2_with fail
      refine hK.out _ _ (pw_cell_below hb7 hHeld) (fun hHeld => ?_)
      clear hK K
      try simp only [Act.put, List.setIfInBounds_toArray, List.set_cons_zero, List.set_cons_succ]
      refine wpAnyH_take (i := 11) (v := (.int .i64 (ns : Int))) (oi := ⟨_, _, _, _, _, _⟩) rfl (by kernel_rfl) (by kernel_rfl) (by kernel_rfl) (fun _ _ _ h => h) (Or.inl ⟨by kernel_rfl, fun W hS => ?_⟩) (by assumption) ?_
      · dsimp only at hS; go_split_ands; go_simp
      simp only [Act.put, List.setIfInBounds_toArray, List.set_cons_zero, List.set_cons_succ]
      refine wpAnyH_take (i := 12) (v := (.bool false)) (oi := ⟨_, _, _, _, _, _⟩) rfl (by kernel_rfl) (by kernel_rfl) (by kernel_rfl) (fun _ _ _ h => h) (Or.inl ⟨by kernel_rfl, fun W hS => ?_⟩) (by assumption) ?_
      · dsimp only at hS; go_split_ands; go_simp
      simp only [Act.put, List.setIfInBounds_toArray, List.set_cons_zero, List.set_cons_succ]
      refine wpAnyH_take (i := 13) (v := (.bool false)) (oi := ⟨_, _, _, _, _, _⟩) rfl (by kernel_rfl) (by kernel_rfl) (by kernel_rfl) (fun _ _ _ h => h) (Or.inl ⟨by kernel_rfl, fun W hS => ?_⟩) (by assumption) ?_
      · dsimp only at hS; go_split_ands; go_simp
      simp only [Act.put, List.setIfInBounds_toArray, List.set_cons_zero, List.set_cons_succ]
      refine wpAnyH_done (by kernel_rfl) ?_ _
      go_wp2_with fail
      go_roundg (gk - 1)
      case measure => have := HG.out.2; omega
      case rel => exact ⟨i + 1, by simp, hO3, hO4, hb8, by omega, by have := HG.out.2; omega⟩
    · have hin : i = np := by have := HG.out; omega
      subst hin
      clear hO3 hO4
      go_wp2_with fail
      refine (Size_300 _).mono ?_
      rintro e wa ⟨rfl, rfl⟩
      have hbl := below_alloc hb1 (.cells #[.int .u8 7] 5)
      have hR7 := RB.lit wa [7] (Byt.one (by omega) (by omega)) (by simp) 5 (0, 0)
      go_wp2_with fail
      refine (Put_300 _ _ _ hR7).mono ?_
      rintro e wb ⟨vb, rfl, hOb, hbb⟩
      have hb2 := below_step hbl hbb
      obtain ⟨A1, c1, rfl, hR1, _⟩ := hOb.reads'
      have hbl2 := below_alloc (Below.refl _ wb) (.cells #[.int .u8 7, .int .u8 172, .int .u8 2] 5)
      have hR8 := RB.lit wb [7, 172, 2] (by intro x hx; simp at hx; omega) (by simp) 5 (0, 0)
      have hb3 := below_step hb2 hbl2
      replace hR1 := hR1.below hbl2
      clear hOb hbb hbl hbl2 hb2
      go_wp2_with fail
      refine (Equal_same hR1 hR8 rfl).mono ?_
      rintro e wc ⟨rfl, rfl⟩
      go_wp2_with fail
      go_ret
      exact ⟨rfl, hb3⟩
end Go.Proofs.Ytiadfmbddkcleaa
