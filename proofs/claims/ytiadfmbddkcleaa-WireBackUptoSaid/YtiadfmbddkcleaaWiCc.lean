/- The walk of WireBack. -/
import Derived.Test.YtiadfmbddkcleaaWiCb
import Derived.Test.YtiadfmbddkcleaaWiBd
import Derived.Test.YtiadfmbddkcleaaWiBe
import Derived.Test.YtiadfmbddkcleaaRSm
namespace Go.Proofs.Ytiadfmbddkcleaa
open Go.RowKit Go.Kit Go.Proofs.YtiadfmbddkcleaaW.PrintWords
set_option maxHeartbeats 16000000 in
set_option maxRecDepth 100000 in
theorem WireBack_walk (A : Option Addr) (np cp : Nat) (L : List Pu) (Ab : Option Addr) (nb cb : Nat) (ys : List Int) (w : World) (hP : RP w A np L) (hS : pws L ≤ 1048576) (hy : RB w Ab nb ys) (hnb : nb ≤ 1048576) :
    Calls Try.prog 5 #[.slice A np cp, .slice Ab nb cb] w fun e w' => e = .returned (.bool true) ∧ Below w.heap.size w w' := by
  have hmx := hP.max
  have HLn := Lib.hid hP.len
  have HLy := Lib.hid hy.len
  have HC : Hid (∀ i, (cat (L.take i)).length ≤ 10485760) := Lib.hid (fun i => by
    have h1 := pws_take L i
    have h2 := cat_length (L.take i) (fun p hp => hP.all p (List.mem_of_mem_take hp)) (by omega)
    omega)
  have HS := Lib.hid hS
  clear hS
  go_enter Try.func5, Try.ntmps5
  go_wp2_with fail
  go_loopg [5, 16] np (fun gk v3 v9 w' => ∃ (i : Nat), v9 = .int .i64 (i : Int) ∧ OB 5 w' w.heap.size v3 (cat (L.take i)) ∧ Below w.heap.size w w' ∧ Hid (i ≤ np ∧ gk = np - i))
  case atStart => exact ⟨0, rfl, by simpa [cat] using OB.nil _ _ _, Below.refl _ _, by omega, rfl⟩
  case round =>
    obtain ⟨i, rfl, hO3, hb1, HG⟩ := hrel
    have hsz := hb1.size
    by_cases hi : i < np
    · obtain ⟨ad, B, m, c, p, rfl, h0, h1, h2, h3, hT, hok, hx⟩ := hP.at0 i hi
      have hi2 : (i : Int) < (np : Int) := by omega
      have HX := Lib.hid hx
      have hpw : pw p ≤ 1048576 := Nat.le_trans (pws_mem (List.mem_of_getElem? hx)) HS.out
      have HK : Hid (∀ s ∈ p.texts, s.size ≤ 1048576) := Lib.hid (fun s hs => by have := tw_mem hs; unfold pw at hpw; omega)
      have hm : m ≤ 1048576 := by have h := tw_len p.texts; rw [hT.len] at h; unfold pw at hpw; omega
      clear hx hpw
      obtain ⟨hu0, hu1, hi0, hi1⟩ := hok
      have HOK : Hid p.ok := Lib.hid ⟨hu0, hu1, hi0, hi1⟩
      have hba := below_alloc (Below.refl wr.heap.size wr) (.cells #[.int .i64 p.kind, .int .u64 p.u, .int .i64 p.i, .slice B m c] 27)
      replace h0 := pw_cell_below hb1 h0
      replace h1 := pw_cell_below hb1 h1
      replace h2 := pw_cell_below hb1 h2
      replace h3 := pw_cell_below hb1 h3
      have hT1 := (hT.below hb1).below hba
      have hO3a := hO3.below hba
      have hb2 := below_step hb1 hba
      clear hO3 hT
      obtain ⟨A3, c3, rfl, hR3, _⟩ := hO3a.reads'
      have HCi := Lib.hid (HC.out i)
      go_wp2_with fail
      generalize wr.alloc (.cells #[.int .i64 p.kind, .int .u64 p.u, .int .i64 p.i, .slice B m c] 27) = wa at *
      refine (lay_any hR3 p hT1 HOK.out 1048576 (by omega) HK.out (by have := HCi.out; omega)).mono ?_
      rintro e wb ⟨v3, rfl, hO3b, hbb⟩
      have hb3 := below_step hb2 hbb
      have hO4 : OB 5 wb w.heap.size v3 (cat (L.take (i + 1))) := by
        rw [cat_snoc HX.out]
        exact hO3b.less hb2.size
      clear hO3a hO3b hR3 hT1 hba hbb hb2 hb1 h0 h1 h2 h3
      go_wp2_with fail
      go_roundg (gk - 1)
      case measure => have := HG.out.2; omega
      case rel => exact ⟨i + 1, by simp, hO4, hb3, by have := HG.out.2; omega, by have := HG.out.2; omega⟩
    · have hin : np = i := by have := HG.out; omega
      subst hin
      rw [List.take_of_length_le (by rw [HLn.out]; exact Nat.le_refl _)] at hO3
      have HCL : Hid ((cat L).length ≤ 10485760) := Lib.hid (by have := HC.out np; rwa [List.take_of_length_le (by rw [HLn.out]; exact Nat.le_refl _)] at this)
      obtain ⟨A5, c5, rfl, hR5, _⟩ := hO3.reads'
      obtain ⟨nl, hnl⟩ : ∃ nl, (cat L).length = nl := ⟨_, rfl⟩
      rw [hnl] at hO3 hR5 ⊢
      have HNL := Lib.hid hnl
      have hnl2 : nl ≤ 10485760 := by have := HCL.out; omega
      clear hnl HC hO3 HG HCL
      go_wp2_with (at_builtin; refine push_row (w0 := w) w.heap.size rfl (.const (.slice none 0 0)) (.tmp 24) 23 (cat L) A5 nl c5 rfl Try.underlying23 u8_info rfl rfl (OB.nil _ _ _) hR5 hb1 hb1.size (by simp; omega) ?_)
      intro v6 w6 hO6 hb6 _ _
      have hy6 := hy.below hb6
      clear hR5 hb1
      go_wp2_with (at_builtin; refine push_row (w0 := w) w.heap.size rfl (.tmp 25) (.tmp 26) 23 ys Ab nb cb rfl Try.underlying23 u8_info rfl rfl hO6 hy6 hb6 hb6.size (by rw [HNL.out]; omega) ?_)
      intro v7 w7 hO7 hb7 _ _
      obtain ⟨A7, c7, rfl, hR7, _⟩ := hO7.reads'
      obtain ⟨nt, hnt⟩ : ∃ nt, (cat L ++ ys).length = nt := ⟨_, rfl⟩
      have HNT : Hid (nt = nl + nb) := Lib.hid (by rw [← hnt, List.length_append, HNL.out, HLy.out])
      have hnt2 : nt ≤ 11534336 := by have := HNT.out; omega
      rw [hnt] at hR7 ⊢
      clear hO7 hO6 hb6 hy6 hnt
      go_wp2_with fail
      refine (NewReader_any A7 nt c7 (cat L ++ ys) _ hR7 (by omega)).mono ?_
      rintro e w8 ⟨r, A', ct, rfl, hr, hf, hb8⟩
      have hB8 := below_step hb7 hb8
      have hrg : w.heap.size ≤ r := Nat.le_trans hb7.size (hf r (.inl rfl))
      clear hR7 hf hb7 hb8
      go_wp2_with fail
      refine (alive_any _).mono ?_
      rintro e w9 ⟨rfl, hb9⟩
      replace hr := hr.below hb9
      have hB9 := below_step hB8 hb9
      replace hr : RS w9 r A' nt ct (Bk L ys 0) := hr
      clear hB8 hb9
      go_wp2_with fail
      go_loopg [37] np (fun gk vi w' => ∃ (i : Nat), vi = .int .i64 (i : Int) ∧ RS w' r A' nt ct (Bk L ys i) ∧ Below w.heap.size w w' ∧ Hid (i ≤ np ∧ gk = np - i))
      case atStart => exact ⟨0, rfl, hr, hB9, by omega, rfl⟩
      case round =>
        clear hr hB9
        obtain ⟨i, rfl, hr, hB, HG⟩ := hrel
        by_cases hi : i < np
        · obtain ⟨ad, B, m, c, p, rfl, h0, h1, h2, h3, hT, hok, hx⟩ := hP.at0 i hi
          have hi2 : (i : Int) < (np : Int) := by omega
          have HX := Lib.hid hx
          have hpw : pw p ≤ 1048576 := Nat.le_trans (pws_mem (List.mem_of_getElem? hx)) HS.out
          have HK : Hid (∀ s ∈ p.texts, s.size ≤ 1048576) := Lib.hid (fun s hs => by have := tw_mem hs; unfold pw at hpw; omega)
          have HML := Lib.hid hT.len
          have hm : m ≤ 1048576 := by have h := tw_len p.texts; rw [hT.len] at h; unfold pw at hpw; omega
          clear hx hpw
          obtain ⟨hu0, hu1, hi0, hi1⟩ := hok
          have hba := below_alloc (Below.refl wr.heap.size wr) (.cells #[.int .i64 p.kind, .int .u64 p.u, .int .i64 p.i, .slice B m c] 27)
          have hbk := heap_alloc_new wr (.cells #[.int .i64 p.kind, .int .u64 p.u, .int .i64 p.i, .slice B m c] 27)
          have hgr : wr.heap.size ≠ r := fun e => absurd (hr.oldF r (.inl rfl)) (by omega)
          replace h0 := pw_cell_below hB h0
          replace h1 := pw_cell_below hB h1
          replace h2 := pw_cell_below hB h2
          replace h3 := pw_cell_below hB h3
          have hT1 := (hT.below hB).below hba
          have hr1 := hr.below hba
          have hB1 := below_step hB hba
          have HGK := Lib.hid HG.out.2
          clear hr hB HG hba
          go_upto_region 14 with (fail)
          generalize wr.alloc (.cells #[.int .i64 p.kind, .int .u64 p.u, .int .i64 p.i, .slice B m c] 27) = wa at *
          obtain ⟨q0, q1, q2, q3⟩ := cells4 hbk
          generalize wr.heap.size = gp at q0 q1 q2 q3 hgr ⊢
          clear h0 h1 h2 h3 hbk
          obtain ⟨kz, hk⟩ : ∃ kz, (wrap64 (p.kind.tmod 5 + 5)).tmod 5 = kz := ⟨_, rfl⟩
          have hlo := laid_of (p := p) (k := kz) hk
          have h5 := kind5 p.kind
          rw [hk] at h5
          have hr0 : RS wa.drew r A' nt ct (Bk L ys i) := hr1.drewN 1
          have hB0 := below_drew hB1
          by_cases k0 : kz = 0
          · subst k0
            have HP := Lib.hid (hlo.1 rfl)
            clear hlo h5
            go_wp2_with fail
            refine wp_region_held_drew (S := fun w' => w'.cell? ⟨gp, 1, none⟩ = some (.int .u64 p.u)) (by kernel_rfl) (q1) (fun hHeld => ?_)
            refine wpAnyH_take (i := 0) (v := (.pointer (some ⟨r, 0, none⟩))) (oi := ⟨_, _, _, _, _, _⟩) rfl (by kernel_rfl) (by kernel_rfl) (by kernel_rfl) (fun _ _ _ h => h) (Or.inl ⟨by kernel_rfl, fun W hS => ?_⟩) (by assumption) ?_
            · dsimp only at hS; go_split_ands; go_simp
            simp only [Act.put, List.setIfInBounds_toArray, List.set_cons_zero, List.set_cons_succ]
            refine wpAnyH_take (i := 2) (v := (.pointer (some ⟨gp, 1, none⟩))) (oi := ⟨_, _, _, _, _, _⟩) rfl (by kernel_rfl) (by kernel_rfl) (by kernel_rfl) (fun _ _ _ h => h) (Or.inl ⟨by kernel_rfl, fun W hS => ?_⟩) (by assumption) ?_
            · dsimp only at hS; go_split_ands; go_simp
            simp only [Act.put, List.setIfInBounds_toArray, List.set_cons_zero, List.set_cons_succ]
            refine wpAnyH_take (i := 3) (v := (.int .u64 p.u)) (oi := ⟨_, _, _, _, _, _⟩) rfl (by kernel_rfl) (by kernel_rfl) (by kernel_rfl) (fun _ _ _ h => h) (Or.inl ⟨by kernel_rfl, fun W hS => ?_⟩) (by assumption) ?_
            · dsimp only at hS; go_split_ands; go_simp
            simp only [Act.put, List.setIfInBounds_toArray, List.set_cons_zero, List.set_cons_succ]
            refine wpAnyH_ready (rs := [1]) (by kernel_rfl) (by decide) (AllReadyH.cons (o := ⟨_, _, _, _, _, _⟩) rfl (fun K hK => ?_) AllReadyH.nil)
            rw [if_pos (by kernel_rfl)]
            go_simp
            refine (Uint_any hr0).mono ?_
            rintro e w11 ⟨D1, v, rfl, HV, hr2, ho2⟩
            have hv := HV.out
            rw [bk_uint HX.out HP.out (by omega)] at hv
            obtain ⟨rfl, rfl⟩ := Prod.mk.inj hv
            have hB2 := Below.only hB0 ho2 hB0.size (fun j e => by rw [e]; exact hrg)
            clear hv HV
            rw [show ((p.u.toNat : Nat) : Int) = p.u by omega]
            go_wp2_with fail
            refine hK.out _ _ (ho2.cell hHeld hgr) (fun hHeld => ?_)
            clear hK K
            try simp only [Act.put, List.setIfInBounds_toArray, List.set_cons_zero, List.set_cons_succ]
            refine wpAnyH_take (i := 4) (v := (.bool true)) (oi := ⟨_, _, _, _, _, _⟩) rfl (by kernel_rfl) (by kernel_rfl) (by kernel_rfl) (fun _ _ _ h => h) (Or.inl ⟨by kernel_rfl, fun W hS => ?_⟩) (by assumption) ?_
            · dsimp only at hS; go_split_ands; go_simp
            simp only [Act.put, List.setIfInBounds_toArray, List.set_cons_zero, List.set_cons_succ]
            refine wpAnyH_take (i := 5) (v := (.bool true)) (oi := ⟨_, _, _, _, _, _⟩) rfl (by kernel_rfl) (by kernel_rfl) (by kernel_rfl) (fun _ _ _ h => h) (Or.inl ⟨by kernel_rfl, fun W hS => ?_⟩) (by assumption) ?_
            · dsimp only at hS; go_split_ands; go_simp
            simp only [Act.put, List.setIfInBounds_toArray, List.set_cons_zero, List.set_cons_succ]
            refine wpAnyH_done (by kernel_rfl) ?_ _
            clear q0 q1 q2 q3 hr0 hB0 hr1 hB1
            go_wp2_with fail
            go_roundg (gk - 1)
            case measure => have := HGK.out; omega
            case rel => exact ⟨i + 1, by simp, hr2, hB2, by have := HGK.out; omega, by have := HGK.out; omega⟩
          by_cases k1 : kz = 1
          · subst k1
            have HP := Lib.hid (hlo.2.1 rfl)
            clear hlo h5
            go_wp2_with fail
            refine wp_region_held_drew (S := fun w' => w'.cell? ⟨gp, 2, none⟩ = some (.int .i64 p.i)) (by kernel_rfl) (q2) (fun hHeld => ?_)
            refine wpAnyH_take (i := 0) (v := (.pointer (some ⟨r, 0, none⟩))) (oi := ⟨_, _, _, _, _, _⟩) rfl (by kernel_rfl) (by kernel_rfl) (by kernel_rfl) (fun _ _ _ h => h) (Or.inl ⟨by kernel_rfl, fun W hS => ?_⟩) (by assumption) ?_
            · dsimp only at hS; go_split_ands; go_simp
            simp only [Act.put, List.setIfInBounds_toArray, List.set_cons_zero, List.set_cons_succ]
            refine wpAnyH_take (i := 2) (v := (.pointer (some ⟨gp, 2, none⟩))) (oi := ⟨_, _, _, _, _, _⟩) rfl (by kernel_rfl) (by kernel_rfl) (by kernel_rfl) (fun _ _ _ h => h) (Or.inl ⟨by kernel_rfl, fun W hS => ?_⟩) (by assumption) ?_
            · dsimp only at hS; go_split_ands; go_simp
            simp only [Act.put, List.setIfInBounds_toArray, List.set_cons_zero, List.set_cons_succ]
            refine wpAnyH_take (i := 3) (v := (.int .i64 p.i)) (oi := ⟨_, _, _, _, _, _⟩) rfl (by kernel_rfl) (by kernel_rfl) (by kernel_rfl) (fun _ _ _ h => h) (Or.inl ⟨by kernel_rfl, fun W hS => ?_⟩) (by assumption) ?_
            · dsimp only at hS; go_split_ands; go_simp
            simp only [Act.put, List.setIfInBounds_toArray, List.set_cons_zero, List.set_cons_succ]
            refine wpAnyH_ready (rs := [1]) (by kernel_rfl) (by decide) (AllReadyH.cons (o := ⟨_, _, _, _, _, _⟩) rfl (fun K hK => ?_) AllReadyH.nil)
            rw [if_pos (by kernel_rfl)]
            go_simp
            refine (Int_any hr0).mono ?_
            rintro e w11 ⟨D1, v, rfl, HV, hr2, ho2⟩
            have hv := HV.out
            rw [bk_uint HX.out HP.out (zig_lt hi0 hi1)] at hv
            obtain ⟨rfl, rfl⟩ := Prod.mk.inj hv
            have hB2 := Below.only hB0 ho2 hB0.size (fun j e => by rw [e]; exact hrg)
            clear hv HV
            rw [unzig_zig]
            go_wp2_with fail
            refine hK.out _ _ (ho2.cell hHeld hgr) (fun hHeld => ?_)
            clear hK K
            try simp only [Act.put, List.setIfInBounds_toArray, List.set_cons_zero, List.set_cons_succ]
            refine wpAnyH_take (i := 4) (v := (.bool true)) (oi := ⟨_, _, _, _, _, _⟩) rfl (by kernel_rfl) (by kernel_rfl) (by kernel_rfl) (fun _ _ _ h => h) (Or.inl ⟨by kernel_rfl, fun W hS => ?_⟩) (by assumption) ?_
            · dsimp only at hS; go_split_ands; go_simp
            simp only [Act.put, List.setIfInBounds_toArray, List.set_cons_zero, List.set_cons_succ]
            refine wpAnyH_take (i := 5) (v := (.bool true)) (oi := ⟨_, _, _, _, _, _⟩) rfl (by kernel_rfl) (by kernel_rfl) (by kernel_rfl) (fun _ _ _ h => h) (Or.inl ⟨by kernel_rfl, fun W hS => ?_⟩) (by assumption) ?_
            · dsimp only at hS; go_split_ands; go_simp
            simp only [Act.put, List.setIfInBounds_toArray, List.set_cons_zero, List.set_cons_succ]
            refine wpAnyH_done (by kernel_rfl) ?_ _
            clear q0 q1 q2 q3 hr0 hB0 hr1 hB1
            go_wp2_with fail
            go_roundg (gk - 1)
            case measure => have := HGK.out; omega
            case rel => exact ⟨i + 1, by simp, hr2, hB2, by have := HGK.out; omega, by have := HGK.out; omega⟩
          by_cases k2 : kz = 2
          · subst k2
            have HP : Hid (laid p = tru (p.u.tmod 2 == 1)) := Lib.hid (by rw [Int.tmod_eq_emod_of_nonneg hu0]; exact hlo.2.2.1 rfl)
            clear hlo h5
            go_wp2_with fail
            refine wp_region_held_drew (S := fun w' => w'.cell? ⟨gp, 1, none⟩ = some (.int .u64 p.u)) (by kernel_rfl) (q1) (fun hHeld => ?_)
            refine wpAnyH_take (i := 0) (v := (.pointer (some ⟨r, 0, none⟩))) (oi := ⟨_, _, _, _, _, _⟩) rfl (by kernel_rfl) (by kernel_rfl) (by kernel_rfl) (fun _ _ _ h => h) (Or.inl ⟨by kernel_rfl, fun W hS => ?_⟩) (by assumption) ?_
            · dsimp only at hS; go_split_ands; go_simp
            simp only [Act.put, List.setIfInBounds_toArray, List.set_cons_zero, List.set_cons_succ]
            refine wpAnyH_take (i := 2) (v := (.pointer (some ⟨gp, 1, none⟩))) (oi := ⟨_, _, _, _, _, _⟩) rfl (by kernel_rfl) (by kernel_rfl) (by kernel_rfl) (fun _ _ _ h => h) (Or.inl ⟨by kernel_rfl, fun W hS => ?_⟩) (by assumption) ?_
            · dsimp only at hS; go_split_ands; go_simp
            simp only [Act.put, List.setIfInBounds_toArray, List.set_cons_zero, List.set_cons_succ]
            refine wpAnyH_take (i := 3) (v := (.int .u64 p.u)) (oi := ⟨_, _, _, _, _, _⟩) rfl (by kernel_rfl) (by kernel_rfl) (by kernel_rfl) (fun _ _ _ h => h) (Or.inl ⟨by kernel_rfl, fun W hS => ?_⟩) (by assumption) ?_
            · dsimp only at hS; go_split_ands; go_simp
            simp only [Act.put, List.setIfInBounds_toArray, List.set_cons_zero, List.set_cons_succ]
            refine wpAnyH_take (i := 4) (v := (.int .u64 (p.u.tmod 2))) (oi := ⟨_, _, _, _, _, _⟩) rfl (by kernel_rfl) (by kernel_rfl) (by kernel_rfl) (fun _ _ _ h => h) (Or.inl ⟨by kernel_rfl, fun W hS => ?_⟩) (by assumption) ?_
            · dsimp only at hS; go_split_ands; go_simp
            simp only [Act.put, List.setIfInBounds_toArray, List.set_cons_zero, List.set_cons_succ]
            refine wpAnyH_take (i := 5) (v := (.bool (p.u.tmod 2 == 1))) (oi := ⟨_, _, _, _, _, _⟩) rfl (by kernel_rfl) (by kernel_rfl) (by kernel_rfl) (fun _ _ _ h => h) (Or.inl ⟨by kernel_rfl, fun W hS => ?_⟩) (by assumption) ?_
            · dsimp only at hS; go_split_ands; go_simp
            simp only [Act.put, List.setIfInBounds_toArray, List.set_cons_zero, List.set_cons_succ]
            refine wpAnyH_ready (rs := [1]) (by kernel_rfl) (by decide) (AllReadyH.cons (o := ⟨_, _, _, _, _, _⟩) rfl (fun K hK => ?_) AllReadyH.nil)
            rw [if_pos (by kernel_rfl)]
            go_simp
            refine (Bool_any hr0).mono ?_
            rintro e w11 ⟨D1, v, rfl, HV, hr2, ho2⟩
            have hv := HV.out
            rw [bk_bool HX.out HP.out] at hv
            obtain ⟨rfl, rfl⟩ := Prod.mk.inj hv
            have hB2 := Below.only hB0 ho2 hB0.size (fun j e => by rw [e]; exact hrg)
            clear hv HV
            go_wp2_with fail
            refine hK.out _ _ (ho2.cell hHeld hgr) (fun hHeld => ?_)
            clear hK K
            try simp only [Act.put, List.setIfInBounds_toArray, List.set_cons_zero, List.set_cons_succ]
            refine wpAnyH_take (i := 6) (v := (.bool true)) (oi := ⟨_, _, _, _, _, _⟩) rfl (by kernel_rfl) (by kernel_rfl) (by kernel_rfl) (fun _ _ _ h => h) (Or.inl ⟨by kernel_rfl, fun W hS => ?_⟩) (by assumption) ?_
            · dsimp only at hS; go_split_ands; go_simp
            simp only [Act.put, List.setIfInBounds_toArray, List.set_cons_zero, List.set_cons_succ]
            refine wpAnyH_take (i := 7) (v := (.bool true)) (oi := ⟨_, _, _, _, _, _⟩) rfl (by kernel_rfl) (by kernel_rfl) (by kernel_rfl) (fun _ _ _ h => h) (Or.inl ⟨by kernel_rfl, fun W hS => ?_⟩) (by assumption) ?_
            · dsimp only at hS; go_split_ands; go_simp
            simp only [Act.put, List.setIfInBounds_toArray, List.set_cons_zero, List.set_cons_succ]
            refine wpAnyH_done (by kernel_rfl) ?_ _
            clear q0 q1 q2 q3 hr0 hB0 hr1 hB1
            go_wp2_with fail
            go_roundg (gk - 1)
            case measure => have := HGK.out; omega
            case rel => exact ⟨i + 1, by simp, hr2, hB2, by have := HGK.out; omega, by have := HGK.out; omega⟩
          by_cases k3 : kz = 3
          · subst k3
            have HP := Lib.hid (hlo.2.2.2.1 rfl)
            clear hlo h5 hr0 hB0
            rw [← bt_zero L ys i p.texts] at hr1
            have hm9 : m ≤ 9223372036854775807 := by omega
            go_wp2_with fail
            clear q0 q1 q2 q3
            go_loopg [11, 74] m (fun gj v11 vj w' => ∃ (j : Nat), v11 = .bool true ∧ vj = .int .i64 (j : Int) ∧ RS w' r A' nt ct (Bt L ys i p.texts j) ∧ RT w' B m p.texts ∧ Below w.heap.size w w' ∧ Hid (j ≤ m ∧ gj = m - j))
            case atStart => exact ⟨0, rfl, rfl, hr1, hT1, hB1, by omega, rfl⟩
            case round =>
              clear hr1 hT1 hB1
              obtain ⟨j, rfl, rfl, hr1, hT1, hB1, HJ⟩ := hrel
              by_cases hj : j < m
              · have hj2 : (j : Int) < (m : Int) := by omega
                obtain ⟨ad, s, rfl, hc, HX2⟩ := hT1.at_ j hj
                have HSZ : Hid (s.size ≤ 1048576) := Lib.hid (HK.out s (List.mem_of_getElem? HX2.out))
                have hss : s.size < 9223372036854775808 := by have := HSZ.out; omega
                go_wp2_with fail
                refine (Text_any hr1 (s.size : Int) (by omega)).mono ?_
                rintro e w11 ⟨D1, s1, rfl, HV, hr2, ho2⟩
                have hv := HV.out
                rw [bt_text HX.out HP.out HX2.out (by omega)] at hv
                obtain ⟨rfl, rfl⟩ := Prod.mk.inj hv
                have hB2 := Below.only hB1 ho2 hB1.size (fun j e => by rw [e]; exact hrg)
                have hT2 : RT w11 _ m p.texts := hT.below hB2
                clear hv HV ho2 hr1 hB1 hT1 hc
                go_wp2_with fail
                go_roundg (m - (j + 1))
                case measure => have := HJ.out; omega
                case rel => exact ⟨j + 1, rfl, by simp, hr2, hT2, hB2, by omega, rfl⟩
              · have hjn : m = j := by have := HJ.out; omega
                subst hjn
                rw [bt_all HX.out HP.out HML.out] at hr1
                go_wp2_with fail
                go_roundg (np - (i + 1))
                case measure => have := HGK.out; omega
                case rel => exact ⟨i + 1, by simp, hr1, hB1, by omega, rfl⟩
          have k4 : kz = 4 := by omega
          subst k4
          have HP := Lib.hid (hlo.2.2.2.2 rfl)
          clear hlo h5
          go_wp2_with fail
          refine wp_region_held_drew (S := fun w' => w'.cell? ⟨gp, 3, none⟩ = some (.slice B m c)) (by kernel_rfl) (q3) (fun hHeld => ?_)
          refine wpAnyH_take (i := 0) (v := (.pointer (some ⟨r, 0, none⟩))) (oi := ⟨_, _, _, _, _, _⟩) rfl (by kernel_rfl) (by kernel_rfl) (by kernel_rfl) (fun _ _ _ h => h) (Or.inl ⟨by kernel_rfl, fun W hS => ?_⟩) (by assumption) ?_
          · dsimp only at hS; go_split_ands; go_simp
          simp only [Act.put, List.setIfInBounds_toArray, List.set_cons_zero, List.set_cons_succ]
          refine wpAnyH_take (i := 1) (v := (.pointer (some ⟨gp, 3, none⟩))) (oi := ⟨_, _, _, _, _, _⟩) rfl (by kernel_rfl) (by kernel_rfl) (by kernel_rfl) (fun _ _ _ h => h) (Or.inl ⟨by kernel_rfl, fun W hS => ?_⟩) (by assumption) ?_
          · dsimp only at hS; go_split_ands; go_simp
          simp only [Act.put, List.setIfInBounds_toArray, List.set_cons_zero, List.set_cons_succ]
          refine wpAnyH_take (i := 2) (v := (.slice B m c)) (oi := ⟨_, _, _, _, _, _⟩) rfl (by kernel_rfl) (by kernel_rfl) (by kernel_rfl) (fun _ _ _ h => h) (Or.inl ⟨by kernel_rfl, fun W hS => ?_⟩) (by assumption) ?_
          · dsimp only at hS; go_split_ands; go_simp
          simp only [Act.put, List.setIfInBounds_toArray, List.set_cons_zero, List.set_cons_succ]
          refine wpAnyH_take (i := 3) (v := (.int .i64 (m : Int))) (oi := ⟨_, _, _, _, _, _⟩) rfl (by kernel_rfl) (by kernel_rfl) (by kernel_rfl) (fun _ _ _ h => h) (Or.inl ⟨by kernel_rfl, fun W hS => ?_⟩) (by assumption) ?_
          · dsimp only at hS; go_split_ands; go_simp
          simp only [Act.put, List.setIfInBounds_toArray, List.set_cons_zero, List.set_cons_succ]
          refine wpAnyH_take (i := 4) (v := (.pointer (some ⟨gp, 3, none⟩))) (oi := ⟨_, _, _, _, _, _⟩) rfl (by kernel_rfl) (by kernel_rfl) (by kernel_rfl) (fun _ _ _ h => h) (Or.inl ⟨by kernel_rfl, fun W hS => ?_⟩) (by assumption) ?_
          · dsimp only at hS; go_split_ands; go_simp
          simp only [Act.put, List.setIfInBounds_toArray, List.set_cons_zero, List.set_cons_succ]
          refine wpAnyH_take (i := 5) (v := (.slice B m c)) (oi := ⟨_, _, _, _, _, _⟩) rfl (by kernel_rfl) (by kernel_rfl) (by kernel_rfl) (fun _ _ _ h => h) (Or.inl ⟨by kernel_rfl, fun W hS => ?_⟩) (by assumption) ?_
          · dsimp only at hS; go_split_ands; go_simp
          simp only [Act.put, List.setIfInBounds_toArray, List.set_cons_zero, List.set_cons_succ]
          refine wpAnyH_take (i := 8) (v := (.pointer (some ⟨gp, 3, none⟩))) (oi := ⟨_, _, _, _, _, _⟩) rfl (by kernel_rfl) (by kernel_rfl) (by kernel_rfl) (fun _ _ _ h => h) (Or.inl ⟨by kernel_rfl, fun W hS => ?_⟩) (by assumption) ?_
          · dsimp only at hS; go_split_ands; go_simp
          simp only [Act.put, List.setIfInBounds_toArray, List.set_cons_zero, List.set_cons_succ]
          refine wpAnyH_take (i := 9) (v := (.slice B m c)) (oi := ⟨_, _, _, _, _, _⟩) rfl (by kernel_rfl) (by kernel_rfl) (by kernel_rfl) (fun _ _ _ h => h) (Or.inl ⟨by kernel_rfl, fun W hS => ?_⟩) (by assumption) ?_
          · dsimp only at hS; go_split_ands; go_simp
          simp only [Act.put, List.setIfInBounds_toArray, List.set_cons_zero, List.set_cons_succ]
          refine wpAnyH_ready (rs := [6]) (by kernel_rfl) (by decide) (AllReadyH.cons (o := ⟨_, _, _, _, _, _⟩) rfl (fun K hK => ?_) AllReadyH.nil)
          rw [if_pos (by kernel_rfl)]
          go_simp
          refine (longest_any (RT.drewN hT1 1) 1048576 (by omega) HK.out).mono ?_
          rintro e w10 ⟨M, rfl, HM, hb10⟩
          have hr9 := hr0.below hb10
          have hB9 := below_step hB0 hb10
          have hM2 := HM.out.2.1
          go_wp2_with fail
          refine hK.out _ _ (pw_cell_below hb10 hHeld) (fun hHeld => ?_)
          clear hK K
          try simp only [Act.put, List.setIfInBounds_toArray, List.set_cons_zero, List.set_cons_succ]
          refine wpAnyH_ready (rs := [7]) (by kernel_rfl) (by decide) (AllReadyH.cons (o := ⟨_, _, _, _, _, _⟩) rfl (fun K hK => ?_) AllReadyH.nil)
          rw [if_pos (by kernel_rfl)]
          go_simp
          refine (List_any hr9 (by omega) (m : Int) M (by omega) (by omega)).mono ?_
          rintro e w11 ⟨D1, v, l, rfl, HV, hOl, hr2, ho2⟩
          have hv := HV.out
          rw [bk_list HX.out HP.out M HM.out.1 (fun s hs => ⟨by have := HK.out s hs; omega, HM.out.2.2 s hs⟩) HML.out (by omega)] at hv
          obtain ⟨rfl, rfl⟩ := Prod.mk.inj hv
          have hB2 := Below.only hB9 ho2 hB9.size (fun j e => by rw [e]; exact hrg)
          have hT2 := hT.below hB2
          obtain ⟨Al, cl, rfl, hRl⟩ := hOl.reads
          clear hv HV
          go_wp2_with fail
          refine hK.out _ _ (ho2.cell hHeld hgr) (fun hHeld => ?_)
          clear hK K
          try simp only [Act.put, List.setIfInBounds_toArray, List.set_cons_zero, List.set_cons_succ]
          refine wpAnyH_ready (rs := [10]) (by kernel_rfl) (by decide) (AllReadyH.cons (o := ⟨_, _, _, _, _, _⟩) rfl (fun K hK => ?_) AllReadyH.nil)
          rw [if_pos (by kernel_rfl)]
          go_simp
          refine (RSame_any _ _ _ _ _ _ _ _ _ hRl hT2).mono ?_
          rintro e w12 ⟨b, rfl, HB, hb12⟩
          have hbt : b = true := HB.out.trans (decide_eq_true rfl)
          subst hbt
          replace hr2 := hr2.below hb12
          have hB3 := below_step hB2 hb12
          go_wp2_with fail
          refine hK.out _ _ (pw_cell_below hb12 hHeld) (fun hHeld => ?_)
          clear hK K
          try simp only [Act.put, List.setIfInBounds_toArray, List.set_cons_zero, List.set_cons_succ]
          refine wpAnyH_take (i := 11) (v := (.bool true)) (oi := ⟨_, _, _, _, _, _⟩) rfl (by kernel_rfl) (by kernel_rfl) (by kernel_rfl) (fun _ _ _ h => h) (Or.inl ⟨by kernel_rfl, fun W hS => ?_⟩) (by assumption) ?_
          · dsimp only at hS; go_split_ands; go_simp
          simp only [Act.put, List.setIfInBounds_toArray, List.set_cons_zero, List.set_cons_succ]
          refine wpAnyH_done (by kernel_rfl) ?_ _
          clear q0 q1 q2 q3 hr0 hB0 hr1 hB1
          go_wp2_with fail
          go_roundg (gk - 1)
          case measure => have := HGK.out; omega
          case rel => exact ⟨i + 1, by simp, hr2, hB3, by have := HGK.out; omega, by have := HGK.out; omega⟩
        · have hin : np = i := by have := HG.out; omega
          subst hin
          have hqg : Try.prog.eqGuardType Try.prog.depth 50 = false := by kernel_rfl
          have hfd := run_fault 0 0 true rfl
          have HAT : Hid ((Bk L ys np).at_ = nl) := Lib.hid ((bk_end HLn.out).trans HNL.out)
          have hsub : (nt : Int) - (nl : Int) = (nb : Int) := by have := HNT.out; omega
          go_wp2_with fail
          refine (Fault_any hr).mono ?_
          rintro e w10 ⟨rfl, hb10⟩
          replace hr := hr.below hb10
          have hB10 := below_step hB hb10
          rw [show (Bk L ys np).why = 0 from rfl, show (Bk L ys np).wat = 0 from rfl]
          go_wp2_with fail
          refine (At_any hr).mono ?_
          rintro e w11 ⟨rfl, rfl⟩
          rw [HAT.out]
          go_wp2_with fail
          refine (Left_any hr).mono ?_
          rintro e w12 ⟨rfl, kq, rfl⟩
          rw [HAT.out, hsub]
          have hB12 := pw_below_drewN hB10 kq
          go_wp2_with fail
          go_ret
          exact ⟨rfl, hB12⟩
end Go.Proofs.Ytiadfmbddkcleaa
