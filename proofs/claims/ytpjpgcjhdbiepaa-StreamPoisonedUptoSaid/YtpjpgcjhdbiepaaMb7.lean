/- Contracts of functions that the laws reach (texts laid together, part 7): each says of its call what it answers and what it leaves of memory; the conditions stand in each statement. -/
import Derived.Test.YtpjpgcjhdbiepaaMb6
import Derived.Deep.RegionHeld3
set_option linter.unusedVariables false
/-! The streams' awake. (mk_sty.py) -/
section
namespace Go.Proofs.Ytpjpgcjhdbiepaa
open Go.RowKit Go.Kit CrcM Go.Proofs.YtpjpgcjhdbiepaaW.PrintWords
theorem mid_cut (A : Option Addr) (n c m : Nat) (hm : m ≤ n) (hc : n ≤ c) : ∃ A' : Option Addr, (∀ W : World, (Instr.slice 23 (.slice A n c) (some (.int .i64 (m : Int))) none none).run Try.prog W = .ok (.slice A' (n - m) (c - m)) W) ∧
    (∀ (w : World) (xs : List Int), RB w A n xs → RB w A' (n - m) (xs.drop m)) ∧ ∀ a', A' = some a' → ∃ a, A = some a ∧ a.block = a'.block := by
  obtain ⟨i0, hi0, hz0, hz1, hz2⟩ := info_parts u8_info
  refine ⟨if c = m then A else A.map (·.add m), fun W => ?_, fun w xs h => ⟨h.rd.drop_ m hm hc, h.byt.drop m⟩, fun a' ha => ?_⟩
  · have hel : Try.prog.elem 23 = 5 := by simp [Program.elem, Try.underlying23]
    have hu : Try.prog.underlying 23 = some (.slice (Try.prog.elem 23)) := by rw [hel]; exact Try.underlying23
    rw [run_slice_l W 23 A n c hu .i64 (m : Int) (Int.natCast_nonneg _) (by omega), hel]
    simp [sizeOf, typeInfo, hi0, hz1, sliced, Result.andThen]
  · by_cases hcl : c = m
    · rw [if_pos hcl] at ha; exact ⟨a', ha, rfl⟩
    · rw [if_neg hcl] at ha
      cases A with
      | none => cases ha
      | some a => cases ha; exact ⟨a, rfl, (Go.Kit.add_block a m).symm⟩
theorem eql_fault (x y a b : Int) (c : Bool) (hc : ((x == a) && (y == b)) = c) (W : World) : (binOp .eql 30 (.agg #[.int .i64 x, .int .i64 y]) (.agg #[.int .i64 a, .int .i64 b])).run Try.prog W = .ok (.bool c) W := by
  have he : (Op.equalIn 10000 30 (.agg #[.int .i64 x, .int .i64 y]) (.agg #[.int .i64 a, .int .i64 b])).run Try.prog W = .ok c W := by
    subst hc
    by_cases h1 : x = a <;> by_cases h2 : y = b <;> go_simp
  simp [run_eql_struct W 30 _ _, he]
theorem bye_feed (s : Sm) (hw : s.why = 0) (hr : s.rest = []) (hm : 1 ≤ s.most) : feedS (encF byeF) s = ({ s with rest := [], came := s.came + 6, whole := s.whole + 1 }, [byeF.core]) := by
  have h := feed_whole bye_wf rfl bye_chk ⟨by decide, by decide, by decide⟩ s hw hr (by rw [bye_body]; exact hm)
  rw [bye_len] at h
  exact h
attribute [-go_sem] Instr.build
set_option maxHeartbeats 1000000 in
set_option maxRecDepth 100000 in
theorem lbye_any (w : World) : Calls Try.prog 16 #[] w fun e w' => ∃ v, e = .returned v ∧ OB 5 w' w.heap.size v (encF byeF) ∧ Below w.heap.size w w' := by
  have hbl := build_kind 5
  have cR := fun W => rEncode_any (f := byeF) (w := W) (bye_ok W) bye_wf (fun s hs => by cases hs)
  rw [bye_chk] at cR
  unfold Fr.val at cR
  rw [show (kF 5).arr = byeF.arr from rfl] at hbl
  generalize byeF.arr = FA at *
  go_enter Try.func16, Try.ntmps16
  go_wp2_with fail
  refine (cR _).mono ?_
  rintro e w1 ⟨v, rfl, hO, hb⟩
  go_wp2_with fail
  go_ret
  exact ⟨_, rfl, hO, hb⟩
theorem dfp_fault {W : World} {d g : Nat} {v : Value} {want : Int} {s : Sm} {x y : Int} (h : Db W d v want s) (hX : W.heap[g]? = some (.cells (fv x y) 30 (0, 0))) : ¬ dfp d v g := fun hk => by
  rcases hk with e | e
  · rw [e, h.blk] at hX
    injection hX with hX
    injection hX with _ hX
    exact absurd hX (by decide)
  · exact own_not h.row.own hX (by decide) e
/-- The state behind a Bye, and behind two wrong bytes. -/
def S1 : Sm := ⟨9, [], 6, 1, 0, 0⟩
def S2 : Sm := ⟨9, [128, 0], 8, 1, 5, 6⟩
theorem S1_is {xs : List Int} (h : encF byeF = xs) : feedS [xs.take 2, xs.drop 2].flatten (Sm.new 9) = (S1, [byeF.core]) := by
  rw [show [xs.take 2, xs.drop 2].flatten = xs by simp, ← h, bye_feed (Sm.new 9) rfl rfl (by decide)]
  rfl
theorem S2_is : feedS [[128, 0]].flatten S1 = (S2, []) := by kernel_rfl
attribute [-go_sem] Instr.loadAt Instr.storeAt run_slice_lh run_slice_any
set_option maxHeartbeats 16000000 in
set_option maxRecDepth 100000 in
theorem lawake_any (w : World) : Calls Try.prog 12 #[] w fun e w' => e = .returned (.bool true) ∧ Below w.heap.size w w' := by
  have cN : Calls Try.prog 7 #[.int .i64 9] w fun e w' => e = .returned (.tuple #[.pointer (some ⟨w.heap.size, 0, none⟩), .int .i64 0]) ∧ Dc w' w.heap.size (.slice none 0 0) 0 (Sm.new 9) ∧ Below w.heap.size w w' := dNew_any 9 (by decide) (by decide) w
  have cB := lbye_any
  obtain ⟨xs, hxs⟩ : ∃ xs, encF byeF = xs := ⟨_, rfl⟩
  rw [hxs] at cB
  obtain ⟨N, hN⟩ : ∃ N, xs.length = N := ⟨_, rfl⟩
  have HN6 : Hid (N = 6) := Lib.hid (by rw [← hN, ← hxs]; exact bye_len)
  have HFEED := Lib.hid (S1_is hxs)
  have HFL : Hid ([xs.take 2, xs.drop 2].flatten.length = 6) := Lib.hid (by rw [show [xs.take 2, xs.drop 2].flatten = xs by simp, hN]; exact HN6.out)
  have HN := Lib.hid hN
  clear hxs hN
  go_enter Try.func12, Try.ntmps12
  go_wp2_with fail
  refine cN.mono ?_
  rintro e w1 ⟨rfl, hD, hb⟩
  obtain ⟨d, hd⟩ : ∃ d, w.heap.size = d := ⟨_, rfl⟩
  have HDS : Hid (w.heap.size = d) := Lib.hid hd
  rw [hd] at hD ⊢
  clear cN hd
  have hN := HN.out
  go_upto_region 4 with (fail)
  have hdr := below_drew (Below.refl w1.heap.size w1)
  have hDw := hD.below hdr
  have hB := below_step hb hdr
  have hszwm0 : d + 1 ≤ w1.drew.heap.size := lt_of_block hDw.toDb.blk
  clear hdr hD hb
  refine wp_region_held_drew (S := fun _ => True) (by kernel_rfl) (trivial) (fun hHeld => ?_)
  generalize w1.drew = wm0 at *
  refine wpAnyH_take (i := 0) (v := (.pointer (some ⟨d, 0, none⟩))) (oi := ⟨_, _, _, _, _, _⟩) rfl (by kernel_rfl) (by kernel_rfl) (by kernel_rfl) (fun _ _ _ h => h) (Or.inl ⟨by kernel_rfl, fun W hS => ?_⟩) (by assumption) ?_
  · dsimp only at hS; go_split_ands; go_simp
  simp only [Act.put, List.setIfInBounds_toArray, List.set_cons_zero, List.set_cons_succ]
  refine wpAnyH_ready (rs := [1, 10]) (by kernel_rfl) (by decide) (AllReadyH.cons (o := ⟨_, _, _, _, _, _⟩) rfl (fun K hK => ?_) (AllReadyH.cons (o := ⟨_, _, _, _, _, _⟩) rfl (fun K hK => ?_) AllReadyH.nil))
  · skip
    rw [if_pos (by kernel_rfl)]
    go_simp
    refine (cB wm0).mono ?_
    rintro e wm1 ⟨v1, rfl, hOb, hbx⟩
    obtain ⟨A1, c1, rfl, hR1, hc1, hfr1⟩ := hOb.reads_from
    rw [hN] at hR1 hc1 ⊢
    replace hB := below_step hB hbx
    replace hDw := hDw.below hbx
    have hs1 : ∀ W : World, (Instr.slice 23 (.slice A1 N c1) none (some (.int .i64 2)) none).run Try.prog W = .ok (.slice A1 2 c1) W := fun W => head_bytes A1 N c1 2 (by have := HN6.out; omega) W
    have hl1 : ∀ a, A1 = some a → 0 < N → ¬ dfp d (.slice none 0 0) a.block := fun a e _ hk => by
      have h1 := hfr1 a e
      rcases hk with hk | hk
      · have h2 := HDS.out; have h3 := hszwm0; rw [hk] at h1; omega
      · cases hk
    have hszwm1 := Nat.le_trans hszwm0 hbx.size
    clear hOb hbx hfr1
    go_wp2_with fail
    refine hK.out _ _ (trivial) (fun hHeld => ?_)
    clear hK K
    try simp only [Act.put, List.setIfInBounds_toArray, List.set_cons_zero, List.set_cons_succ]
    refine wpAnyH_take (i := 2) (v := (.slice A1 2 c1)) (oi := ⟨_, _, _, _, _, _⟩) rfl (by kernel_rfl) (by kernel_rfl) (by kernel_rfl) (fun _ _ _ h => h) (Or.inl ⟨by kernel_rfl, fun W hS => ?_⟩) (by assumption) ?_
    · dsimp only at hS; go_split_ands; go_simp
    simp only [Act.put, List.setIfInBounds_toArray, List.set_cons_zero, List.set_cons_succ]
    refine wpAnyH_ready (rs := [3, 10]) (by kernel_rfl) (by decide) (AllReadyH.cons (o := ⟨_, _, _, _, _, _⟩) rfl (fun K hK => ?_) (AllReadyH.cons (o := ⟨_, _, _, _, _, _⟩) rfl (fun K hK => ?_) AllReadyH.nil))
    · skip
      rw [if_pos (by kernel_rfl)]
      go_simp
      refine (cB wm1).mono ?_
      rintro e wm2 ⟨v3, rfl, hOb, hbx⟩
      obtain ⟨A3, c3, rfl, hR3, hc3, hfr3⟩ := hOb.reads_from
      rw [hN] at hR3 hc3 ⊢
      replace hB := below_step hB hbx
      replace hDw := hDw.below hbx
      replace hR1 := hR1.below hbx
      obtain ⟨A4, hs3a, hr3⟩ := mid_cut A3 N c3 2 (by have := HN6.out; omega) hc3
      have hs3 : ∀ W : World, (Instr.slice 23 (.slice A3 N c3) (some (.int .i64 2)) none none).run Try.prog W = .ok (.slice A4 (N - 2) (c3 - 2)) W := hs3a
      clear hs3a
      have hl3 : ∀ a, A3 = some a → 0 < N → ¬ dfp d (.slice none 0 0) a.block := fun a e _ hk => by
        have h1 := hfr3 a e
        rcases hk with hk | hk
        · have h2 := HDS.out; have h3 := hszwm1; rw [hk] at h1; omega
        · cases hk
      have hszwm2 := Nat.le_trans hszwm1 hbx.size
      clear hOb hbx hfr3
      go_wp2_with fail
      refine hK.out _ _ (trivial) (fun hHeld => ?_)
      clear hK K
      try simp only [Act.put, List.setIfInBounds_toArray, List.set_cons_zero, List.set_cons_succ]
      refine wpAnyH_take (i := 4) (v := (.slice A4 (N - 2) (c3 - 2))) (oi := ⟨_, _, _, _, _, _⟩) rfl (by kernel_rfl) (by kernel_rfl) (by kernel_rfl) (fun _ _ _ h => h) (Or.inl ⟨by kernel_rfl, fun W hS => ?_⟩) (by assumption) ?_
      · dsimp only at hS; go_split_ands; go_simp
      simp only [Act.put, List.setIfInBounds_toArray, List.set_cons_zero, List.set_cons_succ]
      refine wpAnyH_ready (rs := [5, 10]) (by kernel_rfl) (by decide) (AllReadyH.cons (o := ⟨_, _, _, _, _, _⟩) rfl (fun K hK => ?_) (AllReadyH.cons (o := ⟨_, _, _, _, _, _⟩) rfl (fun K hK => ?_) AllReadyH.nil))
      · skip
        rw [if_pos (by kernel_rfl)]
        go_simp
        have hP := PB.two (cap := c1) (cap2 := c3 - 2) 23 (RB.take_ hR1 2 (by have := HN6.out; omega)) (hr3.1 _ _ hR3) (fun a e _ => hl1 a e (by have := HN6.out; omega)) (fun a e _ => by obtain ⟨a0, e0, hb0⟩ := hr3.2 a e; rw [← hb0]; exact hl3 a0 e0 (by have := HN6.out; omega)) hDw.toDb.old
        have hbx := below_alloc (Below.refl _ wm2) (.cells #[.slice A1 2 c1, .slice A4 (N - 2) (c3 - 2)] 23)
        obtain ⟨gl, hgl⟩ : ∃ gl, wm2.heap.size = gl := ⟨_, rfl⟩
        rw [hgl] at hP ⊢
        replace hB := below_step hB hbx
        replace hDw := hDw.below hbx
        replace hR1 := hR1.below hbx
        replace hR3 := hR3.below hbx
        have hszwm3 := Nat.le_trans hszwm2 hbx.size
        generalize wm2.alloc (.cells #[.slice A1 2 c1, .slice A4 (N - 2) (c3 - 2)] 23) = wm3 at *
        clear hbx hgl
        refine hK.out _ _ (trivial) (fun hHeld => ?_)
        clear hK K
        try simp only [Act.put, List.setIfInBounds_toArray, List.set_cons_zero, List.set_cons_succ]
        refine wpAnyH_ready (rs := [6, 10]) (by kernel_rfl) (by decide) (AllReadyH.cons (o := ⟨_, _, _, _, _, _⟩) rfl (fun K hK => ?_) (AllReadyH.cons (o := ⟨_, _, _, _, _, _⟩) rfl (fun K hK => ?_) AllReadyH.nil))
        · skip
          rw [if_pos (by kernel_rfl)]
          go_simp
          refine (feed_any hDw rfl (some ⟨gl, 0, none⟩) 2 2 [xs.take 2, xs.drop 2] hP (by have := HFL.out; omega) (by have := HFL.out; show 0 + _ ≤ _; omega) (by have := HFL.out; show 0 + _ ≤ _; omega)).mono ?_
          rintro e wm4 ⟨v7, vl, want7, t7, Fs, rfl, HF7, hD7, hO7, ho7, hon7⟩
          have hO7 := hO7.less hszwm3
          replace hB := Below.only hB ho7 hB.size (fun k hk => hk.elim (fun e => by rw [e]; exact Nat.le_of_eq HDS.out) (fun e => by cases e))
          have HE7 := HFEED.out.symm.trans HF7.out
          have ht7 : S1 = t7 := congrArg Prod.fst HE7
          have hf7 : [byeF.core] = Fs.map Fr.core := congrArg Prod.snd HE7
          subst ht7
          rw [show Value.agg (fv S1.why S1.wat) = .agg #[.int .i64 0, .int .i64 0] from rfl]
          obtain ⟨A7, c7, rfl⟩ := hO7.form
          obtain ⟨F, rfl⟩ : ∃ F, Fs = [F] := by
            cases Fs with
            | nil => simp at hf7
            | cons F r => cases r with
              | nil => exact ⟨F, rfl⟩
              | cons G r => simp at hf7
          have hszwm4 := Nat.le_trans hszwm3 ho7.size
          have HFK : Hid (F.k = 5) := Lib.hid (by have := congrArg (fun l : List Fr => l.map Fr.k) hf7; simp [Fr.core] at this; exact this.symm)
          have hd7 : ∀ k, dfp d v7 k → w.heap.size ≤ k := fun k hk => (hon7 k hk).elim (fun e => e.elim (fun e => by rw [e]; exact Nat.le_of_eq HDS.out) (fun e => by cases e)) (fun e => by have := hszwm3; have := HDS.out; omega)
          clear HF7 HE7 hf7 ho7 hon7 hDw hP hR1 hR3
          go_wp2_with fail
          refine hK.out _ _ (trivial) (fun hHeld => ?_)
          clear hK K
          try simp only [Act.put, List.setIfInBounds_toArray, List.set_cons_zero, List.set_cons_succ]
          refine wpAnyH_take (i := 7) (v := (.tuple #[.slice A7 1 c7, .agg #[.int .i64 0, .int .i64 0]])) (oi := ⟨_, _, _, _, _, _⟩) rfl (by kernel_rfl) (by kernel_rfl) (by kernel_rfl) (fun _ _ _ h => h) (Or.inl ⟨by kernel_rfl, fun W hS => ?_⟩) (by assumption) ?_
          · dsimp only at hS; go_split_ands; go_simp
          simp only [Act.put, List.setIfInBounds_toArray, List.set_cons_zero, List.set_cons_succ]
          refine wpAnyH_take (i := 8) (v := (.slice A7 1 c7)) (oi := ⟨_, _, _, _, _, _⟩) rfl (by kernel_rfl) (by kernel_rfl) (by kernel_rfl) (fun _ _ _ h => h) (Or.inl ⟨by kernel_rfl, fun W hS => ?_⟩) (by assumption) ?_
          · dsimp only at hS; go_split_ands; go_simp
          simp only [Act.put, List.setIfInBounds_toArray, List.set_cons_zero, List.set_cons_succ]
          refine wpAnyH_take (i := 9) (v := (.agg #[.int .i64 0, .int .i64 0])) (oi := ⟨_, _, _, _, _, _⟩) rfl (by kernel_rfl) (by kernel_rfl) (by kernel_rfl) (fun _ _ _ h => h) (Or.inl ⟨by kernel_rfl, fun W hS => ?_⟩) (by assumption) ?_
          · dsimp only at hS; go_split_ands; go_simp
          simp only [Act.put, List.setIfInBounds_toArray, List.set_cons_zero, List.set_cons_succ]
          refine wpAnyH_ready (rs := [10]) (by kernel_rfl) (by decide) (AllReadyH.cons (o := ⟨_, _, _, _, _, _⟩) rfl (fun K hK => ?_) AllReadyH.nil)
          rw [if_pos (by kernel_rfl)]
          go_simp
          obtain ⟨wm5, s0, hX4, hbx⟩ := fault_new wm4
          rw [s0]
          obtain ⟨g4, hg4⟩ : ∃ g4, wm4.heap.size = g4 := ⟨_, rfl⟩
          have hg4l : w.heap.size ≤ g4 := by have := hszwm4; have := HDS.out; omega
          rw [hg4] at hX4 ⊢
          replace hB := below_step hB hbx
          replace hD7 := hD7.below hbx
          replace hO7 := hO7.below hbx
          have hszwm5 := Nat.le_trans hszwm4 hbx.size
          clear hbx hg4 s0
          refine hK.out _ _ (trivial) (fun hHeld => ?_)
          clear hK K
          try simp only [Act.put, List.setIfInBounds_toArray, List.set_cons_zero, List.set_cons_succ]
          refine wpAnyH_take (i := 11) (v := (.slice A7 1 c7)) (oi := ⟨_, _, _, _, _, _⟩) rfl (by kernel_rfl) (by kernel_rfl) (by kernel_rfl) (fun _ _ _ h => h) (Or.inl ⟨by kernel_rfl, fun W hS => ?_⟩) (by assumption) ?_
          · dsimp only at hS; go_split_ands; go_simp
          simp only [Act.put, List.setIfInBounds_toArray, List.set_cons_zero, List.set_cons_succ]
          refine wpAnyH_ready (rs := [12]) (by kernel_rfl) (by decide) (AllReadyH.cons (o := ⟨_, _, _, _, _, _⟩) rfl (fun K hK => ?_) AllReadyH.nil)
          have s4 := put_fault 0 0 hX4
          have hX5 := set_fault 0 0 hX4
          rw [if_pos (by kernel_rfl)]
          go_simp
          refine hK.out _ _ (trivial) (fun hHeld => ?_)
          clear hK K
          try simp only [Act.put, List.setIfInBounds_toArray, List.set_cons_zero, List.set_cons_succ]
          refine wpAnyH_done (by kernel_rfl) ?_ _
          have hor := Fr.only_row wm5 g4 (fv 0 0)
          have hD8 := hD7.only hor (fun k hk e => dfp_fault hD7.toDb hX4 (e ▸ hk))
          have hO8 := hO7.only hor (fun k e => by subst e; exact ⟨fv 0 0, 30, hX4, by decide, by decide⟩)
          have hB8 := Below.only hB hor hB.size (fun k e => by rw [e]; exact hg4l)
          clear hor hX4 hD7 hO7 hB
          generalize wm5.setRow g4 (fv 0 0) = w8 at *
          have hb9 := below_alloc (below_alloc (Below.refl _ w8) (.cells #[.int .u8 128, .int .u8 0] 5)) (.cells #[.slice (some ⟨w8.heap.size, 0, none⟩) 2 2] 23)
          have hP9 : PB ((w8.alloc (.cells #[.int .u8 128, .int .u8 0] 5)).alloc (.cells #[.slice (some ⟨w8.heap.size, 0, none⟩) 2 2] 23)) (some ⟨w8.heap.size + 1, 0, none⟩) 1 [[128, 0]] (dfp d v7) := by
            have h1 : RB (w8.alloc (.cells #[.int .u8 128, .int .u8 0] 5)) (some ⟨w8.heap.size, 0, none⟩) 2 [128, 0] := RB.lit w8 [128, 0] (fun x hx => by simp at hx; omega) (by decide) _ _
            have h2 := PB.one (cap := 2) (F := dfp d v7) 23 h1 (fun a e _ hk => by cases e; have := hD8.toDb.old _ hk; exact absurd this (Nat.lt_irrefl _)) (hD8.toDb.old.later (by simp))
            simpa using h2
          have hD9 := hD8.below hb9
          have hO9 := hO8.below hb9
          have hB9 := below_step hB8 hb9
          have hX9 := fault_keep hX5 hb9
          clear hD8 hO8 hB8 hX5 hb9
          go_wp2_with fail
          refine (feed_any hD9 rfl _ 1 1 [[128, 0]] hP9 (by decide) (by decide) (by decide)).mono ?_
          rintro e wf ⟨vf, vlf, wantf, tf, Gs, rfl, HFf, hDf, hOf, hof, honf⟩
          have htf : S2 = tf := congrArg Prod.fst (S2_is.symm.trans HFf.out)
          subst htf
          rw [show Value.agg (fv S2.why S2.wat) = .agg (fv 5 6) from rfl]
          have hO10 := hO9.only hof hD9.toDb.typed
          have hB10 := Below.only hB9 hof hB9.size (fun k hk => hd7 k hk)
          have hX10 := fault_only hX9 hof (dfp_fault hD9.toDb hX9)
          obtain ⟨g7, F2, hA7, hF2, _, _, _, _, hcells⟩ := hO10.at_ rfl 0 Nat.one_pos
          have hF2e : F = F2 := by simpa using hF2
          subst hF2e
          have hc7 : wf.cell? ⟨g7, 0, none⟩ = some (.int .i64 5) := by have := hcells 0 (.int .i64 F.k) rfl; rw [HFK.out] at this; exact this
          subst hA7
          obtain ⟨wg, wh, s0, s1, hX11, hb11⟩ := fault_put wf 5 6
          have HX11 := Lib.hid hX11
          have HB11 := Lib.hid (below_step hB10 hb11)
          have hX12 := fault_keep hX10 hb11
          have hc12 := pw_cell_below hb11 hc7
          clear hD9 hO9 hB9 hX9 HFf hDf hOf hof honf hO10 hB10 hX10 hF2 hcells hc7 hP9 hb11 hX11
          go_upto_region 6 with (fail)
          clear s0 s1
          have eX := get_fault hX12
          have eY := get_fault HX11.out
          have e7 := load_cell_int hc12
          have hb0 := build_fault0
          have hbf := build_fault
          have q1 := eql_fault 0 0 0 0 true rfl
          have q2 := eql_fault 5 6 5 6 true rfl
          clear hX12 hc12
          go_wp2_with fail
          go_ret
          exact ⟨rfl, HB11.out⟩
        · skip
          rw [if_pos (by kernel_rfl)]
          go_simp
          obtain ⟨wm4, s0, hX4, hbx⟩ := fault_new wm3
          rw [s0]
          obtain ⟨g4, hg4⟩ : ∃ g4, wm3.heap.size = g4 := ⟨_, rfl⟩
          have hg4l : w.heap.size ≤ g4 := by have := hszwm3; have := HDS.out; omega
          rw [hg4] at hX4 ⊢
          replace hB := below_step hB hbx
          replace hDw := hDw.below hbx
          replace hR1 := hR1.below hbx
          replace hR3 := hR3.below hbx
          replace hP := hP.below hbx
          have hszwm4 := Nat.le_trans hszwm3 hbx.size
          clear hbx hg4 s0
          refine hK.out _ _ (trivial) (fun hHeld => ?_)
          clear hK K
          try simp only [Act.put, List.setIfInBounds_toArray, List.set_cons_zero, List.set_cons_succ]
          refine wpAnyH_ready (rs := [6]) (by kernel_rfl) (by decide) (AllReadyH.cons (o := ⟨_, _, _, _, _, _⟩) rfl (fun K hK => ?_) AllReadyH.nil)
          rw [if_pos (by kernel_rfl)]
          go_simp
          refine (feed_any hDw rfl (some ⟨gl, 0, none⟩) 2 2 [xs.take 2, xs.drop 2] hP (by have := HFL.out; omega) (by have := HFL.out; show 0 + _ ≤ _; omega) (by have := HFL.out; show 0 + _ ≤ _; omega)).mono ?_
          rintro e wm5 ⟨v7, vl, want7, t7, Fs, rfl, HF7, hD7, hO7, ho7, hon7⟩
          have hO7 := hO7.less hszwm4
          replace hB := Below.only hB ho7 hB.size (fun k hk => hk.elim (fun e => by rw [e]; exact Nat.le_of_eq HDS.out) (fun e => by cases e))
          replace hX4 := fault_only hX4 ho7 (dfp_fault hDw.toDb hX4)
          have HE7 := HFEED.out.symm.trans HF7.out
          have ht7 : S1 = t7 := congrArg Prod.fst HE7
          have hf7 : [byeF.core] = Fs.map Fr.core := congrArg Prod.snd HE7
          subst ht7
          rw [show Value.agg (fv S1.why S1.wat) = .agg #[.int .i64 0, .int .i64 0] from rfl]
          obtain ⟨A7, c7, rfl⟩ := hO7.form
          obtain ⟨F, rfl⟩ : ∃ F, Fs = [F] := by
            cases Fs with
            | nil => simp at hf7
            | cons F r => cases r with
              | nil => exact ⟨F, rfl⟩
              | cons G r => simp at hf7
          have hszwm5 := Nat.le_trans hszwm4 ho7.size
          have HFK : Hid (F.k = 5) := Lib.hid (by have := congrArg (fun l : List Fr => l.map Fr.k) hf7; simp [Fr.core] at this; exact this.symm)
          have hd7 : ∀ k, dfp d v7 k → w.heap.size ≤ k := fun k hk => (hon7 k hk).elim (fun e => e.elim (fun e => by rw [e]; exact Nat.le_of_eq HDS.out) (fun e => by cases e)) (fun e => by have := hszwm4; have := HDS.out; omega)
          clear HF7 HE7 hf7 ho7 hon7 hDw hP hR1 hR3
          go_wp2_with fail
          refine hK.out _ _ (trivial) (fun hHeld => ?_)
          clear hK K
          try simp only [Act.put, List.setIfInBounds_toArray, List.set_cons_zero, List.set_cons_succ]
          refine wpAnyH_take (i := 7) (v := (.tuple #[.slice A7 1 c7, .agg #[.int .i64 0, .int .i64 0]])) (oi := ⟨_, _, _, _, _, _⟩) rfl (by kernel_rfl) (by kernel_rfl) (by kernel_rfl) (fun _ _ _ h => h) (Or.inl ⟨by kernel_rfl, fun W hS => ?_⟩) (by assumption) ?_
          · dsimp only at hS; go_split_ands; go_simp
          simp only [Act.put, List.setIfInBounds_toArray, List.set_cons_zero, List.set_cons_succ]
          refine wpAnyH_take (i := 8) (v := (.slice A7 1 c7)) (oi := ⟨_, _, _, _, _, _⟩) rfl (by kernel_rfl) (by kernel_rfl) (by kernel_rfl) (fun _ _ _ h => h) (Or.inl ⟨by kernel_rfl, fun W hS => ?_⟩) (by assumption) ?_
          · dsimp only at hS; go_split_ands; go_simp
          simp only [Act.put, List.setIfInBounds_toArray, List.set_cons_zero, List.set_cons_succ]
          refine wpAnyH_take (i := 9) (v := (.agg #[.int .i64 0, .int .i64 0])) (oi := ⟨_, _, _, _, _, _⟩) rfl (by kernel_rfl) (by kernel_rfl) (by kernel_rfl) (fun _ _ _ h => h) (Or.inl ⟨by kernel_rfl, fun W hS => ?_⟩) (by assumption) ?_
          · dsimp only at hS; go_split_ands; go_simp
          simp only [Act.put, List.setIfInBounds_toArray, List.set_cons_zero, List.set_cons_succ]
          refine wpAnyH_take (i := 11) (v := (.slice A7 1 c7)) (oi := ⟨_, _, _, _, _, _⟩) rfl (by kernel_rfl) (by kernel_rfl) (by kernel_rfl) (fun _ _ _ h => h) (Or.inl ⟨by kernel_rfl, fun W hS => ?_⟩) (by assumption) ?_
          · dsimp only at hS; go_split_ands; go_simp
          simp only [Act.put, List.setIfInBounds_toArray, List.set_cons_zero, List.set_cons_succ]
          refine wpAnyH_ready (rs := [12]) (by kernel_rfl) (by decide) (AllReadyH.cons (o := ⟨_, _, _, _, _, _⟩) rfl (fun K hK => ?_) AllReadyH.nil)
          have s4 := put_fault 0 0 hX4
          have hX5 := set_fault 0 0 hX4
          rw [if_pos (by kernel_rfl)]
          go_simp
          refine hK.out _ _ (trivial) (fun hHeld => ?_)
          clear hK K
          try simp only [Act.put, List.setIfInBounds_toArray, List.set_cons_zero, List.set_cons_succ]
          refine wpAnyH_done (by kernel_rfl) ?_ _
          have hor := Fr.only_row wm5 g4 (fv 0 0)
          have hD8 := hD7.only hor (fun k hk e => dfp_fault hD7.toDb hX4 (e ▸ hk))
          have hO8 := hO7.only hor (fun k e => by subst e; exact ⟨fv 0 0, 30, hX4, by decide, by decide⟩)
          have hB8 := Below.only hB hor hB.size (fun k e => by rw [e]; exact hg4l)
          clear hor hX4 hD7 hO7 hB
          generalize wm5.setRow g4 (fv 0 0) = w8 at *
          have hb9 := below_alloc (below_alloc (Below.refl _ w8) (.cells #[.int .u8 128, .int .u8 0] 5)) (.cells #[.slice (some ⟨w8.heap.size, 0, none⟩) 2 2] 23)
          have hP9 : PB ((w8.alloc (.cells #[.int .u8 128, .int .u8 0] 5)).alloc (.cells #[.slice (some ⟨w8.heap.size, 0, none⟩) 2 2] 23)) (some ⟨w8.heap.size + 1, 0, none⟩) 1 [[128, 0]] (dfp d v7) := by
            have h1 : RB (w8.alloc (.cells #[.int .u8 128, .int .u8 0] 5)) (some ⟨w8.heap.size, 0, none⟩) 2 [128, 0] := RB.lit w8 [128, 0] (fun x hx => by simp at hx; omega) (by decide) _ _
            have h2 := PB.one (cap := 2) (F := dfp d v7) 23 h1 (fun a e _ hk => by cases e; have := hD8.toDb.old _ hk; exact absurd this (Nat.lt_irrefl _)) (hD8.toDb.old.later (by simp))
            simpa using h2
          have hD9 := hD8.below hb9
          have hO9 := hO8.below hb9
          have hB9 := below_step hB8 hb9
          have hX9 := fault_keep hX5 hb9
          clear hD8 hO8 hB8 hX5 hb9
          go_wp2_with fail
          refine (feed_any hD9 rfl _ 1 1 [[128, 0]] hP9 (by decide) (by decide) (by decide)).mono ?_
          rintro e wf ⟨vf, vlf, wantf, tf, Gs, rfl, HFf, hDf, hOf, hof, honf⟩
          have htf : S2 = tf := congrArg Prod.fst (S2_is.symm.trans HFf.out)
          subst htf
          rw [show Value.agg (fv S2.why S2.wat) = .agg (fv 5 6) from rfl]
          have hO10 := hO9.only hof hD9.toDb.typed
          have hB10 := Below.only hB9 hof hB9.size (fun k hk => hd7 k hk)
          have hX10 := fault_only hX9 hof (dfp_fault hD9.toDb hX9)
          obtain ⟨g7, F2, hA7, hF2, _, _, _, _, hcells⟩ := hO10.at_ rfl 0 Nat.one_pos
          have hF2e : F = F2 := by simpa using hF2
          subst hF2e
          have hc7 : wf.cell? ⟨g7, 0, none⟩ = some (.int .i64 5) := by have := hcells 0 (.int .i64 F.k) rfl; rw [HFK.out] at this; exact this
          subst hA7
          obtain ⟨wg, wh, s0, s1, hX11, hb11⟩ := fault_put wf 5 6
          have HX11 := Lib.hid hX11
          have HB11 := Lib.hid (below_step hB10 hb11)
          have hX12 := fault_keep hX10 hb11
          have hc12 := pw_cell_below hb11 hc7
          clear hD9 hO9 hB9 hX9 HFf hDf hOf hof honf hO10 hB10 hX10 hF2 hcells hc7 hP9 hb11 hX11
          go_upto_region 6 with (fail)
          clear s0 s1
          have eX := get_fault hX12
          have eY := get_fault HX11.out
          have e7 := load_cell_int hc12
          have hb0 := build_fault0
          have hbf := build_fault
          have q1 := eql_fault 0 0 0 0 true rfl
          have q2 := eql_fault 5 6 5 6 true rfl
          clear hX12 hc12
          go_wp2_with fail
          go_ret
          exact ⟨rfl, HB11.out⟩
      · skip
        rw [if_pos (by kernel_rfl)]
        go_simp
        obtain ⟨wm3, s0, hX4, hbx⟩ := fault_new wm2
        rw [s0]
        obtain ⟨g4, hg4⟩ : ∃ g4, wm2.heap.size = g4 := ⟨_, rfl⟩
        have hg4l : w.heap.size ≤ g4 := by have := hszwm2; have := HDS.out; omega
        rw [hg4] at hX4 ⊢
        replace hB := below_step hB hbx
        replace hDw := hDw.below hbx
        replace hR1 := hR1.below hbx
        replace hR3 := hR3.below hbx
        have hszwm3 := Nat.le_trans hszwm2 hbx.size
        clear hbx hg4 s0
        refine hK.out _ _ (trivial) (fun hHeld => ?_)
        clear hK K
        try simp only [Act.put, List.setIfInBounds_toArray, List.set_cons_zero, List.set_cons_succ]
        refine wpAnyH_ready (rs := [5]) (by kernel_rfl) (by decide) (AllReadyH.cons (o := ⟨_, _, _, _, _, _⟩) rfl (fun K hK => ?_) AllReadyH.nil)
        rw [if_pos (by kernel_rfl)]
        go_simp
        have hP := PB.two (cap := c1) (cap2 := c3 - 2) 23 (RB.take_ hR1 2 (by have := HN6.out; omega)) (hr3.1 _ _ hR3) (fun a e _ => hl1 a e (by have := HN6.out; omega)) (fun a e _ => by obtain ⟨a0, e0, hb0⟩ := hr3.2 a e; rw [← hb0]; exact hl3 a0 e0 (by have := HN6.out; omega)) hDw.toDb.old
        have hbx := below_alloc (Below.refl _ wm3) (.cells #[.slice A1 2 c1, .slice A4 (N - 2) (c3 - 2)] 23)
        obtain ⟨gl, hgl⟩ : ∃ gl, wm3.heap.size = gl := ⟨_, rfl⟩
        rw [hgl] at hP ⊢
        replace hB := below_step hB hbx
        replace hDw := hDw.below hbx
        replace hR1 := hR1.below hbx
        replace hR3 := hR3.below hbx
        replace hX4 := fault_keep hX4 hbx
        have hszwm4 := Nat.le_trans hszwm3 hbx.size
        generalize wm3.alloc (.cells #[.slice A1 2 c1, .slice A4 (N - 2) (c3 - 2)] 23) = wm4 at *
        clear hbx hgl
        refine hK.out _ _ (trivial) (fun hHeld => ?_)
        clear hK K
        try simp only [Act.put, List.setIfInBounds_toArray, List.set_cons_zero, List.set_cons_succ]
        refine wpAnyH_ready (rs := [6]) (by kernel_rfl) (by decide) (AllReadyH.cons (o := ⟨_, _, _, _, _, _⟩) rfl (fun K hK => ?_) AllReadyH.nil)
        rw [if_pos (by kernel_rfl)]
        go_simp
        refine (feed_any hDw rfl (some ⟨gl, 0, none⟩) 2 2 [xs.take 2, xs.drop 2] hP (by have := HFL.out; omega) (by have := HFL.out; show 0 + _ ≤ _; omega) (by have := HFL.out; show 0 + _ ≤ _; omega)).mono ?_
        rintro e wm5 ⟨v7, vl, want7, t7, Fs, rfl, HF7, hD7, hO7, ho7, hon7⟩
        have hO7 := hO7.less hszwm4
        replace hB := Below.only hB ho7 hB.size (fun k hk => hk.elim (fun e => by rw [e]; exact Nat.le_of_eq HDS.out) (fun e => by cases e))
        replace hX4 := fault_only hX4 ho7 (dfp_fault hDw.toDb hX4)
        have HE7 := HFEED.out.symm.trans HF7.out
        have ht7 : S1 = t7 := congrArg Prod.fst HE7
        have hf7 : [byeF.core] = Fs.map Fr.core := congrArg Prod.snd HE7
        subst ht7
        rw [show Value.agg (fv S1.why S1.wat) = .agg #[.int .i64 0, .int .i64 0] from rfl]
        obtain ⟨A7, c7, rfl⟩ := hO7.form
        obtain ⟨F, rfl⟩ : ∃ F, Fs = [F] := by
          cases Fs with
          | nil => simp at hf7
          | cons F r => cases r with
            | nil => exact ⟨F, rfl⟩
            | cons G r => simp at hf7
        have hszwm5 := Nat.le_trans hszwm4 ho7.size
        have HFK : Hid (F.k = 5) := Lib.hid (by have := congrArg (fun l : List Fr => l.map Fr.k) hf7; simp [Fr.core] at this; exact this.symm)
        have hd7 : ∀ k, dfp d v7 k → w.heap.size ≤ k := fun k hk => (hon7 k hk).elim (fun e => e.elim (fun e => by rw [e]; exact Nat.le_of_eq HDS.out) (fun e => by cases e)) (fun e => by have := hszwm4; have := HDS.out; omega)
        clear HF7 HE7 hf7 ho7 hon7 hDw hP hR1 hR3
        go_wp2_with fail
        refine hK.out _ _ (trivial) (fun hHeld => ?_)
        clear hK K
        try simp only [Act.put, List.setIfInBounds_toArray, List.set_cons_zero, List.set_cons_succ]
        refine wpAnyH_take (i := 7) (v := (.tuple #[.slice A7 1 c7, .agg #[.int .i64 0, .int .i64 0]])) (oi := ⟨_, _, _, _, _, _⟩) rfl (by kernel_rfl) (by kernel_rfl) (by kernel_rfl) (fun _ _ _ h => h) (Or.inl ⟨by kernel_rfl, fun W hS => ?_⟩) (by assumption) ?_
        · dsimp only at hS; go_split_ands; go_simp
        simp only [Act.put, List.setIfInBounds_toArray, List.set_cons_zero, List.set_cons_succ]
        refine wpAnyH_take (i := 8) (v := (.slice A7 1 c7)) (oi := ⟨_, _, _, _, _, _⟩) rfl (by kernel_rfl) (by kernel_rfl) (by kernel_rfl) (fun _ _ _ h => h) (Or.inl ⟨by kernel_rfl, fun W hS => ?_⟩) (by assumption) ?_
        · dsimp only at hS; go_split_ands; go_simp
        simp only [Act.put, List.setIfInBounds_toArray, List.set_cons_zero, List.set_cons_succ]
        refine wpAnyH_take (i := 9) (v := (.agg #[.int .i64 0, .int .i64 0])) (oi := ⟨_, _, _, _, _, _⟩) rfl (by kernel_rfl) (by kernel_rfl) (by kernel_rfl) (fun _ _ _ h => h) (Or.inl ⟨by kernel_rfl, fun W hS => ?_⟩) (by assumption) ?_
        · dsimp only at hS; go_split_ands; go_simp
        simp only [Act.put, List.setIfInBounds_toArray, List.set_cons_zero, List.set_cons_succ]
        refine wpAnyH_take (i := 11) (v := (.slice A7 1 c7)) (oi := ⟨_, _, _, _, _, _⟩) rfl (by kernel_rfl) (by kernel_rfl) (by kernel_rfl) (fun _ _ _ h => h) (Or.inl ⟨by kernel_rfl, fun W hS => ?_⟩) (by assumption) ?_
        · dsimp only at hS; go_split_ands; go_simp
        simp only [Act.put, List.setIfInBounds_toArray, List.set_cons_zero, List.set_cons_succ]
        refine wpAnyH_ready (rs := [12]) (by kernel_rfl) (by decide) (AllReadyH.cons (o := ⟨_, _, _, _, _, _⟩) rfl (fun K hK => ?_) AllReadyH.nil)
        have s4 := put_fault 0 0 hX4
        have hX5 := set_fault 0 0 hX4
        rw [if_pos (by kernel_rfl)]
        go_simp
        refine hK.out _ _ (trivial) (fun hHeld => ?_)
        clear hK K
        try simp only [Act.put, List.setIfInBounds_toArray, List.set_cons_zero, List.set_cons_succ]
        refine wpAnyH_done (by kernel_rfl) ?_ _
        have hor := Fr.only_row wm5 g4 (fv 0 0)
        have hD8 := hD7.only hor (fun k hk e => dfp_fault hD7.toDb hX4 (e ▸ hk))
        have hO8 := hO7.only hor (fun k e => by subst e; exact ⟨fv 0 0, 30, hX4, by decide, by decide⟩)
        have hB8 := Below.only hB hor hB.size (fun k e => by rw [e]; exact hg4l)
        clear hor hX4 hD7 hO7 hB
        generalize wm5.setRow g4 (fv 0 0) = w8 at *
        have hb9 := below_alloc (below_alloc (Below.refl _ w8) (.cells #[.int .u8 128, .int .u8 0] 5)) (.cells #[.slice (some ⟨w8.heap.size, 0, none⟩) 2 2] 23)
        have hP9 : PB ((w8.alloc (.cells #[.int .u8 128, .int .u8 0] 5)).alloc (.cells #[.slice (some ⟨w8.heap.size, 0, none⟩) 2 2] 23)) (some ⟨w8.heap.size + 1, 0, none⟩) 1 [[128, 0]] (dfp d v7) := by
          have h1 : RB (w8.alloc (.cells #[.int .u8 128, .int .u8 0] 5)) (some ⟨w8.heap.size, 0, none⟩) 2 [128, 0] := RB.lit w8 [128, 0] (fun x hx => by simp at hx; omega) (by decide) _ _
          have h2 := PB.one (cap := 2) (F := dfp d v7) 23 h1 (fun a e _ hk => by cases e; have := hD8.toDb.old _ hk; exact absurd this (Nat.lt_irrefl _)) (hD8.toDb.old.later (by simp))
          simpa using h2
        have hD9 := hD8.below hb9
        have hO9 := hO8.below hb9
        have hB9 := below_step hB8 hb9
        have hX9 := fault_keep hX5 hb9
        clear hD8 hO8 hB8 hX5 hb9
        go_wp2_with fail
        refine (feed_any hD9 rfl _ 1 1 [[128, 0]] hP9 (by decide) (by decide) (by decide)).mono ?_
        rintro e wf ⟨vf, vlf, wantf, tf, Gs, rfl, HFf, hDf, hOf, hof, honf⟩
        have htf : S2 = tf := congrArg Prod.fst (S2_is.symm.trans HFf.out)
        subst htf
        rw [show Value.agg (fv S2.why S2.wat) = .agg (fv 5 6) from rfl]
        have hO10 := hO9.only hof hD9.toDb.typed
        have hB10 := Below.only hB9 hof hB9.size (fun k hk => hd7 k hk)
        have hX10 := fault_only hX9 hof (dfp_fault hD9.toDb hX9)
        obtain ⟨g7, F2, hA7, hF2, _, _, _, _, hcells⟩ := hO10.at_ rfl 0 Nat.one_pos
        have hF2e : F = F2 := by simpa using hF2
        subst hF2e
        have hc7 : wf.cell? ⟨g7, 0, none⟩ = some (.int .i64 5) := by have := hcells 0 (.int .i64 F.k) rfl; rw [HFK.out] at this; exact this
        subst hA7
        obtain ⟨wg, wh, s0, s1, hX11, hb11⟩ := fault_put wf 5 6
        have HX11 := Lib.hid hX11
        have HB11 := Lib.hid (below_step hB10 hb11)
        have hX12 := fault_keep hX10 hb11
        have hc12 := pw_cell_below hb11 hc7
        clear hD9 hO9 hB9 hX9 HFf hDf hOf hof honf hO10 hB10 hX10 hF2 hcells hc7 hP9 hb11 hX11
        go_upto_region 6 with (fail)
        clear s0 s1
        have eX := get_fault hX12
        have eY := get_fault HX11.out
        have e7 := load_cell_int hc12
        have hb0 := build_fault0
        have hbf := build_fault
        have q1 := eql_fault 0 0 0 0 true rfl
        have q2 := eql_fault 5 6 5 6 true rfl
        clear hX12 hc12
        go_wp2_with fail
        go_ret
        exact ⟨rfl, HB11.out⟩
    · skip
      rw [if_pos (by kernel_rfl)]
      go_simp
      obtain ⟨wm2, s0, hX4, hbx⟩ := fault_new wm1
      rw [s0]
      obtain ⟨g4, hg4⟩ : ∃ g4, wm1.heap.size = g4 := ⟨_, rfl⟩
      have hg4l : w.heap.size ≤ g4 := by have := hszwm1; have := HDS.out; omega
      rw [hg4] at hX4 ⊢
      replace hB := below_step hB hbx
      replace hDw := hDw.below hbx
      replace hR1 := hR1.below hbx
      have hszwm2 := Nat.le_trans hszwm1 hbx.size
      clear hbx hg4 s0
      refine hK.out _ _ (trivial) (fun hHeld => ?_)
      clear hK K
      try simp only [Act.put, List.setIfInBounds_toArray, List.set_cons_zero, List.set_cons_succ]
      refine wpAnyH_ready (rs := [3]) (by kernel_rfl) (by decide) (AllReadyH.cons (o := ⟨_, _, _, _, _, _⟩) rfl (fun K hK => ?_) AllReadyH.nil)
      rw [if_pos (by kernel_rfl)]
      go_simp
      refine (cB wm2).mono ?_
      rintro e wm3 ⟨v3, rfl, hOb, hbx⟩
      obtain ⟨A3, c3, rfl, hR3, hc3, hfr3⟩ := hOb.reads_from
      rw [hN] at hR3 hc3 ⊢
      replace hB := below_step hB hbx
      replace hDw := hDw.below hbx
      replace hR1 := hR1.below hbx
      replace hX4 := fault_keep hX4 hbx
      obtain ⟨A4, hs3a, hr3⟩ := mid_cut A3 N c3 2 (by have := HN6.out; omega) hc3
      have hs3 : ∀ W : World, (Instr.slice 23 (.slice A3 N c3) (some (.int .i64 2)) none none).run Try.prog W = .ok (.slice A4 (N - 2) (c3 - 2)) W := hs3a
      clear hs3a
      have hl3 : ∀ a, A3 = some a → 0 < N → ¬ dfp d (.slice none 0 0) a.block := fun a e _ hk => by
        have h1 := hfr3 a e
        rcases hk with hk | hk
        · have h2 := HDS.out; have h3 := hszwm2; rw [hk] at h1; omega
        · cases hk
      have hszwm3 := Nat.le_trans hszwm2 hbx.size
      clear hOb hbx hfr3
      go_wp2_with fail
      refine hK.out _ _ (trivial) (fun hHeld => ?_)
      clear hK K
      try simp only [Act.put, List.setIfInBounds_toArray, List.set_cons_zero, List.set_cons_succ]
      refine wpAnyH_take (i := 4) (v := (.slice A4 (N - 2) (c3 - 2))) (oi := ⟨_, _, _, _, _, _⟩) rfl (by kernel_rfl) (by kernel_rfl) (by kernel_rfl) (fun _ _ _ h => h) (Or.inl ⟨by kernel_rfl, fun W hS => ?_⟩) (by assumption) ?_
      · dsimp only at hS; go_split_ands; go_simp
      simp only [Act.put, List.setIfInBounds_toArray, List.set_cons_zero, List.set_cons_succ]
      refine wpAnyH_ready (rs := [5]) (by kernel_rfl) (by decide) (AllReadyH.cons (o := ⟨_, _, _, _, _, _⟩) rfl (fun K hK => ?_) AllReadyH.nil)
      rw [if_pos (by kernel_rfl)]
      go_simp
      have hP := PB.two (cap := c1) (cap2 := c3 - 2) 23 (RB.take_ hR1 2 (by have := HN6.out; omega)) (hr3.1 _ _ hR3) (fun a e _ => hl1 a e (by have := HN6.out; omega)) (fun a e _ => by obtain ⟨a0, e0, hb0⟩ := hr3.2 a e; rw [← hb0]; exact hl3 a0 e0 (by have := HN6.out; omega)) hDw.toDb.old
      have hbx := below_alloc (Below.refl _ wm3) (.cells #[.slice A1 2 c1, .slice A4 (N - 2) (c3 - 2)] 23)
      obtain ⟨gl, hgl⟩ : ∃ gl, wm3.heap.size = gl := ⟨_, rfl⟩
      rw [hgl] at hP ⊢
      replace hB := below_step hB hbx
      replace hDw := hDw.below hbx
      replace hR1 := hR1.below hbx
      replace hR3 := hR3.below hbx
      replace hX4 := fault_keep hX4 hbx
      have hszwm4 := Nat.le_trans hszwm3 hbx.size
      generalize wm3.alloc (.cells #[.slice A1 2 c1, .slice A4 (N - 2) (c3 - 2)] 23) = wm4 at *
      clear hbx hgl
      refine hK.out _ _ (trivial) (fun hHeld => ?_)
      clear hK K
      try simp only [Act.put, List.setIfInBounds_toArray, List.set_cons_zero, List.set_cons_succ]
      refine wpAnyH_ready (rs := [6]) (by kernel_rfl) (by decide) (AllReadyH.cons (o := ⟨_, _, _, _, _, _⟩) rfl (fun K hK => ?_) AllReadyH.nil)
      rw [if_pos (by kernel_rfl)]
      go_simp
      refine (feed_any hDw rfl (some ⟨gl, 0, none⟩) 2 2 [xs.take 2, xs.drop 2] hP (by have := HFL.out; omega) (by have := HFL.out; show 0 + _ ≤ _; omega) (by have := HFL.out; show 0 + _ ≤ _; omega)).mono ?_
      rintro e wm5 ⟨v7, vl, want7, t7, Fs, rfl, HF7, hD7, hO7, ho7, hon7⟩
      have hO7 := hO7.less hszwm4
      replace hB := Below.only hB ho7 hB.size (fun k hk => hk.elim (fun e => by rw [e]; exact Nat.le_of_eq HDS.out) (fun e => by cases e))
      replace hX4 := fault_only hX4 ho7 (dfp_fault hDw.toDb hX4)
      have HE7 := HFEED.out.symm.trans HF7.out
      have ht7 : S1 = t7 := congrArg Prod.fst HE7
      have hf7 : [byeF.core] = Fs.map Fr.core := congrArg Prod.snd HE7
      subst ht7
      rw [show Value.agg (fv S1.why S1.wat) = .agg #[.int .i64 0, .int .i64 0] from rfl]
      obtain ⟨A7, c7, rfl⟩ := hO7.form
      obtain ⟨F, rfl⟩ : ∃ F, Fs = [F] := by
        cases Fs with
        | nil => simp at hf7
        | cons F r => cases r with
          | nil => exact ⟨F, rfl⟩
          | cons G r => simp at hf7
      have hszwm5 := Nat.le_trans hszwm4 ho7.size
      have HFK : Hid (F.k = 5) := Lib.hid (by have := congrArg (fun l : List Fr => l.map Fr.k) hf7; simp [Fr.core] at this; exact this.symm)
      have hd7 : ∀ k, dfp d v7 k → w.heap.size ≤ k := fun k hk => (hon7 k hk).elim (fun e => e.elim (fun e => by rw [e]; exact Nat.le_of_eq HDS.out) (fun e => by cases e)) (fun e => by have := hszwm4; have := HDS.out; omega)
      clear HF7 HE7 hf7 ho7 hon7 hDw hP hR1 hR3
      go_wp2_with fail
      refine hK.out _ _ (trivial) (fun hHeld => ?_)
      clear hK K
      try simp only [Act.put, List.setIfInBounds_toArray, List.set_cons_zero, List.set_cons_succ]
      refine wpAnyH_take (i := 7) (v := (.tuple #[.slice A7 1 c7, .agg #[.int .i64 0, .int .i64 0]])) (oi := ⟨_, _, _, _, _, _⟩) rfl (by kernel_rfl) (by kernel_rfl) (by kernel_rfl) (fun _ _ _ h => h) (Or.inl ⟨by kernel_rfl, fun W hS => ?_⟩) (by assumption) ?_
      · dsimp only at hS; go_split_ands; go_simp
      simp only [Act.put, List.setIfInBounds_toArray, List.set_cons_zero, List.set_cons_succ]
      refine wpAnyH_take (i := 8) (v := (.slice A7 1 c7)) (oi := ⟨_, _, _, _, _, _⟩) rfl (by kernel_rfl) (by kernel_rfl) (by kernel_rfl) (fun _ _ _ h => h) (Or.inl ⟨by kernel_rfl, fun W hS => ?_⟩) (by assumption) ?_
      · dsimp only at hS; go_split_ands; go_simp
      simp only [Act.put, List.setIfInBounds_toArray, List.set_cons_zero, List.set_cons_succ]
      refine wpAnyH_take (i := 9) (v := (.agg #[.int .i64 0, .int .i64 0])) (oi := ⟨_, _, _, _, _, _⟩) rfl (by kernel_rfl) (by kernel_rfl) (by kernel_rfl) (fun _ _ _ h => h) (Or.inl ⟨by kernel_rfl, fun W hS => ?_⟩) (by assumption) ?_
      · dsimp only at hS; go_split_ands; go_simp
      simp only [Act.put, List.setIfInBounds_toArray, List.set_cons_zero, List.set_cons_succ]
      refine wpAnyH_take (i := 11) (v := (.slice A7 1 c7)) (oi := ⟨_, _, _, _, _, _⟩) rfl (by kernel_rfl) (by kernel_rfl) (by kernel_rfl) (fun _ _ _ h => h) (Or.inl ⟨by kernel_rfl, fun W hS => ?_⟩) (by assumption) ?_
      · dsimp only at hS; go_split_ands; go_simp
      simp only [Act.put, List.setIfInBounds_toArray, List.set_cons_zero, List.set_cons_succ]
      refine wpAnyH_ready (rs := [12]) (by kernel_rfl) (by decide) (AllReadyH.cons (o := ⟨_, _, _, _, _, _⟩) rfl (fun K hK => ?_) AllReadyH.nil)
      have s4 := put_fault 0 0 hX4
      have hX5 := set_fault 0 0 hX4
      rw [if_pos (by kernel_rfl)]
      go_simp
      refine hK.out _ _ (trivial) (fun hHeld => ?_)
      clear hK K
      try simp only [Act.put, List.setIfInBounds_toArray, List.set_cons_zero, List.set_cons_succ]
      refine wpAnyH_done (by kernel_rfl) ?_ _
      have hor := Fr.only_row wm5 g4 (fv 0 0)
      have hD8 := hD7.only hor (fun k hk e => dfp_fault hD7.toDb hX4 (e ▸ hk))
      have hO8 := hO7.only hor (fun k e => by subst e; exact ⟨fv 0 0, 30, hX4, by decide, by decide⟩)
      have hB8 := Below.only hB hor hB.size (fun k e => by rw [e]; exact hg4l)
      clear hor hX4 hD7 hO7 hB
      generalize wm5.setRow g4 (fv 0 0) = w8 at *
      have hb9 := below_alloc (below_alloc (Below.refl _ w8) (.cells #[.int .u8 128, .int .u8 0] 5)) (.cells #[.slice (some ⟨w8.heap.size, 0, none⟩) 2 2] 23)
      have hP9 : PB ((w8.alloc (.cells #[.int .u8 128, .int .u8 0] 5)).alloc (.cells #[.slice (some ⟨w8.heap.size, 0, none⟩) 2 2] 23)) (some ⟨w8.heap.size + 1, 0, none⟩) 1 [[128, 0]] (dfp d v7) := by
        have h1 : RB (w8.alloc (.cells #[.int .u8 128, .int .u8 0] 5)) (some ⟨w8.heap.size, 0, none⟩) 2 [128, 0] := RB.lit w8 [128, 0] (fun x hx => by simp at hx; omega) (by decide) _ _
        have h2 := PB.one (cap := 2) (F := dfp d v7) 23 h1 (fun a e _ hk => by cases e; have := hD8.toDb.old _ hk; exact absurd this (Nat.lt_irrefl _)) (hD8.toDb.old.later (by simp))
        simpa using h2
      have hD9 := hD8.below hb9
      have hO9 := hO8.below hb9
      have hB9 := below_step hB8 hb9
      have hX9 := fault_keep hX5 hb9
      clear hD8 hO8 hB8 hX5 hb9
      go_wp2_with fail
      refine (feed_any hD9 rfl _ 1 1 [[128, 0]] hP9 (by decide) (by decide) (by decide)).mono ?_
      rintro e wf ⟨vf, vlf, wantf, tf, Gs, rfl, HFf, hDf, hOf, hof, honf⟩
      have htf : S2 = tf := congrArg Prod.fst (S2_is.symm.trans HFf.out)
      subst htf
      rw [show Value.agg (fv S2.why S2.wat) = .agg (fv 5 6) from rfl]
      have hO10 := hO9.only hof hD9.toDb.typed
      have hB10 := Below.only hB9 hof hB9.size (fun k hk => hd7 k hk)
      have hX10 := fault_only hX9 hof (dfp_fault hD9.toDb hX9)
      obtain ⟨g7, F2, hA7, hF2, _, _, _, _, hcells⟩ := hO10.at_ rfl 0 Nat.one_pos
      have hF2e : F = F2 := by simpa using hF2
      subst hF2e
      have hc7 : wf.cell? ⟨g7, 0, none⟩ = some (.int .i64 5) := by have := hcells 0 (.int .i64 F.k) rfl; rw [HFK.out] at this; exact this
      subst hA7
      obtain ⟨wg, wh, s0, s1, hX11, hb11⟩ := fault_put wf 5 6
      have HX11 := Lib.hid hX11
      have HB11 := Lib.hid (below_step hB10 hb11)
      have hX12 := fault_keep hX10 hb11
      have hc12 := pw_cell_below hb11 hc7
      clear hD9 hO9 hB9 hX9 HFf hDf hOf hof honf hO10 hB10 hX10 hF2 hcells hc7 hP9 hb11 hX11
      go_upto_region 6 with (fail)
      clear s0 s1
      have eX := get_fault hX12
      have eY := get_fault HX11.out
      have e7 := load_cell_int hc12
      have hb0 := build_fault0
      have hbf := build_fault
      have q1 := eql_fault 0 0 0 0 true rfl
      have q2 := eql_fault 5 6 5 6 true rfl
      clear hX12 hc12
      go_wp2_with fail
      go_ret
      exact ⟨rfl, HB11.out⟩
  · skip
    rw [if_pos (by kernel_rfl)]
    go_simp
    obtain ⟨wm1, s0, hX4, hbx⟩ := fault_new wm0
    rw [s0]
    obtain ⟨g4, hg4⟩ : ∃ g4, wm0.heap.size = g4 := ⟨_, rfl⟩
    have hg4l : w.heap.size ≤ g4 := by have := hszwm0; have := HDS.out; omega
    rw [hg4] at hX4 ⊢
    replace hB := below_step hB hbx
    replace hDw := hDw.below hbx
    have hszwm1 := Nat.le_trans hszwm0 hbx.size
    clear hbx hg4 s0
    refine hK.out _ _ (trivial) (fun hHeld => ?_)
    clear hK K
    try simp only [Act.put, List.setIfInBounds_toArray, List.set_cons_zero, List.set_cons_succ]
    refine wpAnyH_ready (rs := [1]) (by kernel_rfl) (by decide) (AllReadyH.cons (o := ⟨_, _, _, _, _, _⟩) rfl (fun K hK => ?_) AllReadyH.nil)
    rw [if_pos (by kernel_rfl)]
    go_simp
    refine (cB wm1).mono ?_
    rintro e wm2 ⟨v1, rfl, hOb, hbx⟩
    obtain ⟨A1, c1, rfl, hR1, hc1, hfr1⟩ := hOb.reads_from
    rw [hN] at hR1 hc1 ⊢
    replace hB := below_step hB hbx
    replace hDw := hDw.below hbx
    replace hX4 := fault_keep hX4 hbx
    have hs1 : ∀ W : World, (Instr.slice 23 (.slice A1 N c1) none (some (.int .i64 2)) none).run Try.prog W = .ok (.slice A1 2 c1) W := fun W => head_bytes A1 N c1 2 (by have := HN6.out; omega) W
    have hl1 : ∀ a, A1 = some a → 0 < N → ¬ dfp d (.slice none 0 0) a.block := fun a e _ hk => by
      have h1 := hfr1 a e
      rcases hk with hk | hk
      · have h2 := HDS.out; have h3 := hszwm1; rw [hk] at h1; omega
      · cases hk
    have hszwm2 := Nat.le_trans hszwm1 hbx.size
    clear hOb hbx hfr1
    go_wp2_with fail
    refine hK.out _ _ (trivial) (fun hHeld => ?_)
    clear hK K
    try simp only [Act.put, List.setIfInBounds_toArray, List.set_cons_zero, List.set_cons_succ]
    refine wpAnyH_take (i := 2) (v := (.slice A1 2 c1)) (oi := ⟨_, _, _, _, _, _⟩) rfl (by kernel_rfl) (by kernel_rfl) (by kernel_rfl) (fun _ _ _ h => h) (Or.inl ⟨by kernel_rfl, fun W hS => ?_⟩) (by assumption) ?_
    · dsimp only at hS; go_split_ands; go_simp
    simp only [Act.put, List.setIfInBounds_toArray, List.set_cons_zero, List.set_cons_succ]
    refine wpAnyH_ready (rs := [3]) (by kernel_rfl) (by decide) (AllReadyH.cons (o := ⟨_, _, _, _, _, _⟩) rfl (fun K hK => ?_) AllReadyH.nil)
    rw [if_pos (by kernel_rfl)]
    go_simp
    refine (cB wm2).mono ?_
    rintro e wm3 ⟨v3, rfl, hOb, hbx⟩
    obtain ⟨A3, c3, rfl, hR3, hc3, hfr3⟩ := hOb.reads_from
    rw [hN] at hR3 hc3 ⊢
    replace hB := below_step hB hbx
    replace hDw := hDw.below hbx
    replace hR1 := hR1.below hbx
    replace hX4 := fault_keep hX4 hbx
    obtain ⟨A4, hs3a, hr3⟩ := mid_cut A3 N c3 2 (by have := HN6.out; omega) hc3
    have hs3 : ∀ W : World, (Instr.slice 23 (.slice A3 N c3) (some (.int .i64 2)) none none).run Try.prog W = .ok (.slice A4 (N - 2) (c3 - 2)) W := hs3a
    clear hs3a
    have hl3 : ∀ a, A3 = some a → 0 < N → ¬ dfp d (.slice none 0 0) a.block := fun a e _ hk => by
      have h1 := hfr3 a e
      rcases hk with hk | hk
      · have h2 := HDS.out; have h3 := hszwm2; rw [hk] at h1; omega
      · cases hk
    have hszwm3 := Nat.le_trans hszwm2 hbx.size
    clear hOb hbx hfr3
    go_wp2_with fail
    refine hK.out _ _ (trivial) (fun hHeld => ?_)
    clear hK K
    try simp only [Act.put, List.setIfInBounds_toArray, List.set_cons_zero, List.set_cons_succ]
    refine wpAnyH_take (i := 4) (v := (.slice A4 (N - 2) (c3 - 2))) (oi := ⟨_, _, _, _, _, _⟩) rfl (by kernel_rfl) (by kernel_rfl) (by kernel_rfl) (fun _ _ _ h => h) (Or.inl ⟨by kernel_rfl, fun W hS => ?_⟩) (by assumption) ?_
    · dsimp only at hS; go_split_ands; go_simp
    simp only [Act.put, List.setIfInBounds_toArray, List.set_cons_zero, List.set_cons_succ]
    refine wpAnyH_ready (rs := [5]) (by kernel_rfl) (by decide) (AllReadyH.cons (o := ⟨_, _, _, _, _, _⟩) rfl (fun K hK => ?_) AllReadyH.nil)
    rw [if_pos (by kernel_rfl)]
    go_simp
    have hP := PB.two (cap := c1) (cap2 := c3 - 2) 23 (RB.take_ hR1 2 (by have := HN6.out; omega)) (hr3.1 _ _ hR3) (fun a e _ => hl1 a e (by have := HN6.out; omega)) (fun a e _ => by obtain ⟨a0, e0, hb0⟩ := hr3.2 a e; rw [← hb0]; exact hl3 a0 e0 (by have := HN6.out; omega)) hDw.toDb.old
    have hbx := below_alloc (Below.refl _ wm3) (.cells #[.slice A1 2 c1, .slice A4 (N - 2) (c3 - 2)] 23)
    obtain ⟨gl, hgl⟩ : ∃ gl, wm3.heap.size = gl := ⟨_, rfl⟩
    rw [hgl] at hP ⊢
    replace hB := below_step hB hbx
    replace hDw := hDw.below hbx
    replace hR1 := hR1.below hbx
    replace hR3 := hR3.below hbx
    replace hX4 := fault_keep hX4 hbx
    have hszwm4 := Nat.le_trans hszwm3 hbx.size
    generalize wm3.alloc (.cells #[.slice A1 2 c1, .slice A4 (N - 2) (c3 - 2)] 23) = wm4 at *
    clear hbx hgl
    refine hK.out _ _ (trivial) (fun hHeld => ?_)
    clear hK K
    try simp only [Act.put, List.setIfInBounds_toArray, List.set_cons_zero, List.set_cons_succ]
    refine wpAnyH_ready (rs := [6]) (by kernel_rfl) (by decide) (AllReadyH.cons (o := ⟨_, _, _, _, _, _⟩) rfl (fun K hK => ?_) AllReadyH.nil)
    rw [if_pos (by kernel_rfl)]
    go_simp
    refine (feed_any hDw rfl (some ⟨gl, 0, none⟩) 2 2 [xs.take 2, xs.drop 2] hP (by have := HFL.out; omega) (by have := HFL.out; show 0 + _ ≤ _; omega) (by have := HFL.out; show 0 + _ ≤ _; omega)).mono ?_
    rintro e wm5 ⟨v7, vl, want7, t7, Fs, rfl, HF7, hD7, hO7, ho7, hon7⟩
    have hO7 := hO7.less hszwm4
    replace hB := Below.only hB ho7 hB.size (fun k hk => hk.elim (fun e => by rw [e]; exact Nat.le_of_eq HDS.out) (fun e => by cases e))
    replace hX4 := fault_only hX4 ho7 (dfp_fault hDw.toDb hX4)
    have HE7 := HFEED.out.symm.trans HF7.out
    have ht7 : S1 = t7 := congrArg Prod.fst HE7
    have hf7 : [byeF.core] = Fs.map Fr.core := congrArg Prod.snd HE7
    subst ht7
    rw [show Value.agg (fv S1.why S1.wat) = .agg #[.int .i64 0, .int .i64 0] from rfl]
    obtain ⟨A7, c7, rfl⟩ := hO7.form
    obtain ⟨F, rfl⟩ : ∃ F, Fs = [F] := by
      cases Fs with
      | nil => simp at hf7
      | cons F r => cases r with
        | nil => exact ⟨F, rfl⟩
        | cons G r => simp at hf7
    have hszwm5 := Nat.le_trans hszwm4 ho7.size
    have HFK : Hid (F.k = 5) := Lib.hid (by have := congrArg (fun l : List Fr => l.map Fr.k) hf7; simp [Fr.core] at this; exact this.symm)
    have hd7 : ∀ k, dfp d v7 k → w.heap.size ≤ k := fun k hk => (hon7 k hk).elim (fun e => e.elim (fun e => by rw [e]; exact Nat.le_of_eq HDS.out) (fun e => by cases e)) (fun e => by have := hszwm4; have := HDS.out; omega)
    clear HF7 HE7 hf7 ho7 hon7 hDw hP hR1 hR3
    go_wp2_with fail
    refine hK.out _ _ (trivial) (fun hHeld => ?_)
    clear hK K
    try simp only [Act.put, List.setIfInBounds_toArray, List.set_cons_zero, List.set_cons_succ]
    refine wpAnyH_take (i := 7) (v := (.tuple #[.slice A7 1 c7, .agg #[.int .i64 0, .int .i64 0]])) (oi := ⟨_, _, _, _, _, _⟩) rfl (by kernel_rfl) (by kernel_rfl) (by kernel_rfl) (fun _ _ _ h => h) (Or.inl ⟨by kernel_rfl, fun W hS => ?_⟩) (by assumption) ?_
    · dsimp only at hS; go_split_ands; go_simp
    simp only [Act.put, List.setIfInBounds_toArray, List.set_cons_zero, List.set_cons_succ]
    refine wpAnyH_take (i := 8) (v := (.slice A7 1 c7)) (oi := ⟨_, _, _, _, _, _⟩) rfl (by kernel_rfl) (by kernel_rfl) (by kernel_rfl) (fun _ _ _ h => h) (Or.inl ⟨by kernel_rfl, fun W hS => ?_⟩) (by assumption) ?_
    · dsimp only at hS; go_split_ands; go_simp
    simp only [Act.put, List.setIfInBounds_toArray, List.set_cons_zero, List.set_cons_succ]
    refine wpAnyH_take (i := 9) (v := (.agg #[.int .i64 0, .int .i64 0])) (oi := ⟨_, _, _, _, _, _⟩) rfl (by kernel_rfl) (by kernel_rfl) (by kernel_rfl) (fun _ _ _ h => h) (Or.inl ⟨by kernel_rfl, fun W hS => ?_⟩) (by assumption) ?_
    · dsimp only at hS; go_split_ands; go_simp
    simp only [Act.put, List.setIfInBounds_toArray, List.set_cons_zero, List.set_cons_succ]
    refine wpAnyH_take (i := 11) (v := (.slice A7 1 c7)) (oi := ⟨_, _, _, _, _, _⟩) rfl (by kernel_rfl) (by kernel_rfl) (by kernel_rfl) (fun _ _ _ h => h) (Or.inl ⟨by kernel_rfl, fun W hS => ?_⟩) (by assumption) ?_
    · dsimp only at hS; go_split_ands; go_simp
    simp only [Act.put, List.setIfInBounds_toArray, List.set_cons_zero, List.set_cons_succ]
    refine wpAnyH_ready (rs := [12]) (by kernel_rfl) (by decide) (AllReadyH.cons (o := ⟨_, _, _, _, _, _⟩) rfl (fun K hK => ?_) AllReadyH.nil)
    have s4 := put_fault 0 0 hX4
    have hX5 := set_fault 0 0 hX4
    rw [if_pos (by kernel_rfl)]
    go_simp
    refine hK.out _ _ (trivial) (fun hHeld => ?_)
    clear hK K
    try simp only [Act.put, List.setIfInBounds_toArray, List.set_cons_zero, List.set_cons_succ]
    refine wpAnyH_done (by kernel_rfl) ?_ _
    have hor := Fr.only_row wm5 g4 (fv 0 0)
    have hD8 := hD7.only hor (fun k hk e => dfp_fault hD7.toDb hX4 (e ▸ hk))
    have hO8 := hO7.only hor (fun k e => by subst e; exact ⟨fv 0 0, 30, hX4, by decide, by decide⟩)
    have hB8 := Below.only hB hor hB.size (fun k e => by rw [e]; exact hg4l)
    clear hor hX4 hD7 hO7 hB
    generalize wm5.setRow g4 (fv 0 0) = w8 at *
    have hb9 := below_alloc (below_alloc (Below.refl _ w8) (.cells #[.int .u8 128, .int .u8 0] 5)) (.cells #[.slice (some ⟨w8.heap.size, 0, none⟩) 2 2] 23)
    have hP9 : PB ((w8.alloc (.cells #[.int .u8 128, .int .u8 0] 5)).alloc (.cells #[.slice (some ⟨w8.heap.size, 0, none⟩) 2 2] 23)) (some ⟨w8.heap.size + 1, 0, none⟩) 1 [[128, 0]] (dfp d v7) := by
      have h1 : RB (w8.alloc (.cells #[.int .u8 128, .int .u8 0] 5)) (some ⟨w8.heap.size, 0, none⟩) 2 [128, 0] := RB.lit w8 [128, 0] (fun x hx => by simp at hx; omega) (by decide) _ _
      have h2 := PB.one (cap := 2) (F := dfp d v7) 23 h1 (fun a e _ hk => by cases e; have := hD8.toDb.old _ hk; exact absurd this (Nat.lt_irrefl _)) (hD8.toDb.old.later (by simp))
      simpa using h2
    have hD9 := hD8.below hb9
    have hO9 := hO8.below hb9
    have hB9 := below_step hB8 hb9
    have hX9 := fault_keep hX5 hb9
    clear hD8 hO8 hB8 hX5 hb9
    go_wp2_with fail
    refine (feed_any hD9 rfl _ 1 1 [[128, 0]] hP9 (by decide) (by decide) (by decide)).mono ?_
    rintro e wf ⟨vf, vlf, wantf, tf, Gs, rfl, HFf, hDf, hOf, hof, honf⟩
    have htf : S2 = tf := congrArg Prod.fst (S2_is.symm.trans HFf.out)
    subst htf
    rw [show Value.agg (fv S2.why S2.wat) = .agg (fv 5 6) from rfl]
    have hO10 := hO9.only hof hD9.toDb.typed
    have hB10 := Below.only hB9 hof hB9.size (fun k hk => hd7 k hk)
    have hX10 := fault_only hX9 hof (dfp_fault hD9.toDb hX9)
    obtain ⟨g7, F2, hA7, hF2, _, _, _, _, hcells⟩ := hO10.at_ rfl 0 Nat.one_pos
    have hF2e : F = F2 := by simpa using hF2
    subst hF2e
    have hc7 : wf.cell? ⟨g7, 0, none⟩ = some (.int .i64 5) := by have := hcells 0 (.int .i64 F.k) rfl; rw [HFK.out] at this; exact this
    subst hA7
    obtain ⟨wg, wh, s0, s1, hX11, hb11⟩ := fault_put wf 5 6
    have HX11 := Lib.hid hX11
    have HB11 := Lib.hid (below_step hB10 hb11)
    have hX12 := fault_keep hX10 hb11
    have hc12 := pw_cell_below hb11 hc7
    clear hD9 hO9 hB9 hX9 HFf hDf hOf hof honf hO10 hB10 hX10 hF2 hcells hc7 hP9 hb11 hX11
    go_upto_region 6 with (fail)
    clear s0 s1
    have eX := get_fault hX12
    have eY := get_fault HX11.out
    have e7 := load_cell_int hc12
    have hb0 := build_fault0
    have hbf := build_fault
    have q1 := eql_fault 0 0 0 0 true rfl
    have q2 := eql_fault 5 6 5 6 true rfl
    clear hX12 hc12
    go_wp2_with fail
    go_ret
    exact ⟨rfl, HB11.out⟩
end Go.Proofs.Ytpjpgcjhdbiepaa
end
/-! The walk of StreamNobody. -/
section
namespace Go.Proofs.Ytpjpgcjhdbiepaa
open Go.RowKit Go.Kit CrcM Go.Proofs.YtpjpgcjhdbiepaaW.PrintWords
theorem neq_faults (x y a b : Int) (c : Bool) (hc : ((x == a) && (y == b)) = c) (W : World) : (binOp .neq 30 (.agg #[.int .i64 x, .int .i64 y]) (.agg #[.int .i64 a, .int .i64 b])).run Try.prog W = .ok (.bool !c) W := by
  have he : (Op.equalIn 10000 30 (.agg #[.int .i64 x, .int .i64 y]) (.agg #[.int .i64 a, .int .i64 b])).run Try.prog W = .ok c W := by
    subst hc
    by_cases h1 : x = a <;> by_cases h2 : y = b <;> go_simp
  simp [run_neq_struct W 30 _ _, he]
/-- What is kept from call to call. -/
structure NbK (w : World) (p : Option Addr) (g6 g10 g13 : Nat) (W : World) : Prop where
  b : Below w.heap.size w W
  n : Nobody W p
  h6 : W.heap[g6]? = some (.cells (fv 2 0) 30 (0, 0))
  h10 : W.heap[g10]? = some (.cells (fv 2 0) 30 (0, 0))
  h13 : W.heap[g13]? = some (.cells (fv 2 0) 30 (0, 0))
theorem NbK.below {w W W1 : World} {p : Option Addr} {g6 g10 g13 : Nat} (h : NbK w p g6 g10 g13 W) (hb : Below W.heap.size W W1) : NbK w p g6 g10 g13 W1 :=
  ⟨below_step h.b hb, h.n.below hb, fault_keep h.h6 hb, fault_keep h.h10 hb, fault_keep h.h13 hb⟩
theorem cEnd {w : World} {p : Option Addr} (h : Nobody w p) : Calls Try.prog 18 #[.pointer p] w fun e w' => e = .returned (.agg #[.int .i64 2, .int .i64 0]) ∧ Below w.heap.size w w' := dEnd_not h
theorem cPoison {w : World} {p : Option Addr} (h : Nobody w p) : Calls Try.prog 11 #[.pointer p] w fun e w' => e = .returned (.agg #[.int .i64 0, .int .i64 0]) ∧ Below w.heap.size w w' := dPoison_not h
attribute [-go_sem] Instr.loadAt Instr.storeAt Instr.build
set_option maxHeartbeats 16000000 in
set_option maxRecDepth 100000 in
theorem StreamNobody_walk (A : Option Addr) (n c : Nat) (k : Int) (w : World) :
    Calls Try.prog 6 #[.slice A n c, .int .i64 k] w fun e w' => e = .returned (.bool true) ∧ Below w.heap.size w w' := by
  obtain ⟨wa, w1, s0, s1a, hX, hb⟩ := fault_put w 2 0
  have s1 : (Instr.storeAt 30 (.pointer (some ⟨w.heap.size, 0, none⟩)) (.agg #[.int .i64 2, .int .i64 0])).run Try.prog wa = .ok () w1 := s1a
  clear s1a
  have hb1 := build_fault1
  have HX := Lib.hid hX
  have HB := Lib.hid hb
  clear hX hb
  go_enter Try.func6, Try.ntmps6
  go_upto_region 3 with (fail)
  clear s0 s1
  obtain ⟨g6, hg6⟩ : ∃ g, w.heap.size = g := ⟨_, rfl⟩
  have hX := HX.out
  rw [hg6] at hX ⊢
  clear HX hg6
  go_wp2_with fail
  go_loopg [7] 2 (fun gk v7 w' => ∃ i : Nat, v7 = .int .i64 (i : Int) ∧ w'.heap[g6]? = some (.cells (fv 2 0) 30 (0, 0)) ∧ Below w.heap.size w w' ∧ Hid (i + gk = 2))
  case atStart => exact ⟨0, rfl, hX, HB.out, Lib.hid (by omega)⟩
  case round =>
    obtain ⟨i, rfl, hX, hb, HG⟩ := hrel
    by_cases hi : i < 2
    · have hi2 : (i : Int) < 2 := by omega
      have HGA : Hid (gk - 1 < gk ∧ i + 1 + (gk - 1) = 2) := Lib.hid (by have h := HG.out; exact ⟨by omega, by omega⟩)
      have hi1 : IntKind.i64.wrap ((i : Int) + 1) = (i : Int) + 1 := by rw [IntKind.wrap_i64]; omega
      obtain ⟨p, Wp, hNb, hXp, hbp, hcase⟩ : ∃ (p : Option Addr) (Wp : World), Nobody Wp p ∧ Wp.heap[g6]? = some (.cells (fv 2 0) 30 (0, 0)) ∧ Below w.heap.size w Wp ∧ ((i = 0 ∧ p = none ∧ Wp = wr) ∨ (i = 1 ∧ p = some ⟨wr.heap.size, 0, none⟩ ∧ Wp = wr.alloc (.cells #[.int .i64 0, .int .i64 0, .slice none 0 0, .int .i64 0, .int .i64 0, .int .i64 0, .int .i64 0] 59))) := by
        rcases (by omega : i = 0 ∨ i = 1) with h | h
        · exact ⟨none, wr, .inl rfl, hX, hb, .inl ⟨h, rfl, rfl⟩⟩
        · have hba := below_alloc (Below.refl _ wr) (.cells #[.int .i64 0, .int .i64 0, .slice none 0 0, .int .i64 0, .int .i64 0, .int .i64 0, .int .i64 0] 59)
          exact ⟨_, _, .inr ⟨wr.heap.size, rfl, cell_of_row _ _ 0 _ _ _ (heap_alloc_new wr _)⟩, fault_keep hX hba, below_step hb hba, .inr ⟨h, rfl, rfl⟩⟩
      have hbd : ∀ W : World, (Instr.build 59 #[]).run Try.prog W = .ok (.agg #[.int .i64 0, .int .i64 0, .slice none 0 0, .int .i64 0, .int .i64 0, .int .i64 0, .int .i64 0]) W := fun W => by kernel_rfl
      clear hX hb hi
      rcases hcase with ⟨hi0, rfl, rfl⟩ | ⟨hi0, rfl, hWp⟩
      · have hz : ((i : Int) == 1) = false := by rw [hi0]; rfl
        clear hi0
        go_upto_region 9 with (fail)
        clear hi2 hbd hz
        have hba := below_alloc (Below.refl _ Wp) (.cells #[.slice A n c] 23)
        have hNa := hNb.below hba
        have hXa := fault_keep hXp hba
        have HBB := Lib.hid (below_step hbp hba)
        clear hNb hXp hbp
        go_wp2_with fail
        refine (dfeed_bad (x := 2) (y := 0) (by decide) (fun W h => closed_not (hNa.below h)) _ 1 1).mono ?_
        rintro e w2 ⟨rfl, hb2⟩
        obtain ⟨wc, w3, s0, s1, h10, hb3⟩ := fault_put w2 2 0
        have hb23 := below_step hb2 hb3
        have hN3 := hNa.below hb23
        have hX3 := fault_keep hXa hb23
        have HB3 := Lib.hid (below_step HBB.out hb23)
        have H10 := Lib.hid h10
        clear hNa hXa hb2 hb3 hb23 hba h10
        go_upto_region 10 with (fail)
        clear s0 s1
        have h10 := H10.out
        obtain ⟨g10, hg10⟩ : ∃ g, w2.heap.size = g := ⟨_, rfl⟩
        rw [hg10] at h10 ⊢
        clear H10 hg10
        go_wp2_with fail
        refine (dsome_bad (x := 2) (y := 0) (by decide) (fun W h => closed_not (hN3.below h)) k A n c).mono ?_
        rintro e w4 ⟨rfl, hb4⟩
        obtain ⟨wd, w5, s0, s1, h13, hb5⟩ := fault_put w4 2 0
        have hb45 := below_step hb4 hb5
        have hN5 := hN3.below hb45
        have hX5 := fault_keep hX3 hb45
        have h105 := fault_keep h10 hb45
        have HB5 := Lib.hid (below_step HB3.out hb45)
        have H13 := Lib.hid h13
        clear hN3 hX3 hb4 hb5 hb45 h10 h13
        go_upto_region 11 with (fail)
        clear s0 s1
        have h13 := H13.out
        obtain ⟨g13, hg13⟩ : ∃ g, w4.heap.size = g := ⟨_, rfl⟩
        rw [hg13] at h13 ⊢
        clear H13 hg13
        go_wp2_with fail
        refine (dCount_not hN5).mono ?_
        rintro e w6 ⟨rfl, rfl⟩
        have hK : NbK w none g6 g10 g13 w6 := ⟨HB5.out, hN5, hX5, h105, h13⟩
        clear hN5 hX5 h105 h13
        go_upto_region 12 with (fail)
        have l6 : ∀ W : World, W.heap[g6]? = some (.cells (fv 2 0) 30 (0, 0)) → (Instr.loadAt 30 (.pointer (some ⟨g6, 0, none⟩))).run Try.prog W = .ok (.agg #[.int .i64 2, .int .i64 0]) W := fun W h => get_fault h
        have l10 : ∀ W : World, W.heap[g10]? = some (.cells (fv 2 0) 30 (0, 0)) → (Instr.loadAt 30 (.pointer (some ⟨g10, 0, none⟩))).run Try.prog W = .ok (.agg #[.int .i64 2, .int .i64 0]) W := fun W h => get_fault h
        have l13 : ∀ W : World, W.heap[g13]? = some (.cells (fv 2 0) 30 (0, 0)) → (Instr.loadAt 30 (.pointer (some ⟨g13, 0, none⟩))).run Try.prog W = .ok (.agg #[.int .i64 2, .int .i64 0]) W := fun W h => get_fault h
        have q1 := neq_faults 2 0 2 0 true rfl
        have q2 := neq_faults 0 0 0 0 true rfl
        have hb0 := build_fault0
        have k0 : IntKind.i64.wrap 0 = 0 := by decide
        go_region_held3 (fun W => Below w.heap.size w W ∧ NbK w none g6 g10 g13 W ∧ W.heap[g6]? = some (.cells (fv 2 0) 30 (0, 0)) ∧ W.heap[g10]? = some (.cells (fv 2 0) 30 (0, 0)) ∧ W.heap[g13]? = some (.cells (fv 2 0) 30 (0, 0)))
          (first
            | assumption
            | exact ⟨(hK.below (below_drew (Below.refl _ _))).b, hK.below (below_drew (Below.refl _ _)), (hK.below (below_drew (Below.refl _ _))).h6, (hK.below (below_drew (Below.refl _ _))).h10, (hK.below (below_drew (Below.refl _ _))).h13⟩
            | (go_split_ands; exact ⟨by assumption, by assumption, by assumption, by assumption, by assumption⟩)
            | (go_split_ands; have hKn := NbK.below ‹NbK w none g6 g10 g13 _› (by assumption); exact ⟨hKn.b, hKn, hKn.h6, hKn.h10, hKn.h13⟩))
          (first
            | (go_at_call 10; go_split_ands; with_reducible refine (dRest_not (NbK.n (by assumption))).mono ?_; rintro e wy ⟨rfl, rfl⟩)
            | (go_at_call 15; go_split_ands; with_reducible refine (dWant_not (NbK.n (by assumption))).mono ?_; rintro e wy ⟨rfl, rfl⟩)
            | (go_at_call 18; go_split_ands; with_reducible refine (cEnd (NbK.n (by assumption))).mono ?_; rintro e wy ⟨rfl, hby⟩)
            | (go_at_call 11; go_split_ands; with_reducible refine (cPoison (NbK.n (by assumption))).mono ?_; rintro e wy ⟨rfl, hby⟩)
            | (go_at_call 19; go_split_ands; with_reducible refine (dClone_not (NbK.n (by assumption))).mono ?_; rintro e wy ⟨rfl, rfl⟩))
        all_goals
          go_split_ands
          go_wp2_with fail
          go_roundg (gk - 1)
          case measure => exact HGA.out.1
          case rel => exact ⟨i + 1, by simp, by assumption, by assumption, HGA.out.2⟩
      · have hz : ((i : Int) == 1) = true := by rw [hi0]; rfl
        clear hi0
        go_upto_region 9 with (fail)
        rw [← hWp]
        obtain ⟨gp, hgp⟩ : ∃ gp, wr.heap.size = gp := ⟨_, rfl⟩
        rw [hgp] at hNb ⊢
        clear hgp hWp
        clear hi2 hbd hz
        have hba := below_alloc (Below.refl _ Wp) (.cells #[.slice A n c] 23)
        have hNa := hNb.below hba
        have hXa := fault_keep hXp hba
        have HBB := Lib.hid (below_step hbp hba)
        clear hNb hXp hbp
        go_wp2_with fail
        refine (dfeed_bad (x := 2) (y := 0) (by decide) (fun W h => closed_not (hNa.below h)) _ 1 1).mono ?_
        rintro e w2 ⟨rfl, hb2⟩
        obtain ⟨wc, w3, s0, s1, h10, hb3⟩ := fault_put w2 2 0
        have hb23 := below_step hb2 hb3
        have hN3 := hNa.below hb23
        have hX3 := fault_keep hXa hb23
        have HB3 := Lib.hid (below_step HBB.out hb23)
        have H10 := Lib.hid h10
        clear hNa hXa hb2 hb3 hb23 hba h10
        go_upto_region 10 with (fail)
        clear s0 s1
        have h10 := H10.out
        obtain ⟨g10, hg10⟩ : ∃ g, w2.heap.size = g := ⟨_, rfl⟩
        rw [hg10] at h10 ⊢
        clear H10 hg10
        go_wp2_with fail
        refine (dsome_bad (x := 2) (y := 0) (by decide) (fun W h => closed_not (hN3.below h)) k A n c).mono ?_
        rintro e w4 ⟨rfl, hb4⟩
        obtain ⟨wd, w5, s0, s1, h13, hb5⟩ := fault_put w4 2 0
        have hb45 := below_step hb4 hb5
        have hN5 := hN3.below hb45
        have hX5 := fault_keep hX3 hb45
        have h105 := fault_keep h10 hb45
        have HB5 := Lib.hid (below_step HB3.out hb45)
        have H13 := Lib.hid h13
        clear hN3 hX3 hb4 hb5 hb45 h10 h13
        go_upto_region 11 with (fail)
        clear s0 s1
        have h13 := H13.out
        obtain ⟨g13, hg13⟩ : ∃ g, w4.heap.size = g := ⟨_, rfl⟩
        rw [hg13] at h13 ⊢
        clear H13 hg13
        go_wp2_with fail
        refine (dCount_not hN5).mono ?_
        rintro e w6 ⟨rfl, rfl⟩
        have hK : NbK w (some ⟨gp, 0, none⟩) g6 g10 g13 w6 := ⟨HB5.out, hN5, hX5, h105, h13⟩
        clear hN5 hX5 h105 h13
        go_upto_region 12 with (fail)
        have l6 : ∀ W : World, W.heap[g6]? = some (.cells (fv 2 0) 30 (0, 0)) → (Instr.loadAt 30 (.pointer (some ⟨g6, 0, none⟩))).run Try.prog W = .ok (.agg #[.int .i64 2, .int .i64 0]) W := fun W h => get_fault h
        have l10 : ∀ W : World, W.heap[g10]? = some (.cells (fv 2 0) 30 (0, 0)) → (Instr.loadAt 30 (.pointer (some ⟨g10, 0, none⟩))).run Try.prog W = .ok (.agg #[.int .i64 2, .int .i64 0]) W := fun W h => get_fault h
        have l13 : ∀ W : World, W.heap[g13]? = some (.cells (fv 2 0) 30 (0, 0)) → (Instr.loadAt 30 (.pointer (some ⟨g13, 0, none⟩))).run Try.prog W = .ok (.agg #[.int .i64 2, .int .i64 0]) W := fun W h => get_fault h
        have q1 := neq_faults 2 0 2 0 true rfl
        have q2 := neq_faults 0 0 0 0 true rfl
        have hb0 := build_fault0
        have k0 : IntKind.i64.wrap 0 = 0 := by decide
        go_region_held3 (fun W => Below w.heap.size w W ∧ NbK w (some ⟨gp, 0, none⟩) g6 g10 g13 W ∧ W.heap[g6]? = some (.cells (fv 2 0) 30 (0, 0)) ∧ W.heap[g10]? = some (.cells (fv 2 0) 30 (0, 0)) ∧ W.heap[g13]? = some (.cells (fv 2 0) 30 (0, 0)))
          (first
            | assumption
            | exact ⟨(hK.below (below_drew (Below.refl _ _))).b, hK.below (below_drew (Below.refl _ _)), (hK.below (below_drew (Below.refl _ _))).h6, (hK.below (below_drew (Below.refl _ _))).h10, (hK.below (below_drew (Below.refl _ _))).h13⟩
            | (go_split_ands; exact ⟨by assumption, by assumption, by assumption, by assumption, by assumption⟩)
            | (go_split_ands; have hKn := NbK.below ‹NbK w (some ⟨gp, 0, none⟩) g6 g10 g13 _› (by assumption); exact ⟨hKn.b, hKn, hKn.h6, hKn.h10, hKn.h13⟩))
          (first
            | (go_at_call 10; go_split_ands; with_reducible refine (dRest_not (NbK.n (by assumption))).mono ?_; rintro e wy ⟨rfl, rfl⟩)
            | (go_at_call 15; go_split_ands; with_reducible refine (dWant_not (NbK.n (by assumption))).mono ?_; rintro e wy ⟨rfl, rfl⟩)
            | (go_at_call 18; go_split_ands; with_reducible refine (cEnd (NbK.n (by assumption))).mono ?_; rintro e wy ⟨rfl, hby⟩)
            | (go_at_call 11; go_split_ands; with_reducible refine (cPoison (NbK.n (by assumption))).mono ?_; rintro e wy ⟨rfl, hby⟩)
            | (go_at_call 19; go_split_ands; with_reducible refine (dClone_not (NbK.n (by assumption))).mono ?_; rintro e wy ⟨rfl, rfl⟩))
        all_goals
          go_split_ands
          go_wp2_with fail
          go_roundg (gk - 1)
          case measure => exact HGA.out.1
          case rel => exact ⟨i + 1, by simp, by assumption, by assumption, HGA.out.2⟩
    · have hi2 : ¬ (i : Int) < 2 := by omega
      have HB2 := Lib.hid hb
      clear hX hb hi
      go_wp2_with fail
      refine (lawake_any _).mono ?_
      rintro e w2 ⟨rfl, hb2⟩
      go_wp2_with fail
      go_ret
      exact ⟨rfl, below_step HB2.out hb2⟩
end Go.Proofs.Ytpjpgcjhdbiepaa
end
