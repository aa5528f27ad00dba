/- The walk of DuctOwn. -/
import Derived.Test.YtodhcgidmdeifaaDuP
namespace Go.Proofs.Ytodhcgidmdeifaa
open Go.RowKit Go.Kit Go.Proofs.YtodhcgidmdeifaaW.PrintWords
attribute [local go_sem] Go.Proofs.YtodhcgidmdeifaaW.PrintMore.max_two Go.Proofs.YtodhcgidmdeifaaW.PrintMore.min_two
theorem write_all (D : Dk) (F : List Int) (h : (D.held.length : Int) + F.length ≤ D.room) : wMuch D D.held.length F = F.length ∧ (writeD D D.held.length F).held = D.held ++ F := by
  have h1 : F.length ≤ D.room.toNat - D.held.length := by omega
  refine ⟨?_, ?_⟩
  · unfold wMuch; omega
  · unfold writeD wHeld; rw [List.take_of_length_le h1]
theorem readD_held (D : Dk) (k : Nat) : (readD D k).held = D.held.drop k := by
  unfold readD; split
  · next h => subst h; simp
  · rfl
theorem readD_shut (D : Dk) (k : Nat) : (readD D k).shut = D.shut := by unfold readD; split <;> rfl
theorem readD_room (D : Dk) (k : Nat) : (readD D k).room = D.room := by unfold readD; split <;> rfl
set_option maxHeartbeats 8000000 in
set_option maxRecDepth 100000 in
theorem DuctOwn_walk (A : Option Addr) (len cap : Nat) (xs : List Int) (w : World) (hx : RB w A len xs) (hc : len ≤ cap) (hl : len ≤ 140737488351232) (q : Int) :
    Calls Try.prog 3 #[.slice A len cap, .int .i64 q] w fun e w' => e = .returned (.bool true) ∧ Below w.heap.size w w' := by
  have HLen := Lib.hid hx.len
  go_enter Try.func3, Try.ntmps3
  by_cases hroom : 1 ≤ (len : Int) + 1 ∧ (len : Int) + 1 ≤ 4194304
  · go_wp2_with fail
    refine (new_p _ hroom.1 hroom.2 _).mono ?_
    rintro e w1 ⟨d, F, rfl, hD, hF, hb1⟩
    have hle : len ≤ 4194303 := by omega
    clear hroom hl
    have hx1 := hx.below hb1
    go_wp2_with (at_builtin; refine print_append_row (w0 := w1) w1.heap.size rfl (.const (.slice none 0 0)) (.tmp 32) 22 5 .u8 1 rfl Try.underlying22 u8_info (by decide) (.slice none 0 0) [] xs A len cap rfl rfl (own_nil _ _ _ _) hx1.rd (Below.refl _ _) (Nat.le_refl _) (by simp; omega) ?_)
    intro v7 w2 hown7 hb2 _ _
    have hO7 : OB 5 w2 w1.heap.size v7 xs := ⟨by simpa using hown7, hx.byt⟩
    obtain ⟨A7, c7, rfl, _, hc7⟩ := hO7.reads'
    rw [HLen.out] at hO7 hc7 ⊢
    clear hown7
    go_wp2_with fail
    have hbox := heap_alloc_new w2 (.cells #[.slice A7 len c7] 22)
    have hba := below_alloc (Below.refl w2.heap.size w2) (.cells #[.slice A7 len c7] 22)
    have hold := hD.old
    have hD2 := (hD.below hb2).below hba
    have hO7' := hO7.below hba
    have h7F : Sep (rf (.slice A7 len c7)) F := (Sep.new hold hO7.from).symm
    have hL : ∀ W, Only (w2.alloc (.cells #[.slice A7 len c7] 22)) W F → RBc W (some ⟨w2.heap.size, 0, none⟩) 1 [xs] := fun W ho =>
      RBc.one ((hO7'.only ho h7F).rb HLen.out.symm) hc7 (ho.kept hbox (fun hk => by have h1 := hold _ hk; have h2 := hb2.size; omega))
    have hw1 : w.heap.size ≤ w1.heap.size := hb1.size
    have hw2 : w1.heap.size ≤ w2.heap.size := hb2.size
    have hbw : Below w.heap.size w (w2.alloc (.cells #[.slice A7 len c7] 22)) := below_step (below_step hb1 hb2) hba
    have hf2 := hD2.old
    show Calls _ _ _ (w2.alloc (.cells #[.slice A7 len c7] 22)) _
    generalize hw2a : w2.alloc (.cells #[.slice A7 len c7] 22) = w2a at *
    have hsa : w2a.heap.size = w2.heap.size + 1 := by rw [← hw2a, World.size_alloc]
    clear hw2a hbox
    refine (write_p hD2 rfl _ 1 1 _ hL).mono ?_
    rintro e w3 ⟨F1, m, rfl, HM, hD3, ho3, hn3⟩
    have hwa := write_all (newD ((len : Int) + 1)) [xs].flatten (by have := HLen.out; simp [newD]; omega)
    obtain ⟨D1, hD1⟩ : ∃ D1, D1 = writeD (newD ((len : Int) + 1)) (newD ((len : Int) + 1)).held.length [xs].flatten := ⟨_, rfl⟩
    have hD1h : D1.held = xs := by rw [hD1, hwa.2]; simp [newD]
    have hD1s : D1.shut = false := by rw [hD1]; rfl
    have hD1r : D1.room = (len : Int) + 1 := by rw [hD1]; rfl
    rw [← hD1] at hD3
    clear hwa HM hL hD1 hD2
    have hF1 : ∀ k, F1 k → w.heap.size ≤ k := fun k hk => (hn3 k hk).elim (hF k) (fun e => by omega)
    have hb3 : Below w.heap.size w w3 := Below.only hbw ho3 (by omega) hF
    have h7F1 : Sep (rf (.slice A7 len c7)) F1 := (h7F.symm.onto hn3 hO7'.old).symm
    have hO3 := (hO7'.only ho3 h7F).less (b := w.heap.size) (by omega)
    have hx3 := hx.below hb3
    clear hbw hD hO7 hO7' h7F hold hf2 hn3 ho3 hba hb2 hx1 hF
    go_wp2_with fail
    refine (Equal_same (hO3.rb HLen.out.symm) hx3 rfl).mono ?_
    rintro e w3' ⟨rfl, rfl⟩
    go_wp2_with fail
    go_loopg [44] len (fun gk v44 w' => ∃ (i : Nat) (l : List Int), v44 = .int .i64 (i : Int) ∧ OB 5 w' w.heap.size (.slice A7 len c7) l ∧ l.length = len ∧ Only w3' w' (rf (.slice A7 len c7)) ∧ Hid (i ≤ len ∧ gk = len - i))
    case atStart => exact ⟨0, xs, rfl, hO3, HLen.out, Only.refl _ _, by omega, rfl⟩
    case round =>
      clear hO3
      obtain ⟨i, l, rfl, hO4, hll, ho4, HG⟩ := hrel
      by_cases hi : i < len
      · obtain ⟨g7, cc, hv, _, _⟩ := hO4.open_ (by omega)
        injection hv with e1 e2 e3
        subst e1
        clear e2 e3
        obtain ⟨x, hcl, hfl, _, _, _⟩ := hO4.at_ hll.symm i hi
        have hi2 : (i : Int) < (len : Int) := by omega
        have hO5 := hO4.store hll.symm i 170 (by omega) (by omega)
        have ho5 := ho4.set g7 i (.int .u8 170) (.inl rfl)
        go_wp2_with fail
        go_roundg (gk - 1)
        case measure => have := HG.out.2; omega
        case rel => exact ⟨i + 1, _, by simp, hO5, by simpa using hll, ho5, by omega, by have := HG.out.2; omega⟩
      · have hn : ¬ ((i : Int) < (len : Int)) := by omega
        have hD4 := hD3.only ho4 h7F1.symm
        have hb4 : Below w.heap.size w wr := Below.only hb3 ho4 hb3.size hO4.from
        have hol4 := hD4.old
        obtain ⟨mx, k, hmx, hmn, hkl⟩ : ∃ (m : Int) (k : Nat), Builtin.max2 (.int .i64 q) (.int .i64 0) = pure (.int .i64 m) ∧ Builtin.min2 (.int .i64 m) (.int .i64 (len : Int)) = pure (.int .i64 (k : Int)) ∧ k ≤ len :=
          ⟨_, (min (max q 0) (len : Int)).toNat, max2_is rfl, min2_is (by omega), by omega⟩
        clear hO4 hD3 hb3 HG ho4 hll
        go_wp2_with fail
        refine (peek_p hD4 (len : Int) len (by rw [hD1h, HLen.out]; omega)).mono ?_
        rintro e w5 ⟨vp, rfl, hOp, hb5⟩
        rw [hD1h, List.take_of_length_le (by rw [HLen.out]; exact Nat.le_refl _)] at hOp
        obtain ⟨Ap, cp, rfl, _, _⟩ := hOp.reads'
        rw [HLen.out] at hOp ⊢
        have hD5 := hD4.below hb5
        have hbw5 := below_step hb4 hb5
        go_wp2_with fail
        refine (read_p hD5 (k : Int) k (by rw [hD1h, HLen.out]; omega)).mono ?_
        rintro e w6 ⟨vr, F2, rfl, hOr, hD6, ho6, hn6, hsr⟩
        rw [hD1h] at hOr
        have hrl : (xs.take k).length = k := by rw [List.length_take, HLen.out]; omega
        obtain ⟨Ar, cr, rfl, _, _⟩ := hOr.reads'
        rw [hrl] at hOr hsr ⊢
        have h65 := ho6.size
        have h54 := hb5.size
        have h4w := hb4.size
        have hpF1 : Sep (rf (.slice Ap len cp)) F1 := (Sep.new hol4 hOp.from).symm
        have hp6 := hOp.only ho6 hpF1
        have hpF2 : Sep (rf (.slice Ap len cp)) F2 := (hpF1.symm.onto hn6 hOp.old).symm
        have hpr : Sep (rf (.slice Ap len cp)) (rf (.slice Ar k cr)) := Sep.new hOp.old hOr.from
        have hF2 : ∀ k, F2 k → w.heap.size ≤ k := fun k hk => (hn6 k hk).elim (hF1 k) (fun e => by omega)
        have hbw6 : Below w.heap.size w w6 := Below.only hbw5 ho6 hbw5.size hF1
        have hx6 := hx.below hbw6
        have hkc : (k : Int) ≤ (cap : Int) := by omega
        clear hmx hmn hOp hD4 hD5 hb5 hbw5 ho6 hn6 hol4 hb4 hpF1 h7F1 hF1
        go_wp2_with fail
        refine (Equal_same (hp6.rb HLen.out.symm) hx6 rfl).mono ?_
        rintro e w6' ⟨rfl, rfl⟩
        go_wp2_with fail
        refine (Equal_same (hOr.rb hrl.symm) (RB.take_ hx6 k hkl) rfl).mono ?_
        rintro e w6x ⟨rfl, rfl⟩
        replace hp6 := (hp6).less (b := w.heap.size) (by omega)
        go_wp2_with fail
        go_loopg [77] len (fun gk vi w' => ∃ (i : Nat) (l : List Int), vi = .int .i64 (i : Int) ∧ OB 5 w' w.heap.size (.slice Ap len cp) l ∧ l.length = len ∧ Only w6x w' (rf (.slice Ap len cp)) ∧ Hid (i ≤ len ∧ gk = len - i))
        case atStart => exact ⟨0, xs, rfl, hp6, HLen.out, Only.refl _ _, by omega, rfl⟩
        case round =>
          clear hp6
          obtain ⟨i, l, rfl, hp6, hll, ho, HG⟩ := hrel
          by_cases hi : i < len
          · obtain ⟨g7, cc, hv, _, _⟩ := (hp6).open_ (by omega)
            injection hv with e1 e2 e3
            subst e1
            clear e2 e3
            obtain ⟨x, hcl, hfl, _, _, _⟩ := (hp6).at_ hll.symm i hi
            have hi2 : (i : Int) < (len : Int) := by omega
            have hO5 := (hp6).store hll.symm i 171 (by omega) (by omega)
            have ho5 := ho.set g7 i (.int .u8 171) (.inl rfl)
            go_wp2_with fail
            go_roundg (gk - 1)
            case measure => have := HG.out.2; omega
            case rel => exact ⟨i + 1, _, by simp, hO5, by simpa using hll, ho5, by omega, by have := HG.out.2; omega⟩
          · have hn : ¬ ((i : Int) < (len : Int)) := by omega
            clear HG
            have hp7 := hp6
            have hpl := hll
            have hD7 := hD6.only ho hpF2.symm
            have hr7 := hOr.only ho (Sep.symm hpr)
            have hbw7 : Below w.heap.size w wr := Below.only hbw6 ho hbw6.size hp6.from
            clear hp6 hll ho hD6 hOr hbw6 hx6 hn
            replace hr7 := (hr7).less (b := w.heap.size) (by omega)
            go_wp2_with fail
            go_loopg [86] k (fun gk vi w' => ∃ (i : Nat) (l : List Int), vi = .int .i64 (i : Int) ∧ OB 5 w' w.heap.size (.slice Ar k cr) l ∧ l.length = k ∧ Only wr w' (rf (.slice Ar k cr)) ∧ Hid (i ≤ k ∧ gk = k - i))
            case atStart => exact ⟨0, (xs.take k), rfl, hr7, hrl, Only.refl _ _, by omega, rfl⟩
            case round =>
              clear hr7
              obtain ⟨i, l, rfl, hr7, hll, ho, HG⟩ := hrel
              by_cases hi : i < k
              · obtain ⟨g7, cc, hv, _, _⟩ := (hr7).open_ (by omega)
                injection hv with e1 e2 e3
                subst e1
                clear e2 e3
                obtain ⟨x, hcl, hfl, _, _, _⟩ := (hr7).at_ hll.symm i hi
                have hi2 : (i : Int) < (k : Int) := by omega
                have hO5 := (hr7).store hll.symm i 172 (by omega) (by omega)
                have ho5 := ho.set g7 i (.int .u8 172) (.inl rfl)
                go_wp2_with fail
                go_roundg (gk - 1)
                case measure => have := HG.out.2; omega
                case rel => exact ⟨i + 1, _, by simp, hO5, by simpa using hll, ho5, by omega, by have := HG.out.2; omega⟩
              · have hn : ¬ ((i : Int) < (k : Int)) := by omega
                clear HG
                have hD8 := hD7.only ho hsr.symm
                have hp8 := hp7.only ho hpr
                have hbw8 : Below w.heap.size w wr := Below.only hbw7 ho hbw7.size hr7.from
                clear hp7 ho hD7 hbw7 hn
                have hlit9 : RB (wr.alloc (.cells #[.int .u8 173, .int .u8 174] 5)) (some ⟨wr.heap.size, 0, none⟩) 2 [173, 174] := RB.lit wr [173, 174] (by intro x hx; simp at hx; omega) (by decide) 5 (0, 0)
                have hba9 := below_alloc (Below.refl wr.heap.size wr) (.cells #[.int .u8 173, .int .u8 174] 5)
                go_wp2_with (at_builtin; refine print_append_row (w0 := wr.alloc (.cells #[.int .u8 173, .int .u8 174] 5)) 0 rfl (.tmp 93) (.tmp 94) 22 5 .u8 1 rfl Try.underlying22 u8_info (by decide) (.slice Ap len cp) _ [173, 174] _ 2 2 rfl rfl ((hp8).below hba9 |>.less (Nat.zero_le _)).own hlit9.rd (Below.refl _ _) (Nat.zero_le _) (by rw [hpl]; omega) ?_)
                intro v9 w9 _ _ hg9 _
                have ho9 : Only wr w9 (rf (.slice Ap len cp)) := (Only.of_below hba9 _).grown hg9 (fun j e => .inl e)
                clear hlit9 hba9 hg9
                have hD9 := hD8.only ho9 hpF2.symm
                have hr9 := hr7.only ho9 hpr.symm
                have hbw9 : Below w.heap.size w w9 := Below.only hbw8 ho9 hbw8.size hp8.from
                clear hD8 hr7 hbw8 ho9 hp8
                have hlit10 : RB (w9.alloc (.cells #[.int .u8 175, .int .u8 176, .int .u8 177] 5)) (some ⟨w9.heap.size, 0, none⟩) 3 [175, 176, 177] := RB.lit w9 [175, 176, 177] (by intro x hx; simp at hx; omega) (by decide) 5 (0, 0)
                have hba10 := below_alloc (Below.refl w9.heap.size w9) (.cells #[.int .u8 175, .int .u8 176, .int .u8 177] 5)
                go_wp2_with (at_builtin; refine print_append_row (w0 := w9.alloc (.cells #[.int .u8 175, .int .u8 176, .int .u8 177] 5)) 0 rfl (.tmp 96) (.tmp 97) 22 5 .u8 1 rfl Try.underlying22 u8_info (by decide) (.slice Ar k cr) _ [175, 176, 177] _ 3 3 rfl rfl ((hr9).below hba10 |>.less (Nat.zero_le _)).own hlit10.rd (Below.refl _ _) (Nat.zero_le _) (by rw [hll]; omega) ?_)
                intro v10 w10 _ _ hg10 _
                have ho10 : Only w9 w10 (rf (.slice Ar k cr)) := (Only.of_below hba10 _).grown hg10 (fun j e => .inl e)
                clear hlit10 hba10 hg10
                have hD10 := hD9.only ho10 hsr.symm
                have hbw10 : Below w.heap.size w w10 := Below.only hbw9 ho10 hbw9.size hr9.from
                clear hD9 hr9 hbw9 ho10
                have hq1 : RB (w10.alloc (.cells #[.int .u8 9] 5)) (some ⟨w10.heap.size, 0, none⟩) 1 [9] := RB.lit w10 [9] (by intro x hx; simp at hx; omega) (by decide) 5 (0, 0)
                have hq2 := heap_alloc2_new w10 (.cells #[.int .u8 9] 5) (.cells #[.slice (some ⟨w10.heap.size, 0, none⟩) 1 1] 22)
                replace hq1 := hq1.alloc (.cells #[.slice (some ⟨w10.heap.size, 0, none⟩) 1 1] 22)
                have hbe := below_alloc (below_alloc (Below.refl w10.heap.size w10) (.cells #[.int .u8 9] 5)) (.cells #[.slice (some ⟨w10.heap.size, 0, none⟩) 1 1] 22)
                go_wp2_with fail
                show Calls _ _ _ ((w10.alloc (.cells #[.int .u8 9] 5)).alloc (.cells #[.slice (some ⟨w10.heap.size, 0, none⟩) 1 1] 22)) _
                generalize ((w10.alloc (.cells #[.int .u8 9] 5)).alloc (.cells #[.slice (some ⟨w10.heap.size, 0, none⟩) 1 1] 22)) = w10a at *
                have hold := hD10.old
                have hD10a := hD10.below hbe
                have hL : ∀ W, Only w10a W F2 → RBc W (some ⟨w10.heap.size + 1, 0, none⟩) 1 [[9]] := fun W ho =>
                  RBc.one (hq1.apart ho (fun a e hk => by cases e; exact absurd (show w10.heap.size < w10.heap.size from hold _ hk) (by omega))) (Nat.le_refl _) (ho.kept hq2 (fun hk => by have := hold _ hk; omega))
                refine (write_p hD10a (by rw [readD_shut]; exact hD1s) _ 1 1 _ hL).mono ?_
                rintro e w11 ⟨F3, m, rfl, _, hD11, ho11, hn11⟩
                have hdl : (xs.drop k).length = len - k := by rw [List.length_drop, HLen.out]
                have hwa := write_all (readD D1 k) [[9]].flatten (by rw [readD_held, readD_room, hD1h, hD1r, hdl]; show ((len - k : Nat) : Int) + 1 ≤ _; omega)
                obtain ⟨D3, hD3⟩ : ∃ D3, D3 = writeD (readD D1 k) (readD D1 k).held.length [[9]].flatten := ⟨_, rfl⟩
                have hD3h : D3.held = xs.drop k ++ [9] := by rw [hD3, hwa.2, readD_held, hD1h]; rfl
                rw [← hD3] at hD11
                have hb11 : Below w.heap.size w w11 := Below.only (below_step hbw10 hbe) ho11 (Nat.le_trans hbw10.size hbe.size) hF2
                have hF3 : ∀ k, F3 k → w.heap.size ≤ k := fun k hk => (hn11 k hk).elim (hF2 k) (fun e => Nat.le_trans (Nat.le_trans hbw10.size hbe.size) e)
                have hold3 : Old w11 F3 := hD11.old
                have hDu : Du w11.drew d F3 D3 := hD11.drewN 1
                have hyl : (xs.drop k ++ [9]).length = len - k + 1 := by rw [List.length_append, hdl]; rfl
                have hk2 : ((len - k + 1 : Nat) : Int) = min (max ((len : Int) + 1) 0) D3.held.length := by rw [hD3h, hyl]; omega
                have hys : D3.held.take (len - k + 1) = xs.drop k ++ [9] := by rw [hD3h, List.take_of_length_le (by rw [hyl]; exact Nat.le_refl _)]
                obtain ⟨A', hcut, hA'⟩ := cut_bytes A len cap k hkl hc
                have hxc : ∀ W, Below w.heap.size w W → RB W A' (len - k) (xs.drop k) := fun W hb => hA' _ _ (hx.below hb)
                have hw11 := hb11.size
                have h0k : (0 : Int) ≤ (k : Int) := by omega
                have hwr : IntKind.i64.wrap ((len : Int) + 1) = (len : Int) + 1 := by rw [IntKind.wrap_i64]; omega
                clear hq1 hq2 hbe hold hD10a hL hwa hD3 hD11 ho11 hn11 hD10 hbw10 hA'
                go_wp2_with fail
                refine wp_region_held_drew (S := fun w' => Below w.heap.size w w') (by kernel_rfl) (below_drew hb11) (fun hHeld => ?_)
                refine wpAnyH_take (i := 0) (v := (.pointer (some ⟨d, 0, none⟩))) (oi := ⟨_, _, _, _, _, _⟩) rfl (by kernel_rfl) (by kernel_rfl) (by kernel_rfl) (fun _ _ _ h => h) (Or.inl ⟨by kernel_rfl, fun W hS => ?_⟩) (by assumption) ?_
                · dsimp only at hS; go_split_ands; go_simp
                simp only [Act.put, List.setIfInBounds_toArray, List.set_cons_zero, List.set_cons_succ]
                refine wpAnyH_take (i := 1) (v := (.slice A len cap)) (oi := ⟨_, _, _, _, _, _⟩) rfl (by kernel_rfl) (by kernel_rfl) (by kernel_rfl) (fun _ _ _ h => h) (Or.inl ⟨by kernel_rfl, fun W hS => ?_⟩) (by assumption) ?_
                · dsimp only at hS; go_split_ands; go_simp
                simp only [Act.put, List.setIfInBounds_toArray, List.set_cons_zero, List.set_cons_succ]
                refine wpAnyH_take (i := 2) (v := (.int .i64 (len : Int))) (oi := ⟨_, _, _, _, _, _⟩) rfl (by kernel_rfl) (by kernel_rfl) (by kernel_rfl) (fun _ _ _ h => h) (Or.inl ⟨by kernel_rfl, fun W hS => ?_⟩) (by assumption) ?_
                · dsimp only at hS; go_split_ands; go_simp
                simp only [Act.put, List.setIfInBounds_toArray, List.set_cons_zero, List.set_cons_succ]
                refine wpAnyH_take (i := 3) (v := (.int .i64 ((len : Int) + 1))) (oi := ⟨_, _, _, _, _, _⟩) rfl (by kernel_rfl) (by kernel_rfl) (by kernel_rfl) (fun _ _ _ h => h) (Or.inl ⟨by kernel_rfl, fun W hS => ?_⟩) (by assumption) ?_
                · dsimp only at hS; go_split_ands; go_simp
                simp only [Act.put, List.setIfInBounds_toArray, List.set_cons_zero, List.set_cons_succ]
                refine wpAnyH_take (i := 5) (v := (.slice A len cap)) (oi := ⟨_, _, _, _, _, _⟩) rfl (by kernel_rfl) (by kernel_rfl) (by kernel_rfl) (fun _ _ _ h => h) (Or.inl ⟨by kernel_rfl, fun W hS => ?_⟩) (by assumption) ?_
                · dsimp only at hS; go_split_ands; go_simp
                simp only [Act.put, List.setIfInBounds_toArray, List.set_cons_zero, List.set_cons_succ]
                refine wpAnyH_take (i := 6) (v := (.int .i64 (k : Int))) (oi := ⟨_, _, _, _, _, _⟩) rfl (by kernel_rfl) (by kernel_rfl) (by kernel_rfl) (fun _ _ _ h => h) (Or.inl ⟨by kernel_rfl, fun W hS => ?_⟩) (by assumption) ?_
                · dsimp only at hS; go_split_ands; go_simp
                simp only [Act.put, List.setIfInBounds_toArray, List.set_cons_zero, List.set_cons_succ]
                refine wpAnyH_take (i := 7) (v := (.slice A' (len - k) (cap - k))) (oi := ⟨_, _, _, _, _, _⟩) rfl (by kernel_rfl) (by kernel_rfl) (by kernel_rfl) (fun _ _ _ h => h) (Or.inl ⟨by kernel_rfl, fun W hS => ?_⟩) (by assumption) ?_
                · dsimp only at hS; go_split_ands; go_simp
                simp only [Act.put, List.setIfInBounds_toArray, List.set_cons_zero, List.set_cons_succ]
                refine wpAnyH_ready (rs := [4, 9]) (by kernel_rfl) (by decide) (AllReadyH.cons (o := ⟨_, _, _, _, _, _⟩) rfl (fun K hK => ?_) (AllReadyH.cons (o := ⟨_, _, _, _, _, _⟩) rfl (fun K hK => ?_) AllReadyH.nil))
                · skip
                  rw [if_pos (by kernel_rfl)]
                  go_simp
                  refine (read_p hDu _ _ hk2).mono ?_
                  rintro e w12 ⟨vR, F4, rfl, hOR, _, ho12, _, _⟩
                  have hs12 : w11.heap.size ≤ w12.heap.size := Nat.le_trans (by simp) ho12.size
                  rw [hys] at hOR
                  obtain ⟨AR, cR, rfl, hRR, _⟩ := hOR.reads'
                  rw [hyl] at hOR hRR ⊢
                  have hsR : Below w.heap.size w w12 := Below.only hHeld ho12 hHeld.size hF3
                  go_wp2_with fail
                  refine hK.out _ _ (hsR) (fun hHeld => ?_)
                  clear hK K
                  try simp only [Act.put, List.setIfInBounds_toArray, List.set_cons_zero, List.set_cons_succ]
                  refine wpAnyH_ready (rs := [8, 9]) (by kernel_rfl) (by decide) (AllReadyH.cons (o := ⟨_, _, _, _, _, _⟩) rfl (fun K hK => ?_) (AllReadyH.cons (o := ⟨_, _, _, _, _, _⟩) rfl (fun K hK => ?_) AllReadyH.nil))
                  · skip
                    refine at_list rfl ?_; intro Q2 hQ2; at_builtin; refine print_append_row (w0 := w12) w12.heap.size rfl (.const (.slice none 0 0)) (.tmp 110) 22 5 .u8 1 rfl Try.underlying22 u8_info (by decide) (.slice none 0 0) [] (xs.drop k) A' (len - k) (cap - k) rfl rfl (own_nil _ _ _ _) (hxc _ hHeld).rd (Below.refl _ _) (by first | exact Nat.le_refl _ | exact Nat.zero_le _) (by simp; omega) ?_; intro v13 w13 hown13 hb13 hg13 ha13;  refine hQ2 _ _ ?_; clear hQ2 Q2
                    have hO13 : OB 5 w13 w12.heap.size v13 (xs.drop k) := ⟨by simpa using hown13, (hxc _ hHeld).byt⟩
                    clear hown13 ha13 hg13
                    replace hRR := hRR.below hb13
                    have hne : Sep (rf (.slice AR (len - k + 1) cR)) (rf v13) := Sep.new hOR.old hO13.from
                    have hz13 : w11.heap.size ≤ w12.heap.size := hs12
                    refine hK.out _ _ (below_step hHeld hb13) (fun hHeld => ?_)
                    clear hK K
                    try simp only [Act.put, List.setIfInBounds_toArray, List.set_cons_zero, List.set_cons_succ]
                    refine wpAnyH_ready (rs := [9]) (by kernel_rfl) (by decide) (AllReadyH.cons (o := ⟨_, _, _, _, _, _⟩) rfl (fun K hK => ?_) AllReadyH.nil)
                    rw [if_pos (by kernel_rfl)]
                    go_simp
                    have hbb := below_alloc (Below.refl w13.heap.size w13) (.cells #[.int .u8 9] 5)
                    have hq9 : RB (w13.alloc (.cells #[.int .u8 9] 5)) (some ⟨w13.heap.size, 0, none⟩) 1 [9] := RB.lit w13 [9] (by intro x hx; simp at hx; omega) (by decide) 5 (0, 0)
                    have hg9 : w11.heap.size ≤ w13.heap.size := Nat.le_trans hs12 hb13.size
                    replace hRR := hRR.below hbb
                    replace hO13 := hO13.below hbb
                    refine hK.out _ _ (below_step hHeld hbb) (fun hHeld => ?_)
                    clear hK K
                    try simp only [Act.put, List.setIfInBounds_toArray, List.set_cons_zero, List.set_cons_succ]
                    refine wpAnyH_ready (rs := [10]) (by kernel_rfl) (by decide) (AllReadyH.cons (o := ⟨_, _, _, _, _, _⟩) rfl (fun K hK => ?_) AllReadyH.nil)
                    refine at_list rfl ?_; intro Q2 hQ2; at_builtin; refine print_append_row (w0 := (w13.alloc (.cells #[.int .u8 9] 5))) 0 rfl (.tmp 111) (.tmp 112) 22 5 .u8 1 rfl Try.underlying22 u8_info (by decide) v13 (xs.drop k) [9] _ 1 1 rfl rfl (hO13.less (Nat.zero_le _)).own hq9.rd (Below.refl _ _) (by first | exact Nat.le_refl _ | exact Nat.zero_le _) (by rw [List.length_drop, HLen.out]; omega) ?_; intro v14 w14 hown14 hb14 hg14 ha14;  refine hQ2 _ _ ?_; clear hQ2 Q2
                    have hO14 : OB 5 w14 0 v14 (xs.drop k ++ [9]) := ⟨hown14, (hxc _ hHeld).byt.append hq9.byt⟩
                    clear hown14
                    replace hRR := hRR.apart (S := rf v13) ((Only.refl _ _).grown hg14 (fun k e => .inl e)) (fun a e hk => hne a.block (by rw [e]; rfl) hk)
                    obtain ⟨A14, c14, rfl, hR14, _⟩ := hO14.reads'
                    rw [hyl] at hR14 ⊢
                    refine hK.out _ _ (Below.only hHeld ((Only.refl _ (rf v13)).grown hg14 (fun k e => .inl e)) hHeld.size (fun j hj => Nat.le_trans hw11 (Nat.le_trans hz13 (hO13.from j hj)))) (fun hHeld => ?_)
                    clear hK K
                    try simp only [Act.put, List.setIfInBounds_toArray, List.set_cons_zero, List.set_cons_succ]
                    refine wpAnyH_ready (rs := [11]) (by kernel_rfl) (by decide) (AllReadyH.cons (o := ⟨_, _, _, _, _, _⟩) rfl (fun K hK => ?_) AllReadyH.nil)
                    rw [if_pos (by kernel_rfl)]
                    go_simp
                    refine (Equal_same hRR hR14 rfl).mono ?_
                    rintro e w15 ⟨rfl, rfl⟩
                    go_wp2_with fail
                    refine hK.out _ _ (hHeld) (fun hHeld => ?_)
                    clear hK K
                    try simp only [Act.put, List.setIfInBounds_toArray, List.set_cons_zero, List.set_cons_succ]
                    refine wpAnyH_take (i := 12) (v := (.bool true)) (oi := ⟨_, _, _, _, _, _⟩) rfl (by kernel_rfl) (by kernel_rfl) (by kernel_rfl) (fun _ _ _ h => h) (Or.inl ⟨by kernel_rfl, fun W hS => ?_⟩) (by assumption) ?_
                    · dsimp only at hS; go_split_ands; go_simp
                    simp only [Act.put, List.setIfInBounds_toArray, List.set_cons_zero, List.set_cons_succ]
                    refine wpAnyH_ready (rs := [13]) (by kernel_rfl) (by decide) (AllReadyH.cons (o := ⟨_, _, _, _, _, _⟩) rfl (fun K hK => ?_) AllReadyH.nil)
                    rw [if_pos (by kernel_rfl)]
                    go_simp
                    refine (alive_any _).mono ?_
                    rintro e w16 ⟨rfl, hb16⟩
                    go_wp2_with fail
                    refine hK.out _ _ (below_step hHeld hb16) (fun hHeld => ?_)
                    clear hK K
                    try simp only [Act.put, List.setIfInBounds_toArray, List.set_cons_zero, List.set_cons_succ]
                    refine wpAnyH_take (i := 14) (v := (.bool true)) (oi := ⟨_, _, _, _, _, _⟩) rfl (by kernel_rfl) (by kernel_rfl) (by kernel_rfl) (fun _ _ _ h => h) (Or.inl ⟨by kernel_rfl, fun W hS => ?_⟩) (by assumption) ?_
                    · dsimp only at hS; go_split_ands; go_simp
                    simp only [Act.put, List.setIfInBounds_toArray, List.set_cons_zero, List.set_cons_succ]
                    refine wpAnyH_take (i := 15) (v := (.bool true)) (oi := ⟨_, _, _, _, _, _⟩) rfl (by kernel_rfl) (by kernel_rfl) (by kernel_rfl) (fun _ _ _ h => h) (Or.inl ⟨by kernel_rfl, fun W hS => ?_⟩) (by assumption) ?_
                    · dsimp only at hS; go_split_ands; go_simp
                    simp only [Act.put, List.setIfInBounds_toArray, List.set_cons_zero, List.set_cons_succ]
                    refine wpAnyH_done (by kernel_rfl) ?_ _
                    go_wp2_with fail
                    go_ret
                    exact ⟨rfl, hHeld⟩
                  · skip
                    rw [if_pos (by kernel_rfl)]
                    go_simp
                    have hbb := below_alloc (Below.refl w12.heap.size w12) (.cells #[.int .u8 9] 5)
                    have hq9 : RB (w12.alloc (.cells #[.int .u8 9] 5)) (some ⟨w12.heap.size, 0, none⟩) 1 [9] := RB.lit w12 [9] (by intro x hx; simp at hx; omega) (by decide) 5 (0, 0)
                    have hg9 : w11.heap.size ≤ w12.heap.size := hs12
                    replace hRR := hRR.below hbb
                    replace hOR := hOR.below hbb
                    refine hK.out _ _ (below_step hHeld hbb) (fun hHeld => ?_)
                    clear hK K
                    try simp only [Act.put, List.setIfInBounds_toArray, List.set_cons_zero, List.set_cons_succ]
                    refine wpAnyH_ready (rs := [8]) (by kernel_rfl) (by decide) (AllReadyH.cons (o := ⟨_, _, _, _, _, _⟩) rfl (fun K hK => ?_) AllReadyH.nil)
                    refine at_list rfl ?_; intro Q2 hQ2; at_builtin; refine print_append_row (w0 := (w12.alloc (.cells #[.int .u8 9] 5))) (w12.alloc (.cells #[.int .u8 9] 5)).heap.size rfl (.const (.slice none 0 0)) (.tmp 110) 22 5 .u8 1 rfl Try.underlying22 u8_info (by decide) (.slice none 0 0) [] (xs.drop k) A' (len - k) (cap - k) rfl rfl (own_nil _ _ _ _) (hxc _ hHeld).rd (Below.refl _ _) (by first | exact Nat.le_refl _ | exact Nat.zero_le _) (by simp; omega) ?_; intro v13 w13 hown13 hb13 hg13 ha13;  refine hQ2 _ _ ?_; clear hQ2 Q2
                    have hO13 : OB 5 w13 (w12.alloc (.cells #[.int .u8 9] 5)).heap.size v13 (xs.drop k) := ⟨by simpa using hown13, (hxc _ hHeld).byt⟩
                    clear hown13 ha13 hg13
                    replace hRR := hRR.below hb13
                    have hne : Sep (rf (.slice AR (len - k + 1) cR)) (rf v13) := Sep.new hOR.old hO13.from
                    have hz13 : w11.heap.size ≤ (w12.alloc (.cells #[.int .u8 9] 5)).heap.size := Nat.le_trans hs12 hbb.size
                    replace hq9 := hq9.below hb13
                    refine hK.out _ _ (below_step hHeld hb13) (fun hHeld => ?_)
                    clear hK K
                    try simp only [Act.put, List.setIfInBounds_toArray, List.set_cons_zero, List.set_cons_succ]
                    refine wpAnyH_ready (rs := [10]) (by kernel_rfl) (by decide) (AllReadyH.cons (o := ⟨_, _, _, _, _, _⟩) rfl (fun K hK => ?_) AllReadyH.nil)
                    refine at_list rfl ?_; intro Q2 hQ2; at_builtin; refine print_append_row (w0 := w13) 0 rfl (.tmp 111) (.tmp 112) 22 5 .u8 1 rfl Try.underlying22 u8_info (by decide) v13 (xs.drop k) [9] _ 1 1 rfl rfl (hO13.less (Nat.zero_le _)).own hq9.rd (Below.refl _ _) (by first | exact Nat.le_refl _ | exact Nat.zero_le _) (by rw [List.length_drop, HLen.out]; omega) ?_; intro v14 w14 hown14 hb14 hg14 ha14;  refine hQ2 _ _ ?_; clear hQ2 Q2
                    have hO14 : OB 5 w14 0 v14 (xs.drop k ++ [9]) := ⟨hown14, (hxc _ hHeld).byt.append hq9.byt⟩
                    clear hown14
                    replace hRR := hRR.apart (S := rf v13) ((Only.refl _ _).grown hg14 (fun k e => .inl e)) (fun a e hk => hne a.block (by rw [e]; rfl) hk)
                    obtain ⟨A14, c14, rfl, hR14, _⟩ := hO14.reads'
                    rw [hyl] at hR14 ⊢
                    refine hK.out _ _ (Below.only hHeld ((Only.refl _ (rf v13)).grown hg14 (fun k e => .inl e)) hHeld.size (fun j hj => Nat.le_trans hw11 (Nat.le_trans hz13 (hO13.from j hj)))) (fun hHeld => ?_)
                    clear hK K
                    try simp only [Act.put, List.setIfInBounds_toArray, List.set_cons_zero, List.set_cons_succ]
                    refine wpAnyH_ready (rs := [11]) (by kernel_rfl) (by decide) (AllReadyH.cons (o := ⟨_, _, _, _, _, _⟩) rfl (fun K hK => ?_) AllReadyH.nil)
                    rw [if_pos (by kernel_rfl)]
                    go_simp
                    refine (Equal_same hRR hR14 rfl).mono ?_
                    rintro e w15 ⟨rfl, rfl⟩
                    go_wp2_with fail
                    refine hK.out _ _ (hHeld) (fun hHeld => ?_)
                    clear hK K
                    try simp only [Act.put, List.setIfInBounds_toArray, List.set_cons_zero, List.set_cons_succ]
                    refine wpAnyH_take (i := 12) (v := (.bool true)) (oi := ⟨_, _, _, _, _, _⟩) rfl (by kernel_rfl) (by kernel_rfl) (by kernel_rfl) (fun _ _ _ h => h) (Or.inl ⟨by kernel_rfl, fun W hS => ?_⟩) (by assumption) ?_
                    · dsimp only at hS; go_split_ands; go_simp
                    simp only [Act.put, List.setIfInBounds_toArray, List.set_cons_zero, List.set_cons_succ]
                    refine wpAnyH_ready (rs := [13]) (by kernel_rfl) (by decide) (AllReadyH.cons (o := ⟨_, _, _, _, _, _⟩) rfl (fun K hK => ?_) AllReadyH.nil)
                    rw [if_pos (by kernel_rfl)]
                    go_simp
                    refine (alive_any _).mono ?_
                    rintro e w16 ⟨rfl, hb16⟩
                    go_wp2_with fail
                    refine hK.out _ _ (below_step hHeld hb16) (fun hHeld => ?_)
                    clear hK K
                    try simp only [Act.put, List.setIfInBounds_toArray, List.set_cons_zero, List.set_cons_succ]
                    refine wpAnyH_take (i := 14) (v := (.bool true)) (oi := ⟨_, _, _, _, _, _⟩) rfl (by kernel_rfl) (by kernel_rfl) (by kernel_rfl) (fun _ _ _ h => h) (Or.inl ⟨by kernel_rfl, fun W hS => ?_⟩) (by assumption) ?_
                    · dsimp only at hS; go_split_ands; go_simp
                    simp only [Act.put, List.setIfInBounds_toArray, List.set_cons_zero, List.set_cons_succ]
                    refine wpAnyH_take (i := 15) (v := (.bool true)) (oi := ⟨_, _, _, _, _, _⟩) rfl (by kernel_rfl) (by kernel_rfl) (by kernel_rfl) (fun _ _ _ h => h) (Or.inl ⟨by kernel_rfl, fun W hS => ?_⟩) (by assumption) ?_
                    · dsimp only at hS; go_split_ands; go_simp
                    simp only [Act.put, List.setIfInBounds_toArray, List.set_cons_zero, List.set_cons_succ]
                    refine wpAnyH_done (by kernel_rfl) ?_ _
                    go_wp2_with fail
                    go_ret
                    exact ⟨rfl, hHeld⟩
                · skip
                  rw [if_pos (by kernel_rfl)]
                  go_simp
                  have hbb := below_alloc (Below.refl w11.drew.heap.size w11.drew) (.cells #[.int .u8 9] 5)
                  have hq9 : RB (w11.drew.alloc (.cells #[.int .u8 9] 5)) (some ⟨w11.drew.heap.size, 0, none⟩) 1 [9] := RB.lit w11.drew [9] (by intro x hx; simp at hx; omega) (by decide) 5 (0, 0)
                  have hg9 : w11.heap.size ≤ w11.drew.heap.size := Nat.le_refl _
                  replace hDu := hDu.below hbb
                  refine hK.out _ _ (below_step hHeld hbb) (fun hHeld => ?_)
                  clear hK K
                  try simp only [Act.put, List.setIfInBounds_toArray, List.set_cons_zero, List.set_cons_succ]
                  refine wpAnyH_ready (rs := [4]) (by kernel_rfl) (by decide) (AllReadyH.cons (o := ⟨_, _, _, _, _, _⟩) rfl (fun K hK => ?_) AllReadyH.nil)
                  rw [if_pos (by kernel_rfl)]
                  go_simp
                  refine (read_p hDu _ _ hk2).mono ?_
                  rintro e w12 ⟨vR, F4, rfl, hOR, _, ho12, _, _⟩
                  have hs12 : w11.heap.size ≤ w12.heap.size := Nat.le_trans (by simp) ho12.size
                  rw [hys] at hOR
                  obtain ⟨AR, cR, rfl, hRR, _⟩ := hOR.reads'
                  rw [hyl] at hOR hRR ⊢
                  have hsR : Below w.heap.size w w12 := Below.only hHeld ho12 hHeld.size hF3
                  replace hq9 := hq9.apart ho12 (fun a e hk => by cases e; have h1 : w11.drew.heap.size < w11.heap.size := hold3 _ hk; exact absurd h1 (Nat.lt_irrefl _))
                  go_wp2_with fail
                  refine hK.out _ _ (hsR) (fun hHeld => ?_)
                  clear hK K
                  try simp only [Act.put, List.setIfInBounds_toArray, List.set_cons_zero, List.set_cons_succ]
                  refine wpAnyH_ready (rs := [8]) (by kernel_rfl) (by decide) (AllReadyH.cons (o := ⟨_, _, _, _, _, _⟩) rfl (fun K hK => ?_) AllReadyH.nil)
                  refine at_list rfl ?_; intro Q2 hQ2; at_builtin; refine print_append_row (w0 := w12) w12.heap.size rfl (.const (.slice none 0 0)) (.tmp 110) 22 5 .u8 1 rfl Try.underlying22 u8_info (by decide) (.slice none 0 0) [] (xs.drop k) A' (len - k) (cap - k) rfl rfl (own_nil _ _ _ _) (hxc _ hHeld).rd (Below.refl _ _) (by first | exact Nat.le_refl _ | exact Nat.zero_le _) (by simp; omega) ?_; intro v13 w13 hown13 hb13 hg13 ha13;  refine hQ2 _ _ ?_; clear hQ2 Q2
                  have hO13 : OB 5 w13 w12.heap.size v13 (xs.drop k) := ⟨by simpa using hown13, (hxc _ hHeld).byt⟩
                  clear hown13 ha13 hg13
                  replace hRR := hRR.below hb13
                  have hne : Sep (rf (.slice AR (len - k + 1) cR)) (rf v13) := Sep.new hOR.old hO13.from
                  have hz13 : w11.heap.size ≤ w12.heap.size := hs12
                  replace hq9 := hq9.below hb13
                  refine hK.out _ _ (below_step hHeld hb13) (fun hHeld => ?_)
                  clear hK K
                  try simp only [Act.put, List.setIfInBounds_toArray, List.set_cons_zero, List.set_cons_succ]
                  refine wpAnyH_ready (rs := [10]) (by kernel_rfl) (by decide) (AllReadyH.cons (o := ⟨_, _, _, _, _, _⟩) rfl (fun K hK => ?_) AllReadyH.nil)
                  refine at_list rfl ?_; intro Q2 hQ2; at_builtin; refine print_append_row (w0 := w13) 0 rfl (.tmp 111) (.tmp 112) 22 5 .u8 1 rfl Try.underlying22 u8_info (by decide) v13 (xs.drop k) [9] _ 1 1 rfl rfl (hO13.less (Nat.zero_le _)).own hq9.rd (Below.refl _ _) (by first | exact Nat.le_refl _ | exact Nat.zero_le _) (by rw [List.length_drop, HLen.out]; omega) ?_; intro v14 w14 hown14 hb14 hg14 ha14;  refine hQ2 _ _ ?_; clear hQ2 Q2
                  have hO14 : OB 5 w14 0 v14 (xs.drop k ++ [9]) := ⟨hown14, (hxc _ hHeld).byt.append hq9.byt⟩
                  clear hown14
                  replace hRR := hRR.apart (S := rf v13) ((Only.refl _ _).grown hg14 (fun k e => .inl e)) (fun a e hk => hne a.block (by rw [e]; rfl) hk)
                  obtain ⟨A14, c14, rfl, hR14, _⟩ := hO14.reads'
                  rw [hyl] at hR14 ⊢
                  refine hK.out _ _ (Below.only hHeld ((Only.refl _ (rf v13)).grown hg14 (fun k e => .inl e)) hHeld.size (fun j hj => Nat.le_trans hw11 (Nat.le_trans hz13 (hO13.from j hj)))) (fun hHeld => ?_)
                  clear hK K
                  try simp only [Act.put, List.setIfInBounds_toArray, List.set_cons_zero, List.set_cons_succ]
                  refine wpAnyH_ready (rs := [11]) (by kernel_rfl) (by decide) (AllReadyH.cons (o := ⟨_, _, _, _, _, _⟩) rfl (fun K hK => ?_) AllReadyH.nil)
                  rw [if_pos (by kernel_rfl)]
                  go_simp
                  refine (Equal_same hRR hR14 rfl).mono ?_
                  rintro e w15 ⟨rfl, rfl⟩
                  go_wp2_with fail
                  refine hK.out _ _ (hHeld) (fun hHeld => ?_)
                  clear hK K
                  try simp only [Act.put, List.setIfInBounds_toArray, List.set_cons_zero, List.set_cons_succ]
                  refine wpAnyH_take (i := 12) (v := (.bool true)) (oi := ⟨_, _, _, _, _, _⟩) rfl (by kernel_rfl) (by kernel_rfl) (by kernel_rfl) (fun _ _ _ h => h) (Or.inl ⟨by kernel_rfl, fun W hS => ?_⟩) (by assumption) ?_
                  · dsimp only at hS; go_split_ands; go_simp
                  simp only [Act.put, List.setIfInBounds_toArray, List.set_cons_zero, List.set_cons_succ]
                  refine wpAnyH_ready (rs := [13]) (by kernel_rfl) (by decide) (AllReadyH.cons (o := ⟨_, _, _, _, _, _⟩) rfl (fun K hK => ?_) AllReadyH.nil)
                  rw [if_pos (by kernel_rfl)]
                  go_simp
                  refine (alive_any _).mono ?_
                  rintro e w16 ⟨rfl, hb16⟩
                  go_wp2_with fail
                  refine hK.out _ _ (below_step hHeld hb16) (fun hHeld => ?_)
                  clear hK K
                  try simp only [Act.put, List.setIfInBounds_toArray, List.set_cons_zero, List.set_cons_succ]
                  refine wpAnyH_take (i := 14) (v := (.bool true)) (oi := ⟨_, _, _, _, _, _⟩) rfl (by kernel_rfl) (by kernel_rfl) (by kernel_rfl) (fun _ _ _ h => h) (Or.inl ⟨by kernel_rfl, fun W hS => ?_⟩) (by assumption) ?_
                  · dsimp only at hS; go_split_ands; go_simp
                  simp only [Act.put, List.setIfInBounds_toArray, List.set_cons_zero, List.set_cons_succ]
                  refine wpAnyH_take (i := 15) (v := (.bool true)) (oi := ⟨_, _, _, _, _, _⟩) rfl (by kernel_rfl) (by kernel_rfl) (by kernel_rfl) (fun _ _ _ h => h) (Or.inl ⟨by kernel_rfl, fun W hS => ?_⟩) (by assumption) ?_
                  · dsimp only at hS; go_split_ands; go_simp
                  simp only [Act.put, List.setIfInBounds_toArray, List.set_cons_zero, List.set_cons_succ]
                  refine wpAnyH_done (by kernel_rfl) ?_ _
                  go_wp2_with fail
                  go_ret
                  exact ⟨rfl, hHeld⟩
  · have hge : (len : Int) ≥ 4194304 := by omega
    have hwr : IntKind.i64.wrap ((len : Int) + 1) = (len : Int) + 1 := by rw [IntKind.wrap_i64]; omega
    have HR := Lib.hid hroom
    clear hroom hl
    go_wp2_with fail
    refine (New_bad _ HR.out _).mono ?_
    rintro e w1 ⟨rfl, rfl⟩
    go_wp2_with fail
    refine (alive_any _).mono ?_
    rintro e w2 ⟨rfl, hb2⟩
    go_wp2_with fail
    go_ret
    exact ⟨rfl, hb2⟩
end Go.Proofs.Ytodhcgidmdeifaa
