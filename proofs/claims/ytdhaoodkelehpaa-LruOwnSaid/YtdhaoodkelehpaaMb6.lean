/- Contracts of functions that the laws reach (texts laid together, part 6): each says of its call what it answers and what it leaves of memory; the conditions stand in each statement. -/
import Derived.Test.YtdhaoodkelehpaaMb3
import Derived.Test.YtdhaoodkelehpaaMb4
set_option linter.unusedVariables false
set_option linter.unusedSimpArgs false
set_option linter.unusedSectionVars false
set_option linter.unnecessarySimpa false
/-! The walk of LruCounts. -/
section
set_option linter.unusedVariables false
namespace Go.Proofs.Ytdhaoodkelehpaa
open Go.RowKit Go.Kit Go.Proofs.YtdhaoodkelehpaaW.PrintWords
/-- What is counted. -/
def Tal (S : Sp Int) (made dr hits asked i : Int) : Prop := S.sum + dr = made ∧ S.hi = hits ∧ S.hi + S.mi = asked ∧ made ≤ i ∧ asked ≤ i ∧ 0 ≤ dr
theorem Tal.mono {S : Sp Int} {a b c d i j : Int} (h : Tal S a b c d i) (hj : i ≤ j) : Tal S a b c d j := by
  obtain ⟨h1, h2, h3, h4, h5, h6⟩ := h
  exact ⟨h1, h2, h3, by omega, by omega, h6⟩
theorem Tal.nums {S : Sp Int} {a b c d i : Int} (h : Tal S a b c d i) (hc : 0 ≤ S.hi ∧ 0 ≤ S.mi ∧ 0 ≤ S.go) : 0 ≤ a ∧ 0 ≤ b ∧ 0 ≤ c ∧ 0 ≤ d ∧ a ≤ i ∧ b ≤ i ∧ c ≤ i ∧ d ≤ i ∧ S.hi ≤ i ∧ S.mi ≤ i ∧ S.go ≤ i ∧ (S.l.length : Int) ≤ i := by
  obtain ⟨h1, h2, h3, h4, h5, h6⟩ := h
  unfold Sp.sum at h1
  omega
/-- Only what is new. -/
def CoS (w W : World) : Prop := Below w.heap.size w W
theorem CoS.step {w W W1 : World} (h : CoS w W) (hb : Below W.heap.size W W1) : CoS w W1 := below_step h hb
def CoRel (w : World) (m np : Nat) (gk : Nat) (v7 v8 v9 v10 vi : Value) (w' : World) : Prop :=
  ∃ (i : Nat) (S : Sp Int) (F : Nat → Prop) (made dr hits asked : Int), vi = .int .i64 (i : Int) ∧ v7 = .int .i64 made ∧ v8 = .int .i64 dr ∧ v9 = .int .i64 hits ∧ v10 = .int .i64 asked ∧ Mf w' m S F ∧ (∀ k, F k → w.heap.size ≤ k) ∧ Below w.heap.size w w' ∧ Hid (Tal S made dr hits asked i) ∧ Hid (i ≤ np ∧ gk = np - i)
set_option maxHeartbeats 8000000 in
set_option maxRecDepth 100000 in
theorem LruCounts_walk (q : Int) (A : Option Addr) (np cp : Nat) (L : List Lc) (w : World) (hq : I6 q) (hA : LA w A np L) :
    Calls Try.prog 5 #[.int .i64 q, .slice A np cp] w fun e w' => e = .returned (.bool true) ∧ Below w.heap.size w w' := by
  have hmx := hA.max
  go_enter Try.func5, Try.ntmps5
  by_cases hroom : 1 ≤ q ∧ q ≤ 4096
  · go_wp2_with fail
    refine (new_f q hroom.1 hroom.2).mono ?_
    rintro e w1 ⟨m, F, rfl, hM, hF, hb1⟩
    clear hroom
    have HS : Hid (CoRel w m np np (.int .i64 0) (.int .i64 0) (.int .i64 0) (.int .i64 0) (.int .i64 0) w1) := Lib.hid ⟨0, _, F, 0, 0, 0, 0, rfl, rfl, rfl, rfl, rfl, hM, hF, hb1, Lib.hid ⟨rfl, rfl, rfl, Int.le_refl _, Int.le_refl _, Int.le_refl _⟩, Lib.hid ⟨Nat.zero_le _, rfl⟩⟩
    clear hM hF hb1
    go_wp2_with fail
    go_loopg [7, 8, 9, 10, 40] np (fun gk v7 v8 v9 v10 vi w' => CoRel w m np gk v7 v8 v9 v10 vi w')
    case atStart => exact HS.out
    case round =>
      clear HS
      obtain ⟨i, S, F, made, dr, hits, asked, rfl, rfl, rfl, rfl, rfl, hM, hF, hb1, HT, HG⟩ := hrel
      by_cases hi : i < np
      · obtain ⟨ad, Ai, ni, ci, x, rfl, h0, h1, h2, h3, hr, f0, f1, f2, hni, hx⟩ := hA.at0 i hi
        have hi2 : (i : Int) < (np : Int) := by omega
        have hi9 : (i : Int) ≤ 140737488351232 := by omega
        obtain ⟨kk, hkk⟩ : ∃ kk, (wrap64 (x.kind.tmod 6 + 6)).tmod 6 = kk := ⟨_, rfl⟩
        have hba := below_alloc (Below.refl wr.heap.size wr) (.cells #[.int .i64 x.kind, .int .i64 x.k, .int .i64 x.v, .slice Ai ni ci] 30)
        have hb2 := below_step hb1 hba
        have HR : Hid (∀ W, Only (wr.alloc (.cells #[.int .i64 x.kind, .int .i64 x.k, .int .i64 x.v, .slice Ai ni ci] 30)) W F → IR W Ai ni x.keys) := Lib.hid (fun W ho => hr.below (Below.only hb2 ho hb2.size hF))
        have HNI := Lib.hid hni
        have hac := heap_alloc_new wr (.cells #[.int .i64 x.kind, .int .i64 x.k, .int .i64 x.v, .slice Ai ni ci] 30)
        have hold := hM.old
        have hna : ¬ F wr.heap.size := fun q => absurd (hold _ q) (Nat.lt_irrefl _)
        have HNU := Lib.hid (HT.out.nums hM.cnt)
        have hnu := HNU.out
        replace h0 := pw_cell_below hb1 h0
        replace h1 := pw_cell_below hb1 h1
        replace h2 := pw_cell_below hb1 h2
        replace h3 := pw_cell_below hb1 h3
        have HX : Hid (I6 x.k ∧ I6 x.v) := Lib.hid ⟨f1, f2⟩
        have HMa := Lib.hid (hM.below hba)
        have HF := Lib.hid hF
        have HB := Lib.hid hb2
        have HAC := Lib.hid hac
        have HNA := Lib.hid hna
        have hm9 : 0 ≤ made ∧ made ≤ 140737488351232 := by omega
        have hd9 : 0 ≤ dr ∧ dr ≤ 140737488351232 := by omega
        have hh9 : 0 ≤ hits ∧ hits ≤ 140737488351232 := by omega
        have ha9 : 0 ≤ asked ∧ asked ≤ 140737488351232 := by omega
        obtain ⟨hm0, hm9⟩ := hm9
        obtain ⟨hd0, hd9⟩ := hd9
        obtain ⟨hh0, hh9⟩ := hh9
        obtain ⟨ha0, ha9⟩ := ha9
        clear hM hF hb1 hba hb2 hr f0 f1 f2 hx hold hna hac hni hnu
        by_cases k0 : kk = 0
        · subst k0
          go_wp2_with fail
          refine (get_f HMa.out x.k HX.out.1 (by have := HNU.out; omega) (by have := HNU.out; omega)).mono ?_
          rintro e w2 ⟨v1, y1, rfl, hy1, hl⟩
          obtain ⟨F2, hM2, hF2, hb2⟩ := hl.step HF.out HB.out
          have hag := asked_get S x.k
          have hsg := sum_get HMa.out.ok x.k
          have HM2 := Lib.hid hM2
          have HF2 := Lib.hid hF2
          have HB2 := Lib.hid hb2
          cases hf : fnd S.l x.k with
          | none =>
            rw [hf] at hy1 hag
            obtain ⟨rfl, rfl⟩ := Prod.mk.inj hy1
            have HT2 : Hid (Tal (S.get x.k) made dr hits (asked + 1) (i + 1 : Nat)) := Lib.hid (by
              obtain ⟨t1, t2, t3, t4, t5, t6⟩ := HT.out
              simp at hag
              exact ⟨by omega, by omega, by omega, by omega, by omega, t6⟩)
            clear hl hy1 hM2 hF2 hb2 hag hsg hf h0 h1 h2 h3
            go_wp2_with fail
            go_roundg (gk - 1)
            case measure => have := HG.out.2; omega
            case rel => exact ⟨i + 1, _, F2, _, _, _, _, by simp, rfl, rfl, rfl, by simp, HM2.out, HF2.out, HB2.out, HT2, Lib.hid ⟨by omega, by have := HG.out.2; omega⟩⟩
          | some v =>
            rw [hf] at hy1 hag
            obtain ⟨rfl, rfl⟩ := Prod.mk.inj hy1
            have HT2 : Hid (Tal (S.get x.k) made dr (hits + 1) (asked + 1) (i + 1 : Nat)) := Lib.hid (by
              obtain ⟨t1, t2, t3, t4, t5, t6⟩ := HT.out
              simp at hag
              exact ⟨by omega, by omega, by omega, by omega, by omega, t6⟩)
            clear hl hy1 hM2 hF2 hb2 hag hsg hf h0 h1 h2 h3
            go_wp2_with fail
            go_roundg (gk - 1)
            case measure => have := HG.out.2; omega
            case rel => exact ⟨i + 1, _, F2, _, _, _, _, by simp, rfl, rfl, by simp, by simp, HM2.out, HF2.out, HB2.out, HT2, Lib.hid ⟨by omega, by have := HG.out.2; omega⟩⟩
        by_cases k2 : kk = 2
        · subst k2
          go_wp2_with fail
          refine (look_f HMa.out x.k HX.out.1).mono ?_
          rintro e w2 ⟨v1, y1, rfl, hy1, rfl⟩
          have hsp := sum_put HMa.out.ok x.k x.v
          have hup := put_uses S x.k x.v
          cases hf : fnd S.l x.k with
          | none =>
            rw [hf] at hy1 hsp
            obtain ⟨rfl, rfl⟩ := Prod.mk.inj hy1
            have HT2 : Hid (Tal (S.put x.k x.v) (made + 1) dr hits asked (i + 1 : Nat)) := Lib.hid (by
              obtain ⟨t1, t2, t3, t4, t5, t6⟩ := HT.out
              simp at hsp
              exact ⟨by omega, by omega, by omega, by omega, by omega, t6⟩)
            clear hy1 hsp hup hf
            go_wp2_with fail
            refine (put_f HMa.out x.k x.v HX.out.1 (by have := HNU.out; omega)).mono ?_
            rintro e w2 ⟨v1, y1, rfl, _, hl⟩
            obtain ⟨F2, hM2, hF2, hb2⟩ := hl.step HF.out HB.out
            clear hl h0 h1 h2 h3
            go_wp2_with fail
            go_roundg (gk - 1)
            case measure => have := HG.out.2; omega
            case rel => exact ⟨i + 1, _, F2, _, _, _, _, by simp, by simp, rfl, rfl, rfl, hM2, hF2, hb2, HT2, Lib.hid ⟨by omega, by have := HG.out.2; omega⟩⟩
          | some v =>
            rw [hf] at hy1 hsp
            obtain ⟨rfl, rfl⟩ := Prod.mk.inj hy1
            have HT2 : Hid (Tal (S.put x.k x.v) made dr hits asked (i + 1 : Nat)) := Lib.hid (by
              obtain ⟨t1, t2, t3, t4, t5, t6⟩ := HT.out
              simp at hsp
              exact ⟨by omega, by omega, by omega, by omega, by omega, t6⟩)
            clear hy1 hsp hup hf
            go_wp2_with fail
            refine (put_f HMa.out x.k x.v HX.out.1 (by have := HNU.out; omega)).mono ?_
            rintro e w2 ⟨v1, y1, rfl, _, hl⟩
            obtain ⟨F2, hM2, hF2, hb2⟩ := hl.step HF.out HB.out
            clear hl h0 h1 h2 h3
            go_wp2_with fail
            go_roundg (gk - 1)
            case measure => have := HG.out.2; omega
            case rel => exact ⟨i + 1, _, F2, _, _, _, _, by simp, rfl, rfl, rfl, rfl, hM2, hF2, hb2, HT2, Lib.hid ⟨by omega, by have := HG.out.2; omega⟩⟩
        by_cases k3 : kk = 3
        · subst k3
          have hsd := sum_drops HMa.out.ok x.keys
          have hud := drops_uses S x.keys
          obtain ⟨dn, hdn⟩ : ∃ dn : Nat, (S.drops x.keys).2 = dn := ⟨_, rfl⟩
          rw [hdn] at hsd
          have HDN := Lib.hid hdn
          have HT2 : Hid (Tal (S.drops x.keys).1 made (dr + dn) hits asked (i + 1 : Nat)) := Lib.hid (by
            obtain ⟨t1, t2, t3, t4, t5, t6⟩ := HT.out
            exact ⟨by omega, by omega, by omega, by omega, by omega, by omega⟩)
          have hdd : dr + dn ≤ 140737488351232 := by
            have h1 := HT2.out.1
            have h2 : 0 ≤ (S.drops x.keys).1.sum := by
              unfold Sp.sum
              rw [hud.2.2.2]
              have := HMa.out.cnt.2.2
              omega
            omega
          clear hsd hud hdn
          go_wp2_with fail
          refine (drop_f HMa.out Ai ni ci x.keys HR.out HNI.out).mono ?_
          rintro e w2 ⟨rfl, hl⟩
          rw [HDN.out]
          obtain ⟨F2, hM2, hF2, hb2⟩ := hl.step HF.out HB.out
          clear hl h0 h1 h2 h3
          go_wp2_with fail
          go_roundg (gk - 1)
          case measure => have := HG.out.2; omega
          case rel => exact ⟨i + 1, _, F2, _, _, _, _, by simp, rfl, by simp, rfl, rfl, hM2, hF2, hb2, HT2, Lib.hid ⟨by omega, by have := HG.out.2; omega⟩⟩
        by_cases k4 : kk = 4
        · subst k4
          by_cases hv : 1 ≤ x.v ∧ x.v ≤ 4096
          · have HV := Lib.hid hv
            have HT2 : Hid (Tal (S.resize x.v) made dr hits asked (i + 1 : Nat)) := Lib.hid (by
              obtain ⟨t1, t2, t3, t4, t5, t6⟩ := HT.out
              have := sum_resize S x.v
              exact ⟨by omega, t2, t3, by omega, by omega, t6⟩)
            clear hv
            go_wp2_with fail
            refine (resize_f HMa.out x.v HV.out.1 HV.out.2 (by have := HNU.out; omega)).mono ?_
            rintro e w2 ⟨v, rfl, hl, _⟩
            obtain ⟨F2, hM2, hF2, hb2⟩ := hl.step HF.out HB.out
            clear hl h0 h1 h2 h3
            go_wp2_with fail
            go_roundg (gk - 1)
            case measure => have := HG.out.2; omega
            case rel => exact ⟨i + 1, _, F2, _, _, _, _, by simp, rfl, rfl, rfl, rfl, hM2, hF2, hb2, HT2, Lib.hid ⟨by omega, by have := HG.out.2; omega⟩⟩
          · have HV : Hid (x.v < 1 ∨ 4096 < x.v) := Lib.hid (by omega)
            clear hv
            go_wp2_with fail
            refine (resize_bad HMa.out x.v HV.out).mono ?_
            rintro e w2 ⟨rfl, rfl⟩
            clear h0 h1 h2 h3
            go_wp2_with fail
            go_roundg (gk - 1)
            case measure => have := HG.out.2; omega
            case rel => exact ⟨i + 1, S, F, _, _, _, _, by simp, rfl, rfl, rfl, rfl, HMa.out, HF.out, HB.out, Lib.hid (HT.out.mono (by omega)), Lib.hid ⟨by omega, by have := HG.out.2; omega⟩⟩
        · have e0 : (kk == 0) = false := by simpa using k0
          have e2 : (kk == 2) = false := by simpa using k2
          have e3 : (kk == 3) = false := by simpa using k3
          have e4 : (kk == 4) = false := by simpa using k4
          go_wp2_with fail
          go_roundg (gk - 1)
          case measure => have := HG.out.2; omega
          case rel => exact ⟨i + 1, S, F, _, _, _, _, by simp, rfl, rfl, rfl, rfl, HMa.out, HF.out, HB.out, Lib.hid (HT.out.mono (by omega)), Lib.hid ⟨by omega, by have := HG.out.2; omega⟩⟩
      · have hi2 : ¬ (i : Int) < (np : Int) := by omega
        have hnu := HT.out.nums hM.cnt
        have HM := Lib.hid hM
        have HB := Lib.hid hb1
        have hi9 : (i : Int) ≤ 140737488351232 := by have := HG.out.1; omega
        obtain ⟨ln, hln⟩ : ∃ ln : Nat, S.l.length = ln := ⟨_, rfl⟩
        have HLN := Lib.hid hln
        obtain ⟨t1, t2, t3, t4, t5, t6⟩ := HT.out
        unfold Sp.sum at t1
        rw [hln] at t1 hnu
        obtain ⟨hi0, hhi⟩ : ∃ x, S.hi = x := ⟨_, rfl⟩
        obtain ⟨mi0, hmi⟩ : ∃ x, S.mi = x := ⟨_, rfl⟩
        obtain ⟨go0, hgo⟩ : ∃ x, S.go = x := ⟨_, rfl⟩
        have HU : Hid (S.hi = hi0 ∧ S.mi = mi0 ∧ S.go = go0) := Lib.hid ⟨hhi, hmi, hgo⟩
        rw [hhi, hmi, hgo] at hnu
        rw [hgo] at t1
        rw [hhi] at t2 t3
        rw [hmi] at t3
        have hw1 : IntKind.i64.wrap (go0 + (ln : Int)) = go0 + (ln : Int) := by rw [IntKind.wrap_i64]; omega
        have hw2 : IntKind.i64.wrap (go0 + (ln : Int) + dr) = go0 + (ln : Int) + dr := by rw [IntKind.wrap_i64]; omega
        have hw3 : IntKind.i64.wrap (hi0 + mi0) = hi0 + mi0 := by rw [IntKind.wrap_i64]; omega
        have he1 : (go0 + (ln : Int) + dr == made) = true := by simpa using t1
        have he2 : (hi0 == hits) = true := by simpa using t2
        have he3 : (hi0 + mi0 == asked) = true := by simpa using t3
        clear hM hF hb1 HT t1 t2 t3 t4 t5 t6 hhi hmi hgo hln hnu
        go_wp2_with fail
        refine (uses_f HM.out).mono ?_
        rintro e w2 ⟨rfl, hb2⟩
        rw [HU.out.1, HU.out.2.1, HU.out.2.2]
        have hbc := below_alloc (Below.refl w2.heap.size w2) (.cells #[.int .i64 hi0, .int .i64 mi0, .int .i64 go0] 40)
        have hcb := heap_alloc_new w2 (.cells #[.int .i64 hi0, .int .i64 mi0, .int .i64 go0] 40)
        have HM2 := Lib.hid ((HM.out.below hb2).below hbc)
        have HB2 := Lib.hid (below_step (below_step HB.out hb2) hbc)
        have HCB := Lib.hid hcb
        clear hb2 hbc hcb HM HB
        go_wp2_with fail
        generalize w2.alloc (.cells #[.int .i64 hi0, .int .i64 mi0, .int .i64 go0] 40) = w3 at *
        generalize w2.heap.size = gc at *
        have c0 := cell_of_row w3 gc 0 _ _ _ HCB.out
        have c1 := cell_of_row w3 gc 1 _ _ _ HCB.out
        have c2 := cell_of_row w3 gc 2 _ _ _ HCB.out
        simp only [List.getElem?_toArray, List.getElem?_cons_zero, List.getElem?_cons_succ] at c0 c1 c2
        go_region_held3 (fun W => W.cell? ⟨gc, 0, none⟩ = some (.int .i64 hi0) ∧ W.cell? ⟨gc, 1, none⟩ = some (.int .i64 mi0) ∧ W.cell? ⟨gc, 2, none⟩ = some (.int .i64 go0) ∧ CoS w3 W)
          (first
            | exact ⟨c0, c1, c2, below_drew (Below.refl _ _)⟩
            | (go_split_ands; have hs : CoS w3 _ := (by assumption); exact ⟨pw_cell_below (CoS.step hs hb5) c0, pw_cell_below (CoS.step hs hb5) c1, pw_cell_below (CoS.step hs hb5) c2, CoS.step hs hb5⟩)
            | assumption)
          (first
            | (go_at_call 16; go_split_ands; have hs : CoS w3 _ := (by assumption); refine (len_f (HM2.out.below hs)).mono ?_; rintro e w5 ⟨rfl, rfl⟩; rw [HLN.out])
            | (go_at_call 12; go_split_ands; refine alive_any.mono ?_; rintro e w5 ⟨rfl, hb5⟩))
        all_goals
          go_wp2_with fail
          go_ret
          exact ⟨rfl, below_step HB2.out (below_step (below_drew (Below.refl _ _)) hb5)⟩
  · clear hA
    go_wp2_with fail
    refine (new_badI q (by omega)).mono ?_
    rintro e w1 ⟨rfl, rfl⟩
    by_cases h1 : q < 1
    · have b1 : decide (q < 1) = true := by simpa using h1
      clear hroom h1
      go_wp2_with fail
      refine alive_any.mono ?_
      rintro e w9 ⟨rfl, hb9⟩
      go_wp2_with fail
      go_ret
      exact ⟨rfl, hb9⟩
    · have b1 : decide (q < 1) = false := by simpa using h1
      have b2 : decide (q > 4096) = true := by simp; omega
      clear hroom h1
      go_wp2_with fail
      refine alive_any.mono ?_
      rintro e w9 ⟨rfl, hb9⟩
      go_wp2_with fail
      go_ret
      exact ⟨rfl, hb9⟩
end Go.Proofs.Ytdhaoodkelehpaa
end
