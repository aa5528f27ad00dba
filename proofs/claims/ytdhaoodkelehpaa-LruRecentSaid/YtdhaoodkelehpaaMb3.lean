/- Contracts of functions that the laws reach (texts laid together, part 3): each says of its call what it answers and what it leaves of memory; the conditions stand in each statement. -/
import Derived.Test.YtdhaoodkelehpaaMb1
import Derived.Test.YtdhaoodkelehpaaMb2
set_option linter.unusedVariables false
set_option linter.unusedSimpArgs false
set_option linter.unusedSectionVars false
set_option linter.unnecessarySimpa false
/-! Rows of whole numbers of the call's own, beside memos. -/
section
set_option linter.unusedVariables false
namespace Go.Proofs.Ytdhaoodkelehpaa
open Go.RowKit Go.Kit Go.Proofs.YtdhaoodkelehpaaW.PrintWords
/-- A row of whole numbers of the call's own. -/
def OI (w : World) (base : Nat) (v : Value) (xs : List Int) : Prop := w.ownsRow base 3 1 v xs.length (nums .i64 xs)
theorem OI.nil (w : World) (base : Nat) : OI w base (.slice none 0 0) [] := own_nil w base 3 1
theorem int_info : (Try.prog.info? 3).map (fun i => (i.zero, i.size, i.bytes)) = some (some (.int .i64 0), 1, 8) := by kernel_rfl
section
variable {w w1 : World} {base : Nat} {v : Value} {xs : List Int} {X F : Nat → Prop} {m : Nat} {S : Sp Int}
theorem OI.below (h : OI w base v xs) (hb : Below w.heap.size w w1) : OI w1 base v xs := pw_own_below h hb
theorem OI.reads (h : OI w base v xs) : ∃ A c, v = .slice A xs.length c ∧ ReadsInt w .i64 A xs.length xs := own_reads h
theorem OI.block (h : OI w base v xs) {k : Nat} (hk : rf v k) : base ≤ k ∧ k < w.heap.size ∧ ∃ cur, w.heap[k]? = some (.cells cur 3 (0, 0)) := by
  rcases h.2 with ⟨h1, _⟩ | ⟨g, cap, cur, h1, h2, h3, h4⟩
  · rw [h1] at hk; cases hk
  · rw [h1] at hk; cases hk; exact ⟨h2, lt_of_block h3, cur, h3⟩
theorem OI.only (h : OI w base v xs) (ho : Only w w1 X) (hs : Sep (rf v) X) : OI w1 base v xs := by
  refine ⟨h.1, ?_⟩
  rcases h.2 with h1 | ⟨g, cap, cur, h1, h2, h3, h4⟩
  · exact .inl h1
  · exact .inr ⟨g, cap, cur, h1, h2, ho.kept h3 (hs g (by rw [h1]; rfl)), h4⟩
theorem Mf.sep_row (h : Mf w m S F) (ho : OI w base v xs) : Sep F (rf v) := fun k hk hr => by
  obtain ⟨_, _, cur, hc⟩ := ho.block hr
  obtain ⟨b, L, hM, rfl⟩ := h
  rcases hk with rfl | rfl | hk
  · exact absurd (not_both hM.ls.bk hc) (by decide)
  · obtain ⟨D, ⟨es, clock, hb, _⟩, _⟩ := hM.mp
    rw [hc] at hb; cases hb
  · obtain ⟨e, he, rfl⟩ := List.mem_map.1 hk
    obtain ⟨u, v, h1⟩ := hM.ls.ch.mem e he
    exact absurd (not_both h1 hc) (by decide)
end
end Go.Proofs.Ytdhaoodkelehpaa
end
/-! The walk of LruRecent. -/
section
set_option linter.unusedVariables false
namespace Go.Proofs.Ytdhaoodkelehpaa
open Go.RowKit Go.Kit Go.Proofs.YtdhaoodkelehpaaW.PrintWords
/-- Where the second loop stands. -/
def RecRel (w : World) (m np : Nat) (q key : Int) (gk : Nat) (v11 vi : Value) (w' : World) : Prop :=
  ∃ (i : Nat) (S : Sp Int) (F : Nat → Prop) (O : List Int), vi = .int .i64 (i : Int) ∧ Mf w' m S F ∧ (∀ k, F k → w.heap.size ≤ k) ∧ Below w.heap.size w w' ∧ OI w' w.heap.size v11 O ∧ Hid (Rec S key O ∧ O.Nodup ∧ (O.length : Int) < q) ∧ Hid (Cn S (np + 1 + i) ∧ S.most = q) ∧ Hid (i ≤ np ∧ gk = np - i)
set_option maxHeartbeats 8000000 in
set_option maxRecDepth 100000 in
theorem LruRecent_walk (q key : Int) (A : Option Addr) (np cp : Nat) (L : List Lc) (w : World) (hq : I6 q) (hkey : I6 key) (hA : LA w A np L) :
    Calls Try.prog 3 #[.int .i64 q, .int .i64 key, .slice A np cp] w fun e w' => e = .returned (.bool true) ∧ Below w.heap.size w w' := by
  have hmx := hA.max
  have HK := Lib.hid hkey
  clear hkey hq
  go_enter Try.func3, Try.ntmps3
  by_cases hroom : 1 ≤ q ∧ q ≤ 4096
  · have HQ := Lib.hid hroom
    go_wp2_with fail
    refine (new_f q HQ.out.1 HQ.out.2).mono ?_
    rintro e w1 ⟨m, F, rfl, hM, hF, hb1⟩
    clear hroom
    go_wp2_with fail
    go_loopg [43] np (fun gk vi w' => ∃ (i : Nat) (S : Sp Int) (F : Nat → Prop), vi = .int .i64 (i : Int) ∧ Mf w' m S F ∧ (∀ k, F k → w.heap.size ≤ k) ∧ Below w.heap.size w w' ∧ Hid (Cn S i ∧ S.most = q) ∧ Hid (i ≤ np ∧ gk = np - i))
    case atStart => exact ⟨0, _, F, rfl, hM, hF, hb1, Lib.hid ⟨⟨Int.le_refl _, Int.le_refl _, Int.le_refl _⟩, rfl⟩, Lib.hid ⟨by omega, rfl⟩⟩
    case round =>
      clear hM hF hb1
      obtain ⟨i, S, F, rfl, hM, hF, hb1, HC, HG⟩ := hrel
      by_cases hi : i < np
      · obtain ⟨ad, Ai, ni, ci, x, rfl, h0, h1, h2, h3, hr, f0, f1, f2, _, hx⟩ := hA.at0 i hi
        have hi2 : (i : Int) < (np : Int) := by omega
        have hi9 : (i : Int) ≤ 140737488351232 := by omega
        have hba := below_alloc (Below.refl wr.heap.size wr) (.cells #[.int .i64 x.kind, .int .i64 x.k, .int .i64 x.v, .slice Ai ni ci] 30)
        replace h0 := pw_cell_below hb1 h0
        replace h1 := pw_cell_below hb1 h1
        replace h2 := pw_cell_below hb1 h2
        replace h3 := pw_cell_below hb1 h3
        have HX : Hid (I6 x.k) := Lib.hid f1
        have HMa := Lib.hid (hM.below hba)
        have HF := Lib.hid hF
        have HB := Lib.hid (below_step hb1 hba)
        clear hM hF hb1 hba hr f0 f1 f2 hx
        go_wp2_with fail
        refine (put_f HMa.out x.k x.v HX.out (by have := HC.out.1.2.2; omega)).mono ?_
        rintro e w2 ⟨v1, y1, rfl, _, hl⟩
        obtain ⟨F2, hM2, hF2, hb2⟩ := hl.step HF.out HB.out
        clear hl HMa HF HB
        go_wp2_with fail
        go_roundg (gk - 1)
        case measure => have := HG.out.2; omega
        case rel => exact ⟨i + 1, _, F2, by simp, hM2, hF2, hb2, Lib.hid ⟨by have := HC.out.1.put x.k x.v; simpa using this, by rw [put_most]; exact HC.out.2⟩, Lib.hid ⟨by omega, by have := HG.out.2; omega⟩⟩
      · have hi2 : ¬ (i : Int) < (np : Int) := by omega
        have HMa := Lib.hid hM
        have HF := Lib.hid hF
        have HB := Lib.hid hb1
        have hi9 : (i : Int) ≤ 140737488351232 := by have := HG.out.1; omega
        clear hM hF hb1
        go_wp2_with fail
        refine (put_f HMa.out key 77 HK.out (by have := HC.out.1.2.2; omega)).mono ?_
        rintro e w2 ⟨v1, y1, rfl, _, hl⟩
        obtain ⟨F2, hM2, hF2, hb2⟩ := hl.step HF.out HB.out
        have HS0 : Hid (RecRel w m np q key np (.slice none 0 0) (.int .i64 0) w2) := Lib.hid ⟨0, S.put key 77, F2, [], rfl, hM2, hF2, hb2, OI.nil _ _, Lib.hid ⟨Rec.start S key, List.nodup_nil, by have := HQ.out.1; show ((0 : Nat) : Int) < q; omega⟩, Lib.hid ⟨(HC.out.1.put key 77).mono (by have := HG.out.1; omega), by rw [put_most]; exact HC.out.2⟩, Lib.hid ⟨Nat.zero_le _, rfl⟩⟩
        clear hl HMa HF HB hM2 hF2 hb2 HC HG hi hi2 hi9
        go_wp2_with fail
        go_loopg [11, 59] np (fun gk v11 vi w' => RecRel w m np q key gk v11 vi w')
        case atStart => exact HS0.out
        case round =>
          clear HS0
          obtain ⟨i, S, F, O, rfl, hM, hF, hb1, hO, HR, HC, HG⟩ := hrel
          by_cases hi : i < np
          · obtain ⟨ad, Ai, ni, ci, x, rfl, h0, h1, h2, h3, hr, f0, f1, f2, _, hx⟩ := hA.at0 i hi
            have hi2 : (i : Int) < (np : Int) := by omega
            have hi9 : (i : Int) ≤ 140737488351232 := by omega
            have hba := below_alloc (Below.refl wr.heap.size wr) (.cells #[.int .i64 x.kind, .int .i64 x.k, .int .i64 x.v, .slice Ai ni ci] 30)
            have hac := heap_alloc_new wr (.cells #[.int .i64 x.kind, .int .i64 x.k, .int .i64 x.v, .slice Ai ni ci] 30)
            replace h0 := pw_cell_below hb1 h0
            replace h1 := pw_cell_below hb1 h1
            replace h2 := pw_cell_below hb1 h2
            replace h3 := pw_cell_below hb1 h3
            have HX : Hid (I6 x.k) := Lib.hid f1
            have hold := hM.old
            have hna : ¬ F wr.heap.size := fun q => absurd (hold _ q) (Nat.lt_irrefl _)
            have HMa := Lib.hid (hM.below hba)
            have HF := Lib.hid hF
            have HB := Lib.hid (below_step hb1 hba)
            have HOa := Lib.hid (hO.below hba)
            have HNA := Lib.hid hna
            have HAC := Lib.hid hac
            have HB1 := Lib.hid hb1
            have HO1 := Lib.hid hO
            have HND : Hid O.Nodup := Lib.hid HR.out.2.1
            have HLT : Hid ((O.length : Int) < 4096) := Lib.hid (by have := HR.out.2.2; have := HQ.out.2; omega)
            clear hM hF hb1 hba hr f0 f1 f2 hx hold hna hac hO
            by_cases hk : x.k = key
            · obtain ⟨xkind, xk, xv, xkeys⟩ := x
              dsimp only at *
              subst hk
              have hk2 : (xk == xk) = true := by simp
              go_wp2_with fail
              go_roundg (gk - 1)
              case measure => have := HG.out.2; omega
              case rel => exact ⟨i + 1, S, F, O, by simp, HMa.out, HF.out, HB.out, HOa.out, HR, Lib.hid ⟨HC.out.1.mono (by omega), HC.out.2⟩, Lib.hid ⟨by omega, by have := HG.out.2; omega⟩⟩
            · have hk2 : (x.k == key) = false := by simpa using hk
              obtain ⟨kk, hkk⟩ : ∃ kk, x.kind.tmod 2 = kk := ⟨_, rfl⟩
              by_cases k0 : kk = 0
              · subst k0
                go_wp2_with fail
                refine (put_f HMa.out x.k x.v HX.out (by have := HC.out.1.2.2; omega)).mono ?_
                rintro e w2 ⟨v1, y1, rfl, _, hl⟩
                obtain ⟨F2, hM2, hF2, hb2⟩ := hl.step HF.out HB.out
                have HM2 := Lib.hid hM2
                have HF2 := Lib.hid hF2
                have HB2 := Lib.hid hb2
                have hac2 := hl.kept HAC.out HNA.out
                have HO2 : Hid (OI w2 w.heap.size u11 O) := Lib.hid (by
                  obtain ⟨F', _, ho, _⟩ := hl
                  exact HOa.out.only ho (HMa.out.sep_row HOa.out).symm)
                have HR2 : Hid (Rec (S.put x.k x.v) key (addK O x.k)) := Lib.hid (HR.out.1.put HMa.out.ok hk HND.out _)
                have HC2 : Hid (Cn (S.put x.k x.v) (np + 1 + (i + 1 : Nat)) ∧ (S.put x.k x.v).most = q) := Lib.hid ⟨by have := HC.out.1.put x.k x.v; rw [show ((np : Int) + 1 + ((i + 1 : Nat) : Int)) = np + 1 + i + 1 by omega]; exact this, by rw [put_most]; exact HC.out.2⟩
                have c1 := cell_of_row w2 _ 1 _ _ _ hac2
                simp only [List.getElem?_toArray, List.getElem?_cons_zero, List.getElem?_cons_succ] at c1
                obtain ⟨S2, hS2⟩ : ∃ S2, S.put x.k x.v = S2 := ⟨_, rfl⟩
                rw [hS2] at HM2 HR2 HC2
                clear hM2 hF2 hb2 hl HMa HF HB HOa HR HC HAC HNA hac2 hS2 h0 h1 h2 h3 HO1 HB1
                generalize wr.heap.size = ac at *
                have hno := HO2.out.reads
                obtain ⟨A11, c11, rfl, hrd⟩ := hno
                obtain ⟨lo, hlo⟩ : ∃ lo : Nat, O.length = lo := ⟨_, rfl⟩
                have HLO := Lib.hid hlo
                rw [hlo] at hrd HO2 ⊢
                obtain ⟨ga, hga⟩ : ∃ ga, ga = gk := ⟨_, rfl⟩
                subst hga
                have hlo9 : (lo : Int) ≤ 4096 := by have := HLT.out; omega
                go_wp2_with fail
                go_loopg [16, 88] lo (fun gk v16 v88 w' => ∃ (j : Nat) (bk : Bool), v88 = .int .i64 (j : Int) ∧ v16 = .bool bk ∧ Hid (bk = decide (x.k ∈ O.take j)) ∧ w2 = w' ∧ Hid (j ≤ lo ∧ gk = lo - j))
                case atStart => exact ⟨0, false, rfl, rfl, by show _ = _; simp, rfl, by show _ ∧ _; omega⟩
                case round =>
                  obtain ⟨j, bk, rfl, rfl, HBK, hww, HJ⟩ := hrel
                  subst hww
                  by_cases hj : j < lo
                  · obtain ⟨bd, rfl, hcl⟩ := hrd.2.2 (by omega)
                    have hcj := hcl j hj
                    have hj2 : (j : Int) < (lo : Int) := by omega
                    obtain ⟨y, hy⟩ : ∃ y, O.getD j 0 = y := ⟨_, rfl⟩
                    rw [hy] at hcj
                    have HY : Hid (O[j]? = some y) := Lib.hid (by
                      have : j < O.length := by have := HLO.out; omega
                      rw [← hy, List.getD_eq_getElem?_getD, List.getElem?_eq_getElem this]; rfl)
                    clear hcl hrd hy
                    cases bk with
                    | true =>
                      go_wp2_with fail
                      go_roundg (gk - 1)
                      case measure => have := HJ.out.2; omega
                      case rel =>
                        refine ⟨j + 1, true, by simp, rfl, ?_, rfl, Lib.hid ⟨by omega, by have := HJ.out.2; omega⟩⟩
                        have h1 := HBK.out
                        refine Lib.hid ?_
                        rw [snoc HY.out]
                        simp at h1 ⊢
                        exact .inl h1
                    | false =>
                      by_cases he : y = x.k
                      · have he2 : (y == x.k) = true := by simpa using he
                        go_wp2_with fail
                        go_roundg (gk - 1)
                        case measure => have := HJ.out.2; omega
                        case rel =>
                          refine ⟨j + 1, true, by simp, rfl, ?_, rfl, Lib.hid ⟨by omega, by have := HJ.out.2; omega⟩⟩
                          refine Lib.hid ?_
                          rw [snoc HY.out, he]
                          simp
                      · have he2 : (y == x.k) = false := by simpa using he
                        go_wp2_with fail
                        go_roundg (gk - 1)
                        case measure => have := HJ.out.2; omega
                        case rel =>
                          refine ⟨j + 1, false, by simp, rfl, ?_, rfl, Lib.hid ⟨by omega, by have := HJ.out.2; omega⟩⟩
                          have h1 := HBK.out
                          refine Lib.hid ?_
                          rw [snoc HY.out]
                          simp at h1 ⊢
                          exact ⟨h1, fun e => he e.symm⟩
                  · have hj2 : ¬ (j : Int) < (lo : Int) := by omega
                    have hbk : bk = decide (x.k ∈ O) := by have := HBK.out; rw [this, all_of (by have := HLO.out; omega)]
                    clear HBK hrd
                    by_cases hmem : x.k ∈ O
                    · obtain rfl : bk = true := by rw [hbk]; simpa using hmem
                      have hadd : addK O x.k = O := by unfold addK; rw [if_pos hmem]
                      rw [hadd] at HR2
                      have HND2 := HND
                      clear hbk hadd
                      go_wp2_with fail
                      have HMw := HM2
                      have HBw := HB2
                      have HOw := HO2
                      have HLw := HLO
                      obtain ⟨HRn, HRr⟩ : Hid (S2.l ≠ []) ∧ Hid (Rec S2 key O) := ⟨Lib.hid HR2.out.1, HR2⟩
                      refine (look_f HMw.out key HK.out).mono ?_
                      rintro e w4 ⟨v4, y4, rfl, hy4, rfl⟩
                      have hle : ¬ ((S2.l.length : Int) > q) := by have := HMw.out.ok.2.1; have := HC2.out.2; omega
                      obtain ⟨nn, hnn⟩ : ∃ nn : Nat, S2.l.length = nn := ⟨_, rfl⟩
                      have HNN := Lib.hid hnn
                      rw [hnn] at hle
                      clear hnn
                      by_cases hlen : (lo : Int) < q
                      · have hf := HRr.out.fnd HMw.out.ok (by rw [HLw.out, HC2.out.2]; exact hlen)
                        rw [hf] at hy4
                        obtain ⟨rfl, rfl⟩ := Prod.mk.inj hy4
                        have h77 : ((77 : Int) != 77) = false := rfl
                        have hnl : ¬ (lo : Int) ≥ q := by omega
                        clear hy4 hf
                        go_wp2_with fail
                        refine (len_f HMw.out).mono ?_
                        rintro e w5 ⟨rfl, rfl⟩
                        rw [HNN.out]
                        go_wp2_with fail
                        go_roundg (ga - 1)
                        case measure => have := HG.out.2; omega
                        case rel => exact ⟨i + 1, S2, F2, O, by simp, HMw.out, HF2.out, HBw.out, HOw.out, Lib.hid ⟨HRr.out, HND2.out, by rw [HLw.out]; exact hlen⟩, HC2, Lib.hid ⟨by omega, by have := HG.out.2; omega⟩⟩
                      · have hnl : (lo : Int) ≥ q := by omega
                        clear hy4
                        go_wp2_with fail
                        refine (len_f HMw.out).mono ?_
                        rintro e w5 ⟨rfl, rfl⟩
                        rw [HNN.out]
                        have HNE := HRn
                        have HMf := HMw
                        have HMo : Hid (S2.most = q) := Lib.hid HC2.out.2
                        have HBe := HBw
                        go_wp2_with fail
                        refine (len_f HMf.out).mono ?_
                        rintro e wq ⟨rfl, rfl⟩
                        have hge : (((S2.l.length : Nat) : Int) ≥ 1) := by have := HNE.out; have := List.length_pos_iff.2 this; omega
                        have hle : (((S2.l.length : Nat) : Int) ≤ q) := by have := HMf.out.ok.2.1; have := HMo.out; omega
                        obtain ⟨nn, hnn⟩ : ∃ nn : Nat, S2.l.length = nn := ⟨_, rfl⟩
                        rw [hnn] at hge hle ⊢
                        go_wp2_with fail
                        refine (len_f HMf.out).mono ?_
                        rintro e wq ⟨rfl, rfl⟩
                        rw [hnn]
                        go_wp2_with fail
                        refine alive_any.mono ?_
                        rintro e w9 ⟨rfl, hb9⟩
                        go_wp2_with fail
                        go_ret
                        exact ⟨rfl, below_step HBe.out hb9⟩
                    · obtain rfl : bk = false := by rw [hbk]; simpa using hmem
                      have hadd : addK O x.k = O ++ [x.k] := by unfold addK; rw [if_neg hmem]
                      have HND2 : Hid ((addK O x.k).Nodup) := Lib.hid (addK_nodup HND.out)
                      rw [hadd] at HR2 HND2
                      clear hbk hadd
                      have hown := HO2.out
                      unfold OI at hown
                      have hl8 : (O.length + 1) * 8 ≤ 140737488355328 := by have := HLT.out; omega
                      go_wp2_with (at_builtin; refine print_append_num (w0 := w) w.heap.size rfl (.tmp 102) (.tmp 105) 28 3 .i64 8 rfl Try.underlying28 int_info (by decide) _ _ x.k rfl rfl hown HB2.out HB2.out.size hl8 ?_; intro v12 w3 hown3 hb3 hg3 hat3)
                      have ho3 : Only w2 w3 (rf (.slice A11 lo c11)) := (Only.refl _ _).grown hg3 (fun k e => .inl e)
                      have HMw : Hid (Mf w3 m S2 F2) := Lib.hid (HM2.out.only ho3 (HM2.out.sep_row HO2.out))
                      have HBw := Lib.hid hb3
                      have hO3 : OI w3 w.heap.size v12 (O ++ [x.k]) := hown3
                      have HOw := Lib.hid hO3
                      obtain ⟨A12, c12, rfl, _⟩ := hO3.reads
                      obtain ⟨lw, hlw⟩ : ∃ lw : Nat, (O ++ [x.k]).length = lw := ⟨_, rfl⟩
                      have HLw := Lib.hid hlw
                      rw [hlw] at HOw ⊢
                      clear ho3 hb3 hO3 hown3 hlw hg3 hat3 hown hl8
                      obtain ⟨HRn, HRr⟩ : Hid (S2.l ≠ []) ∧ Hid (Rec S2 key (O ++ [x.k])) := ⟨Lib.hid HR2.out.1, HR2⟩
                      refine (look_f HMw.out key HK.out).mono ?_
                      rintro e w4 ⟨v4, y4, rfl, hy4, rfl⟩
                      have hle : ¬ ((S2.l.length : Int) > q) := by have := HMw.out.ok.2.1; have := HC2.out.2; omega
                      obtain ⟨nn, hnn⟩ : ∃ nn : Nat, S2.l.length = nn := ⟨_, rfl⟩
                      have HNN := Lib.hid hnn
                      rw [hnn] at hle
                      clear hnn
                      by_cases hlen : (lw : Int) < q
                      · have hf := HRr.out.fnd HMw.out.ok (by rw [HLw.out, HC2.out.2]; exact hlen)
                        rw [hf] at hy4
                        obtain ⟨rfl, rfl⟩ := Prod.mk.inj hy4
                        have h77 : ((77 : Int) != 77) = false := rfl
                        have hnl : ¬ (lw : Int) ≥ q := by omega
                        clear hy4 hf
                        go_wp2_with fail
                        refine (len_f HMw.out).mono ?_
                        rintro e w5 ⟨rfl, rfl⟩
                        rw [HNN.out]
                        go_wp2_with fail
                        go_roundg (ga - 1)
                        case measure => have := HG.out.2; omega
                        case rel => exact ⟨i + 1, S2, F2, (O ++ [x.k]), by simp, HMw.out, HF2.out, HBw.out, HOw.out, Lib.hid ⟨HRr.out, HND2.out, by rw [HLw.out]; exact hlen⟩, HC2, Lib.hid ⟨by omega, by have := HG.out.2; omega⟩⟩
                      · have hnl : (lw : Int) ≥ q := by omega
                        clear hy4
                        go_wp2_with fail
                        refine (len_f HMw.out).mono ?_
                        rintro e w5 ⟨rfl, rfl⟩
                        rw [HNN.out]
                        have HNE := HRn
                        have HMf := HMw
                        have HMo : Hid (S2.most = q) := Lib.hid HC2.out.2
                        have HBe := HBw
                        go_wp2_with fail
                        refine (len_f HMf.out).mono ?_
                        rintro e wq ⟨rfl, rfl⟩
                        have hge : (((S2.l.length : Nat) : Int) ≥ 1) := by have := HNE.out; have := List.length_pos_iff.2 this; omega
                        have hle : (((S2.l.length : Nat) : Int) ≤ q) := by have := HMf.out.ok.2.1; have := HMo.out; omega
                        obtain ⟨nn, hnn⟩ : ∃ nn : Nat, S2.l.length = nn := ⟨_, rfl⟩
                        rw [hnn] at hge hle ⊢
                        go_wp2_with fail
                        refine (len_f HMf.out).mono ?_
                        rintro e wq ⟨rfl, rfl⟩
                        rw [hnn]
                        go_wp2_with fail
                        refine alive_any.mono ?_
                        rintro e w9 ⟨rfl, hb9⟩
                        go_wp2_with fail
                        go_ret
                        exact ⟨rfl, below_step HBe.out hb9⟩
              · have hk3 : (kk == 0) = false := by simpa using k0
                go_wp2_with fail
                refine (get_f HMa.out x.k HX.out (by have := HC.out.1.1; omega) (by have := HC.out.1.2.1; omega)).mono ?_
                rintro e w2 ⟨v1, y1, rfl, hy1, hl⟩
                obtain ⟨F2, hM2, hF2, hb2⟩ := hl.step HF.out HB.out
                have HM2 := Lib.hid hM2
                have HF2 := Lib.hid hF2
                have HB2 := Lib.hid hb2
                have hac2 := hl.kept HAC.out HNA.out
                have HO2 : Hid (OI w2 w.heap.size u11 O) := Lib.hid (by
                  obtain ⟨F', _, ho, _⟩ := hl
                  exact HOa.out.only ho (HMa.out.sep_row HOa.out).symm)
                have HC2 : Hid (Cn (S.get x.k) (np + 1 + (i + 1 : Nat)) ∧ (S.get x.k).most = q) := Lib.hid ⟨by have := HC.out.1.get x.k; rw [show ((np : Int) + 1 + ((i + 1 : Nat) : Int)) = np + 1 + i + 1 by omega]; exact this, by rw [get_most]; exact HC.out.2⟩
                cases hfn : fnd S.l x.k with
                | none =>
                  rw [hfn] at hy1
                  obtain ⟨rfl, rfl⟩ := Prod.mk.inj hy1
                  have HR2 : Hid (Rec (S.get x.k) key O) := Lib.hid (HR.out.1.miss hfn)
                  have HR3 : Hid (O.Nodup ∧ (O.length : Int) < q) := Lib.hid HR.out.2
                  clear hy1 hfn hM2 hF2 hb2 hl HMa HF HB HOa HR HC HAC HNA hac2 h0 h1 h2 h3 HO1 HB1
                  go_wp2_with fail
                  go_roundg (gk - 1)
                  case measure => have := HG.out.2; omega
                  case rel => exact ⟨i + 1, S.get x.k, F2, O, by simp, HM2.out, HF2.out, HB2.out, HO2.out, Lib.hid ⟨HR2.out, HR3.out⟩, HC2, Lib.hid ⟨by omega, by have := HG.out.2; omega⟩⟩
                | some vf =>
                  rw [hfn] at hy1
                  obtain ⟨rfl, rfl⟩ := Prod.mk.inj hy1
                  have HR2 : Hid (Rec (S.get x.k) key (addK O x.k)) := Lib.hid (HR.out.1.get hk hfn)
                  have c1 := cell_of_row w2 _ 1 _ _ _ hac2
                  simp only [List.getElem?_toArray, List.getElem?_cons_zero, List.getElem?_cons_succ] at c1
                  obtain ⟨S2, hS2⟩ : ∃ S2, S.get x.k = S2 := ⟨_, rfl⟩
                  rw [hS2] at HM2 HR2 HC2
                  clear hy1 hfn hM2 hF2 hb2 hl HMa HF HB HOa HR HC HAC HNA hac2 hS2 h0 h1 h2 h3 HO1 HB1
                  generalize wr.heap.size = ac at *
                  have hno := HO2.out.reads
                  obtain ⟨A11, c11, rfl, hrd⟩ := hno
                  obtain ⟨lo, hlo⟩ : ∃ lo : Nat, O.length = lo := ⟨_, rfl⟩
                  have HLO := Lib.hid hlo
                  rw [hlo] at hrd HO2 ⊢
                  obtain ⟨ga, hga⟩ : ∃ ga, ga = gk := ⟨_, rfl⟩
                  subst hga
                  have hlo9 : (lo : Int) ≤ 4096 := by have := HLT.out; omega
                  go_wp2_with fail
                  go_loopg [16, 88] lo (fun gk v16 v88 w' => ∃ (j : Nat) (bk : Bool), v88 = .int .i64 (j : Int) ∧ v16 = .bool bk ∧ Hid (bk = decide (x.k ∈ O.take j)) ∧ w2 = w' ∧ Hid (j ≤ lo ∧ gk = lo - j))
                  case atStart => exact ⟨0, false, rfl, rfl, by show _ = _; simp, rfl, by show _ ∧ _; omega⟩
                  case round =>
                    obtain ⟨j, bk, rfl, rfl, HBK, hww, HJ⟩ := hrel
                    subst hww
                    by_cases hj : j < lo
                    · obtain ⟨bd, rfl, hcl⟩ := hrd.2.2 (by omega)
                      have hcj := hcl j hj
                      have hj2 : (j : Int) < (lo : Int) := by omega
                      obtain ⟨y, hy⟩ : ∃ y, O.getD j 0 = y := ⟨_, rfl⟩
                      rw [hy] at hcj
                      have HY : Hid (O[j]? = some y) := Lib.hid (by
                        have : j < O.length := by have := HLO.out; omega
                        rw [← hy, List.getD_eq_getElem?_getD, List.getElem?_eq_getElem this]; rfl)
                      clear hcl hrd hy
                      cases bk with
                      | true =>
                        go_wp2_with fail
                        go_roundg (gk - 1)
                        case measure => have := HJ.out.2; omega
                        case rel =>
                          refine ⟨j + 1, true, by simp, rfl, ?_, rfl, Lib.hid ⟨by omega, by have := HJ.out.2; omega⟩⟩
                          have h1 := HBK.out
                          refine Lib.hid ?_
                          rw [snoc HY.out]
                          simp at h1 ⊢
                          exact .inl h1
                      | false =>
                        by_cases he : y = x.k
                        · have he2 : (y == x.k) = true := by simpa using he
                          go_wp2_with fail
                          go_roundg (gk - 1)
                          case measure => have := HJ.out.2; omega
                          case rel =>
                            refine ⟨j + 1, true, by simp, rfl, ?_, rfl, Lib.hid ⟨by omega, by have := HJ.out.2; omega⟩⟩
                            refine Lib.hid ?_
                            rw [snoc HY.out, he]
                            simp
                        · have he2 : (y == x.k) = false := by simpa using he
                          go_wp2_with fail
                          go_roundg (gk - 1)
                          case measure => have := HJ.out.2; omega
                          case rel =>
                            refine ⟨j + 1, false, by simp, rfl, ?_, rfl, Lib.hid ⟨by omega, by have := HJ.out.2; omega⟩⟩
                            have h1 := HBK.out
                            refine Lib.hid ?_
                            rw [snoc HY.out]
                            simp at h1 ⊢
                            exact ⟨h1, fun e => he e.symm⟩
                    · have hj2 : ¬ (j : Int) < (lo : Int) := by omega
                      have hbk : bk = decide (x.k ∈ O) := by have := HBK.out; rw [this, all_of (by have := HLO.out; omega)]
                      clear HBK hrd
                      by_cases hmem : x.k ∈ O
                      · obtain rfl : bk = true := by rw [hbk]; simpa using hmem
                        have hadd : addK O x.k = O := by unfold addK; rw [if_pos hmem]
                        rw [hadd] at HR2
                        have HND2 := HND
                        clear hbk hadd
                        go_wp2_with fail
                        have HMw := HM2
                        have HBw := HB2
                        have HOw := HO2
                        have HLw := HLO
                        obtain ⟨HRn, HRr⟩ : Hid (S2.l ≠ []) ∧ Hid (Rec S2 key O) := ⟨Lib.hid HR2.out.1, HR2⟩
                        refine (look_f HMw.out key HK.out).mono ?_
                        rintro e w4 ⟨v4, y4, rfl, hy4, rfl⟩
                        have hle : ¬ ((S2.l.length : Int) > q) := by have := HMw.out.ok.2.1; have := HC2.out.2; omega
                        obtain ⟨nn, hnn⟩ : ∃ nn : Nat, S2.l.length = nn := ⟨_, rfl⟩
                        have HNN := Lib.hid hnn
                        rw [hnn] at hle
                        clear hnn
                        by_cases hlen : (lo : Int) < q
                        · have hf := HRr.out.fnd HMw.out.ok (by rw [HLw.out, HC2.out.2]; exact hlen)
                          rw [hf] at hy4
                          obtain ⟨rfl, rfl⟩ := Prod.mk.inj hy4
                          have h77 : ((77 : Int) != 77) = false := rfl
                          have hnl : ¬ (lo : Int) ≥ q := by omega
                          clear hy4 hf
                          go_wp2_with fail
                          refine (len_f HMw.out).mono ?_
                          rintro e w5 ⟨rfl, rfl⟩
                          rw [HNN.out]
                          go_wp2_with fail
                          go_roundg (ga - 1)
                          case measure => have := HG.out.2; omega
                          case rel => exact ⟨i + 1, S2, F2, O, by simp, HMw.out, HF2.out, HBw.out, HOw.out, Lib.hid ⟨HRr.out, HND2.out, by rw [HLw.out]; exact hlen⟩, HC2, Lib.hid ⟨by omega, by have := HG.out.2; omega⟩⟩
                        · have hnl : (lo : Int) ≥ q := by omega
                          clear hy4
                          go_wp2_with fail
                          refine (len_f HMw.out).mono ?_
                          rintro e w5 ⟨rfl, rfl⟩
                          rw [HNN.out]
                          have HNE := HRn
                          have HMf := HMw
                          have HMo : Hid (S2.most = q) := Lib.hid HC2.out.2
                          have HBe := HBw
                          go_wp2_with fail
                          refine (len_f HMf.out).mono ?_
                          rintro e wq ⟨rfl, rfl⟩
                          have hge : (((S2.l.length : Nat) : Int) ≥ 1) := by have := HNE.out; have := List.length_pos_iff.2 this; omega
                          have hle : (((S2.l.length : Nat) : Int) ≤ q) := by have := HMf.out.ok.2.1; have := HMo.out; omega
                          obtain ⟨nn, hnn⟩ : ∃ nn : Nat, S2.l.length = nn := ⟨_, rfl⟩
                          rw [hnn] at hge hle ⊢
                          go_wp2_with fail
                          refine (len_f HMf.out).mono ?_
                          rintro e wq ⟨rfl, rfl⟩
                          rw [hnn]
                          go_wp2_with fail
                          refine alive_any.mono ?_
                          rintro e w9 ⟨rfl, hb9⟩
                          go_wp2_with fail
                          go_ret
                          exact ⟨rfl, below_step HBe.out hb9⟩
                      · obtain rfl : bk = false := by rw [hbk]; simpa using hmem
                        have hadd : addK O x.k = O ++ [x.k] := by unfold addK; rw [if_neg hmem]
                        have HND2 : Hid ((addK O x.k).Nodup) := Lib.hid (addK_nodup HND.out)
                        rw [hadd] at HR2 HND2
                        clear hbk hadd
                        have hown := HO2.out
                        unfold OI at hown
                        have hl8 : (O.length + 1) * 8 ≤ 140737488355328 := by have := HLT.out; omega
                        go_wp2_with (at_builtin; refine print_append_num (w0 := w) w.heap.size rfl (.tmp 102) (.tmp 105) 28 3 .i64 8 rfl Try.underlying28 int_info (by decide) _ _ x.k rfl rfl hown HB2.out HB2.out.size hl8 ?_; intro v12 w3 hown3 hb3 hg3 hat3)
                        have ho3 : Only w2 w3 (rf (.slice A11 lo c11)) := (Only.refl _ _).grown hg3 (fun k e => .inl e)
                        have HMw : Hid (Mf w3 m S2 F2) := Lib.hid (HM2.out.only ho3 (HM2.out.sep_row HO2.out))
                        have HBw := Lib.hid hb3
                        have hO3 : OI w3 w.heap.size v12 (O ++ [x.k]) := hown3
                        have HOw := Lib.hid hO3
                        obtain ⟨A12, c12, rfl, _⟩ := hO3.reads
                        obtain ⟨lw, hlw⟩ : ∃ lw : Nat, (O ++ [x.k]).length = lw := ⟨_, rfl⟩
                        have HLw := Lib.hid hlw
                        rw [hlw] at HOw ⊢
                        clear ho3 hb3 hO3 hown3 hlw hg3 hat3 hown hl8
                        obtain ⟨HRn, HRr⟩ : Hid (S2.l ≠ []) ∧ Hid (Rec S2 key (O ++ [x.k])) := ⟨Lib.hid HR2.out.1, HR2⟩
                        refine (look_f HMw.out key HK.out).mono ?_
                        rintro e w4 ⟨v4, y4, rfl, hy4, rfl⟩
                        have hle : ¬ ((S2.l.length : Int) > q) := by have := HMw.out.ok.2.1; have := HC2.out.2; omega
                        obtain ⟨nn, hnn⟩ : ∃ nn : Nat, S2.l.length = nn := ⟨_, rfl⟩
                        have HNN := Lib.hid hnn
                        rw [hnn] at hle
                        clear hnn
                        by_cases hlen : (lw : Int) < q
                        · have hf := HRr.out.fnd HMw.out.ok (by rw [HLw.out, HC2.out.2]; exact hlen)
                          rw [hf] at hy4
                          obtain ⟨rfl, rfl⟩ := Prod.mk.inj hy4
                          have h77 : ((77 : Int) != 77) = false := rfl
                          have hnl : ¬ (lw : Int) ≥ q := by omega
                          clear hy4 hf
                          go_wp2_with fail
                          refine (len_f HMw.out).mono ?_
                          rintro e w5 ⟨rfl, rfl⟩
                          rw [HNN.out]
                          go_wp2_with fail
                          go_roundg (ga - 1)
                          case measure => have := HG.out.2; omega
                          case rel => exact ⟨i + 1, S2, F2, (O ++ [x.k]), by simp, HMw.out, HF2.out, HBw.out, HOw.out, Lib.hid ⟨HRr.out, HND2.out, by rw [HLw.out]; exact hlen⟩, HC2, Lib.hid ⟨by omega, by have := HG.out.2; omega⟩⟩
                        · have hnl : (lw : Int) ≥ q := by omega
                          clear hy4
                          go_wp2_with fail
                          refine (len_f HMw.out).mono ?_
                          rintro e w5 ⟨rfl, rfl⟩
                          rw [HNN.out]
                          have HNE := HRn
                          have HMf := HMw
                          have HMo : Hid (S2.most = q) := Lib.hid HC2.out.2
                          have HBe := HBw
                          go_wp2_with fail
                          refine (len_f HMf.out).mono ?_
                          rintro e wq ⟨rfl, rfl⟩
                          have hge : (((S2.l.length : Nat) : Int) ≥ 1) := by have := HNE.out; have := List.length_pos_iff.2 this; omega
                          have hle : (((S2.l.length : Nat) : Int) ≤ q) := by have := HMf.out.ok.2.1; have := HMo.out; omega
                          obtain ⟨nn, hnn⟩ : ∃ nn : Nat, S2.l.length = nn := ⟨_, rfl⟩
                          rw [hnn] at hge hle ⊢
                          go_wp2_with fail
                          refine (len_f HMf.out).mono ?_
                          rintro e wq ⟨rfl, rfl⟩
                          rw [hnn]
                          go_wp2_with fail
                          refine alive_any.mono ?_
                          rintro e w9 ⟨rfl, hb9⟩
                          go_wp2_with fail
                          go_ret
                          exact ⟨rfl, below_step HBe.out hb9⟩
          · have hi2 : ¬ (i : Int) < (np : Int) := by omega
            have HMf := Lib.hid hM
            have HBe := Lib.hid hb1
            have HNE : Hid (S.l ≠ []) := Lib.hid HR.out.1.1
            have HMo : Hid (S.most = q) := Lib.hid HC.out.2
            clear hM hF hb1 hO HR HC HG
            go_wp2_with fail
            refine (len_f HMf.out).mono ?_
            rintro e wq ⟨rfl, rfl⟩
            have hge : (((S.l.length : Nat) : Int) ≥ 1) := by have := HNE.out; have := List.length_pos_iff.2 this; omega
            have hle : (((S.l.length : Nat) : Int) ≤ q) := by have := HMf.out.ok.2.1; have := HMo.out; omega
            obtain ⟨nn, hnn⟩ : ∃ nn : Nat, S.l.length = nn := ⟨_, rfl⟩
            rw [hnn] at hge hle ⊢
            go_wp2_with fail
            refine (len_f HMf.out).mono ?_
            rintro e wq ⟨rfl, rfl⟩
            rw [hnn]
            go_wp2_with fail
            refine alive_any.mono ?_
            rintro e w9 ⟨rfl, hb9⟩
            go_wp2_with fail
            go_ret
            exact ⟨rfl, below_step HBe.out hb9⟩
  · clear hA
    go_wp2_with fail
    refine (new_badI q (by omega)).mono ?_
    rintro e w1 ⟨rfl, rfl⟩
    by_cases h1 : q < 1
    · have b1 : decide (q < 1) = true := by simpa using h1
      clear hroom h1
      go_wp2_with fail
      refine alive_any.mono ?_
      rintro e w9 ⟨rfl, hb9⟩
      go_wp2_with fail
      go_ret
      exact ⟨rfl, hb9⟩
    · have b1 : decide (q < 1) = false := by simpa using h1
      have b2 : decide (q > 4096) = true := by simp; omega
      clear hroom h1
      go_wp2_with fail
      refine alive_any.mono ?_
      rintro e w9 ⟨rfl, hb9⟩
      go_wp2_with fail
      go_ret
      exact ⟨rfl, hb9⟩
end Go.Proofs.Ytdhaoodkelehpaa
end
