/- Contracts of functions that the laws reach (texts laid together, part 8): each says of its call what it answers and what it leaves of memory; the conditions stand in each statement. -/
import Derived.Test.YtdhaoodkelehpaaMb1
import Derived.Test.YtdhaoodkelehpaaMb7
import Derived.Test.YtdhaoodkelehpaaMb6
set_option linter.unusedVariables false
set_option linter.unusedSimpArgs false
set_option linter.unusedSectionVars false
set_option linter.unnecessarySimpa false
/-! Three scripts and keys, opened. -/
section
set_option linter.unusedVariables false
namespace Go.Proofs.Ytdhaoodkelehpaa
open Go.ChangeShapes Go.WideShapes Go.RowKit Go.Kit Go.Deep Go.Proofs.YtdhaoodkelehpaaW.PrintWords
theorem open_three {H : Type} {enc : TypeId × Value → H} {W : World} {base : Nat} {r : Reach} {v : Value} {d : DataW H} {ps : List MemPlace}
    (hv : Value.okWide Try.prog W r base 44 v) (h : DataW.Trod enc Try.prog W 0 (fun _ => true) true 44 v d ps) (hw : Wt Try.prog 44 d) :
    ∃ mo nn A1 n1 c1 L1 A2 n2 c2 L2 A3 n3 c3 L3 A n c xs, v = .agg #[.int .i64 mo, .int .i64 nn, .slice A1 n1 c1, .slice A2 n2 c2, .slice A3 n3 c3, .slice A n c] ∧ I6 mo ∧ I6 nn ∧ LA W A1 n1 L1 ∧ LA W A2 n2 L2 ∧ LA W A3 n3 L3 ∧ IR W A n xs ∧ n ≤ c ∧ n * 8 ≤ 140737488351232 := by
  obtain ⟨cs, parts, rfl, hl, rfl, hfs⟩ := open_fields Try.underlying44 hv h
  rw [show Try.prog.cellsOf 44 = 6 from by kernel_rfl] at hl
  have c1 : Try.prog.cellsOf 3 = 1 := by kernel_rfl
  have c2 : Try.prog.cellsOf 22 = 1 := by kernel_rfl
  have c3 : Try.prog.cellsOf 28 = 1 := by kernel_rfl
  obtain ⟨n0, y0, z0, _, _⟩ := hfs 0 3 0 rfl
  obtain ⟨n1, y1, z1, _, _⟩ := hfs 1 3 1 rfl
  obtain ⟨n2, y2, z2, p2, t2⟩ := hfs 2 22 2 rfl
  obtain ⟨n3, y3, z3, p3, t3⟩ := hfs 3 22 3 rfl
  obtain ⟨n4, y4, z4, p4, t4⟩ := hfs 4 22 4 rfl
  obtain ⟨n5, y5, z5, p5, t5⟩ := hfs 5 28 5 rfl
  rw [c1] at z0 z1
  rw [c2] at z2 z3 z4
  rw [c3] at z5
  obtain ⟨mo, e0, _, g0⟩ := DataW.trod_int Try.underlying3 z0
  obtain ⟨nn, e1, _, g1⟩ := DataW.trod_int Try.underlying3 z1
  obtain ⟨A1, m1, k1, L1, e2, r1⟩ := read_lacts z2 (hw.field Try.underlying44 t2 p2)
  obtain ⟨A2, m2, k2, L2, e3, r2⟩ := read_lacts z3 (hw.field Try.underlying44 t3 p3)
  obtain ⟨A3, m3, k3, L3, e4, r3⟩ := read_lacts z4 (hw.field Try.underlying44 t4 p4)
  obtain ⟨A, m, k, xs, e5, r, hmk, hb⟩ := read_ints z5
  have hm := hb (hw.field Try.underlying44 t5 p5)
  match cs, hl with
  | [x0, x1, x2, x3, x4, x5], _ =>
    simp at e0 e1 e2 e3 e4 e5
    subst e0 e1 e2 e3 e4 e5
    exact ⟨mo, nn, A1, m1, k1, L1, A2, m2, k2, L2, A3, m3, k3, L3, A, m, k, xs, rfl, i6_wf g0, i6_wf g1, r1, r2, r3, r, hmk, hm⟩
end Go.Proofs.Ytdhaoodkelehpaa
end
/-! The walk of LruCopies. -/
section
set_option linter.unusedVariables false
namespace Go.Proofs.Ytdhaoodkelehpaa
open Go.RowKit Go.Kit Go.Proofs.YtdhaoodkelehpaaW.PrintWords
theorem cos_set5 {w W : World} (h : Below w.heap.size w W) {g : Nat} (hg : w.heap.size ≤ g) (a b c d e : Value) : Below w.heap.size w (((((W.setCell ⟨g, 0, none⟩ a).setCell ⟨g, 1, none⟩ b).setCell ⟨g, 2, none⟩ c).setCell ⟨g, 3, none⟩ d).setCell ⟨g, 4, none⟩ e) :=
  ((((Below.setCell h (p := ⟨g, 0, none⟩) hg a).setCell (p := ⟨g, 1, none⟩) hg b).setCell (p := ⟨g, 2, none⟩) hg c).setCell (p := ⟨g, 3, none⟩) hg d).setCell (p := ⟨g, 4, none⟩) hg e
/-- A memo of the document is built. -/
theorem qs_build {W : World} {g base : Nat} {a0 a1 a2 a3 a4 v : Value} {S : Sp Int} (hz : W.heap[g]? = some (.cells #[a0, a1, a2, a3, a4] QT (0, 0))) (ho : W.ownsRow base PT 2 v S.l.length (prs S.l)) (hl : S.l.length ≤ 5000) :
    QS (((((W.setCell ⟨g, 0, none⟩ (.int .i64 S.most)).setCell ⟨g, 1, none⟩ v).setCell ⟨g, 2, none⟩ (.int .i64 S.hi)).setCell ⟨g, 3, none⟩ (.int .i64 S.mi)).setCell ⟨g, 4, none⟩ (.int .i64 S.go)) g v S := by
  have b1 := heap_set_same W g 0 _ _ (.int .i64 S.most) hz
  have b2 := heap_set_same _ g 1 _ _ v b1
  have b3 := heap_set_same _ g 2 _ _ (.int .i64 S.hi) b2
  have b4 := heap_set_same _ g 3 _ _ (.int .i64 S.mi) b3
  have b5 := heap_set_same _ g 4 _ _ (.int .i64 S.go) b4
  refine ⟨b5, ?_, hl⟩
  refine own_less (own_only ho (((((Only.refl W (fun k => k = g)).set g 0 _ (.inl rfl)).set g 1 _ (.inl rfl)).set g 2 _ (.inl rfl)).set g 3 _ (.inl rfl) |>.set g 4 _ (.inl rfl)) (fun k hk e => ?_)) (Nat.zero_le _)
  obtain ⟨_, _, cur, hc⟩ := own_blk ho hk
  rw [e] at hc
  exact absurd (not_both hc hz) (by decide)
theorem two_pq {wr w5 w7 : World} {m q m2 p : Nat} {S : Sp Int} {F F2 : Nat → Prop} {v v6 : Value} (hM : Mf wr m S F) (hQ : QS wr q v S) (hF : Sep F (qf q v)) (hb5 : Below wr.heap.size wr w5) (hM2 : Mf w5 m2 S F2) (hF2 : ∀ k, F2 k → wr.heap.size ≤ k) (hb7 : Below w5.heap.size w5 w7) (hQ7 : QS w7 p v6 S) (hp : ∀ k, qf p v6 k → w5.heap.size ≤ k) :
    ∃ H K, PQ w7 m q S H ∧ PQ w7 m2 p S K ∧ Sep H K ∧ (∀ k, H k → F k ∨ qf q v k) ∧ (∀ k, K k → wr.heap.size ≤ k) := by
  have hb := below_step hb5 hb7
  have s5 := hb5.size
  have o2 := hM2.old
  have hK : ∀ k, (F2 k ∨ qf p v6 k) → wr.heap.size ≤ k := fun k hk => hk.elim (hF2 k) (fun e => Nat.le_trans s5 (hp k e))
  refine ⟨_, _, ⟨F, v, hM.below hb, hQ.below hb, hF, rfl⟩, ⟨F2, v6, hM2.below hb7, hQ7, fun k hk e => ?_, rfl⟩, fun k hk e => ?_, fun k hk => hk, hK⟩
  · have := o2 k hk
    have := hp k e
    omega
  · have h1 : k < wr.heap.size := hk.elim (hM.old k) (hQ.old k)
    have := hK k e
    omega
/-- Two memos and the document's two. -/
def CcRel (w : World) (m q m2 p : Nat) (n1 N : Nat) (gk : Nat) (vi : Value) (W : World) : Prop :=
  ∃ (i : Nat) (S T : Sp Int) (H K : Nat → Prop), vi = .int .i64 (i : Int) ∧ PQ W m q S H ∧ PQ W m2 p T K ∧ Sep H K ∧ (∀ k, H k → w.heap.size ≤ k) ∧ (∀ k, K k → w.heap.size ≤ k) ∧ Below w.heap.size w W ∧ Hid (Cz S (n1 + i) ∧ Cz T (n1 + i)) ∧ Hid (i ≤ N ∧ gk = N - i)
theorem PLft.pair {w0 W w1 : World} {m q m2 p : Nat} {S T : Sp Int} {H K : Nat → Prop} (h : PLft W m q H S w1) (h2 : PQ W m2 p T K) (hs : Sep H K) (hH : ∀ k, H k → w0.heap.size ≤ k) (hb : Below w0.heap.size w0 W) :
    ∃ H', PQ w1 m q S H' ∧ PQ w1 m2 p T K ∧ Sep H' K ∧ (∀ k, H' k → w0.heap.size ≤ k) ∧ Below w0.heap.size w0 w1 := by
  obtain ⟨H', hP, ho, hn⟩ := h
  exact ⟨H', hP, h2.only ho hs.symm, hs.onto hn h2.old, fun k hk => (hn k hk).elim (hH k) (fun e => Nat.le_trans hb.size e), Below.only hb ho hb.size hH⟩
theorem cc_start {w W : World} {m q m2 p n1 N : Nat} {S : Sp Int} {H K : Nat → Prop} (hP : PQ W m q S H) (hP2 : PQ W m2 p S K) (hs : Sep H K) (hH : ∀ k, H k → w.heap.size ≤ k) (hK : ∀ k, K k → w.heap.size ≤ k) (hb : Below w.heap.size w W) (hC : Cz S (n1 : Int)) : CcRel w m q m2 p n1 N N (.int .i64 0) W :=
  ⟨0, S, S, H, K, rfl, hP, hP2, hs, hH, hK, hb, Lib.hid (by simpa using hC), Lib.hid ⟨Nat.zero_le _, rfl⟩⟩
set_option maxHeartbeats 8000000 in
set_option maxRecDepth 100000 in
theorem LruCopies_walk (n nn : Int) (A1 : Option Addr) (n1 c1 : Nat) (L1 : List Lc) (A2 : Option Addr) (n2 c2 : Nat) (L2 : List Lc) (A3 : Option Addr) (n3 c3 : Nat) (L3 : List Lc) (A4 : Option Addr) (n4 c4 : Nat) (w : World) (hA1 : LA w A1 n1 L1) (hA2 : LA w A2 n2 L2) (hA3 : LA w A3 n3 L3) :
    Calls Try.prog 9 #[.agg #[.int .i64 n, .int .i64 nn, .slice A1 n1 c1, .slice A2 n2 c2, .slice A3 n3 c3, .slice A4 n4 c4]] w fun e w' => e = .returned (.bool true) ∧ Below w.heap.size w w' := by
  have hmx1 := hA1.max
  have hmx2 := hA2.max
  have hmx3 := hA3.max
  have hba := below_alloc (Below.refl w.heap.size w) (.cells #[.int .i64 n, .int .i64 nn, .slice A1 n1 c1, .slice A2 n2 c2, .slice A3 n3 c3, .slice A4 n4 c4] 44)
  have hac := heap_alloc_new w (.cells #[.int .i64 n, .int .i64 nn, .slice A1 n1 c1, .slice A2 n2 c2, .slice A3 n3 c3, .slice A4 n4 c4] 44)
  go_enter Try.func9, Try.ntmps9
  go_upto_region 1 with (fail)
  generalize w.alloc (.cells #[.int .i64 n, .int .i64 nn, .slice A1 n1 c1, .slice A2 n2 c2, .slice A3 n3 c3, .slice A4 n4 c4] 44) = wa at *
  have k0 := cell_of_row wa _ 0 _ _ _ hac
  have k1 := cell_of_row wa _ 1 _ _ _ hac
  have k2 := cell_of_row wa _ 2 _ _ _ hac
  have k3 := cell_of_row wa _ 3 _ _ _ hac
  have k4 := cell_of_row wa _ 4 _ _ _ hac
  have k5 := cell_of_row wa _ 5 _ _ _ hac
  simp only [List.getElem?_toArray, List.getElem?_cons_zero, List.getElem?_cons_succ] at k0 k1 k2 k3 k4 k5
  go_quiet (fail)
  have hbq := pw_below_drewN hba nq
  clear hba hac k0 k1 k2 k3 k4 k5
  generalize wa.drewN nq = wq at *
  by_cases hroom : 1 ≤ n ∧ n ≤ 4096
  · go_wp2_with fail
    refine (new_f n hroom.1 hroom.2).mono ?_
    rintro e w1 ⟨m, F, rfl, hM, hF, hb1⟩
    go_wp2_with fail
    refine (rnew_any n).mono ?_
    rintro e w2 ⟨rfl, hb2⟩
    simp only [if_pos hroom]
    obtain ⟨H, hP, hH, hb3⟩ := start_pq hroom hM (fun k hk => Nat.le_trans hbq.size (hF k hk)) (below_step hbq hb1) hb2
    have HP := Lib.hid hP
    have HH := Lib.hid hH
    have HB := Lib.hid hb3
    clear hM hF hb1 hb2 hP hH hb3 hbq
    unfold qcells at *
    go_wp2_with fail
    generalize w2.alloc (.cells #[.int .i64 n, .slice none 0 0, .int .i64 0, .int .i64 0, .int .i64 0] QT) = w3 at *
    generalize w2.heap.size = q at *
    refine alive_any.mono ?_
    rintro e w4 ⟨rfl, hb4⟩
    have HS : Hid (PlRel w q n1 n1 (.pointer (some ⟨m, 0, none⟩)) (.int .i64 0) w4) := Lib.hid ⟨0, m, _, H, rfl, rfl, HP.out.below hb4, HH.out, below_step HB.out hb4, Lib.hid ⟨Int.le_refl 0, Int.le_refl 0, Int.le_refl 0⟩, Lib.hid ⟨Nat.zero_le _, rfl⟩⟩
    clear HP HH HB hb4
    go_wp2_with fail
    go_loopg [47] n1 (fun gk vi w' => PlRel w q n1 gk (.pointer (some ⟨m, 0, none⟩)) vi w')
    case atStart => exact HS.out
    case round =>
      clear HS
      obtain ⟨i, m1, S, H1, hm1, rfl, hP, hH, hb, HC, HG⟩ := hrel
      injection hm1 with hm1
      injection hm1 with hm1
      injection hm1 with hm1
      subst hm1
      by_cases hi : i < n1
      · obtain ⟨ad, Ai, ni, ci, x, rfl, h0, h1, h2, h3, hr, f0, f1, f2, hni, hx⟩ := hA1.at0 i hi
        have hi2 : (i : Int) < (n1 : Int) := by omega
        have hi9 : (i : Int) ≤ 140737488351232 := by omega
        have hba := below_alloc (Below.refl wr.heap.size wr) (.cells #[.int .i64 x.kind, .int .i64 x.k, .int .i64 x.v, .slice Ai ni ci] 30)
        have hac := heap_alloc_new wr (.cells #[.int .i64 x.kind, .int .i64 x.k, .int .i64 x.v, .slice Ai ni ci] 30)
        have HB := Lib.hid (below_step hb hba)
        have HR : Hid (IR w Ai ni x.keys) := Lib.hid hr
        replace h0 := pw_cell_below hb h0
        replace h1 := pw_cell_below hb h1
        replace h2 := pw_cell_below hb h2
        replace h3 := pw_cell_below hb h3
        have HP := Lib.hid (hP.below hba)
        have HH := Lib.hid hH
        have HX : Hid ((I6 x.k ∧ I6 x.v ∧ I6 x.kind) ∧ ni ≤ 140737488351232) := Lib.hid ⟨⟨f1, f2, f0⟩, hni⟩
        clear hP hH hb hba hac hr f0 f1 f2 hni hx
        go_wp2_with fail
        refine (does_any HP.out x Ai ni ci HX.out.1 (fun W ho => HR.out.below (Below.only HB.out ho HB.out.size HH.out)) HX.out.2 i (by omega) HC.out).mono ?_
        rintro e w6 ⟨rfl, hl⟩
        obtain ⟨H6, hP6, hH6, hb6⟩ := hl.step HH.out HB.out
        have HC6 := Lib.hid (act_cz HP.out.ok HC.out (by omega) x)
        clear hl h0 h1 h2 h3
        go_wp2_with fail
        go_roundg (gk - 1)
        case rel => exact ⟨i + 1, m, _, H6, rfl, rfl, hP6, hH6, hb6, HC6, Lib.hid ⟨by omega, by have := HG.out.2; omega⟩⟩
        case measure => have := HG.out.2; omega
      · obtain rfl : n1 = i := by have := HG.out.1; omega
        obtain ⟨F, v, hM, hQ, hF, rfl⟩ := hP
        have HM := Lib.hid hM
        have HQ := Lib.hid hQ
        have HF := Lib.hid hF
        have HH := Lib.hid hH
        have HB := Lib.hid hb
        clear hM hQ hF hH hb
        go_wp2_with fail
        refine (copy_any HM.out).mono ?_
        rintro e w5 ⟨m2, F2, rfl, hM2, hF2, hb5⟩
        have HM2 := Lib.hid hM2
        have HF2 := Lib.hid hF2
        have HQ5 := Lib.hid (HQ.out.below hb5)
        have HM5 := Lib.hid hb5
        have HB5 := Lib.hid (below_step HB.out hb5)
        have HSZ : Hid (wr.heap.size ≤ w5.heap.size) := Lib.hid hb5.size
        obtain ⟨A, c, rfl, hr, hc⟩ := HQ5.out.reads
        have g0 := HQ5.out.c0
        have g1 := HQ5.out.c1
        have g2 := HQ5.out.c2
        have g3 := HQ5.out.c3
        have g4 := HQ5.out.c4
        have HFI : Hid (S.l.length ≤ 5000) := Lib.hid HQ5.out.fit
        obtain ⟨N, hN⟩ : ∃ N, S.l.length = N := ⟨_, rfl⟩
        rw [hN] at g1 hr
        have HN := Lib.hid hN
        have HR := Lib.hid hr
        clear hM2 hF2 hb5 hc hN hr
        go_wp2_with fail
        go_region_held3 (fun W => (W.cell? ⟨q, 0, none⟩ = some (.int .i64 S.most) ∧ W.cell? ⟨q, 1, none⟩ = some (.slice A N c) ∧ W.cell? ⟨q, 2, none⟩ = some (.int .i64 S.hi) ∧ W.cell? ⟨q, 3, none⟩ = some (.int .i64 S.mi) ∧ W.cell? ⟨q, 4, none⟩ = some (.int .i64 S.go)) ∧ Below w5.heap.size w5 W)
          (first
            | with_reducible exact ⟨⟨pw_cell_below (below_drew (Below.refl _ _)) g0, pw_cell_below (below_drew (Below.refl _ _)) g1, pw_cell_below (below_drew (Below.refl _ _)) g2, pw_cell_below (below_drew (Below.refl _ _)) g3, pw_cell_below (below_drew (Below.refl _ _)) g4⟩, below_drew (Below.refl _ _)⟩
            | with_reducible exact ⟨⟨pw_cell_below (hs6) g0, pw_cell_below (hs6) g1, pw_cell_below (hs6) g2, pw_cell_below (hs6) g3, pw_cell_below (hs6) g4⟩, hs6⟩
            | with_reducible exact ⟨⟨pw_cell_below (below_drew (below_alloc (Below.refl _ _) _)) g0, pw_cell_below (below_drew (below_alloc (Below.refl _ _) _)) g1, pw_cell_below (below_drew (below_alloc (Below.refl _ _) _)) g2, pw_cell_below (below_drew (below_alloc (Below.refl _ _) _)) g3, pw_cell_below (below_drew (below_alloc (Below.refl _ _) _)) g4⟩, below_drew (below_alloc (Below.refl _ _) _)⟩
            | with_reducible exact ⟨⟨pw_cell_below (below_step hs6 (below_alloc (Below.refl _ _) _)) g0, pw_cell_below (below_step hs6 (below_alloc (Below.refl _ _) _)) g1, pw_cell_below (below_step hs6 (below_alloc (Below.refl _ _) _)) g2, pw_cell_below (below_step hs6 (below_alloc (Below.refl _ _) _)) g3, pw_cell_below (below_step hs6 (below_alloc (Below.refl _ _) _)) g4⟩, below_step hs6 (below_alloc (Below.refl _ _) _)⟩
            | with_reducible exact ⟨⟨pw_cell_below (cos_set5 hs6 (Nat.le_refl _) _ _ _ _ _) g0, pw_cell_below (cos_set5 hs6 (Nat.le_refl _) _ _ _ _ _) g1, pw_cell_below (cos_set5 hs6 (Nat.le_refl _) _ _ _ _ _) g2, pw_cell_below (cos_set5 hs6 (Nat.le_refl _) _ _ _ _ _) g3, pw_cell_below (cos_set5 hs6 (Nat.le_refl _) _ _ _ _ _) g4⟩, cos_set5 hs6 (Nat.le_refl _) _ _ _ _ _⟩
            | with_reducible exact ⟨⟨pw_cell_below (cos_set5 (below_step hs6 (below_alloc (Below.refl _ _) _)) (Below.size hs6) _ _ _ _ _) g0, pw_cell_below (cos_set5 (below_step hs6 (below_alloc (Below.refl _ _) _)) (Below.size hs6) _ _ _ _ _) g1, pw_cell_below (cos_set5 (below_step hs6 (below_alloc (Below.refl _ _) _)) (Below.size hs6) _ _ _ _ _) g2, pw_cell_below (cos_set5 (below_step hs6 (below_alloc (Below.refl _ _) _)) (Below.size hs6) _ _ _ _ _) g3, pw_cell_below (cos_set5 (below_step hs6 (below_alloc (Below.refl _ _) _)) (Below.size hs6) _ _ _ _ _) g4⟩, cos_set5 (below_step hs6 (below_alloc (Below.refl _ _) _)) (Below.size hs6) _ _ _ _ _⟩)
          (first
            | (refine at_list rfl ?_; intro Q2 hQ2; at_builtin; go_split_ands; have hs : Below w5.heap.size w5 (World.drew (World.alloc _ _)) := (by with_reducible assumption); refine push_prs _ rfl (.const (.slice none 0 0)) (.tmp 62) LT PT _ rfl Try.underlying45 pair_info (by decide) (.slice none 0 0) 0 N c [] S.l A rfl rfl (World.ownsRow_nil _ _ _ _) (HR.out.below hs) (Below.refl _ _) (Nat.le_refl _) (by have := HN.out; have := HFI.out; omega) ?_; intro v6 w6 hown6 hb6 hg6 ha6; rw [Nat.zero_add, List.nil_append] at hown6; have hs6 := below_step hs hb6; obtain ⟨A6, c6, rfl, _, _⟩ := own_rp hown6; have hz := (hb6.block w5.heap.size (by show w5.heap.size < (w5.alloc _).heap.size; simp)).trans (heap_alloc_new w5 (.cells #[.int .i64 0, .slice none 0 0, .int .i64 0, .int .i64 0, .int .i64 0] QT)); have z0 := cell_of_row w6 _ 0 _ _ _ hz; have y0 := frozen_of_row w6 _ 0 _ _ hz; have z1 := cell_of_row w6 _ 1 _ _ _ hz; have y1 := frozen_of_row w6 _ 1 _ _ hz; have z2 := cell_of_row w6 _ 2 _ _ _ hz; have y2 := frozen_of_row w6 _ 2 _ _ hz; have z3 := cell_of_row w6 _ 3 _ _ _ hz; have y3 := frozen_of_row w6 _ 3 _ _ hz; have z4 := cell_of_row w6 _ 4 _ _ _ hz; have y4 := frozen_of_row w6 _ 4 _ _ hz; simp only [List.getElem?_toArray, List.getElem?_cons_zero, List.getElem?_cons_succ] at z0 z1 z2 z3 z4; refine hQ2 _ _ ?_; clear hQ2 Q2 hg6 ha6)
            | (refine at_list rfl ?_; intro Q2 hQ2; at_builtin; go_split_ands; have hs : Below w5.heap.size w5 (World.drew _) := (by with_reducible assumption); refine push_prs _ rfl (.const (.slice none 0 0)) (.tmp 62) LT PT _ rfl Try.underlying45 pair_info (by decide) (.slice none 0 0) 0 N c [] S.l A rfl rfl (World.ownsRow_nil _ _ _ _) (HR.out.below hs) (Below.refl _ _) (Nat.le_refl _) (by have := HN.out; have := HFI.out; omega) ?_; intro v6 w6 hown6 hb6 hg6 ha6; rw [Nat.zero_add, List.nil_append] at hown6; have hs6 := below_step hs hb6; obtain ⟨A6, c6, rfl, _, _⟩ := own_rp hown6; have hz := heap_alloc_new w6 (.cells #[.int .i64 0, .slice none 0 0, .int .i64 0, .int .i64 0, .int .i64 0] QT); have z0 := cell_of_row (w6.alloc (.cells #[.int .i64 0, .slice none 0 0, .int .i64 0, .int .i64 0, .int .i64 0] QT)) _ 0 _ _ _ hz; have y0 := frozen_of_row (w6.alloc (.cells #[.int .i64 0, .slice none 0 0, .int .i64 0, .int .i64 0, .int .i64 0] QT)) _ 0 _ _ hz; have z1 := cell_of_row (w6.alloc (.cells #[.int .i64 0, .slice none 0 0, .int .i64 0, .int .i64 0, .int .i64 0] QT)) _ 1 _ _ _ hz; have y1 := frozen_of_row (w6.alloc (.cells #[.int .i64 0, .slice none 0 0, .int .i64 0, .int .i64 0, .int .i64 0] QT)) _ 1 _ _ hz; have z2 := cell_of_row (w6.alloc (.cells #[.int .i64 0, .slice none 0 0, .int .i64 0, .int .i64 0, .int .i64 0] QT)) _ 2 _ _ _ hz; have y2 := frozen_of_row (w6.alloc (.cells #[.int .i64 0, .slice none 0 0, .int .i64 0, .int .i64 0, .int .i64 0] QT)) _ 2 _ _ hz; have z3 := cell_of_row (w6.alloc (.cells #[.int .i64 0, .slice none 0 0, .int .i64 0, .int .i64 0, .int .i64 0] QT)) _ 3 _ _ _ hz; have y3 := frozen_of_row (w6.alloc (.cells #[.int .i64 0, .slice none 0 0, .int .i64 0, .int .i64 0, .int .i64 0] QT)) _ 3 _ _ hz; have z4 := cell_of_row (w6.alloc (.cells #[.int .i64 0, .slice none 0 0, .int .i64 0, .int .i64 0, .int .i64 0] QT)) _ 4 _ _ _ hz; have y4 := frozen_of_row (w6.alloc (.cells #[.int .i64 0, .slice none 0 0, .int .i64 0, .int .i64 0, .int .i64 0] QT)) _ 4 _ _ hz; simp only [List.getElem?_toArray, List.getElem?_cons_zero, List.getElem?_cons_succ] at z0 z1 z2 z3 z4; refine hQ2 _ _ ?_; clear hQ2 Q2 hg6 ha6))
        all_goals
          first
            | (have hQ7 := qs_build (S := S) (W := w6) (g := w5.heap.size) hz (by rw [HN.out]; simpa using hown6) HFI.out
               have hB7 := cos_set5 (W := w6) (g := w5.heap.size) hs6 (Nat.le_refl _) (.int .i64 S.most) (.slice A6 N c6) (.int .i64 S.hi) (.int .i64 S.mi) (.int .i64 S.go)
               have hP9 : ∀ k, qf w5.heap.size (.slice A6 N c6) k → w5.heap.size ≤ k := fun k hk => hk.elim (fun e => Nat.le_of_eq e.symm) (fun e => Nat.le_trans (Nat.le_of_lt (by show w5.heap.size < (w5.alloc _).heap.size; simp)) (Go.Kit.own_blk hown6 e).1)
               obtain ⟨H7, K7, hP7, hP8, hHK, hH7, hK7⟩ := two_pq HM.out HQ.out HF.out HM5.out HM2.out HF2.out hB7 hQ7 hP9
               have HS2 := Lib.hid (cc_start (n1 := n1) (N := max n2 n3) hP7 hP8 hHK (fun k hk => HH.out k (hH7 k hk)) (fun k hk => Nat.le_trans HB.out.size (hK7 k hk)) (below_step HB.out (below_step HM5.out hB7)) HC.out)
               clear hQ7 hB7 hP9 hP7 hP8 hHK hH7 hK7 hown6 hb6 hs6 hz y0 y1 y2 y3 y4 z0 z1 z2 z3 z4 g0 g1 g2 g3 g4 HR HM HM2 HM5 HQ HQ5 HB5
               generalize ((((w6.setCell ⟨w5.heap.size, 0, none⟩ (.int .i64 S.most)).setCell ⟨w5.heap.size, 1, none⟩ (.slice A6 N c6)).setCell ⟨w5.heap.size, 2, none⟩ (.int .i64 S.hi)).setCell ⟨w5.heap.size, 3, none⟩ (.int .i64 S.mi)).setCell ⟨w5.heap.size, 4, none⟩ (.int .i64 S.go) = w7 at *
               generalize w5.heap.size = p at *)
            | (have hown7 := pw_own_below hown6 (below_alloc (Below.refl _ _) (.cells #[.int .i64 S.most, .slice A6 N c6, .int .i64 S.hi, .int .i64 S.mi, .int .i64 S.go] QT))
               have hQ7 : QS (w6.alloc (.cells #[.int .i64 S.most, .slice A6 N c6, .int .i64 S.hi, .int .i64 S.mi, .int .i64 S.go] QT)) w6.heap.size (.slice A6 N c6) S := ⟨heap_alloc_new w6 _, own_less (by rw [HN.out]; simpa using hown7) (Nat.zero_le _), HFI.out⟩
               have hB7 := below_step hs6 (below_alloc (Below.refl _ _) (.cells #[.int .i64 S.most, .slice A6 N c6, .int .i64 S.hi, .int .i64 S.mi, .int .i64 S.go] QT))
               have hP9 : ∀ k, qf w6.heap.size (.slice A6 N c6) k → w5.heap.size ≤ k := fun k hk => hk.elim (fun e => e ▸ Below.size hs6) (fun e => (Go.Kit.own_blk hown6 e).1)
               obtain ⟨H7, K7, hP7, hP8, hHK, hH7, hK7⟩ := two_pq HM.out HQ.out HF.out HM5.out HM2.out HF2.out hB7 hQ7 hP9
               have HS2 := Lib.hid (cc_start (n1 := n1) (N := max n2 n3) hP7 hP8 hHK (fun k hk => HH.out k (hH7 k hk)) (fun k hk => Nat.le_trans HB.out.size (hK7 k hk)) (below_step HB.out (below_step HM5.out hB7)) HC.out)
               clear hQ7 hB7 hP9 hP7 hP8 hHK hH7 hK7 hown6 hown7 hb6 hs6 hz y0 y1 y2 y3 y4 z0 z1 z2 z3 z4 g0 g1 g2 g3 g4 HR HM HM2 HM5 HQ HQ5 HB5
               generalize w6.alloc (.cells #[.int .i64 S.most, .slice A6 N c6, .int .i64 S.hi, .int .i64 S.mi, .int .i64 S.go] QT) = w7 at *
               generalize w6.heap.size = p at *)
          go_wp2_with fail
          · go_loopg [72] n3 (fun gk vi w' => CcRel w m q m2 p n1 n3 gk vi w')
            case atStart => have h7 := HS2.out; rw [show max n2 n3 = n3 by omega] at h7; exact h7
            case round =>
              clear HS2
              obtain ⟨i, S2, T2, H2, K2, rfl, hP, hP2, hHK, hH, hK, hb, HC2, HG2⟩ := hrel
              by_cases hin : i < n3
              · have hin2 : (i : Int) < (n3 : Int) := by omega
                have hi9 : (i : Int) ≤ 140737488351232 := by omega
                by_cases ha : i < n2
                · have ha2 : (i : Int) < (n2 : Int) := by omega
                  obtain ⟨ad, Ai, ni, ci, x, rfl, e0, e1, e2, e3, er, ef0, ef1, ef2, eni, _⟩ := hA2.at0 i ha
                  have HX : Hid ((I6 x.k ∧ I6 x.v ∧ I6 x.kind) ∧ ni ≤ 140737488351232) := Lib.hid ⟨⟨ef1, ef2, ef0⟩, eni⟩
                  have HRX : Hid (IR w Ai ni x.keys) := Lib.hid er
                  have h0 := pw_cell_below hb e0
                  have h1 := pw_cell_below hb e1
                  have h2 := pw_cell_below hb e2
                  have h3 := pw_cell_below hb e3
                  clear e0 e1 e2 e3 er ef0 ef1 ef2 eni
                  by_cases hc : i < n3
                  · have hc2 : (i : Int) < (n3 : Int) := by omega
                    obtain ⟨bd, Bi, mi, di, y, rfl, d0, d1, d2, d3, dr, df0, df1, df2, dni, _⟩ := hA3.at0 i hc
                    have HY : Hid ((I6 y.k ∧ I6 y.v ∧ I6 y.kind) ∧ mi ≤ 140737488351232) := Lib.hid ⟨⟨df1, df2, df0⟩, dni⟩
                    have HRY : Hid (IR w Bi mi y.keys) := Lib.hid dr
                    have HD := Lib.hid (And.intro d0 (And.intro d1 (And.intro d2 d3)))
                    clear d0 d1 d2 d3 dr df0 df1 df2 dni
                    have HP := Lib.hid hP
                    have HP2 := Lib.hid hP2
                    have HHK := Lib.hid hHK
                    have HH2 := Lib.hid hH
                    have HK2 := Lib.hid hK
                    have HB2 := Lib.hid hb
                    clear hP hP2 hHK hH hK hb
                    go_wp2_with fail
                    refine (does_any HP.out x Ai ni ci HX.out.1 (fun W ho => HRX.out.below (Below.only HB2.out ho HB2.out.size HH2.out)) HX.out.2 ((n1 : Int) + i) (by omega) HC2.out.1).mono ?_
                    rintro e w8 ⟨rfl, hl⟩
                    obtain ⟨H8, hP8, hP9, hHK8, hH8, hb8⟩ := hl.pair HP2.out HHK.out HH2.out HB2.out
                    have HC8 := Lib.hid (act_cz HP.out.ok HC2.out.1 (by omega) x)
                    clear hl h0 h1 h2 h3
                    have q0 := pw_cell_below hb8 HD.out.1
                    have q1 := pw_cell_below hb8 HD.out.2.1
                    have q2 := pw_cell_below hb8 HD.out.2.2.1
                    have q3 := pw_cell_below hb8 HD.out.2.2.2
                    have HP8 := Lib.hid hP8
                    have HP9 := Lib.hid hP9
                    have HHK8 := Lib.hid hHK8
                    have HH8 := Lib.hid hH8
                    have HB8 := Lib.hid hb8
                    clear hP8 hP9 hHK8 hH8 hb8 HP HP2 HHK HH2 HB2
                    go_wp2_with fail
                    refine (does_any HP9.out y Bi mi di HY.out.1 (fun W ho => HRY.out.below (Below.only HB8.out ho (Below.size HB8.out) HK2.out)) HY.out.2 ((n1 : Int) + i) (by omega) HC2.out.2).mono ?_
                    rintro e w9 ⟨rfl, hl⟩
                    obtain ⟨K9, hP10, hP11, hHK9, hK9, hb9⟩ := hl.pair HP8.out (Go.Kit.Sep.symm HHK8.out) HK2.out HB8.out
                    have HC9 := Lib.hid (act_cz (PQ.ok HP9.out) HC2.out.2 (by omega) y)
                    clear hl
                    clear q0 q1 q2 q3
                    go_wp2_with fail
                    go_roundg (gk - 1)
                    case rel => exact ⟨i + 1, _, _, _, _, rfl, hP11, hP10, Go.Kit.Sep.symm hHK9, HH8.out, hK9, hb9, Lib.hid ⟨by have := HC8.out; rw [show ((n1 : Int) + ((i + 1 : Nat) : Int)) = (n1 : Int) + i + 1 by omega]; exact this, by have := HC9.out; rw [show ((n1 : Int) + ((i + 1 : Nat) : Int)) = (n1 : Int) + i + 1 by omega]; exact this⟩, Lib.hid ⟨by omega, by have := HG2.out.2; omega⟩⟩
                    case measure => have := HG2.out.2; omega
                  · exact absurd hin hc
                · have ha2 : ((n2 : Int) ≤ (i : Int)) := by omega
                  have hc : i < n3 := by omega
                  have hc2 : (i : Int) < (n3 : Int) := by omega
                  obtain ⟨bd, Bi, mi, di, y, rfl, d0, d1, d2, d3, dr, df0, df1, df2, dni, _⟩ := hA3.at0 i hc
                  have HY : Hid ((I6 y.k ∧ I6 y.v ∧ I6 y.kind) ∧ mi ≤ 140737488351232) := Lib.hid ⟨⟨df1, df2, df0⟩, dni⟩
                  have HRY : Hid (IR w Bi mi y.keys) := Lib.hid dr
                  have HD := Lib.hid (And.intro d0 (And.intro d1 (And.intro d2 d3)))
                  clear d0 d1 d2 d3 dr df0 df1 df2 dni
                  have q0 := pw_cell_below hb HD.out.1
                  have q1 := pw_cell_below hb HD.out.2.1
                  have q2 := pw_cell_below hb HD.out.2.2.1
                  have q3 := pw_cell_below hb HD.out.2.2.2
                  have HP := Lib.hid hP
                  have HP2 := Lib.hid hP2
                  have HHK := Lib.hid hHK
                  have HH2 := Lib.hid hH
                  have HK2 := Lib.hid hK
                  have HB2 := Lib.hid hb
                  clear hP hP2 hHK hH hK hb
                  go_wp2_with fail
                  refine (does_any HP2.out y Bi mi di HY.out.1 (fun W ho => HRY.out.below (Below.only HB2.out ho (Below.size HB2.out) HK2.out)) HY.out.2 ((n1 : Int) + i) (by omega) HC2.out.2).mono ?_
                  rintro e w9 ⟨rfl, hl⟩
                  obtain ⟨K9, hP10, hP11, hHK9, hK9, hb9⟩ := hl.pair HP.out (Go.Kit.Sep.symm HHK.out) HK2.out HB2.out
                  have HC9 := Lib.hid (act_cz (PQ.ok HP2.out) HC2.out.2 (by omega) y)
                  clear hl
                  clear q0 q1 q2 q3
                  go_wp2_with fail
                  go_roundg (gk - 1)
                  case rel => exact ⟨i + 1, _, _, _, _, rfl, hP11, hP10, Go.Kit.Sep.symm hHK9, HH2.out, hK9, hb9, Lib.hid ⟨by have := Cz.mono HC2.out.1 (show (n1 : Int) + i ≤ (n1 : Int) + i + 1 by omega); rw [show ((n1 : Int) + ((i + 1 : Nat) : Int)) = (n1 : Int) + i + 1 by omega]; exact this, by have := HC9.out; rw [show ((n1 : Int) + ((i + 1 : Nat) : Int)) = (n1 : Int) + i + 1 by omega]; exact this⟩, Lib.hid ⟨by omega, by have := HG2.out.2; omega⟩⟩
                  case measure => have := HG2.out.2; omega
              · obtain rfl : n3 = i := by have := HG2.out.1; omega
                have HP := Lib.hid hP
                have HP2 := Lib.hid hP2
                have HB2 := Lib.hid hb
                clear hP hP2 hHK hH hK hb
                go_wp2_with fail
                refine (stands_any HP.out).mono ?_
                rintro e w8 ⟨rfl, hb8⟩
                go_wp2_with fail
                refine (stands_any (HP2.out.below hb8)).mono ?_
                rintro e w9 ⟨rfl, hb9⟩
                go_wp2_with fail
                go_ret
                exact ⟨rfl, below_step (below_step HB2.out hb8) hb9⟩
          · go_loopg [72] n2 (fun gk vi w' => CcRel w m q m2 p n1 n2 gk vi w')
            case atStart => have h7 := HS2.out; rw [show max n2 n3 = n2 by omega] at h7; exact h7
            case round =>
              clear HS2
              obtain ⟨i, S2, T2, H2, K2, rfl, hP, hP2, hHK, hH, hK, hb, HC2, HG2⟩ := hrel
              by_cases hin : i < n2
              · have hin2 : (i : Int) < (n2 : Int) := by omega
                have hi9 : (i : Int) ≤ 140737488351232 := by omega
                by_cases ha : i < n2
                · have ha2 : (i : Int) < (n2 : Int) := by omega
                  obtain ⟨ad, Ai, ni, ci, x, rfl, e0, e1, e2, e3, er, ef0, ef1, ef2, eni, _⟩ := hA2.at0 i ha
                  have HX : Hid ((I6 x.k ∧ I6 x.v ∧ I6 x.kind) ∧ ni ≤ 140737488351232) := Lib.hid ⟨⟨ef1, ef2, ef0⟩, eni⟩
                  have HRX : Hid (IR w Ai ni x.keys) := Lib.hid er
                  have h0 := pw_cell_below hb e0
                  have h1 := pw_cell_below hb e1
                  have h2 := pw_cell_below hb e2
                  have h3 := pw_cell_below hb e3
                  clear e0 e1 e2 e3 er ef0 ef1 ef2 eni
                  by_cases hc : i < n3
                  · have hc2 : (i : Int) < (n3 : Int) := by omega
                    obtain ⟨bd, Bi, mi, di, y, rfl, d0, d1, d2, d3, dr, df0, df1, df2, dni, _⟩ := hA3.at0 i hc
                    have HY : Hid ((I6 y.k ∧ I6 y.v ∧ I6 y.kind) ∧ mi ≤ 140737488351232) := Lib.hid ⟨⟨df1, df2, df0⟩, dni⟩
                    have HRY : Hid (IR w Bi mi y.keys) := Lib.hid dr
                    have HD := Lib.hid (And.intro d0 (And.intro d1 (And.intro d2 d3)))
                    clear d0 d1 d2 d3 dr df0 df1 df2 dni
                    have HP := Lib.hid hP
                    have HP2 := Lib.hid hP2
                    have HHK := Lib.hid hHK
                    have HH2 := Lib.hid hH
                    have HK2 := Lib.hid hK
                    have HB2 := Lib.hid hb
                    clear hP hP2 hHK hH hK hb
                    go_wp2_with fail
                    refine (does_any HP.out x Ai ni ci HX.out.1 (fun W ho => HRX.out.below (Below.only HB2.out ho HB2.out.size HH2.out)) HX.out.2 ((n1 : Int) + i) (by omega) HC2.out.1).mono ?_
                    rintro e w8 ⟨rfl, hl⟩
                    obtain ⟨H8, hP8, hP9, hHK8, hH8, hb8⟩ := hl.pair HP2.out HHK.out HH2.out HB2.out
                    have HC8 := Lib.hid (act_cz HP.out.ok HC2.out.1 (by omega) x)
                    clear hl h0 h1 h2 h3
                    have q0 := pw_cell_below hb8 HD.out.1
                    have q1 := pw_cell_below hb8 HD.out.2.1
                    have q2 := pw_cell_below hb8 HD.out.2.2.1
                    have q3 := pw_cell_below hb8 HD.out.2.2.2
                    have HP8 := Lib.hid hP8
                    have HP9 := Lib.hid hP9
                    have HHK8 := Lib.hid hHK8
                    have HH8 := Lib.hid hH8
                    have HB8 := Lib.hid hb8
                    clear hP8 hP9 hHK8 hH8 hb8 HP HP2 HHK HH2 HB2
                    go_wp2_with fail
                    refine (does_any HP9.out y Bi mi di HY.out.1 (fun W ho => HRY.out.below (Below.only HB8.out ho (Below.size HB8.out) HK2.out)) HY.out.2 ((n1 : Int) + i) (by omega) HC2.out.2).mono ?_
                    rintro e w9 ⟨rfl, hl⟩
                    obtain ⟨K9, hP10, hP11, hHK9, hK9, hb9⟩ := hl.pair HP8.out (Go.Kit.Sep.symm HHK8.out) HK2.out HB8.out
                    have HC9 := Lib.hid (act_cz (PQ.ok HP9.out) HC2.out.2 (by omega) y)
                    clear hl
                    clear q0 q1 q2 q3
                    go_wp2_with fail
                    go_roundg (gk - 1)
                    case rel => exact ⟨i + 1, _, _, _, _, rfl, hP11, hP10, Go.Kit.Sep.symm hHK9, HH8.out, hK9, hb9, Lib.hid ⟨by have := HC8.out; rw [show ((n1 : Int) + ((i + 1 : Nat) : Int)) = (n1 : Int) + i + 1 by omega]; exact this, by have := HC9.out; rw [show ((n1 : Int) + ((i + 1 : Nat) : Int)) = (n1 : Int) + i + 1 by omega]; exact this⟩, Lib.hid ⟨by omega, by have := HG2.out.2; omega⟩⟩
                    case measure => have := HG2.out.2; omega
                  · have hc2 : ((n3 : Int) ≤ (i : Int)) := by omega
                    have HP := Lib.hid hP
                    have HP2 := Lib.hid hP2
                    have HHK := Lib.hid hHK
                    have HH2 := Lib.hid hH
                    have HK2 := Lib.hid hK
                    have HB2 := Lib.hid hb
                    clear hP hP2 hHK hH hK hb
                    go_wp2_with fail
                    refine (does_any HP.out x Ai ni ci HX.out.1 (fun W ho => HRX.out.below (Below.only HB2.out ho HB2.out.size HH2.out)) HX.out.2 ((n1 : Int) + i) (by omega) HC2.out.1).mono ?_
                    rintro e w8 ⟨rfl, hl⟩
                    obtain ⟨H8, hP8, hP9, hHK8, hH8, hb8⟩ := hl.pair HP2.out HHK.out HH2.out HB2.out
                    have HC8 := Lib.hid (act_cz HP.out.ok HC2.out.1 (by omega) x)
                    clear hl h0 h1 h2 h3
                    go_wp2_with fail
                    go_roundg (gk - 1)
                    case rel => exact ⟨i + 1, _, _, _, _, rfl, hP8, hP9, hHK8, hH8, HK2.out, hb8, Lib.hid ⟨by have := HC8.out; rw [show ((n1 : Int) + ((i + 1 : Nat) : Int)) = (n1 : Int) + i + 1 by omega]; exact this, by have := Cz.mono HC2.out.2 (show (n1 : Int) + i ≤ (n1 : Int) + i + 1 by omega); rw [show ((n1 : Int) + ((i + 1 : Nat) : Int)) = (n1 : Int) + i + 1 by omega]; exact this⟩, Lib.hid ⟨by omega, by have := HG2.out.2; omega⟩⟩
                    case measure => have := HG2.out.2; omega
                · exact absurd hin ha
              · obtain rfl : n2 = i := by have := HG2.out.1; omega
                have HP := Lib.hid hP
                have HP2 := Lib.hid hP2
                have HB2 := Lib.hid hb
                clear hP hP2 hHK hH hK hb
                go_wp2_with fail
                refine (stands_any HP.out).mono ?_
                rintro e w8 ⟨rfl, hb8⟩
                go_wp2_with fail
                refine (stands_any (HP2.out.below hb8)).mono ?_
                rintro e w9 ⟨rfl, hb9⟩
                go_wp2_with fail
                go_ret
                exact ⟨rfl, below_step (below_step HB2.out hb8) hb9⟩
  · go_wp2_with fail
    refine (new_badI n (by omega)).mono ?_
    rintro e w1 ⟨rfl, rfl⟩
    go_wp2_with fail
    refine (rnew_any n).mono ?_
    rintro e w2 ⟨rfl, hb2⟩
    simp only [if_neg hroom]
    unfold qcells
    go_wp2_with fail
    refine alive_any.mono ?_
    rintro e w4 ⟨rfl, hb4⟩
    go_wp2_with fail
    go_ret
    exact ⟨rfl, below_step (below_step (below_step hbq hb2) (below_alloc (Below.refl _ _) _)) hb4⟩
end Go.Proofs.Ytdhaoodkelehpaa
end
