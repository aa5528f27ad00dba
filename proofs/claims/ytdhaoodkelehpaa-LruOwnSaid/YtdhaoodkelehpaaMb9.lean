/- Contracts of functions that the laws reach (texts laid together, part 9): each says of its call what it answers and what it leaves of memory; the conditions stand in each statement. -/
import Derived.Test.YtdhaoodkelehpaaMb7
set_option linter.unusedVariables false
set_option linter.unusedSimpArgs false
set_option linter.unusedSectionVars false
set_option linter.unnecessarySimpa false
/-! The walk of LruOwn. -/
section
set_option linter.unusedVariables false
namespace Go.Proofs.Ytdhaoodkelehpaa
open Go.RowKit Go.Kit Go.Proofs.YtdhaoodkelehpaaW.PrintWords
section
variable {w w1 : World} {m q : Nat} {S : Sp Int} {H : Nat → Prop} {base : Nat} {v : Value} {xs : List Int}
theorem PQ.sep_row (h : PQ w m q S H) (ho : OI w base v xs) : Sep H (rf v) := by
  obtain ⟨F, u, hM, hQ, hF, rfl⟩ := h
  exact fun k hk hr => hk.elim (fun e => hM.sep_row ho k e hr) (fun e => hQ.sep_row ho k e hr)
theorem oi_cap {A : Option Addr} {l c : Nat} (h : OI w base (.slice A l c) xs) (hx : 0 < xs.length) : xs.length ≤ c := by
  rcases h.2 with ⟨h1, h2⟩ | ⟨g, cap, cur, h1, hb, hh, hnc, _⟩
  · injection h1 with h3 h4 h5
    omega
  · injection h1 with h3 h4 h5
    omega
theorem reads_take {W : World} {A : Option Addr} {xs ys : List Int} (h : ReadsInt W .i64 A (xs ++ ys).length (xs ++ ys)) : ReadsInt W .i64 A xs.length xs := by
  have hl := h.2.1
  rw [List.length_append] at hl
  refine ⟨rfl, by omega, fun hp => ?_⟩
  obtain ⟨ad, e, hc⟩ := h.2.2 (by rw [List.length_append]; omega)
  refine ⟨ad, e, fun j hj => ?_⟩
  rw [hc j (by rw [List.length_append]; omega)]
  simp [List.getD_eq_getElem?_getD, List.getElem?_append_left hj]
/-- What a call of both leaves of a row of one's own. -/
theorem PLft.row {u : Value} (h : PLft w m q H S w1) (ho : OI w base u xs) (hs : Sep H (rf u)) : OI w1 base u xs := by
  obtain ⟨_, _, hon, _⟩ := h
  exact ho.only hon hs.symm
theorem oi_open {W : World} {B : Option Addr} {l c : Nat} (h : OI W base (.slice B l c) xs) : l = xs.length ∧ (0 < l → ∃ ad, B = some ad ∧ (∀ j, j < l → ∃ x, W.cell? (ad.add j) = some (.int .i64 x)) ∧ ∀ j, W.frozen? (ad.add j) = false) := by
  rcases h.2 with ⟨h1, h2⟩ | ⟨g, cap, cur, h1, hb, hh, hnc, hcm, hsz, htk⟩
  · injection h1 with e1 e2 e3
    exact ⟨by omega, fun hp => by omega⟩
  · injection h1 with e1 e2 e3
    subst e1 e2 e3
    refine ⟨rfl, fun hp => ⟨_, rfl, fun j hj => ?_, fun j => ?_⟩⟩
    · obtain ⟨A, c', e, hr⟩ := h.reads
      injection e with e1 e2 e3
      subst e1
      obtain ⟨ad, e, hc⟩ := hr.2.2 hp
      cases e
      exact ⟨_, hc j hj⟩
    · have : (⟨g, 0, none⟩ : Addr).add j = ⟨g, j, none⟩ := by unfold Addr.add; by_cases h0 : j = 0 <;> simp [h0]
      rw [this]
      exact frozen_of_row W g j _ _ hh
theorem oi_set {W : World} {ad : Addr} {l c : Nat} (h : OI W base (.slice (some ad) l c) xs) (i : Nat) (x : Int) : OI (W.setCell (ad.add i) (.int .i64 x)) base (.slice (some ad) l c) (xs.set i x) ∧ Only W (W.setCell (ad.add i) (.int .i64 x)) (rf (.slice (some ad) l c)) := by
  rcases h.2 with ⟨h1, h2⟩ | ⟨g, cap, cur, h1, hb, hh, hnc, hcm, hsz, htk⟩
  · injection h1 with e1 e2 e3
    cases e1
  · injection h1 with e1 e2 e3
    injection e1 with e1
    subst e1 e2 e3
    have ha : (⟨g, 0, none⟩ : Addr).add i = ⟨g, i, none⟩ := by unfold Addr.add; by_cases h0 : i = 0 <;> simp [h0]
    rw [ha]
    refine ⟨⟨by simp [nums], .inr ⟨g, c, cur.setIfInBounds i (.int .i64 x), by simp, hb, heap_set_same W g i _ _ _ hh, by simpa using hnc, hcm, by simp [hsz], ?_⟩⟩, (Only.refl W _).set g i _ (.inl rfl)⟩
    rw [Array.toList_setIfInBounds, List.length_set, List.take_set, htk]
    simp [nums, List.map_set]
/-- What is left behind the two calls: both memos, the caller's own row, the row that was answered. -/
structure OwT (w wr W : World) (m q : Nat) (T : Sp Int) (A6 : Option Addr) (l6 k6 : Nat) (rs : List Int) (B1 : Option Addr) (ln d1 : Nat) (H : Nat → Prop) (bu : Nat) (ys : List Int) : Prop where
  p : PQ W m q T H
  b : Below w.heap.size w W
  r : OI W wr.heap.size (.slice A6 l6 k6) rs
  u : OI W bu (.slice B1 ln d1) ys
  s : Sep (rf (.slice A6 l6 k6)) (rf (.slice B1 ln d1))
  f : w.heap.size ≤ bu
  l : ln ≤ 5000
  g : bu ≤ W.heap.size
theorem OwT.only {w wr W W1 : World} {T : Sp Int} {A6 B1 : Option Addr} {l6 k6 ln d1 bu : Nat} {rs ys zs : List Int} (h : OwT w wr W m q T A6 l6 k6 rs B1 ln d1 H bu ys) (ho : Only W W1 (rf (.slice B1 ln d1))) (hu : OI W1 bu (.slice B1 ln d1) zs) : OwT w wr W1 m q T A6 l6 k6 rs B1 ln d1 H bu zs :=
  ⟨h.p.only ho (h.p.sep_row h.u), Below.only h.b ho h.b.size (fun k hk => Nat.le_trans h.f (h.u.block hk).1), h.r.only ho h.s, hu, h.s, h.f, h.l, Nat.le_trans h.g ho.size⟩
theorem OwT.below {w wr W W1 : World} {T : Sp Int} {A6 B1 : Option Addr} {l6 k6 ln d1 bu : Nat} {rs ys : List Int} (h : OwT w wr W m q T A6 l6 k6 rs B1 ln d1 H bu ys) (hb : Below W.heap.size W W1) : OwT w wr W1 m q T A6 l6 k6 rs B1 ln d1 H bu ys :=
  ⟨h.p.below hb, below_step h.b hb, h.r.below hb, h.u.below hb, h.s, h.f, h.l, Nat.le_trans h.g hb.size⟩
def OwR (w wr : World) (m q : Nat) (T : Sp Int) (A6 : Option Addr) (l6 k6 : Nat) (rs : List Int) (B1 : Option Addr) (ln d1 : Nat) (gk : Nat) (vi : Value) (W : World) : Prop :=
  ∃ (i : Nat) (H : Nat → Prop) (bu : Nat) (ys : List Int), vi = .int .i64 (i : Int) ∧ OwT w wr W m q T A6 l6 k6 rs B1 ln d1 H bu ys ∧ Hid (i ≤ ln ∧ gk = ln - i)
theorem outs_fit {T : Sp Int} (h : T.ok) (k : Nat) : (T.outs k).length ≤ 5000 := by
  have h1 := h.2.1
  have h2 := h.2.2.2
  have : (T.outs k).length ≤ T.l.length := by unfold Sp.outs; simp
  omega
theorem two_reads {W : World} {g : Nat} {a b : Int} {t : TypeId} (h : W.heap[g]? = some (.cells #[.int .i64 a, .int .i64 b] t (0, 0))) : ReadsInt W .i64 (some ⟨g, 0, none⟩) 2 [a, b] :=
  ⟨rfl, by omega, fun _ => ⟨_, rfl, fun j hj => by
    have h0 := cell_of_row W g 0 _ _ _ h
    have h1 := cell_of_row W g 1 _ _ _ h
    rcases j with _ | _ | j
    · exact h0
    · exact h1
    · omega⟩⟩
theorem three_reads {W : World} {g : Nat} {a b c : Int} {t : TypeId} (h : W.heap[g]? = some (.cells #[.int .i64 a, .int .i64 b, .int .i64 c] t (0, 0))) : ReadsInt W .i64 (some ⟨g, 0, none⟩) 3 [a, b, c] :=
  ⟨rfl, by omega, fun _ => ⟨_, rfl, fun j hj => by
    have h0 := cell_of_row W g 0 _ _ _ h
    have h1 := cell_of_row W g 1 _ _ _ h
    have h2 := cell_of_row W g 2 _ _ _ h
    rcases j with _ | _ | _ | j
    · exact h0
    · exact h1
    · exact h2
    · omega⟩⟩
end
set_option maxHeartbeats 8000000 in
set_option maxRecDepth 100000 in
theorem LruOwn_walk (n nn : Int) (A1 : Option Addr) (n1 c1 : Nat) (L1 : List Lc) (A2 : Option Addr) (n2 c2 : Nat) (A3 : Option Addr) (n3 c3 : Nat) (A4 : Option Addr) (n4 c4 : Nat) (xs : List Int) (w : World) (hnn : I6 nn) (hA1 : LA w A1 n1 L1) (hA4 : IR w A4 n4 xs) (hc4 : n4 ≤ c4) (hl4 : n4 * 8 ≤ 140737488351232) :
    Calls Try.prog 7 #[.agg #[.int .i64 n, .int .i64 nn, .slice A1 n1 c1, .slice A2 n2 c2, .slice A3 n3 c3, .slice A4 n4 c4]] w fun e w' => e = .returned (.bool true) ∧ Below w.heap.size w w' := by
  have hmx1 := hA1.max
  have hba := below_alloc (Below.refl w.heap.size w) (.cells #[.int .i64 n, .int .i64 nn, .slice A1 n1 c1, .slice A2 n2 c2, .slice A3 n3 c3, .slice A4 n4 c4] 44)
  have hac := heap_alloc_new w (.cells #[.int .i64 n, .int .i64 nn, .slice A1 n1 c1, .slice A2 n2 c2, .slice A3 n3 c3, .slice A4 n4 c4] 44)
  go_enter Try.func7, Try.ntmps7
  go_upto_region 1 with (fail)
  generalize w.alloc (.cells #[.int .i64 n, .int .i64 nn, .slice A1 n1 c1, .slice A2 n2 c2, .slice A3 n3 c3, .slice A4 n4 c4] 44) = wa at *
  have k0 := cell_of_row wa _ 0 _ _ _ hac
  have k1 := cell_of_row wa _ 1 _ _ _ hac
  have k2 := cell_of_row wa _ 2 _ _ _ hac
  have k3 := cell_of_row wa _ 3 _ _ _ hac
  have k4 := cell_of_row wa _ 4 _ _ _ hac
  have k5 := cell_of_row wa _ 5 _ _ _ hac
  simp only [List.getElem?_toArray, List.getElem?_cons_zero, List.getElem?_cons_succ] at k0 k1 k2 k3 k4 k5
  go_quiet (fail)
  have hbq := pw_below_drewN hba nq
  clear hba hac k0 k1 k2 k3 k4 k5
  generalize wa.drewN nq = wq at *
  by_cases hroom : 1 ≤ n ∧ n ≤ 4096
  · go_wp2_with fail
    refine (new_f n hroom.1 hroom.2).mono ?_
    rintro e w1 ⟨m, F, rfl, hM, hF, hb1⟩
    go_wp2_with fail
    refine (rnew_any n).mono ?_
    rintro e w2 ⟨rfl, hb2⟩
    simp only [if_pos hroom]
    obtain ⟨H, hP, hH, hb3⟩ := start_pq hroom hM (fun k hk => Nat.le_trans hbq.size (hF k hk)) (below_step hbq hb1) hb2
    have HP := Lib.hid hP
    have HH := Lib.hid hH
    have HB := Lib.hid hb3
    clear hM hF hb1 hb2 hP hH hb3 hbq
    unfold qcells at *
    go_wp2_with fail
    generalize w2.alloc (.cells #[.int .i64 n, .slice none 0 0, .int .i64 0, .int .i64 0, .int .i64 0] QT) = w3 at *
    generalize w2.heap.size = q at *
    have HS : Hid (PlRel w q n1 n1 (.pointer (some ⟨m, 0, none⟩)) (.int .i64 0) w3) := Lib.hid ⟨0, m, _, H, rfl, rfl, HP.out, HH.out, HB.out, Lib.hid ⟨Int.le_refl 0, Int.le_refl 0, Int.le_refl 0⟩, Lib.hid ⟨Nat.zero_le _, rfl⟩⟩
    clear HP HH HB
    go_wp2_with fail
    go_loopg [59] n1 (fun gk vi w' => PlRel w q n1 gk (.pointer (some ⟨m, 0, none⟩)) vi w')
    case atStart => exact HS.out
    case round =>
      clear HS
      obtain ⟨i, m1, S, H1, hm1, rfl, hP, hH, hb, HC, HG⟩ := hrel
      injection hm1 with hm1
      injection hm1 with hm1
      injection hm1 with hm1
      subst hm1
      by_cases hi : i < n1
      · obtain ⟨ad, Ai, ni, ci, x, rfl, h0, h1, h2, h3, hr, f0, f1, f2, hni, hx⟩ := hA1.at0 i hi
        have hi2 : (i : Int) < (n1 : Int) := by omega
        have hi9 : (i : Int) ≤ 140737488351232 := by omega
        have hba := below_alloc (Below.refl wr.heap.size wr) (.cells #[.int .i64 x.kind, .int .i64 x.k, .int .i64 x.v, .slice Ai ni ci] 30)
        have hac := heap_alloc_new wr (.cells #[.int .i64 x.kind, .int .i64 x.k, .int .i64 x.v, .slice Ai ni ci] 30)
        have HB := Lib.hid (below_step hb hba)
        have HR : Hid (IR w Ai ni x.keys) := Lib.hid hr
        replace h0 := pw_cell_below hb h0
        replace h1 := pw_cell_below hb h1
        replace h2 := pw_cell_below hb h2
        replace h3 := pw_cell_below hb h3
        have HP := Lib.hid (hP.below hba)
        have HH := Lib.hid hH
        have HX : Hid ((I6 x.k ∧ I6 x.v ∧ I6 x.kind) ∧ ni ≤ 140737488351232) := Lib.hid ⟨⟨f1, f2, f0⟩, hni⟩
        clear hP hH hb hba hac hr f0 f1 f2 hni hx
        go_wp2_with fail
        refine (does_any HP.out x Ai ni ci HX.out.1 (fun W ho => HR.out.below (Below.only HB.out ho HB.out.size HH.out)) HX.out.2 i (by omega) HC.out).mono ?_
        rintro e w6 ⟨rfl, hl⟩
        obtain ⟨H6, hP6, hH6, hb6⟩ := hl.step HH.out HB.out
        have HC6 := Lib.hid (act_cz HP.out.ok HC.out (by omega) x)
        clear hl h0 h1 h2 h3
        go_wp2_with fail
        go_roundg (gk - 1)
        case rel => exact ⟨i + 1, m, _, H6, rfl, rfl, hP6, hH6, hb6, HC6, Lib.hid ⟨by omega, by have := HG.out.2; omega⟩⟩
        case measure => have := HG.out.2; omega
      · obtain rfl : n1 = i := by have := HG.out.1; omega
        have HP := Lib.hid hP
        have HH := Lib.hid hH
        have HB := Lib.hid hb
        have HA4 := Lib.hid (hA4.below hb)
        have HSZ : Hid (w.heap.size ≤ wr.heap.size) := Lib.hid hb.size
        clear hP hH hb
        have HLE : Hid ((xs.length + 2) * 8 ≤ 140737488355328) := Lib.hid (by have := hA4.len; omega)
        have HLE2 : Hid ((xs ++ [-7, -7]).length = n4 + 2) := Lib.hid (by rw [List.length_append, hA4.len]; rfl)
        have HL4 : Hid (xs.length = n4 ∧ n4 * 8 ≤ 140737488351232) := Lib.hid ⟨hA4.len, hl4⟩
        go_wp2_with (first
          | (at_builtin; refine print_append_row (w0 := wr) wr.heap.size rfl (.const (.slice none 0 0)) (.tmp 67) 28 3 .i64 8 rfl Try.underlying28 int_info (by decide) (.slice none 0 0) [] xs A4 n4 c4 rfl rfl (own_nil _ _ _ _) HA4.out.rd (Below.refl _ _) (Nat.le_refl _) (by simp; omega) ?_; intro v5 w5 hown5 hb5 hg5 ha5; rw [List.nil_append] at hown5; obtain ⟨A5, k5, hv5, hr5⟩ := OI.reads (xs := xs) hown5; rw [HL4.out.1] at hv5; subst hv5; clear hg5 ha5 hr5)
          | (at_builtin; have hbz := below_alloc (Below.refl w5.heap.size w5) (.cells #[.int .i64 (-7), .int .i64 (-7)] 3); have hown9 := pw_own_below hown5 hbz; have htw := two_reads (heap_alloc_new w5 (.cells #[.int .i64 (-7), .int .i64 (-7)] 3)); have hbz2 := below_step hb5 hbz; have hlen := HLE.out; refine print_append_row (w0 := wr) wr.heap.size rfl (.tmp 68) (.tmp 69) 28 3 .i64 8 rfl Try.underlying28 int_info (by decide) _ xs [-7, -7] (some ⟨w5.heap.size, 0, none⟩) 2 2 rfl rfl hown9 htw hbz2 hbz2.size hlen ?_; intro v6 w6 hown6 hb6 hg6 ha6; have hI6 : OI w6 wr.heap.size v6 (xs ++ [-7, -7]) := hown6; obtain ⟨A6, k6, hv6, hr6⟩ := hI6.reads; rw [HLE2.out] at hv6; subst hv6; have hk6 : n4 ≤ k6 := (by have := oi_cap hI6 (by rw [HLE2.out]; omega); rw [HLE2.out] at this; omega); have hk7 : (n4 : Int) ≤ (k6 : Int) := Int.ofNat_le.2 hk6; clear hg6 ha6 hown6 hown5 hb5 hbz hown9 htw hbz2 hlen))
        have HI6 := Lib.hid hI6
        have HB6 := Lib.hid hb6
        have HP6 := Lib.hid (HP.out.below hb6)
        clear hI6 hr6 hb6 hk6 hk7
        obtain ⟨F1, v, hM, hQ, hF, rfl⟩ := HP6.out
        have HSP : Hid (Sep (fun k => F1 k ∨ qf q v k) (rf (.slice A6 (n4 + 2) k6))) := Lib.hid (HP6.out.sep_row HI6.out)
        have hmine : ∀ W, Only w6 W (fun k => F1 k ∨ qf q v k) → IR W A6 n4 xs := fun W ho => by
          have h1 := HI6.out.only ho HSP.out.symm
          obtain ⟨A7, c7, e7, r7⟩ := h1.reads
          injection e7 with e8 e9 e10
          subst e8
          have := reads_take r7
          rw [HL4.out.1] at this
          exact ⟨this, HA4.out.fit⟩
        have HMI := Lib.hid hmine
        have HM := Lib.hid hM
        have HQ := Lib.hid hQ
        have HF := Lib.hid hF
        have HOK : Hid S.ok := Lib.hid hM.ok
        clear hM hQ hF hmine
        refine (drop_f HM.out A6 n4 k6 xs (fun W ho => HMI.out W (ho.mono (fun k hk => .inl hk))) (by have := HL4.out; omega)).mono ?_
        rintro e w7 ⟨rfl, hl⟩
        obtain ⟨hQ1, hfin⟩ := two_calls HM.out HQ.out HF.out hl
        have HB7 : Hid (Below w.heap.size w w7) := Lib.hid (by
          obtain ⟨F', _, ho, _⟩ := hl
          have hb := below_step HB.out HB6.out
          exact Below.only hb ho hb.size (fun k hk => HH.out k (.inl hk)))
        have HQ1 := Lib.hid hQ1
        have HFI := Lib.hid hfin
        clear hQ1 hfin hl
        go_wp2_with fail
        refine (rdrop_any HQ1.out HOK.out A4 n4 c4 xs (fun W ho => hA4.below (Below.only HB7.out ho HB7.out.size (fun k hk => HH.out k (.inr hk)))) (by have := HL4.out; omega)).mono ?_
        rintro e w8 ⟨rfl, hl2⟩
        have hl8 := HFI.out w8 hl2
        have HI8 := Lib.hid (hl8.row HI6.out HSP.out)
        obtain ⟨H2, hP8, hH8, hb8⟩ := hl8.step HH.out (below_step HB.out HB6.out)
        obtain ⟨T, hT⟩ : ∃ T, (S.drops xs).1 = T := ⟨_, rfl⟩
        have HTG : Hid (T.go ≤ 1153202979583557632 ∧ 0 ≤ T.go) := Lib.hid (by
          have h1 := (drops_uses S xs).2.2.2
          rw [hT] at h1
          have h2 := HC.out.2.2
          have h3 := HP.out.cnt.2.2
          rw [h1]
          omega)
        rw [hT] at hP8
        have HP8 := Lib.hid hP8
        have HH8 := Lib.hid hH8
        have HB8 := Lib.hid hb8
        clear hl8 hl2 hP8 hH8 hb8 hT
        obtain ⟨F2, v2, hM, hQ, hF, rfl⟩ := HP8.out
        have HM8 := Lib.hid hM
        have HQ8 := Lib.hid hQ
        have HF8 := Lib.hid hF
        have HSP8 : Hid (Sep (fun k => F2 k ∨ qf q v2 k) (rf (.slice A6 (n4 + 2) k6))) := Lib.hid (HP8.out.sep_row HI8.out)
        clear hM hQ hF
        by_cases hv : 1 ≤ nn ∧ nn ≤ 4096
        · have HV := Lib.hid hv
          clear hv
          go_wp2_with fail
          refine (resize_f HM8.out nn HV.out.1 HV.out.2 (by have := HTG.out; omega)).mono ?_
          rintro e w9 ⟨u, rfl, hl, hu⟩
          obtain ⟨hQ9, hfin⟩ := two_calls HM8.out HQ8.out HF8.out hl
          have HSZ8 : Hid (w8.heap.size ≤ w9.heap.size) := Lib.hid (by obtain ⟨_, _, ho, _⟩ := hl; exact ho.size)
          have HQ9 := Lib.hid hQ9
          have HFI9 := Lib.hid hfin
          have HU := Lib.hid hu
          clear hQ9 hfin hl hu
          go_wp2_with fail
          refine (rresize_any HQ9.out HP8.out.ok nn HV.out.1 HV.out.2 (by have := HTG.out; omega)).mono ?_
          rintro e w10 ⟨u2, v3, rfl, hQ10, ho10, hn10, hu2⟩
          have HU10 : Hid (OI w10 w8.heap.size u (T.outs nn.toNat)) := Lib.hid (HU.out.only ho10 (fun k hk hq => by
            have h1 := (HU.out.block hk).1
            have h2 := HQ8.out.old k hq
            omega))
          have HSZ10 : Hid (w8.heap.size ≤ w10.heap.size) := Lib.hid (Nat.le_trans HSZ8.out ho10.size)
          have hl10 := HFI9.out w10 ⟨v3, hQ10, ho10, hn10⟩
          have HI10 := Lib.hid (hl10.row HI8.out HSP8.out)
          obtain ⟨H3, hP10, hH10, hb10⟩ := hl10.step HH8.out HB8.out
          have HP10 := Lib.hid hP10
          have HH10 := Lib.hid hH10
          have HB10 := Lib.hid hb10
          have HU2 := Lib.hid hu2
          obtain ⟨B1, d1, rfl, hr1⟩ := HU10.out.reads
          obtain ⟨B2, d2, rfl, hr2⟩ := HU2.out.reads
          have HR1 := Lib.hid hr1
          have HR2 := Lib.hid hr2
          have HDJ : Hid (Sep (rf (.slice A6 (n4 + 2) k6)) (rf (.slice B1 (T.outs nn.toNat).length d1))) := Lib.hid (fun k hk e => by
            have h1 := (HI8.out.block hk).2.1
            have h2 := (HU10.out.block e).1
            omega)
          clear hQ10 ho10 hn10 hu2 hr1 hr2 hl10 hP10 hH10 hb10
          generalize hys : T.outs nn.toNat = ys at *
          obtain ⟨ln, hln⟩ : ∃ ln, ys.length = ln := ⟨_, rfl⟩
          rw [hln]
          go_wp2_with fail
          refine (rsame_any B1 B2 ln ln d1 d2 ys ys (by rw [← hln]; exact HR1.out) (by rw [← hln]; exact HR2.out)).mono ?_
          rintro e w11 ⟨he, hb11⟩
          rw [decide_eq_true rfl] at he
          subst he
          have HT11 : Hid (OwR w wr m q (T.resize nn) A6 (n4 + 2) k6 (xs ++ [-7, -7]) B1 ln d1 ln (.int .i64 0) w11) := Lib.hid ⟨0, H3, w8.heap.size, ys, rfl, OwT.below ⟨HP10.out, HB10.out, HI10.out, by rw [← hln]; exact HU10.out, by rw [← hln]; exact HDJ.out, HB8.out.size, by rw [← hln, ← hys]; exact outs_fit HP8.out.ok nn.toNat, HSZ10.out⟩ hb11, Lib.hid ⟨Nat.zero_le _, rfl⟩⟩
          clear hb11
          go_wp2_with fail
          go_loopg [97] ln (fun gk vi W => OwR w wr m q (T.resize nn) A6 (n4 + 2) k6 (xs ++ [-7, -7]) B1 ln d1 gk vi W)
          case atStart => exact HT11.out
          case round =>
            clear HT11
            obtain ⟨i, H12, bu, zs, rfl, hT12, HG12⟩ := hrel
            have hopen := oi_open hT12.u
            have hl5 := hT12.l
            by_cases hi12 : i < ln
            · have hi13 : (i : Int) < (ln : Int) := by omega
              have hi14 : (i : Int) ≤ 140737488351232 := by omega
              obtain ⟨ad, hBB, hcell, hfz⟩ := hopen.2 (by omega)
              obtain ⟨x0, hx0⟩ := hcell i hi12
              have hf0 := hfz i
              subst hBB
              have HS12 := Lib.hid (hT12.only (oi_set hT12.u i (-9)).2 (oi_set hT12.u i (-9)).1)
              clear hT12 hopen hcell hfz
              go_wp2_with fail
              go_roundg (gk - 1)
              case rel => exact ⟨i + 1, H12, bu, _, rfl, HS12.out, Lib.hid ⟨by omega, by have := HG12.out.2; omega⟩⟩
              case measure => have := HG12.out.2; omega
            · obtain rfl : ln = i := by have := HG12.out.1; omega
              have HT12 := Lib.hid hT12
              have hbz := below_alloc (Below.refl wr.heap.size wr) (.cells #[.int .i64 (-8), .int .i64 (-8), .int .i64 (-8)] 3)
              have HBZ := Lib.hid hbz
              have HUZ : Hid ((wr.alloc (.cells #[.int .i64 (-8), .int .i64 (-8), .int .i64 (-8)] 3)).ownsRow bu 3 1 (.slice B1 ln d1) zs.length (nums .i64 zs)) := Lib.hid (hT12.u.below hbz)
              have HTR := Lib.hid (three_reads (heap_alloc_new wr (.cells #[.int .i64 (-8), .int .i64 (-8), .int .i64 (-8)] 3)))
              have HBB : Hid (Below bu wr (wr.alloc (.cells #[.int .i64 (-8), .int .i64 (-8), .int .i64 (-8)] 3))) := Lib.hid ⟨hbz.os, hbz.tape, hbz.output, hbz.size, fun k hk => hbz.block k (Nat.lt_of_lt_of_le hk hT12.g)⟩
              have HLZ : Hid (bu ≤ (wr.alloc (.cells #[.int .i64 (-8), .int .i64 (-8), .int .i64 (-8)] 3)).heap.size ∧ (zs.length + 3) * 8 ≤ 140737488355328) := Lib.hid ⟨Nat.le_trans hT12.g hbz.size, by have := hopen.1; omega⟩
              clear hT12 hbz hopen hl5
              go_wp2_with (at_builtin; refine print_append_row (w0 := wr) bu rfl (.tmp 104) (.tmp 105) 28 3 .i64 8 rfl Try.underlying28 int_info (by decide) _ zs [-8, -8, -8] (some ⟨wr.heap.size, 0, none⟩) 3 3 rfl rfl HUZ.out HTR.out HBB.out HLZ.out.1 HLZ.out.2 ?_; intro v7 w12 hown7 hb7 hg7 ha7; have HG7 := Lib.hid hg7; clear hown7 hb7 hg7 ha7)
              have hon : Only wr w12 (rf (.slice B1 ln d1)) := (Only.of_below HBZ.out _).grown HG7.out (fun k e => .inl e)
              have HP13 := Lib.hid (HT12.out.p.only hon (HT12.out.p.sep_row HT12.out.u))
              have HI13 := Lib.hid (HT12.out.r.only hon HT12.out.s)
              have HB13 : Hid (Below w.heap.size w w12) := Lib.hid (Below.only HT12.out.b hon HT12.out.b.size (fun k hk => Nat.le_trans HT12.out.f (HT12.out.u.block hk).1))
              clear hon HG7 HLZ HBB HTR HUZ HBZ HT12
              obtain ⟨A7, k7, e7, r7⟩ := HI13.out.reads
              injection e7 with e8 e9 e10
              subst e8
              obtain ⟨a6, e6, hc6⟩ := r7.2.2 (by rw [HLE2.out]; omega)
              have q0 := hc6 n4 (by rw [HLE2.out]; omega)
              have q1 := hc6 (n4 + 1) (by rw [HLE2.out]; omega)
              have r8 := reads_take r7
              rw [HL4.out.1] at r8
              have g0 : (xs ++ [(-7 : Int), -7]).getD n4 0 = -7 := by
                rw [List.getD_eq_getElem?_getD, List.getElem?_append_right (by rw [HL4.out.1]; exact Nat.le_refl _), HL4.out.1, Nat.sub_self]; rfl
              rw [g0] at q0
              have g1 : (xs ++ [(-7 : Int), -7]).getD (n4 + 1) 0 = -7 := by
                rw [List.getD_eq_getElem?_getD, List.getElem?_append_right (by rw [HL4.out.1]; omega), HL4.out.1, Nat.add_sub_cancel_left]; rfl
              rw [g1] at q1
              subst e6
              refine (rsame_any (some a6) A4 n4 n4 k6 c4 xs xs r8 (hA4.below HB13.out).rd).mono ?_
              rintro e w13 ⟨he, hb13⟩
              rw [decide_eq_true rfl] at he
              subst he
              have q2 := pw_cell_below hb13 q0
              have q3 := pw_cell_below hb13 q1
              have q4 : w13.cell? ⟨a6.block, a6.off + (n4 + 1), none⟩ = some (.int .i64 (-7)) := by
                have e : a6.add (n4 + 1) = ⟨a6.block, a6.off + (n4 + 1), none⟩ := by unfold Addr.add; simp
                rw [← e]; exact q3
              have hn9 : (n4 : Int) ≤ 140737488351232 := by have := HL4.out; omega
              have HB14 := Lib.hid (below_step HB13.out hb13)
              have HP14 := Lib.hid (HP13.out.below hb13)
              clear q0 q1 hc6 r7 r8 hb13 HP13 e9 e10 g0 g1
              go_wp2_with fail
              refine (stands_any HP14.out).mono ?_
              rintro e w14 ⟨rfl, hb14⟩
              go_wp2_with fail
              refine alive_any.mono ?_
              rintro e w15 ⟨rfl, hb15⟩
              go_wp2_with fail
              go_ret
              exact ⟨rfl, below_step (below_step HB14.out hb14) hb15⟩
        · have HV : Hid (nn < 1 ∨ 4096 < nn) := Lib.hid (by omega)
          clear hv
          go_wp2_with fail
          refine (resize_bad HM8.out nn HV.out).mono ?_
          rintro e w9 ⟨rfl, rfl⟩
          go_wp2_with fail
          refine (rresize_bad HQ8.out nn HV.out).mono ?_
          rintro e w10 ⟨rfl, rfl⟩
          go_wp2_with fail
          have hIB : OI w10 wr.heap.size (.slice A6 (n4 + 2) k6) (xs ++ [-7, -7]) := HI8.out
          refine (rsame_any none none 0 0 0 0 [] [] ⟨rfl, by omega, fun h => absurd h (by omega)⟩ ⟨rfl, by omega, fun h => absurd h (by omega)⟩).mono ?_
          rintro e w11 ⟨he, hb11⟩
          rw [decide_eq_true rfl] at he
          subst he
          have HT11 : Hid (OwR w wr m q T A6 (n4 + 2) k6 (xs ++ [-7, -7]) none 0 0 0 (.int .i64 0) w11) := Lib.hid ⟨0, _, w10.heap.size, [], rfl, OwT.below ⟨HP8.out, HB8.out, hIB, OI.nil _ _, fun k _ e => (by cases e), HB8.out.size, by omega, Nat.le_refl _⟩ hb11, Lib.hid ⟨Nat.zero_le _, rfl⟩⟩
          clear hb11 hIB
          go_wp2_with fail
          go_loopg [97] 0 (fun gk vi W => OwR w wr m q T A6 (n4 + 2) k6 (xs ++ [-7, -7]) none 0 0 gk vi W)
          case atStart => exact HT11.out
          case round =>
              clear HT11
              obtain ⟨i, H12, bu, zs, rfl, hT12, HG12⟩ := hrel
              have hopen := oi_open hT12.u
              have hl5 := hT12.l
              obtain rfl : i = 0 := by have := HG12.out.1; omega
              have HT12 := Lib.hid hT12
              have hbz := below_alloc (Below.refl wr.heap.size wr) (.cells #[.int .i64 (-8), .int .i64 (-8), .int .i64 (-8)] 3)
              have HBZ := Lib.hid hbz
              have HUZ : Hid ((wr.alloc (.cells #[.int .i64 (-8), .int .i64 (-8), .int .i64 (-8)] 3)).ownsRow bu 3 1 (.slice none 0 0) zs.length (nums .i64 zs)) := Lib.hid (hT12.u.below hbz)
              have HTR := Lib.hid (three_reads (heap_alloc_new wr (.cells #[.int .i64 (-8), .int .i64 (-8), .int .i64 (-8)] 3)))
              have HBB : Hid (Below bu wr (wr.alloc (.cells #[.int .i64 (-8), .int .i64 (-8), .int .i64 (-8)] 3))) := Lib.hid ⟨hbz.os, hbz.tape, hbz.output, hbz.size, fun k hk => hbz.block k (Nat.lt_of_lt_of_le hk hT12.g)⟩
              have HLZ : Hid (bu ≤ (wr.alloc (.cells #[.int .i64 (-8), .int .i64 (-8), .int .i64 (-8)] 3)).heap.size ∧ (zs.length + 3) * 8 ≤ 140737488355328) := Lib.hid ⟨Nat.le_trans hT12.g hbz.size, by have := hopen.1; omega⟩
              clear hT12 hbz hopen hl5
              go_wp2_with (at_builtin; refine print_append_row (w0 := wr) bu rfl (.tmp 104) (.tmp 105) 28 3 .i64 8 rfl Try.underlying28 int_info (by decide) _ zs [-8, -8, -8] (some ⟨wr.heap.size, 0, none⟩) 3 3 rfl rfl HUZ.out HTR.out HBB.out HLZ.out.1 HLZ.out.2 ?_; intro v7 w12 hown7 hb7 hg7 ha7; have HG7 := Lib.hid hg7; clear hown7 hb7 hg7 ha7)
              have hon : Only wr w12 (rf (.slice none 0 0)) := (Only.of_below HBZ.out _).grown HG7.out (fun k e => .inl e)
              have HP13 := Lib.hid (HT12.out.p.only hon (HT12.out.p.sep_row HT12.out.u))
              have HI13 := Lib.hid (HT12.out.r.only hon HT12.out.s)
              have HB13 : Hid (Below w.heap.size w w12) := Lib.hid (Below.only HT12.out.b hon HT12.out.b.size (fun k hk => Nat.le_trans HT12.out.f (HT12.out.u.block hk).1))
              clear hon HG7 HLZ HBB HTR HUZ HBZ HT12
              obtain ⟨A7, k7, e7, r7⟩ := HI13.out.reads
              injection e7 with e8 e9 e10
              subst e8
              obtain ⟨a6, e6, hc6⟩ := r7.2.2 (by rw [HLE2.out]; omega)
              have q0 := hc6 n4 (by rw [HLE2.out]; omega)
              have q1 := hc6 (n4 + 1) (by rw [HLE2.out]; omega)
              have r8 := reads_take r7
              rw [HL4.out.1] at r8
              have g0 : (xs ++ [(-7 : Int), -7]).getD n4 0 = -7 := by
                rw [List.getD_eq_getElem?_getD, List.getElem?_append_right (by rw [HL4.out.1]; exact Nat.le_refl _), HL4.out.1, Nat.sub_self]; rfl
              rw [g0] at q0
              have g1 : (xs ++ [(-7 : Int), -7]).getD (n4 + 1) 0 = -7 := by
                rw [List.getD_eq_getElem?_getD, List.getElem?_append_right (by rw [HL4.out.1]; omega), HL4.out.1, Nat.add_sub_cancel_left]; rfl
              rw [g1] at q1
              subst e6
              refine (rsame_any (some a6) A4 n4 n4 k6 c4 xs xs r8 (hA4.below HB13.out).rd).mono ?_
              rintro e w13 ⟨he, hb13⟩
              rw [decide_eq_true rfl] at he
              subst he
              have q2 := pw_cell_below hb13 q0
              have q3 := pw_cell_below hb13 q1
              have q4 : w13.cell? ⟨a6.block, a6.off + (n4 + 1), none⟩ = some (.int .i64 (-7)) := by
                have e : a6.add (n4 + 1) = ⟨a6.block, a6.off + (n4 + 1), none⟩ := by unfold Addr.add; simp
                rw [← e]; exact q3
              have hn9 : (n4 : Int) ≤ 140737488351232 := by have := HL4.out; omega
              have HB14 := Lib.hid (below_step HB13.out hb13)
              have HP14 := Lib.hid (HP13.out.below hb13)
              clear q0 q1 hc6 r7 r8 hb13 HP13 e9 e10 g0 g1
              go_wp2_with fail
              refine (stands_any HP14.out).mono ?_
              rintro e w14 ⟨rfl, hb14⟩
              go_wp2_with fail
              refine alive_any.mono ?_
              rintro e w15 ⟨rfl, hb15⟩
              go_wp2_with fail
              go_ret
              exact ⟨rfl, below_step (below_step HB14.out hb14) hb15⟩
  · go_wp2_with fail
    refine (new_badI n (by omega)).mono ?_
    rintro e w1 ⟨rfl, rfl⟩
    go_wp2_with fail
    refine (rnew_any n).mono ?_
    rintro e w2 ⟨rfl, hb2⟩
    simp only [if_neg hroom]
    unfold qcells
    go_wp2_with fail
    refine alive_any.mono ?_
    rintro e w4 ⟨rfl, hb4⟩
    go_wp2_with fail
    go_ret
    exact ⟨rfl, below_step (below_step (below_step hbq hb2) (below_alloc (Below.refl _ _) _)) hb4⟩
end Go.Proofs.Ytdhaoodkelehpaa
end
