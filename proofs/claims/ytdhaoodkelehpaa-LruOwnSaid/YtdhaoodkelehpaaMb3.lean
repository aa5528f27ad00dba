/- Contracts of functions that the laws reach (texts laid together, part 3): each says of its call what it answers and what it leaves of memory; the conditions stand in each statement. -/
import Derived.Test.YtdhaoodkelehpaaMb2
import Derived.Test.YtdhaoodkelehpaaMb1
import Derived.Test.YtdhaoodkelehpaaWMore
set_option linter.unusedVariables false
set_option linter.unusedSimpArgs false
set_option linter.unusedSectionVars false
set_option linter.unnecessarySimpa false
/-! The walk of LruMore. -/
section
set_option linter.unusedVariables false
namespace Go.Proofs.Ytdhaoodkelehpaa
open Go.RowKit Go.Kit Go.Proofs.YtdhaoodkelehpaaW.PrintWords
/-- Counts that are not too great. -/
def Cn (S : Sp Int) (i : Int) : Prop := S.hi ≤ i ∧ S.mi ≤ i ∧ S.go ≤ i
theorem Cn.mono {S : Sp Int} {i j : Int} (h : Cn S i) (hj : i ≤ j) : Cn S j := ⟨by have := h.1; omega, by have := h.2.1; omega, by have := h.2.2; omega⟩
theorem Cn.get {S : Sp Int} {i : Int} (h : Cn S i) (k : Int) : Cn (S.get k) (i + 1) := by
  obtain ⟨h1, h2, h3⟩ := h
  unfold Sp.get
  split
  · exact ⟨by show S.hi ≤ _; omega, by show S.mi + 1 ≤ _; omega, by show S.go ≤ _; omega⟩
  · exact ⟨by show S.hi + 1 ≤ _; omega, by show S.mi ≤ _; omega, by show S.go ≤ _; omega⟩
theorem Cn.put {S : Sp Int} {i : Int} (h : Cn S i) (k v : Int) : Cn (S.put k v) (i + 1) := by
  obtain ⟨h1, h2, h3⟩ := h
  unfold Sp.put
  split
  · exact ⟨by show S.hi ≤ _; omega, by show S.mi ≤ _; omega, by show S.go ≤ _; omega⟩
  · split
    · exact ⟨by show S.hi ≤ _; omega, by show S.mi ≤ _; omega, by show S.go + 1 ≤ _; omega⟩
    · exact ⟨by show S.hi ≤ _; omega, by show S.mi ≤ _; omega, by show S.go ≤ _; omega⟩
/-- Two memos of the walk's own, each its own. -/
def Two (w0 w : World) (m n : Nat) (S T : Sp Int) : Prop := ∃ F G, Mf w m S F ∧ Mf w n T G ∧ Sep F G ∧ (∀ k, F k → w0.heap.size ≤ k) ∧ (∀ k, G k → w0.heap.size ≤ k) ∧ Below w0.heap.size w0 w
section
variable {w0 w w1 : World} {m n : Nat} {S T : Sp Int}
theorem Two.base (h : Two w0 w m n S T) : Below w0.heap.size w0 w := by obtain ⟨F, G, _, _, _, _, _, h⟩ := h; exact h
theorem Two.swap (h : Two w0 w m n S T) : Two w0 w n m T S := by obtain ⟨F, G, h1, h2, h3, h4, h5, h6⟩ := h; exact ⟨G, F, h2, h1, h3.symm, h5, h4, h6⟩
theorem Two.below (h : Two w0 w m n S T) (hb : Below w.heap.size w w1) : Two w0 w1 m n S T := by
  obtain ⟨F, G, h1, h2, h3, h4, h5, h6⟩ := h
  exact ⟨F, G, h1.below hb, h2.below hb, h3, h4, h5, below_step h6 hb⟩
/-- The first one is called, behind what was laid since. -/
theorem Two.left (h : Two w0 w m n S T) : ∃ F, Mf w m S F ∧ (∀ k, F k → k < w.heap.size) ∧ ∀ S' w1 w', Below w.heap.size w w1 → Lft w1 m F S' w' → Two w0 w' m n S' T := by
  obtain ⟨F, G, h1, h2, h3, h4, h5, h6⟩ := h
  refine ⟨F, h1, h1.old, fun S' w1 w' hb hl => ?_⟩
  have hl2 := hl
  obtain ⟨F', hM, ho, hn⟩ := hl2
  have hb1 := below_step h6 hb
  obtain ⟨F2, hM2, hF2, hb2⟩ := hl.step h4 hb1
  exact ⟨F', G, hM, (h2.below hb).only ho h3.symm, h3.onto hn (h2.below hb).old, fun k hk => (hn k hk).elim (h4 k) (fun q => Nat.le_trans hb1.size q), h5, hb2⟩
theorem Lft.kept {F : Nat → Prop} {w' : World} {g : Nat} {o : Obj} (hl : Lft w m F S w') (hg : w.heap[g]? = some o) (hF : ¬ F g) : w'.heap[g]? = some o := by
  obtain ⟨F', hM, ho, hn⟩ := hl
  exact ho.kept hg hF
theorem Two.oks (h : Two w0 w m n S T) : S.ok ∧ T.ok := by obtain ⟨F, G, h1, h2, _⟩ := h; exact ⟨h1.ok, h2.ok⟩
end
attribute [local go_sem] Go.Proofs.YtdhaoodkelehpaaW.PrintMore.max_two Go.Proofs.YtdhaoodkelehpaaW.PrintMore.min_two
/-- Where the loop stands. -/
def MoreRel (w : World) (m n : Nat) (np : Nat) (gk : Nat) (vi : Value) (w' : World) : Prop :=
  ∃ (i : Nat) (S T : Sp Int), vi = .int .i64 (i : Int) ∧ Two w w' m n S T ∧ Hid (Wider S T) ∧ Hid (Cn S i ∧ Cn T i) ∧ Hid (i ≤ np ∧ gk = np - i)
set_option maxHeartbeats 8000000 in
set_option maxRecDepth 100000 in
theorem LruMore_walk (q r : Int) (A : Option Addr) (np cp : Nat) (L : List Lc) (w : World) (hq : I6 q) (hr : I6 r) (hA : LA w A np L) :
    Calls Try.prog 4 #[.int .i64 q, .int .i64 r, .slice A np cp] w fun e w' => e = .returned (.bool true) ∧ Below w.heap.size w w' := by
  have hmx := hA.max
  obtain ⟨x1, hx1⟩ : ∃ x : Int, max q 1 = x := ⟨_, rfl⟩
  obtain ⟨n1, hn1⟩ : ∃ x : Int, min x1 4096 = x := ⟨_, rfl⟩
  obtain ⟨x2, hx2⟩ : ∃ x : Int, max r 0 = x := ⟨_, rfl⟩
  obtain ⟨n2, hn2⟩ : ∃ x : Int, min x2 4096 = x := ⟨_, rfl⟩
  obtain ⟨n3, hn3⟩ : ∃ x : Int, min (n1 + n2) 4096 = x := ⟨_, rfl⟩
  have b1 : Builtin.max2 (.int .i64 q) (.int .i64 1) = pure (.int .i64 x1) := max2_is hx1
  have b2 : Builtin.min2 (.int .i64 x1) (.int .i64 4096) = pure (.int .i64 n1) := min2_is hn1
  have b3 : Builtin.max2 (.int .i64 r) (.int .i64 0) = pure (.int .i64 x2) := max2_is hx2
  have b4 : Builtin.min2 (.int .i64 x2) (.int .i64 4096) = pure (.int .i64 n2) := min2_is hn2
  have b5 : Builtin.min2 (.int .i64 (n1 + n2)) (.int .i64 4096) = pure (.int .i64 n3) := min2_is hn3
  have hw1 : IntKind.i64.wrap (n1 + n2) = n1 + n2 := by rw [IntKind.wrap_i64]; omega
  have l1 : 1 ≤ n1 ∧ n1 ≤ 4096 ∧ n1 ≤ n3 ∧ n3 ≤ 4096 := by omega
  have HL := Lib.hid l1
  clear hx1 hn1 hx2 hn2 hn3 l1 hq hr
  go_enter Try.func4, Try.ntmps4
  go_wp2_with fail
  refine (new_f n1 HL.out.1 HL.out.2.1).mono ?_
  rintro e w1 ⟨m, F, rfl, hM, hF, hb1⟩
  have HM := Lib.hid hM
  have HF := Lib.hid hF
  have HB1 := Lib.hid hb1
  clear hM hF hb1
  go_wp2_with fail
  refine (new_f n3 (by have := HL.out; omega) HL.out.2.2.2).mono ?_
  rintro e w2 ⟨n, G, rfl, hN, hG, hb2⟩
  have HT : Hid (Two w w2 m n ⟨n1, [], 0, 0, 0⟩ ⟨n3, [], 0, 0, 0⟩) := Lib.hid ⟨F, G, HM.out.below hb2, hN, Sep.new HM.out.old hG, HF.out, fun k hk => Nat.le_trans HB1.out.size (hG k hk), below_step HB1.out hb2⟩
  clear hN hG hb2 HM HF HB1 b1 b2 b3 b4 b5 hw1
  go_wp2_with fail
  refine alive_any.mono ?_
  rintro e w3 ⟨rfl, hb3⟩
  have HT3 := Lib.hid (HT.out.below hb3)
  have HW : Hid (Wider (⟨n1, [], 0, 0, 0⟩ : Sp Int) ⟨n3, [], 0, 0, 0⟩) := Lib.hid ⟨List.Sublist.refl _, HL.out.2.2.1, fun _ => rfl⟩
  clear HT hb3
  go_wp2_with fail
  go_loopg [60] np (fun gk vi w' => MoreRel w m n np gk vi w')
  case atStart => exact ⟨0, _, _, rfl, HT3.out, HW, Lib.hid ⟨⟨Int.le_refl _, Int.le_refl _, Int.le_refl _⟩, ⟨Int.le_refl _, Int.le_refl _, Int.le_refl _⟩⟩, Lib.hid ⟨by omega, rfl⟩⟩
  case round =>
    clear HT3 HW HL
    obtain ⟨i, S, T, rfl, hT, HW, HC, HG⟩ := hrel
    by_cases hi : i < np
    · obtain ⟨ad, Ai, ni, ci, x, rfl, h0, h1, h2, h3, hr, f0, f1, f2, _, hx⟩ := hA.at0 i hi
      have hi2 : (i : Int) < (np : Int) := by omega
      have hi9 : (i : Int) ≤ 140737488351232 := by omega
      obtain ⟨kk, hkk⟩ : ∃ kk, (wrap64 (x.kind.tmod 3 + 3)).tmod 3 = kk := ⟨_, rfl⟩
      have hba := below_alloc (Below.refl wr.heap.size wr) (.cells #[.int .i64 x.kind, .int .i64 x.k, .int .i64 x.v, .slice Ai ni ci] 30)
      have hac := heap_alloc_new wr (.cells #[.int .i64 x.kind, .int .i64 x.k, .int .i64 x.v, .slice Ai ni ci] 30)
      have HT0 := Lib.hid hT
      have HT0k := Lib.hid hT.oks
      have hb1 := hT.base
      replace h0 := pw_cell_below hb1 h0
      replace h1 := pw_cell_below hb1 h1
      replace h2 := pw_cell_below hb1 h2
      replace h3 := pw_cell_below hb1 h3
      have HX : Hid (I6 x.k ∧ I6 x.v) := Lib.hid ⟨f1, f2⟩
      have HC1 : Hid (Cn S (i + 1 : Nat) ∧ Cn T (i + 1 : Nat)) := Lib.hid ⟨HC.out.1.mono (by omega), HC.out.2.mono (by omega)⟩
      have HBA := Lib.hid hba
      have HAC := Lib.hid hac
      clear hT hba hac hb1 hr f0 f1 f2 hx
      by_cases k0 : kk = 0
      · subst k0
        go_wp2_with fail
        obtain ⟨F, hM, hold, hS⟩ := HT0.out.left
        refine (get_f (hM.below HBA.out) x.k HX.out.1 (by have := HC.out.1.1; omega) (by have := HC.out.1.2.1; omega)).mono ?_
        rintro e w2 ⟨v1, y1, rfl, hy1, hl⟩
        have HT1 := Lib.hid (hS _ _ _ HBA.out hl)
        have hac2 := hl.kept HAC.out (fun q => absurd (hold _ q) (Nat.lt_irrefl _))
        have c1 := cell_of_row w2 _ 1 _ _ _ hac2
        have c2 := cell_of_row w2 _ 2 _ _ _ hac2
        simp only [List.getElem?_toArray, List.getElem?_cons_zero, List.getElem?_cons_succ] at c1 c2
        clear hM hS hl hold hac2
        go_wp2_with fail
        obtain ⟨G, hN, _, hS⟩ := HT1.out.swap.left
        refine (get_f hN x.k HX.out.1 (by have := HC.out.2.1; omega) (by have := HC.out.2.2.1; omega)).mono ?_
        rintro e w3 ⟨v2, y2, rfl, hy2, hl⟩
        have HT2 := Lib.hid (hS _ _ _ (Below.refl _ _) hl).swap
        clear hN hS hl HT0 HT1 c1 c2
        cases hf : fnd S.l x.k with
        | none =>
          rw [hf] at hy1
          obtain ⟨rfl, rfl⟩ := Prod.mk.inj hy1
          clear hy1 hy2
          go_wp2_with fail
          go_roundg (gk - 1)
          case measure => have := HG.out.2; omega
          case rel => exact ⟨i + 1, _, _, by simp, HT2.out, Lib.hid (HW.out.get HT0k.out.1 HT0k.out.2 _), Lib.hid (⟨by have := HC.out.1.get x.k; simpa using this, by have := HC.out.2.get x.k; simpa using this⟩), Lib.hid ⟨by omega, by have := HG.out.2; omega⟩⟩
        | some v =>
          have hg := fnd_sub HW.out HT0k.out.2 hf
          rw [hf] at hy1
          rw [hg] at hy2
          obtain ⟨rfl, rfl⟩ := Prod.mk.inj hy1
          obtain ⟨rfl, rfl⟩ := Prod.mk.inj hy2
          clear hy1 hy2 hf hg
          have hvv : (v2 != v2) = false := by simp
          go_wp2_with fail
          go_roundg (gk - 1)
          case measure => have := HG.out.2; omega
          case rel => exact ⟨i + 1, _, _, by simp, HT2.out, Lib.hid (HW.out.get HT0k.out.1 HT0k.out.2 _), Lib.hid (⟨by have := HC.out.1.get x.k; simpa using this, by have := HC.out.2.get x.k; simpa using this⟩), Lib.hid ⟨by omega, by have := HG.out.2; omega⟩⟩
      by_cases k1 : kk = 1
      · subst k1
        go_wp2_with fail
        obtain ⟨F, hM, _⟩ := (HT0.out.below HBA.out).left
        refine (look_f hM x.k HX.out.1).mono ?_
        rintro e w2 ⟨v1, y1, rfl, hy1, rfl⟩
        clear hM
        go_wp2_with fail
        obtain ⟨G, hN, _⟩ := (HT0.out.below HBA.out).swap.left
        refine (look_f hN x.k HX.out.1).mono ?_
        rintro e w3 ⟨v2, y2, rfl, hy2, rfl⟩
        have HT2 := Lib.hid (HT0.out.below HBA.out)
        clear hN HT0
        cases hf : fnd S.l x.k with
        | none =>
          rw [hf] at hy1
          obtain ⟨rfl, rfl⟩ := Prod.mk.inj hy1
          clear hy1 hy2
          go_wp2_with fail
          go_roundg (gk - 1)
          case measure => have := HG.out.2; omega
          case rel => exact ⟨i + 1, S, T, by simp, HT2.out, Lib.hid (HW.out), Lib.hid (HC1.out), Lib.hid ⟨by omega, by have := HG.out.2; omega⟩⟩
        | some v =>
          have hg := fnd_sub HW.out HT0k.out.2 hf
          rw [hf] at hy1
          rw [hg] at hy2
          obtain ⟨rfl, rfl⟩ := Prod.mk.inj hy1
          obtain ⟨rfl, rfl⟩ := Prod.mk.inj hy2
          clear hy1 hy2 hf hg
          have hvv : (v2 != v2) = false := by simp
          go_wp2_with fail
          go_roundg (gk - 1)
          case measure => have := HG.out.2; omega
          case rel => exact ⟨i + 1, S, T, by simp, HT2.out, Lib.hid (HW.out), Lib.hid (HC1.out), Lib.hid ⟨by omega, by have := HG.out.2; omega⟩⟩
      by_cases k2 : kk = 2
      · subst k2
        go_wp2_with fail
        obtain ⟨F, hM, hold, hS⟩ := HT0.out.left
        refine (put_f (hM.below HBA.out) x.k x.v HX.out.1 (by have := HC.out.1.2.2; omega)).mono ?_
        rintro e w2 ⟨v1, y1, rfl, _, hl⟩
        have HT1 := Lib.hid (hS _ _ _ HBA.out hl)
        have hac2 := hl.kept HAC.out (fun q => absurd (hold _ q) (Nat.lt_irrefl _))
        have c1 := cell_of_row w2 _ 1 _ _ _ hac2
        have c2 := cell_of_row w2 _ 2 _ _ _ hac2
        simp only [List.getElem?_toArray, List.getElem?_cons_zero, List.getElem?_cons_succ] at c1 c2
        clear hM hS hl hold hac2
        go_wp2_with fail
        obtain ⟨G, hN, _, hS⟩ := HT1.out.swap.left
        refine (put_f hN x.k x.v HX.out.1 (by have := HC.out.2.2.2; omega)).mono ?_
        rintro e w3 ⟨v2, y2, rfl, _, hl⟩
        have HT2 := Lib.hid (hS _ _ _ (Below.refl _ _) hl).swap
        clear hN hS hl HT0 HT1 c1 c2
        go_wp2_with fail
        go_roundg (gk - 1)
        case measure => have := HG.out.2; omega
        case rel => exact ⟨i + 1, _, _, by simp, HT2.out, Lib.hid (HW.out.put HT0k.out.1 HT0k.out.2 _ _), Lib.hid (⟨by have := HC.out.1.put x.k x.v; simpa using this, by have := HC.out.2.put x.k x.v; simpa using this⟩), Lib.hid ⟨by omega, by have := HG.out.2; omega⟩⟩
      · have e0 : (kk == 0) = false := by simpa using k0
        have e1 : (kk == 1) = false := by simpa using k1
        have e2 : (kk == 2) = false := by simpa using k2
        have HT2 := Lib.hid (HT0.out.below HBA.out)
        clear HT0
        go_wp2_with fail
        go_roundg (gk - 1)
        case measure => have := HG.out.2; omega
        case rel => exact ⟨i + 1, S, T, by simp, HT2.out, Lib.hid (HW.out), Lib.hid (HC1.out), Lib.hid ⟨by omega, by have := HG.out.2; omega⟩⟩
    · have hi2 : ¬ (i : Int) < (np : Int) := by omega
      have HT2 := Lib.hid hT.base
      clear hT
      go_wp2_with fail
      go_ret
      exact ⟨rfl, HT2.out⟩
end Go.Proofs.Ytdhaoodkelehpaa
end
