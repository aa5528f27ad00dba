/- Contracts of functions that the law reaches (texts laid together, part 6): each says of its call what it answers and what it leaves of memory; the conditions stand in each statement. -/
import Derived.Test.YtpjpgcjhdbiepaaMpStreamCuts5
import Derived.Test.YtpjpgcjhdbiepaaWWords
import Derived.WalkKit
import Derived.Lib.Hide
import Derived.Laws.BitsAllLaws
import Derived.Deep.WholeRow
import Derived.Deep.CutBlock
import Derived.Deep.Cut
import Derived.Deep.LoopGhost
import Derived.Laws.CopyOwn
import Derived.Lib.SlBytesConst
import Derived.ChangeKeysEq
import Derived.Laws.StructEq
import Derived.Test.YtpjpgcjhdbiepaaWMore
import Derived.Laws.Bits64b
import Derived.IntWalk
import Derived.Test.YtpjpgcjhdbiepaaProg
import Derived.Test.YtpjpgcjhdbiepaaWGuard
import Derived.Deep.MidRow
import Derived.Deep.RegionHeld3
import Derived.Deep.RegionLaw
import Derived.Deep.DeepMust
import Derived.Laws.Cover3
import Derived.Test.YtpjpgcjhdbiepaaWEqStruct
import Derived.StillTailTactics
import Derived.Recover
import Derived.WalkLawsBesides
import Derived.Deep.RegionWith
import Derived.Laws.CopyRow
import Derived.Deep.QuietTactic
import Derived.BigQuiet
import Derived.RegionTactic
import Derived.BigRegion
import Derived.Great.BuildSlice
set_option linter.unusedVariables false
/-! The walk of StreamCuts. (mk_sttf.py) -/
section
namespace Go.Proofs.Ytpjpgcjhdbiepaa
open Go.RowKit Go.Kit CrcM Go.Proofs.YtpjpgcjhdbiepaaW.PrintWords
theorem ofs_apart {w w1 : World} {base b2 : Nat} {v v2 : Value} {L M : List Fr} (h : OFs w base v L) (h2 : OFs w b2 v2 M) (ho : Only w w1 (rf v2)) (hs : Sep (rf v) (rf v2)) : OFs w1 base v L :=
  ⟨own_only h.row ho hs, fun f hf => ⟨(h.each f hf).1, (h.each f hf).2.typed ho (fun k hk => by obtain ⟨cs, hc⟩ := own_typed h2.row hk; exact ⟨cs, _, hc, by decide⟩)⟩⟩
/-- Between two pieces: the one decoder, the other, what they told. -/
structure CuS (w : World) (d1 d2 : Nat) (v1 : Value) (want1 : Int) (t1 : Sm) (vl1 : Value) (Fs : List Fr) (v2 : Value) (want2 : Int) (t2 : Sm) (v11 : Value) (Gs : List Fr) (g10 g12 : Nat) (x12 y12 : Int) (W : World) : Prop where
  b : Below w.heap.size w W
  dc1 : Dc W d1 v1 want1 t1
  dc2 : Dc W d2 v2 want2 t2
  all : OFs W w.heap.size vl1 Fs
  got : OFs W w.heap.size v11 Gs
  h10 : W.heap[g10]? = some (.cells (fv t1.why t1.wat) 30 (0, 0))
  h12 : W.heap[g12]? = some (.cells (fv x12 y12) 30 (0, 0))
  n1 : ∀ k, dfp d1 v1 k → w.heap.size ≤ k
  n2 : ∀ k, dfp d2 v2 k → w.heap.size ≤ k
  sep : Sep (dfp d1 v1) (dfp d2 v2)
  sepf : Sep (rf v11) (rf vl1)
  gg : w.heap.size ≤ g12 ∧ ¬ g10 = g12
section
variable {w W W1 : World} {d1 d2 : Nat} {v1 vl1 v2 v3 v11 : Value} {want1 want2 want3 : Int} {t1 t2 t3 : Sm} {Fs Gs : List Fr} {g10 g12 : Nat} {x12 y12 : Int}
theorem CuS.below (h : CuS w d1 d2 v1 want1 t1 vl1 Fs v2 want2 t2 v11 Gs g10 g12 x12 y12 W) (hb : Below W.heap.size W W1) : CuS w d1 d2 v1 want1 t1 vl1 Fs v2 want2 t2 v11 Gs g10 g12 x12 y12 W1 :=
  ⟨below_step h.b hb, h.dc1.below hb, h.dc2.below hb, h.all.below hb, h.got.below hb, fault_keep h.h10 hb, fault_keep h.h12 hb, h.n1, h.n2, h.sep, h.sepf, h.gg⟩
theorem CuS.feed (h : CuS w d1 d2 v1 want1 t1 vl1 Fs v2 want2 t2 v11 Gs g10 g12 x12 y12 W) (ho : Only W W1 (dfp d2 v2)) (hon : Onto W (dfp d2 v2) (dfp d2 v3)) (hd : Dc W1 d2 v3 want3 t3) : CuS w d1 d2 v1 want1 t1 vl1 Fs v3 want3 t3 v11 Gs g10 g12 x12 y12 W1 :=
  ⟨Below.only h.b ho h.b.size h.n2, h.dc1.only ho h.sep, hd, h.all.only ho h.dc2.toDb.typed, h.got.only ho h.dc2.toDb.typed, fault_only h.h10 ho (dfp_fault h.dc2.toDb h.h10), fault_only h.h12 ho (dfp_fault h.dc2.toDb h.h12), h.n1, fun k hk => (hon k hk).elim (fun e => h.n2 k e) (fun e => Nat.le_trans h.b.size e), (h.sep.symm.onto hon h.dc1.toDb.old).symm, h.sepf, h.gg⟩
theorem typed_row {v : Value} {base : Nat} {L : List Fr} {d : Nat} {v2 : Value} {want : Int} {s : Sm} (hd : Db W d v2 want s) (h : OFs W base v L) : Sep (dfp d v2) (rf v) := fun k hk e => by
  obtain ⟨cs, t, hc, ht, _⟩ := hd.typed k hk
  obtain ⟨cs', hc'⟩ := own_typed h.row e
  rw [hc] at hc'
  injection hc' with hc'
  injection hc' with _ hc'
  exact ht hc'
theorem CuS.pushed (h : CuS w d1 d2 v1 want1 t1 vl1 Fs v2 want2 t2 v11 Gs g10 g12 x12 y12 W) {v5 : Value} {Hs : List Fr} (hO : OFs W1 w.heap.size v5 Hs) (hg : W.grownBy W1 v11.ownBlock) (hat : v5.ownBlock = v11.ownBlock ∨ ∃ b, v5.ownBlock = some b ∧ W.heap.size ≤ b) :
    CuS w d1 d2 v1 want1 t1 vl1 Fs v2 want2 t2 v5 Hs g10 g12 x12 y12 W1 := by
  have ho : Only W W1 (rf v11) := (Only.refl _ _).grown hg (fun k e => .inl e)
  refine ⟨Below.only h.b ho h.b.size (fun k e => (own_new h.got.row k e).1), h.dc1.only ho (typed_row h.dc1.toDb h.got), h.dc2.only ho (typed_row h.dc2.toDb h.got), ofs_apart h.all h.got ho h.sepf.symm, hO, fault_only h.h10 ho (own_not h.got.row h.h10 (by decide)), fault_only h.h12 ho (own_not h.got.row h.h12 (by decide)), h.n1, h.n2, h.sep, fun k hk e => ?_, h.gg⟩
  rcases hat with h1 | ⟨b, hb, hle⟩
  · exact h.sepf k (h1.symm.trans hk) e
  · have : b = k := by have e2 := hb.symm.trans hk; injection e2
    have := (own_new h.all.row k e).2
    omega
theorem CuS.told (h : CuS w d1 d2 v1 want1 t1 vl1 Fs v2 want2 t2 v11 Gs g10 g12 x12 y12 W) (x y : Int) : CuS w d1 d2 v1 want1 t1 vl1 Fs v2 want2 t2 v11 Gs g10 g12 x y (W.setRow g12 (fv x y)) := by
  have ho := Fr.only_row W g12 (fv x y)
  have hty : ∀ k, k = g12 → ∃ cs t, W.heap[k]? = some (.cells cs t (0, 0)) ∧ t ≠ 42 ∧ t ≠ 9 := fun k e => by subst e; exact ⟨fv x12 y12, 30, h.h12, by decide, by decide⟩
  exact ⟨Below.only h.b ho h.b.size (fun k e => by rw [e]; exact h.gg.1), h.dc1.only ho (fun k hk e => dfp_fault h.dc1.toDb h.h12 (e ▸ hk)), h.dc2.only ho (fun k hk e => dfp_fault h.dc2.toDb h.h12 (e ▸ hk)), h.all.only ho hty, h.got.only ho hty, fault_only h.h10 ho h.gg.2, set_fault x y h.h12, h.n1, h.n2, h.sep, h.sepf, h.gg⟩
end
def CuRel (w : World) (d1 d2 : Nat) (v1 : Value) (want1 : Int) (t1 : Sm) (vl1 : Value) (Fs : List Fr) (g10 g12 n m : Nat) (xs : List Int) (g : Nat) (v11 v13 v14 : Value) (W : World) : Prop :=
  ∃ (i at_ : Nat) (v2 : Value) (want2 : Int) (t2 : Sm) (Gs : List Fr), v13 = .int .i64 (at_ : Int) ∧ v14 = .int .i64 (i : Int) ∧ Hid (CuS w d1 d2 v1 want1 t1 vl1 Fs v2 want2 t2 v11 Gs g10 g12 t2.why t2.wat W) ∧ Hid (feedS (xs.take at_) (Sm.new 2097152) = (t2, Gs.map Fr.core) ∧ at_ ≤ n ∧ i + g = m + 1 ∧ (m < i → at_ = n))
theorem cut_flat (xs : List Int) (a h n : Nat) : [(xs.drop a).take h, (xs.drop (a + h)).take (n - h)].flatten = (xs.drop a).take n ∨ n < h := by
  rcases Nat.lt_or_ge n h with h1 | h1
  · exact .inr h1
  · left
    have e : n = h + (n - h) := by omega
    conv => rhs; rw [e, List.take_add, List.drop_drop]
    simp
theorem take_more (xs : List Int) (a n : Nat) : xs.take (a + n) = xs.take a ++ (xs.drop a).take n := List.take_add
attribute [-go_sem] Instr.loadAt Instr.storeAt Instr.build run_slice_lh run_slice_any
attribute [local go_sem] Go.Proofs.YtpjpgcjhdbiepaaW.PrintMore.min_two
set_option maxHeartbeats 16000000 in
set_option maxRecDepth 100000 in
theorem StreamCuts_walk (A : Option Addr) (n c : Nat) (xs : List Int) (B : Option Addr) (m cm_ : Nat) (ys : List Int) (w : World) (hx : RB w A n xs) (hc : n ≤ c) (hl : n ≤ 1048576) (hy : RB w B m ys) (hm : m ≤ 1048576) :
    Calls Try.prog 4 #[.slice A n c, .slice B m cm_] w fun e w' => e = .returned (.bool true) ∧ Below w.heap.size w w' := by
  have cN : ∀ w, Calls Try.prog 7 #[.int .i64 2097152] w fun e w' => e = .returned (.tuple #[.pointer (some ⟨w.heap.size, 0, none⟩), .int .i64 0]) ∧ Dc w' w.heap.size (.slice none 0 0) 0 (Sm.new 2097152) ∧ Below w.heap.size w w' := fun w => dNew_any 2097152 (by decide) (by decide) w
  have HX := Lib.hid hx
  have HXL := Lib.hid hx.len
  have HC := Lib.hid hc
  have HL := Lib.hid hl
  have HY := Lib.hid hy
  have HML := Lib.hid hm
  clear hx hl hc hy hm
  go_enter Try.func4, Try.ntmps4
  go_wp2_with fail
  refine (cN _).mono ?_
  rintro e w1 ⟨rfl, hD1, hb1⟩
  have HS1 := Lib.hid hb1.size
  obtain ⟨d1, hd1⟩ : ∃ d, w.heap.size = d := ⟨_, rfl⟩
  have HDS : Hid (w.heap.size = d1) := Lib.hid hd1
  rw [hd1] at hD1 ⊢
  clear hd1
  go_wp2_with fail
  refine (cN _).mono ?_
  rintro e w2 ⟨rfl, hD2, hb2⟩
  obtain ⟨d2, hd2⟩ : ∃ d, w1.heap.size = d := ⟨_, rfl⟩
  have HDS2 : Hid (d1 < d2 ∧ w.heap.size ≤ d2) := Lib.hid ⟨by rw [← hd2]; exact lt_of_block hD1.toDb.blk, by rw [← hd2]; exact HS1.out⟩
  rw [hd2] at hD2 ⊢
  have hbx := below_alloc (Below.refl _ w2) (.cells #[.slice A n c] 23)
  have hb12 := below_step hb1 hb2
  have HDF : Hid (∀ k, dfp d1 (.slice none 0 0) k → w.heap.size ≤ k) := Lib.hid (fun k hk => hk.elim (fun e => by rw [e]; exact Nat.le_of_eq HDS.out) (fun e => by cases e))
  have hP := PB.one (cap := c) (F := dfp d1 (.slice none 0 0)) 23 (HX.out.below hb12) (fun a e hp hk => by have h1 := rb_lt HX.out a e hp; have h2 := HDF.out _ hk; omega) (hD1.below hb2).toDb.old
  have HDa := Lib.hid ((hD1.below hb2).below hbx)
  have HDb := Lib.hid (hD2.below hbx)
  have HBa := Lib.hid (below_step hb12 hbx)
  clear cN hd2 hD1 hD2 hb1 hb2 hbx hb12
  go_wp2_with fail
  refine (feed_any HDa.out rfl _ 1 1 [xs] hP (by simp; have := HXL.out; have := HL.out; omega) (by simp [Sm.new]; have := HXL.out; have := HL.out; omega) (by simp [Sm.new]; have := HXL.out; have := HL.out; omega)).mono ?_
  rintro e w3 ⟨v1, vl1, want1, t1, Fs, rfl, HF, hD3, hO3, ho3, hon3⟩
  have HF1 : Hid (feedS xs (Sm.new 2097152) = (t1, Fs.map Fr.core)) := Lib.hid (by have h := HF.out; rw [show [xs].flatten = xs by simp] at h; exact h)
  obtain ⟨wa, w4, s0, s1, hY10, hb4⟩ := fault_put w3 t1.why t1.wat
  obtain ⟨wb, w5, s2, s3a, hY12, hb5⟩ := fault_put w4 0 0
  have s3 : (Instr.storeAt 30 (.pointer (some ⟨w4.heap.size, 0, none⟩)) (.agg #[.int .i64 0, .int .i64 0])).run Try.prog wb = .ok () w5 := s3a
  have hbf0 := build_fault0
  have hb45 := below_step hb4 hb5
  have hsepD : Sep (dfp d1 v1) (dfp d2 (.slice none 0 0)) := Sep.onto (F := dfp d1 (.slice none 0 0)) (fun k hk e => by
    rcases hk with hk | hk
    · rcases e with e | e
      · have := HDS2.out.1; omega
      · cases e
    · cases hk) hon3 HDb.out.toDb.old
  have HQ0 : Hid (CuS w d1 d2 v1 want1 t1 vl1 Fs (.slice none 0 0) 0 (Sm.new 2097152) (.slice none 0 0) [] w3.heap.size w4.heap.size 0 0 w5) := Lib.hid
    ⟨below_step (Below.only HBa.out ho3 HBa.out.size (fun k hk => HDF.out k hk)) hb45, hD3.below hb45, (HDb.out.only ho3 (fun k hk e => by
      rcases hk with hk | hk
      · rcases e with e | e
        · have := HDS2.out.1; omega
        · cases e
      · cases hk)).below hb45, (hO3.less HBa.out.size).below hb45, OFs.nil _ _, fault_keep hY10 hb5, hY12,
      fun k hk => (hon3 k hk).elim (fun e => HDF.out k e) (fun e => Nat.le_trans HBa.out.size e), fun k hk => hk.elim (fun e => by rw [e]; exact HDS2.out.2) (fun e => by cases e), hsepD, (fun k e => by cases e), by
        have h1 := lt_of_block hY10
        have h2 := ho3.size
        have h3 := HBa.out.size
        have h4 := hb4.size
        refine ⟨?_, ?_⟩ <;> omega⟩
  clear HF hD3 hO3 ho3 hon3 hb4 hb5 hb45 hY10 hY12 hP HDa HDb HBa hsepD s3a
  go_upto_region 8 with (fail)
  clear s0 s1 s2 s3
  obtain ⟨g10, hg10⟩ : ∃ g, w3.heap.size = g := ⟨_, rfl⟩
  obtain ⟨g12, hg12⟩ : ∃ g, w4.heap.size = g := ⟨_, rfl⟩
  rw [hg10, hg12] at HQ0 ⊢
  clear hg10 hg12
  obtain ⟨A9, c9, rfl⟩ := HQ0.out.all.form
  obtain ⟨n9, hn9⟩ : ∃ n9, Fs.length = n9 := ⟨_, rfl⟩
  have HN9 := Lib.hid hn9
  rw [hn9] at HQ0 ⊢
  clear hn9
  have HZ : Hid (CuRel w d1 d2 v1 want1 t1 (.slice A9 n9 c9) Fs g10 g12 n m xs (m + 1) (.slice none 0 0) (.int .i64 0) (.int .i64 0) w5) := Lib.hid ⟨0, 0, _, _, _, [], rfl, rfl, HQ0, Lib.hid ⟨rfl, Nat.zero_le _, by omega, fun h => by omega⟩⟩
  clear HQ0
  go_wp2_with fail
  go_loopg [11, 13, 14] (m + 1) (fun gk v11 v13 v14 w' => CuRel w d1 d2 v1 want1 t1 (.slice A9 n9 c9) Fs g10 g12 n m xs gk v11 v13 v14 w')
  case atStart => exact HZ.out
  case round =>
    clear HZ
    obtain ⟨i, at_, v2, want2, t2, Gs, rfl, rfl, HQ, HG⟩ := hrel
    obtain ⟨A11, c11, rfl⟩ := HQ.out.got.form
    have e12 := get_fault HQ.out.h12
    have hin : (i : Int) ≤ (m : Int) ∨ ¬ (i : Int) ≤ (m : Int) := Classical.em _
    by_cases hgo : i ≤ m ∧ t2.why = 0
    · have hi2 : (i : Int) ≤ (m : Int) := by have := hgo.1; omega
      have hne := eql_fault t2.why t2.wat 0 0 true (by rw [hgo.2, (HQ.out.dc2.ok.low hgo.2).1]; rfl)
      have HW2 := Lib.hid hgo.2
      have hi1 : IntKind.i64.wrap ((i : Int) + 1) = (i : Int) + 1 := by rw [IntKind.wrap_i64]; have := HML.out; have := hgo.1; omega
      have HGA : Hid (gk - 1 < gk ∧ i + 1 + (gk - 1) = m + 1) := Lib.hid (by have h := HG.out.2.2.1; exact ⟨by have := hgo.1; omega, by have := hgo.1; omega⟩)
      obtain ⟨n0, hn0⟩ : ∃ n0 : Nat, n0 = n - at_ := ⟨_, rfl⟩
      have k66 : IntKind.i64.wrap ((n : Int) - (at_ : Int)) = (n0 : Int) := by rw [IntKind.wrap_i64]; have := HL.out; have := HG.out.2.1; omega
      have HN0 := Lib.hid hn0
      clear hin hn0
      by_cases him : i < m
      · have hi3 : (i : Int) < (m : Int) := by omega
        obtain ⟨bd, cu, hB, hcc, hc0, hc1, _⟩ := (HY.out.below HQ.out.b).at_ i him
        have eC := load_cell_u8 hcc
        have kc : IntKind.i64.wrap cu = cu := by rw [IntKind.wrap_i64]; omega
        obtain ⟨nn, hnn⟩ : ∃ nn : Nat, (nn : Int) = min (n0 : Int) cu := ⟨(min (n0 : Int) cu).toNat, by omega⟩
        have hmin := min2_is (k := .i64) hnn.symm
        have HNN : Hid (nn ≤ n - at_ ∧ (m < i + 1 → nn = n - at_)) := Lib.hid ⟨by have := HN0.out; omega, fun h => by omega⟩
        subst hB
        clear hgo hcc him hnn
        go_upto_region 15 with (fail)
        clear hmin kc eC hi3 k66 e12 hne hi2
        obtain ⟨hf, hhf⟩ : ∃ hf : Nat, hf = nn / 2 := ⟨_, rfl⟩
        have HHF := Lib.hid hhf
        have HAT : Hid (at_ ≤ n ∧ n ≤ 1048576 ∧ n ≤ c ∧ nn ≤ n - at_ ∧ hf ≤ nn) := Lib.hid ⟨HG.out.2.1, HL.out, HC.out, HNN.out.1, by omega⟩
        have q1 : (nn : Int).tdiv 2 = (hf : Int) := by rw [Int.tdiv_eq_ediv_of_nonneg (by omega)]; omega
        have q2 : (nn : Int) / 2 = (hf : Int) := by omega
        have q3 : IntKind.i64.wrap (hf : Int) = (hf : Int) := by have := HAT.out; rw [IntKind.wrap_i64]; omega
        have q4 : IntKind.i64.wrap ((at_ : Int) + (hf : Int)) = (at_ : Int) + (hf : Int) := by have := HAT.out; rw [IntKind.wrap_i64]; omega
        have q5 : IntKind.i64.wrap ((at_ : Int) + (nn : Int)) = (at_ : Int) + (nn : Int) := by have := HAT.out; rw [IntKind.wrap_i64]; omega
        obtain ⟨Aa, ha0, ha1, ha2⟩ := mid_bytes A n c at_ (at_ + hf) (by omega) (by have := HAT.out; omega) HC.out
        obtain ⟨Ab, hb0, hb1, hb2⟩ := mid_bytes A n c (at_ + hf) (at_ + nn) (by have := HAT.out; omega) (by have := HAT.out; omega) HC.out
        have hsa : ∀ W : World, (Instr.slice 23 (.slice A n c) (some (.int .i64 (at_ : Int))) (some (.int .i64 ((at_ : Int) + (hf : Int)))) none).run Try.prog W = .ok (.slice Aa hf (c - at_)) W := fun W => by
          have := ha0 (at_ : Int) ((at_ : Int) + (hf : Int)) rfl (by push_cast; rfl) W
          rwa [show at_ + hf - at_ = hf by omega] at this
        have hsb : ∀ W : World, (Instr.slice 23 (.slice A n c) (some (.int .i64 ((at_ : Int) + (hf : Int)))) (some (.int .i64 ((at_ : Int) + (nn : Int)))) none).run Try.prog W = .ok (.slice Ab (nn - hf) (c - (at_ + hf))) W := fun W => by
          have := hb0 ((at_ : Int) + (hf : Int)) ((at_ : Int) + (nn : Int)) (by push_cast; rfl) (by push_cast; rfl) W
          rwa [show at_ + nn - (at_ + hf) = nn - hf by omega] at this
        have HRa : Hid (∀ W, Below w.heap.size w W → RB W Aa hf ((xs.drop at_).take hf)) := Lib.hid (fun W hb => by
          have := ha1 W xs (HX.out.below hb)
          rwa [show at_ + hf - at_ = hf by omega] at this)
        have HRb : Hid (∀ W, Below w.heap.size w W → RB W Ab (nn - hf) ((xs.drop (at_ + hf)).take (nn - hf))) := Lib.hid (fun W hb => by
          have := hb1 W xs (HX.out.below hb)
          rwa [show at_ + nn - (at_ + hf) = nn - hf by omega] at this)
        have HFa : Hid (∀ a, Aa = some a → 0 < hf → ¬ dfp d2 v2 a.block) := Lib.hid (fun a e hp hk => by
          obtain ⟨a0, e0, hbk⟩ := ha2 a e
          have h1 := rb_lt HX.out a0 e0 (by have := HAT.out; omega)
          have h2 := HQ.out.n2 _ hk
          omega)
        have HFb : Hid (∀ a, Ab = some a → 0 < nn - hf → ¬ dfp d2 v2 a.block) := Lib.hid (fun a e hp hk => by
          obtain ⟨a0, e0, hbk⟩ := hb2 a e
          have h1 := rb_lt HX.out a0 e0 (by have := HAT.out; omega)
          have h2 := HQ.out.n2 _ hk
          omega)
        have HPF : Hid ([(xs.drop at_).take hf, (xs.drop (at_ + hf)).take (nn - hf)].flatten = (xs.drop at_).take nn) := Lib.hid ((cut_flat xs at_ hf nn).elim id (fun h => by have := HAT.out; omega))
        have HFL : Hid ([(xs.drop at_).take hf, (xs.drop (at_ + hf)).take (nn - hf)].flatten.length * 136 ≤ 140737488355328 ∧ t2.came + [(xs.drop at_).take hf, (xs.drop (at_ + hf)).take (nn - hf)].flatten.length ≤ 576460752303423488 ∧ t2.whole + [(xs.drop at_).take hf, (xs.drop (at_ + hf)).take (nn - hf)].flatten.length ≤ 576460752303423488) := Lib.hid (by
          rw [HPF.out, List.length_take]
          have h1 := feed_came (xs.take at_) (Sm.new 2097152)
          rw [HG.out.1, List.length_take] at h1
          dsimp only at h1
          have h2 := HXL.out
          have h3 := HAT.out
          have h4 : (Sm.new 2097152).came = 0 := rfl
          have h5 : (Sm.new 2097152).whole = 0 := rfl
          rw [h4, h5] at h1
          refine ⟨?_, ?_, ?_⟩ <;> omega)
        have hQ := HQ.out.below (below_drew (Below.refl wr.heap.size wr))
        clear ha0 ha1 ha2 hb0 hb1 hb2 hhf
        refine wp_region_held_drew (S := fun _ => True) (by kernel_rfl) (trivial) (fun hHeld => ?_)
        generalize wr.drew = wm0 at *
        refine wpAnyH_take (i := 0) (v := (.pointer (some ⟨d2, 0, none⟩))) (oi := ⟨_, _, _, _, _, _⟩) rfl (by kernel_rfl) (by kernel_rfl) (by kernel_rfl) (fun _ _ _ h => h) (Or.inl ⟨by kernel_rfl, fun W hS => ?_⟩) (by assumption) ?_
        · dsimp only at hS; go_split_ands; go_simp
        simp only [Act.put, List.setIfInBounds_toArray, List.set_cons_zero, List.set_cons_succ]
        refine wpAnyH_take (i := 1) (v := (.slice A n c)) (oi := ⟨_, _, _, _, _, _⟩) rfl (by kernel_rfl) (by kernel_rfl) (by kernel_rfl) (fun _ _ _ h => h) (Or.inl ⟨by kernel_rfl, fun W hS => ?_⟩) (by assumption) ?_
        · dsimp only at hS; go_split_ands; go_simp
        simp only [Act.put, List.setIfInBounds_toArray, List.set_cons_zero, List.set_cons_succ]
        refine wpAnyH_take (i := 2) (v := (.int .i64 (at_ : Int))) (oi := ⟨_, _, _, _, _, _⟩) rfl (by kernel_rfl) (by kernel_rfl) (by kernel_rfl) (fun _ _ _ h => h) (Or.inl ⟨by kernel_rfl, fun W hS => ?_⟩) (by assumption) ?_
        · dsimp only at hS; go_split_ands; go_simp
        simp only [Act.put, List.setIfInBounds_toArray, List.set_cons_zero, List.set_cons_succ]
        refine wpAnyH_take (i := 3) (v := (.int .i64 (at_ : Int))) (oi := ⟨_, _, _, _, _, _⟩) rfl (by kernel_rfl) (by kernel_rfl) (by kernel_rfl) (fun _ _ _ h => h) (Or.inl ⟨by kernel_rfl, fun W hS => ?_⟩) (by assumption) ?_
        · dsimp only at hS; go_split_ands; go_simp
        simp only [Act.put, List.setIfInBounds_toArray, List.set_cons_zero, List.set_cons_succ]
        refine wpAnyH_take (i := 4) (v := (.int .i64 (nn : Int))) (oi := ⟨_, _, _, _, _, _⟩) rfl (by kernel_rfl) (by kernel_rfl) (by kernel_rfl) (fun _ _ _ h => h) (Or.inl ⟨by kernel_rfl, fun W hS => ?_⟩) (by assumption) ?_
        · dsimp only at hS; go_split_ands; go_simp
        simp only [Act.put, List.setIfInBounds_toArray, List.set_cons_zero, List.set_cons_succ]
        refine wpAnyH_take (i := 5) (v := (.int .i64 (hf : Int))) (oi := ⟨_, _, _, _, _, _⟩) rfl (by kernel_rfl) (by kernel_rfl) (by kernel_rfl) (fun _ _ _ h => h) (Or.inl ⟨by kernel_rfl, fun W hS => ?_⟩) (by assumption) ?_
        · dsimp only at hS; go_split_ands; go_simp
        simp only [Act.put, List.setIfInBounds_toArray, List.set_cons_zero, List.set_cons_succ]
        refine wpAnyH_take (i := 6) (v := (.int .i64 ((at_ : Int) + (hf : Int)))) (oi := ⟨_, _, _, _, _, _⟩) rfl (by kernel_rfl) (by kernel_rfl) (by kernel_rfl) (fun _ _ _ h => h) (Or.inl ⟨by kernel_rfl, fun W hS => ?_⟩) (by assumption) ?_
        · dsimp only at hS; go_split_ands; go_simp
        simp only [Act.put, List.setIfInBounds_toArray, List.set_cons_zero, List.set_cons_succ]
        refine wpAnyH_take (i := 7) (v := (.slice Aa hf (c - at_))) (oi := ⟨_, _, _, _, _, _⟩) rfl (by kernel_rfl) (by kernel_rfl) (by kernel_rfl) (fun _ _ _ h => h) (Or.inl ⟨by kernel_rfl, fun W hS => ?_⟩) (by assumption) ?_
        · dsimp only at hS; go_split_ands; go_simp
        simp only [Act.put, List.setIfInBounds_toArray, List.set_cons_zero, List.set_cons_succ]
        refine wpAnyH_take (i := 8) (v := (.slice A n c)) (oi := ⟨_, _, _, _, _, _⟩) rfl (by kernel_rfl) (by kernel_rfl) (by kernel_rfl) (fun _ _ _ h => h) (Or.inl ⟨by kernel_rfl, fun W hS => ?_⟩) (by assumption) ?_
        · dsimp only at hS; go_split_ands; go_simp
        simp only [Act.put, List.setIfInBounds_toArray, List.set_cons_zero, List.set_cons_succ]
        refine wpAnyH_take (i := 9) (v := (.int .i64 (at_ : Int))) (oi := ⟨_, _, _, _, _, _⟩) rfl (by kernel_rfl) (by kernel_rfl) (by kernel_rfl) (fun _ _ _ h => h) (Or.inl ⟨by kernel_rfl, fun W hS => ?_⟩) (by assumption) ?_
        · dsimp only at hS; go_split_ands; go_simp
        simp only [Act.put, List.setIfInBounds_toArray, List.set_cons_zero, List.set_cons_succ]
        refine wpAnyH_take (i := 10) (v := (.int .i64 (nn : Int))) (oi := ⟨_, _, _, _, _, _⟩) rfl (by kernel_rfl) (by kernel_rfl) (by kernel_rfl) (fun _ _ _ h => h) (Or.inl ⟨by kernel_rfl, fun W hS => ?_⟩) (by assumption) ?_
        · dsimp only at hS; go_split_ands; go_simp
        simp only [Act.put, List.setIfInBounds_toArray, List.set_cons_zero, List.set_cons_succ]
        refine wpAnyH_take (i := 11) (v := (.int .i64 (hf : Int))) (oi := ⟨_, _, _, _, _, _⟩) rfl (by kernel_rfl) (by kernel_rfl) (by kernel_rfl) (fun _ _ _ h => h) (Or.inl ⟨by kernel_rfl, fun W hS => ?_⟩) (by assumption) ?_
        · dsimp only at hS; go_split_ands; go_simp
        simp only [Act.put, List.setIfInBounds_toArray, List.set_cons_zero, List.set_cons_succ]
        refine wpAnyH_take (i := 12) (v := (.int .i64 ((at_ : Int) + (hf : Int)))) (oi := ⟨_, _, _, _, _, _⟩) rfl (by kernel_rfl) (by kernel_rfl) (by kernel_rfl) (fun _ _ _ h => h) (Or.inl ⟨by kernel_rfl, fun W hS => ?_⟩) (by assumption) ?_
        · dsimp only at hS; go_split_ands; go_simp
        simp only [Act.put, List.setIfInBounds_toArray, List.set_cons_zero, List.set_cons_succ]
        refine wpAnyH_take (i := 13) (v := (.int .i64 (at_ : Int))) (oi := ⟨_, _, _, _, _, _⟩) rfl (by kernel_rfl) (by kernel_rfl) (by kernel_rfl) (fun _ _ _ h => h) (Or.inl ⟨by kernel_rfl, fun W hS => ?_⟩) (by assumption) ?_
        · dsimp only at hS; go_split_ands; go_simp
        simp only [Act.put, List.setIfInBounds_toArray, List.set_cons_zero, List.set_cons_succ]
        refine wpAnyH_take (i := 14) (v := (.int .i64 (nn : Int))) (oi := ⟨_, _, _, _, _, _⟩) rfl (by kernel_rfl) (by kernel_rfl) (by kernel_rfl) (fun _ _ _ h => h) (Or.inl ⟨by kernel_rfl, fun W hS => ?_⟩) (by assumption) ?_
        · dsimp only at hS; go_split_ands; go_simp
        simp only [Act.put, List.setIfInBounds_toArray, List.set_cons_zero, List.set_cons_succ]
        refine wpAnyH_take (i := 15) (v := (.int .i64 ((at_ : Int) + (nn : Int)))) (oi := ⟨_, _, _, _, _, _⟩) rfl (by kernel_rfl) (by kernel_rfl) (by kernel_rfl) (fun _ _ _ h => h) (Or.inl ⟨by kernel_rfl, fun W hS => ?_⟩) (by assumption) ?_
        · dsimp only at hS; go_split_ands; go_simp
        simp only [Act.put, List.setIfInBounds_toArray, List.set_cons_zero, List.set_cons_succ]
        refine wpAnyH_take (i := 16) (v := (.slice Ab (nn - hf) (c - (at_ + hf)))) (oi := ⟨_, _, _, _, _, _⟩) rfl (by kernel_rfl) (by kernel_rfl) (by kernel_rfl) (fun _ _ _ h => h) (Or.inl ⟨by kernel_rfl, fun W hS => ?_⟩) (by assumption) ?_
        · dsimp only at hS; go_split_ands; go_simp
        simp only [Act.put, List.setIfInBounds_toArray, List.set_cons_zero, List.set_cons_succ]
        refine wpAnyH_ready (rs := [17, 22]) (by kernel_rfl) (by decide) (AllReadyH.cons (o := ⟨_, _, _, _, _, _⟩) rfl (fun K hK => ?_) (AllReadyH.cons (o := ⟨_, _, _, _, _, _⟩) rfl (fun K hK => ?_) AllReadyH.nil))
        · skip
          rw [if_pos (by kernel_rfl)]
          go_simp
          have hP := PB.two (cap := c - at_) (cap2 := c - (at_ + hf)) 23 (HRa.out _ hQ.b) (HRb.out _ hQ.b) HFa.out HFb.out hQ.dc2.toDb.old
          have hbx := below_alloc (Below.refl _ wm0) (.cells #[.slice Aa hf (c - at_), .slice Ab (nn - hf) (c - (at_ + hf))] 23)
          obtain ⟨gl, hgl⟩ : ∃ gl, wm0.heap.size = gl := ⟨_, rfl⟩
          replace hQ := hQ.below hbx
          rw [hgl] at hP ⊢
          generalize wm0.alloc (.cells #[.slice Aa hf (c - at_), .slice Ab (nn - hf) (c - (at_ + hf))] 23) = wm1 at *
          clear hbx hgl
          refine hK.out _ _ (trivial) (fun hHeld => ?_)
          clear hK K
          try simp only [Act.put, List.setIfInBounds_toArray, List.set_cons_zero, List.set_cons_succ]
          refine wpAnyH_ready (rs := [18, 22]) (by kernel_rfl) (by decide) (AllReadyH.cons (o := ⟨_, _, _, _, _, _⟩) rfl (fun K hK => ?_) (AllReadyH.cons (o := ⟨_, _, _, _, _, _⟩) rfl (fun K hK => ?_) AllReadyH.nil))
          · skip
            rw [if_pos (by kernel_rfl)]
            go_simp
            refine (feed_any hQ.dc2 HW2.out (some ⟨gl, 0, none⟩) 2 2 _ hP (by have := HFL.out; omega) (by have := HFL.out; omega) (by have := HFL.out; omega)).mono ?_
            rintro e wm2 ⟨v3, vl3, want3, t3, Hs, rfl, HF7, hD7, hO7, ho7, hon7⟩
            replace hO7 := hO7.less hQ.b.size
            replace hQ := hQ.feed ho7 hon7 hD7
            obtain ⟨A7, c7, rfl⟩ := hO7.form
            obtain ⟨n7, hn7⟩ : ∃ n7, Hs.length = n7 := ⟨_, rfl⟩
            have HN7 := Lib.hid hn7
            rw [hn7] at hO7 ⊢
            rw [show Value.agg (fv t3.why t3.wat) = .agg #[.int .i64 t3.why, .int .i64 t3.wat] from rfl]
            clear ho7 hon7 hD7 hn7 hP
            go_wp2_with fail
            refine hK.out _ _ (trivial) (fun hHeld => ?_)
            clear hK K
            try simp only [Act.put, List.setIfInBounds_toArray, List.set_cons_zero, List.set_cons_succ]
            refine wpAnyH_take (i := 19) (v := (.tuple #[.slice A7 n7 c7, (.agg #[.int .i64 t3.why, .int .i64 t3.wat])])) (oi := ⟨_, _, _, _, _, _⟩) rfl (by kernel_rfl) (by kernel_rfl) (by kernel_rfl) (fun _ _ _ h => h) (Or.inl ⟨by kernel_rfl, fun W hS => ?_⟩) (by assumption) ?_
            · dsimp only at hS; go_split_ands; go_simp
            simp only [Act.put, List.setIfInBounds_toArray, List.set_cons_zero, List.set_cons_succ]
            refine wpAnyH_take (i := 20) (v := (.slice A7 n7 c7)) (oi := ⟨_, _, _, _, _, _⟩) rfl (by kernel_rfl) (by kernel_rfl) (by kernel_rfl) (fun _ _ _ h => h) (Or.inl ⟨by kernel_rfl, fun W hS => ?_⟩) (by assumption) ?_
            · dsimp only at hS; go_split_ands; go_simp
            simp only [Act.put, List.setIfInBounds_toArray, List.set_cons_zero, List.set_cons_succ]
            refine wpAnyH_take (i := 21) (v := (.agg #[.int .i64 t3.why, .int .i64 t3.wat])) (oi := ⟨_, _, _, _, _, _⟩) rfl (by kernel_rfl) (by kernel_rfl) (by kernel_rfl) (fun _ _ _ h => h) (Or.inl ⟨by kernel_rfl, fun W hS => ?_⟩) (by assumption) ?_
            · dsimp only at hS; go_split_ands; go_simp
            simp only [Act.put, List.setIfInBounds_toArray, List.set_cons_zero, List.set_cons_succ]
            refine wpAnyH_ready (rs := [22]) (by kernel_rfl) (by decide) (AllReadyH.cons (o := ⟨_, _, _, _, _, _⟩) rfl (fun K hK => ?_) AllReadyH.nil)
            rw [if_pos (by kernel_rfl)]
            go_simp
            obtain ⟨wm3, s0, hX4, hbx⟩ := fault_new wm2
            rw [s0]
            obtain ⟨g4, hg4⟩ : ∃ g4, wm2.heap.size = g4 := ⟨_, rfl⟩
            have hg4l : w.heap.size ≤ g4 ∧ ¬ g10 = g4 ∧ ¬ g12 = g4 := by have h1 := lt_of_block hQ.h10; have h2 := lt_of_block hQ.h12; have h3 := hQ.b.size; refine ⟨?_, ?_, ?_⟩ <;> omega
            have hnv : ¬ dfp d2 v3 g4 ∧ ¬ dfp d1 v1 g4 := ⟨fun hk => by have := hQ.dc2.toDb.old _ hk; omega, fun hk => by have := hQ.dc1.toDb.old _ hk; omega⟩
            replace hQ := hQ.below hbx
            replace hO7 := hO7.below hbx
            rw [hg4] at hX4 ⊢
            clear hbx hg4 s0 hnv
            refine hK.out _ _ (trivial) (fun hHeld => ?_)
            clear hK K
            try simp only [Act.put, List.setIfInBounds_toArray, List.set_cons_zero, List.set_cons_succ]
            refine wpAnyH_take (i := 23) (v := (.slice A7 n7 c7)) (oi := ⟨_, _, _, _, _, _⟩) rfl (by kernel_rfl) (by kernel_rfl) (by kernel_rfl) (fun _ _ _ h => h) (Or.inl ⟨by kernel_rfl, fun W hS => ?_⟩) (by assumption) ?_
            · dsimp only at hS; go_split_ands; go_simp
            simp only [Act.put, List.setIfInBounds_toArray, List.set_cons_zero, List.set_cons_succ]
            refine wpAnyH_ready (rs := [24]) (by kernel_rfl) (by decide) (AllReadyH.cons (o := ⟨_, _, _, _, _, _⟩) rfl (fun K hK => ?_) AllReadyH.nil)
            have s4 := put_fault t3.why t3.wat hX4
            have hX5 := set_fault t3.why t3.wat hX4
            rw [if_pos (by kernel_rfl)]
            go_simp
            refine hK.out _ _ (trivial) (fun hHeld => ?_)
            clear hK K
            try simp only [Act.put, List.setIfInBounds_toArray, List.set_cons_zero, List.set_cons_succ]
            refine wpAnyH_done (by kernel_rfl) ?_ _
            have hor := Fr.only_row wm3 g4 (fv t3.why t3.wat)
            have hty : ∀ k, k = g4 → ∃ cs t, wm3.heap[k]? = some (.cells cs t (0, 0)) ∧ t ≠ 42 ∧ t ≠ 9 := fun k e => by subst e; exact ⟨fv 0 0, 30, hX4, by decide, by decide⟩
            have hQ5 : CuS w d1 d2 v1 want1 t1 (.slice A9 n9 c9) Fs v3 want3 t3 (.slice A11 Gs.length c11) Gs g10 g12 t2.why t2.wat (wm3.setRow g4 (fv t3.why t3.wat)) :=
              ⟨Below.only hQ.b hor hQ.b.size (fun k e => by rw [e]; exact hg4l.1), hQ.dc1.only hor (fun k hk e => dfp_fault hQ.dc1.toDb hX4 (e ▸ hk)), hQ.dc2.only hor (fun k hk e => dfp_fault hQ.dc2.toDb hX4 (e ▸ hk)), hQ.all.only hor hty, hQ.got.only hor hty, fault_only hQ.h10 hor hg4l.2.1, fault_only hQ.h12 hor hg4l.2.2, hQ.n1, hQ.n2, hQ.sep, hQ.sepf, hQ.gg⟩
            have hO8 := hO7.only hor hty
            have HF8 : Hid (feedS (xs.take (at_ + nn)) (Sm.new 2097152) = (t3, (Gs ++ Hs).map Fr.core)) := Lib.hid (by
              have h := HF7.out
              rw [HPF.out] at h
              rw [take_more, feed_append, HG.out.1]
              dsimp only
              rw [h, List.map_append])
            have HLN : Hid ((Gs.length + Hs.length) * 136 ≤ 140737488355328) := Lib.hid (by
              have h1 := (feed_came (xs.take (at_ + nn)) (Sm.new 2097152)).2.2.2.2
              rw [HF8.out, List.length_map, List.length_append, List.length_take] at h1
              have h2 := HXL.out
              have h3 := HAT.out
              omega)
            clear hor hX4 s4 hQ hO7 hty q1 q2 q3 q4 hsa hsb HF7
            generalize wm3.setRow g4 (fv t3.why t3.wat) = w8 at *
            rw [← HN7.out] at hO8 ⊢
            go_wp2_with (at_builtin; refine push_frames (w0 := w8) w.heap.size rfl (.tmp 100) (.tmp 101) rfl rfl rfl hQ5.got hO8 (Below.refl _ _) hQ5.b.size HLN.out ?_)
            intro v6 w9 hO9 _ hg9 hat9
            have hX6 := fault_only hX5 ((Only.refl w8 (rf (.slice A11 Gs.length c11))).grown hg9 (fun k e => .inl e)) (own_not hQ5.got.row hX5 (by decide))
            have hQ6 := hQ5.pushed hO9 hg9 hat9
            have e17 := get_fault hX6
            have p12 := put_fault t3.why t3.wat hQ6.h12
            have HQ7 := Lib.hid (hQ6.told t3.why t3.wat)
            clear hQ5 hO8 hO9 hg9 hat9 hX5 hX6 hQ6
            go_wp2_with fail
            go_roundg (gk - 1)
            case measure => exact HGA.out.1
            case rel => exact ⟨i + 1, at_ + nn, v3, want3, t3, Gs ++ Hs, by simp, by simp, HQ7, Lib.hid ⟨HF8.out, by have := HAT.out; omega, HGA.out.2, fun h => by have h1 := HNN.out.2 h; have := HAT.out; omega⟩⟩
          · skip
            rw [if_pos (by kernel_rfl)]
            go_simp
            obtain ⟨wm2, s0, hX4, hbx⟩ := fault_new wm1
            rw [s0]
            obtain ⟨g4, hg4⟩ : ∃ g4, wm1.heap.size = g4 := ⟨_, rfl⟩
            have hg4l : w.heap.size ≤ g4 ∧ ¬ g10 = g4 ∧ ¬ g12 = g4 := by have h1 := lt_of_block hQ.h10; have h2 := lt_of_block hQ.h12; have h3 := hQ.b.size; refine ⟨?_, ?_, ?_⟩ <;> omega
            have hnv : ¬ dfp d2 v2 g4 ∧ ¬ dfp d1 v1 g4 := ⟨fun hk => by have := hQ.dc2.toDb.old _ hk; omega, fun hk => by have := hQ.dc1.toDb.old _ hk; omega⟩
            replace hQ := hQ.below hbx
            replace hP := hP.below hbx
            rw [hg4] at hX4 ⊢
            clear hbx hg4 s0 hnv
            refine hK.out _ _ (trivial) (fun hHeld => ?_)
            clear hK K
            try simp only [Act.put, List.setIfInBounds_toArray, List.set_cons_zero, List.set_cons_succ]
            refine wpAnyH_ready (rs := [18]) (by kernel_rfl) (by decide) (AllReadyH.cons (o := ⟨_, _, _, _, _, _⟩) rfl (fun K hK => ?_) AllReadyH.nil)
            rw [if_pos (by kernel_rfl)]
            go_simp
            refine (feed_any hQ.dc2 HW2.out (some ⟨gl, 0, none⟩) 2 2 _ hP (by have := HFL.out; omega) (by have := HFL.out; omega) (by have := HFL.out; omega)).mono ?_
            rintro e wm3 ⟨v3, vl3, want3, t3, Hs, rfl, HF7, hD7, hO7, ho7, hon7⟩
            replace hO7 := hO7.less hQ.b.size
            replace hX4 := fault_only hX4 ho7 (dfp_fault hQ.dc2.toDb hX4)
            replace hQ := hQ.feed ho7 hon7 hD7
            obtain ⟨A7, c7, rfl⟩ := hO7.form
            obtain ⟨n7, hn7⟩ : ∃ n7, Hs.length = n7 := ⟨_, rfl⟩
            have HN7 := Lib.hid hn7
            rw [hn7] at hO7 ⊢
            rw [show Value.agg (fv t3.why t3.wat) = .agg #[.int .i64 t3.why, .int .i64 t3.wat] from rfl]
            clear ho7 hon7 hD7 hn7 hP
            go_wp2_with fail
            refine hK.out _ _ (trivial) (fun hHeld => ?_)
            clear hK K
            try simp only [Act.put, List.setIfInBounds_toArray, List.set_cons_zero, List.set_cons_succ]
            refine wpAnyH_take (i := 19) (v := (.tuple #[.slice A7 n7 c7, (.agg #[.int .i64 t3.why, .int .i64 t3.wat])])) (oi := ⟨_, _, _, _, _, _⟩) rfl (by kernel_rfl) (by kernel_rfl) (by kernel_rfl) (fun _ _ _ h => h) (Or.inl ⟨by kernel_rfl, fun W hS => ?_⟩) (by assumption) ?_
            · dsimp only at hS; go_split_ands; go_simp
            simp only [Act.put, List.setIfInBounds_toArray, List.set_cons_zero, List.set_cons_succ]
            refine wpAnyH_take (i := 20) (v := (.slice A7 n7 c7)) (oi := ⟨_, _, _, _, _, _⟩) rfl (by kernel_rfl) (by kernel_rfl) (by kernel_rfl) (fun _ _ _ h => h) (Or.inl ⟨by kernel_rfl, fun W hS => ?_⟩) (by assumption) ?_
            · dsimp only at hS; go_split_ands; go_simp
            simp only [Act.put, List.setIfInBounds_toArray, List.set_cons_zero, List.set_cons_succ]
            refine wpAnyH_take (i := 21) (v := (.agg #[.int .i64 t3.why, .int .i64 t3.wat])) (oi := ⟨_, _, _, _, _, _⟩) rfl (by kernel_rfl) (by kernel_rfl) (by kernel_rfl) (fun _ _ _ h => h) (Or.inl ⟨by kernel_rfl, fun W hS => ?_⟩) (by assumption) ?_
            · dsimp only at hS; go_split_ands; go_simp
            simp only [Act.put, List.setIfInBounds_toArray, List.set_cons_zero, List.set_cons_succ]
            refine wpAnyH_take (i := 23) (v := (.slice A7 n7 c7)) (oi := ⟨_, _, _, _, _, _⟩) rfl (by kernel_rfl) (by kernel_rfl) (by kernel_rfl) (fun _ _ _ h => h) (Or.inl ⟨by kernel_rfl, fun W hS => ?_⟩) (by assumption) ?_
            · dsimp only at hS; go_split_ands; go_simp
            simp only [Act.put, List.setIfInBounds_toArray, List.set_cons_zero, List.set_cons_succ]
            refine wpAnyH_ready (rs := [24]) (by kernel_rfl) (by decide) (AllReadyH.cons (o := ⟨_, _, _, _, _, _⟩) rfl (fun K hK => ?_) AllReadyH.nil)
            have s4 := put_fault t3.why t3.wat hX4
            have hX5 := set_fault t3.why t3.wat hX4
            rw [if_pos (by kernel_rfl)]
            go_simp
            refine hK.out _ _ (trivial) (fun hHeld => ?_)
            clear hK K
            try simp only [Act.put, List.setIfInBounds_toArray, List.set_cons_zero, List.set_cons_succ]
            refine wpAnyH_done (by kernel_rfl) ?_ _
            have hor := Fr.only_row wm3 g4 (fv t3.why t3.wat)
            have hty : ∀ k, k = g4 → ∃ cs t, wm3.heap[k]? = some (.cells cs t (0, 0)) ∧ t ≠ 42 ∧ t ≠ 9 := fun k e => by subst e; exact ⟨fv 0 0, 30, hX4, by decide, by decide⟩
            have hQ5 : CuS w d1 d2 v1 want1 t1 (.slice A9 n9 c9) Fs v3 want3 t3 (.slice A11 Gs.length c11) Gs g10 g12 t2.why t2.wat (wm3.setRow g4 (fv t3.why t3.wat)) :=
              ⟨Below.only hQ.b hor hQ.b.size (fun k e => by rw [e]; exact hg4l.1), hQ.dc1.only hor (fun k hk e => dfp_fault hQ.dc1.toDb hX4 (e ▸ hk)), hQ.dc2.only hor (fun k hk e => dfp_fault hQ.dc2.toDb hX4 (e ▸ hk)), hQ.all.only hor hty, hQ.got.only hor hty, fault_only hQ.h10 hor hg4l.2.1, fault_only hQ.h12 hor hg4l.2.2, hQ.n1, hQ.n2, hQ.sep, hQ.sepf, hQ.gg⟩
            have hO8 := hO7.only hor hty
            have HF8 : Hid (feedS (xs.take (at_ + nn)) (Sm.new 2097152) = (t3, (Gs ++ Hs).map Fr.core)) := Lib.hid (by
              have h := HF7.out
              rw [HPF.out] at h
              rw [take_more, feed_append, HG.out.1]
              dsimp only
              rw [h, List.map_append])
            have HLN : Hid ((Gs.length + Hs.length) * 136 ≤ 140737488355328) := Lib.hid (by
              have h1 := (feed_came (xs.take (at_ + nn)) (Sm.new 2097152)).2.2.2.2
              rw [HF8.out, List.length_map, List.length_append, List.length_take] at h1
              have h2 := HXL.out
              have h3 := HAT.out
              omega)
            clear hor hX4 s4 hQ hO7 hty q1 q2 q3 q4 hsa hsb HF7
            generalize wm3.setRow g4 (fv t3.why t3.wat) = w8 at *
            rw [← HN7.out] at hO8 ⊢
            go_wp2_with (at_builtin; refine push_frames (w0 := w8) w.heap.size rfl (.tmp 100) (.tmp 101) rfl rfl rfl hQ5.got hO8 (Below.refl _ _) hQ5.b.size HLN.out ?_)
            intro v6 w9 hO9 _ hg9 hat9
            have hX6 := fault_only hX5 ((Only.refl w8 (rf (.slice A11 Gs.length c11))).grown hg9 (fun k e => .inl e)) (own_not hQ5.got.row hX5 (by decide))
            have hQ6 := hQ5.pushed hO9 hg9 hat9
            have e17 := get_fault hX6
            have p12 := put_fault t3.why t3.wat hQ6.h12
            have HQ7 := Lib.hid (hQ6.told t3.why t3.wat)
            clear hQ5 hO8 hO9 hg9 hat9 hX5 hX6 hQ6
            go_wp2_with fail
            go_roundg (gk - 1)
            case measure => exact HGA.out.1
            case rel => exact ⟨i + 1, at_ + nn, v3, want3, t3, Gs ++ Hs, by simp, by simp, HQ7, Lib.hid ⟨HF8.out, by have := HAT.out; omega, HGA.out.2, fun h => by have h1 := HNN.out.2 h; have := HAT.out; omega⟩⟩
        · skip
          rw [if_pos (by kernel_rfl)]
          go_simp
          obtain ⟨wm1, s0, hX4, hbx⟩ := fault_new wm0
          rw [s0]
          obtain ⟨g4, hg4⟩ : ∃ g4, wm0.heap.size = g4 := ⟨_, rfl⟩
          have hg4l : w.heap.size ≤ g4 ∧ ¬ g10 = g4 ∧ ¬ g12 = g4 := by have h1 := lt_of_block hQ.h10; have h2 := lt_of_block hQ.h12; have h3 := hQ.b.size; refine ⟨?_, ?_, ?_⟩ <;> omega
          have hnv : ¬ dfp d2 v2 g4 ∧ ¬ dfp d1 v1 g4 := ⟨fun hk => by have := hQ.dc2.toDb.old _ hk; omega, fun hk => by have := hQ.dc1.toDb.old _ hk; omega⟩
          replace hQ := hQ.below hbx
          rw [hg4] at hX4 ⊢
          clear hbx hg4 s0 hnv
          refine hK.out _ _ (trivial) (fun hHeld => ?_)
          clear hK K
          try simp only [Act.put, List.setIfInBounds_toArray, List.set_cons_zero, List.set_cons_succ]
          refine wpAnyH_ready (rs := [17]) (by kernel_rfl) (by decide) (AllReadyH.cons (o := ⟨_, _, _, _, _, _⟩) rfl (fun K hK => ?_) AllReadyH.nil)
          rw [if_pos (by kernel_rfl)]
          go_simp
          have hP := PB.two (cap := c - at_) (cap2 := c - (at_ + hf)) 23 (HRa.out _ hQ.b) (HRb.out _ hQ.b) HFa.out HFb.out hQ.dc2.toDb.old
          have hbx := below_alloc (Below.refl _ wm1) (.cells #[.slice Aa hf (c - at_), .slice Ab (nn - hf) (c - (at_ + hf))] 23)
          obtain ⟨gl, hgl⟩ : ∃ gl, wm1.heap.size = gl := ⟨_, rfl⟩
          replace hQ := hQ.below hbx
          replace hX4 := fault_keep hX4 hbx
          rw [hgl] at hP ⊢
          generalize wm1.alloc (.cells #[.slice Aa hf (c - at_), .slice Ab (nn - hf) (c - (at_ + hf))] 23) = wm2 at *
          clear hbx hgl
          refine hK.out _ _ (trivial) (fun hHeld => ?_)
          clear hK K
          try simp only [Act.put, List.setIfInBounds_toArray, List.set_cons_zero, List.set_cons_succ]
          refine wpAnyH_ready (rs := [18]) (by kernel_rfl) (by decide) (AllReadyH.cons (o := ⟨_, _, _, _, _, _⟩) rfl (fun K hK => ?_) AllReadyH.nil)
          rw [if_pos (by kernel_rfl)]
          go_simp
          refine (feed_any hQ.dc2 HW2.out (some ⟨gl, 0, none⟩) 2 2 _ hP (by have := HFL.out; omega) (by have := HFL.out; omega) (by have := HFL.out; omega)).mono ?_
          rintro e wm3 ⟨v3, vl3, want3, t3, Hs, rfl, HF7, hD7, hO7, ho7, hon7⟩
          replace hO7 := hO7.less hQ.b.size
          replace hX4 := fault_only hX4 ho7 (dfp_fault hQ.dc2.toDb hX4)
          replace hQ := hQ.feed ho7 hon7 hD7
          obtain ⟨A7, c7, rfl⟩ := hO7.form
          obtain ⟨n7, hn7⟩ : ∃ n7, Hs.length = n7 := ⟨_, rfl⟩
          have HN7 := Lib.hid hn7
          rw [hn7] at hO7 ⊢
          rw [show Value.agg (fv t3.why t3.wat) = .agg #[.int .i64 t3.why, .int .i64 t3.wat] from rfl]
          clear ho7 hon7 hD7 hn7 hP
          go_wp2_with fail
          refine hK.out _ _ (trivial) (fun hHeld => ?_)
          clear hK K
          try simp only [Act.put, List.setIfInBounds_toArray, List.set_cons_zero, List.set_cons_succ]
          refine wpAnyH_take (i := 19) (v := (.tuple #[.slice A7 n7 c7, (.agg #[.int .i64 t3.why, .int .i64 t3.wat])])) (oi := ⟨_, _, _, _, _, _⟩) rfl (by kernel_rfl) (by kernel_rfl) (by kernel_rfl) (fun _ _ _ h => h) (Or.inl ⟨by kernel_rfl, fun W hS => ?_⟩) (by assumption) ?_
          · dsimp only at hS; go_split_ands; go_simp
          simp only [Act.put, List.setIfInBounds_toArray, List.set_cons_zero, List.set_cons_succ]
          refine wpAnyH_take (i := 20) (v := (.slice A7 n7 c7)) (oi := ⟨_, _, _, _, _, _⟩) rfl (by kernel_rfl) (by kernel_rfl) (by kernel_rfl) (fun _ _ _ h => h) (Or.inl ⟨by kernel_rfl, fun W hS => ?_⟩) (by assumption) ?_
          · dsimp only at hS; go_split_ands; go_simp
          simp only [Act.put, List.setIfInBounds_toArray, List.set_cons_zero, List.set_cons_succ]
          refine wpAnyH_take (i := 21) (v := (.agg #[.int .i64 t3.why, .int .i64 t3.wat])) (oi := ⟨_, _, _, _, _, _⟩) rfl (by kernel_rfl) (by kernel_rfl) (by kernel_rfl) (fun _ _ _ h => h) (Or.inl ⟨by kernel_rfl, fun W hS => ?_⟩) (by assumption) ?_
          · dsimp only at hS; go_split_ands; go_simp
          simp only [Act.put, List.setIfInBounds_toArray, List.set_cons_zero, List.set_cons_succ]
          refine wpAnyH_take (i := 23) (v := (.slice A7 n7 c7)) (oi := ⟨_, _, _, _, _, _⟩) rfl (by kernel_rfl) (by kernel_rfl) (by kernel_rfl) (fun _ _ _ h => h) (Or.inl ⟨by kernel_rfl, fun W hS => ?_⟩) (by assumption) ?_
          · dsimp only at hS; go_split_ands; go_simp
          simp only [Act.put, List.setIfInBounds_toArray, List.set_cons_zero, List.set_cons_succ]
          refine wpAnyH_ready (rs := [24]) (by kernel_rfl) (by decide) (AllReadyH.cons (o := ⟨_, _, _, _, _, _⟩) rfl (fun K hK => ?_) AllReadyH.nil)
          have s4 := put_fault t3.why t3.wat hX4
          have hX5 := set_fault t3.why t3.wat hX4
          rw [if_pos (by kernel_rfl)]
          go_simp
          refine hK.out _ _ (trivial) (fun hHeld => ?_)
          clear hK K
          try simp only [Act.put, List.setIfInBounds_toArray, List.set_cons_zero, List.set_cons_succ]
          refine wpAnyH_done (by kernel_rfl) ?_ _
          have hor := Fr.only_row wm3 g4 (fv t3.why t3.wat)
          have hty : ∀ k, k = g4 → ∃ cs t, wm3.heap[k]? = some (.cells cs t (0, 0)) ∧ t ≠ 42 ∧ t ≠ 9 := fun k e => by subst e; exact ⟨fv 0 0, 30, hX4, by decide, by decide⟩
          have hQ5 : CuS w d1 d2 v1 want1 t1 (.slice A9 n9 c9) Fs v3 want3 t3 (.slice A11 Gs.length c11) Gs g10 g12 t2.why t2.wat (wm3.setRow g4 (fv t3.why t3.wat)) :=
            ⟨Below.only hQ.b hor hQ.b.size (fun k e => by rw [e]; exact hg4l.1), hQ.dc1.only hor (fun k hk e => dfp_fault hQ.dc1.toDb hX4 (e ▸ hk)), hQ.dc2.only hor (fun k hk e => dfp_fault hQ.dc2.toDb hX4 (e ▸ hk)), hQ.all.only hor hty, hQ.got.only hor hty, fault_only hQ.h10 hor hg4l.2.1, fault_only hQ.h12 hor hg4l.2.2, hQ.n1, hQ.n2, hQ.sep, hQ.sepf, hQ.gg⟩
          have hO8 := hO7.only hor hty
          have HF8 : Hid (feedS (xs.take (at_ + nn)) (Sm.new 2097152) = (t3, (Gs ++ Hs).map Fr.core)) := Lib.hid (by
            have h := HF7.out
            rw [HPF.out] at h
            rw [take_more, feed_append, HG.out.1]
            dsimp only
            rw [h, List.map_append])
          have HLN : Hid ((Gs.length + Hs.length) * 136 ≤ 140737488355328) := Lib.hid (by
            have h1 := (feed_came (xs.take (at_ + nn)) (Sm.new 2097152)).2.2.2.2
            rw [HF8.out, List.length_map, List.length_append, List.length_take] at h1
            have h2 := HXL.out
            have h3 := HAT.out
            omega)
          clear hor hX4 s4 hQ hO7 hty q1 q2 q3 q4 hsa hsb HF7
          generalize wm3.setRow g4 (fv t3.why t3.wat) = w8 at *
          rw [← HN7.out] at hO8 ⊢
          go_wp2_with (at_builtin; refine push_frames (w0 := w8) w.heap.size rfl (.tmp 100) (.tmp 101) rfl rfl rfl hQ5.got hO8 (Below.refl _ _) hQ5.b.size HLN.out ?_)
          intro v6 w9 hO9 _ hg9 hat9
          have hX6 := fault_only hX5 ((Only.refl w8 (rf (.slice A11 Gs.length c11))).grown hg9 (fun k e => .inl e)) (own_not hQ5.got.row hX5 (by decide))
          have hQ6 := hQ5.pushed hO9 hg9 hat9
          have e17 := get_fault hX6
          have p12 := put_fault t3.why t3.wat hQ6.h12
          have HQ7 := Lib.hid (hQ6.told t3.why t3.wat)
          clear hQ5 hO8 hO9 hg9 hat9 hX5 hX6 hQ6
          go_wp2_with fail
          go_roundg (gk - 1)
          case measure => exact HGA.out.1
          case rel => exact ⟨i + 1, at_ + nn, v3, want3, t3, Gs ++ Hs, by simp, by simp, HQ7, Lib.hid ⟨HF8.out, by have := HAT.out; omega, HGA.out.2, fun h => by have h1 := HNN.out.2 h; have := HAT.out; omega⟩⟩
      · have hi3 : ¬ (i : Int) < (m : Int) := by omega
        have hm1 : i = m := by have := hgo.1; omega
        obtain ⟨nn, hnn⟩ : ∃ nn, nn = n0 := ⟨_, rfl⟩
        have HNN : Hid (nn ≤ n - at_ ∧ (m < i + 1 → nn = n - at_)) := Lib.hid ⟨by have := HN0.out; omega, fun h => by have := HN0.out; omega⟩
        rw [← hnn] at k66
        clear hgo him hm1 hnn
        go_upto_region 15 with (fail)
        clear hi3 k66 e12 hne hi2
        obtain ⟨hf, hhf⟩ : ∃ hf : Nat, hf = nn / 2 := ⟨_, rfl⟩
        have HHF := Lib.hid hhf
        have HAT : Hid (at_ ≤ n ∧ n ≤ 1048576 ∧ n ≤ c ∧ nn ≤ n - at_ ∧ hf ≤ nn) := Lib.hid ⟨HG.out.2.1, HL.out, HC.out, HNN.out.1, by omega⟩
        have q1 : (nn : Int).tdiv 2 = (hf : Int) := by rw [Int.tdiv_eq_ediv_of_nonneg (by omega)]; omega
        have q2 : (nn : Int) / 2 = (hf : Int) := by omega
        have q3 : IntKind.i64.wrap (hf : Int) = (hf : Int) := by have := HAT.out; rw [IntKind.wrap_i64]; omega
        have q4 : IntKind.i64.wrap ((at_ : Int) + (hf : Int)) = (at_ : Int) + (hf : Int) := by have := HAT.out; rw [IntKind.wrap_i64]; omega
        have q5 : IntKind.i64.wrap ((at_ : Int) + (nn : Int)) = (at_ : Int) + (nn : Int) := by have := HAT.out; rw [IntKind.wrap_i64]; omega
        obtain ⟨Aa, ha0, ha1, ha2⟩ := mid_bytes A n c at_ (at_ + hf) (by omega) (by have := HAT.out; omega) HC.out
        obtain ⟨Ab, hb0, hb1, hb2⟩ := mid_bytes A n c (at_ + hf) (at_ + nn) (by have := HAT.out; omega) (by have := HAT.out; omega) HC.out
        have hsa : ∀ W : World, (Instr.slice 23 (.slice A n c) (some (.int .i64 (at_ : Int))) (some (.int .i64 ((at_ : Int) + (hf : Int)))) none).run Try.prog W = .ok (.slice Aa hf (c - at_)) W := fun W => by
          have := ha0 (at_ : Int) ((at_ : Int) + (hf : Int)) rfl (by push_cast; rfl) W
          rwa [show at_ + hf - at_ = hf by omega] at this
        have hsb : ∀ W : World, (Instr.slice 23 (.slice A n c) (some (.int .i64 ((at_ : Int) + (hf : Int)))) (some (.int .i64 ((at_ : Int) + (nn : Int)))) none).run Try.prog W = .ok (.slice Ab (nn - hf) (c - (at_ + hf))) W := fun W => by
          have := hb0 ((at_ : Int) + (hf : Int)) ((at_ : Int) + (nn : Int)) (by push_cast; rfl) (by push_cast; rfl) W
          rwa [show at_ + nn - (at_ + hf) = nn - hf by omega] at this
        have HRa : Hid (∀ W, Below w.heap.size w W → RB W Aa hf ((xs.drop at_).take hf)) := Lib.hid (fun W hb => by
          have := ha1 W xs (HX.out.below hb)
          rwa [show at_ + hf - at_ = hf by omega] at this)
        have HRb : Hid (∀ W, Below w.heap.size w W → RB W Ab (nn - hf) ((xs.drop (at_ + hf)).take (nn - hf))) := Lib.hid (fun W hb => by
          have := hb1 W xs (HX.out.below hb)
          rwa [show at_ + nn - (at_ + hf) = nn - hf by omega] at this)
        have HFa : Hid (∀ a, Aa = some a → 0 < hf → ¬ dfp d2 v2 a.block) := Lib.hid (fun a e hp hk => by
          obtain ⟨a0, e0, hbk⟩ := ha2 a e
          have h1 := rb_lt HX.out a0 e0 (by have := HAT.out; omega)
          have h2 := HQ.out.n2 _ hk
          omega)
        have HFb : Hid (∀ a, Ab = some a → 0 < nn - hf → ¬ dfp d2 v2 a.block) := Lib.hid (fun a e hp hk => by
          obtain ⟨a0, e0, hbk⟩ := hb2 a e
          have h1 := rb_lt HX.out a0 e0 (by have := HAT.out; omega)
          have h2 := HQ.out.n2 _ hk
          omega)
        have HPF : Hid ([(xs.drop at_).take hf, (xs.drop (at_ + hf)).take (nn - hf)].flatten = (xs.drop at_).take nn) := Lib.hid ((cut_flat xs at_ hf nn).elim id (fun h => by have := HAT.out; omega))
        have HFL : Hid ([(xs.drop at_).take hf, (xs.drop (at_ + hf)).take (nn - hf)].flatten.length * 136 ≤ 140737488355328 ∧ t2.came + [(xs.drop at_).take hf, (xs.drop (at_ + hf)).take (nn - hf)].flatten.length ≤ 576460752303423488 ∧ t2.whole + [(xs.drop at_).take hf, (xs.drop (at_ + hf)).take (nn - hf)].flatten.length ≤ 576460752303423488) := Lib.hid (by
          rw [HPF.out, List.length_take]
          have h1 := feed_came (xs.take at_) (Sm.new 2097152)
          rw [HG.out.1, List.length_take] at h1
          dsimp only at h1
          have h2 := HXL.out
          have h3 := HAT.out
          have h4 : (Sm.new 2097152).came = 0 := rfl
          have h5 : (Sm.new 2097152).whole = 0 := rfl
          rw [h4, h5] at h1
          refine ⟨?_, ?_, ?_⟩ <;> omega)
        have hQ := HQ.out.below (below_drew (Below.refl wr.heap.size wr))
        clear ha0 ha1 ha2 hb0 hb1 hb2 hhf
        refine wp_region_held_drew (S := fun _ => True) (by kernel_rfl) (trivial) (fun hHeld => ?_)
        generalize wr.drew = wm0 at *
        refine wpAnyH_take (i := 0) (v := (.pointer (some ⟨d2, 0, none⟩))) (oi := ⟨_, _, _, _, _, _⟩) rfl (by kernel_rfl) (by kernel_rfl) (by kernel_rfl) (fun _ _ _ h => h) (Or.inl ⟨by kernel_rfl, fun W hS => ?_⟩) (by assumption) ?_
        · dsimp only at hS; go_split_ands; go_simp
        simp only [Act.put, List.setIfInBounds_toArray, List.set_cons_zero, List.set_cons_succ]
        refine wpAnyH_take (i := 1) (v := (.slice A n c)) (oi := ⟨_, _, _, _, _, _⟩) rfl (by kernel_rfl) (by kernel_rfl) (by kernel_rfl) (fun _ _ _ h => h) (Or.inl ⟨by kernel_rfl, fun W hS => ?_⟩) (by assumption) ?_
        · dsimp only at hS; go_split_ands; go_simp
        simp only [Act.put, List.setIfInBounds_toArray, List.set_cons_zero, List.set_cons_succ]
        refine wpAnyH_take (i := 2) (v := (.int .i64 (at_ : Int))) (oi := ⟨_, _, _, _, _, _⟩) rfl (by kernel_rfl) (by kernel_rfl) (by kernel_rfl) (fun _ _ _ h => h) (Or.inl ⟨by kernel_rfl, fun W hS => ?_⟩) (by assumption) ?_
        · dsimp only at hS; go_split_ands; go_simp
        simp only [Act.put, List.setIfInBounds_toArray, List.set_cons_zero, List.set_cons_succ]
        refine wpAnyH_take (i := 3) (v := (.int .i64 (at_ : Int))) (oi := ⟨_, _, _, _, _, _⟩) rfl (by kernel_rfl) (by kernel_rfl) (by kernel_rfl) (fun _ _ _ h => h) (Or.inl ⟨by kernel_rfl, fun W hS => ?_⟩) (by assumption) ?_
        · dsimp only at hS; go_split_ands; go_simp
        simp only [Act.put, List.setIfInBounds_toArray, List.set_cons_zero, List.set_cons_succ]
        refine wpAnyH_take (i := 4) (v := (.int .i64 (nn : Int))) (oi := ⟨_, _, _, _, _, _⟩) rfl (by kernel_rfl) (by kernel_rfl) (by kernel_rfl) (fun _ _ _ h => h) (Or.inl ⟨by kernel_rfl, fun W hS => ?_⟩) (by assumption) ?_
        · dsimp only at hS; go_split_ands; go_simp
        simp only [Act.put, List.setIfInBounds_toArray, List.set_cons_zero, List.set_cons_succ]
        refine wpAnyH_take (i := 5) (v := (.int .i64 (hf : Int))) (oi := ⟨_, _, _, _, _, _⟩) rfl (by kernel_rfl) (by kernel_rfl) (by kernel_rfl) (fun _ _ _ h => h) (Or.inl ⟨by kernel_rfl, fun W hS => ?_⟩) (by assumption) ?_
        · dsimp only at hS; go_split_ands; go_simp
        simp only [Act.put, List.setIfInBounds_toArray, List.set_cons_zero, List.set_cons_succ]
        refine wpAnyH_take (i := 6) (v := (.int .i64 ((at_ : Int) + (hf : Int)))) (oi := ⟨_, _, _, _, _, _⟩) rfl (by kernel_rfl) (by kernel_rfl) (by kernel_rfl) (fun _ _ _ h => h) (Or.inl ⟨by kernel_rfl, fun W hS => ?_⟩) (by assumption) ?_
        · dsimp only at hS; go_split_ands; go_simp
        simp only [Act.put, List.setIfInBounds_toArray, List.set_cons_zero, List.set_cons_succ]
        refine wpAnyH_take (i := 7) (v := (.slice Aa hf (c - at_))) (oi := ⟨_, _, _, _, _, _⟩) rfl (by kernel_rfl) (by kernel_rfl) (by kernel_rfl) (fun _ _ _ h => h) (Or.inl ⟨by kernel_rfl, fun W hS => ?_⟩) (by assumption) ?_
        · dsimp only at hS; go_split_ands; go_simp
        simp only [Act.put, List.setIfInBounds_toArray, List.set_cons_zero, List.set_cons_succ]
        refine wpAnyH_take (i := 8) (v := (.slice A n c)) (oi := ⟨_, _, _, _, _, _⟩) rfl (by kernel_rfl) (by kernel_rfl) (by kernel_rfl) (fun _ _ _ h => h) (Or.inl ⟨by kernel_rfl, fun W hS => ?_⟩) (by assumption) ?_
        · dsimp only at hS; go_split_ands; go_simp
        simp only [Act.put, List.setIfInBounds_toArray, List.set_cons_zero, List.set_cons_succ]
        refine wpAnyH_take (i := 9) (v := (.int .i64 (at_ : Int))) (oi := ⟨_, _, _, _, _, _⟩) rfl (by kernel_rfl) (by kernel_rfl) (by kernel_rfl) (fun _ _ _ h => h) (Or.inl ⟨by kernel_rfl, fun W hS => ?_⟩) (by assumption) ?_
        · dsimp only at hS; go_split_ands; go_simp
        simp only [Act.put, List.setIfInBounds_toArray, List.set_cons_zero, List.set_cons_succ]
        refine wpAnyH_take (i := 10) (v := (.int .i64 (nn : Int))) (oi := ⟨_, _, _, _, _, _⟩) rfl (by kernel_rfl) (by kernel_rfl) (by kernel_rfl) (fun _ _ _ h => h) (Or.inl ⟨by kernel_rfl, fun W hS => ?_⟩) (by assumption) ?_
        · dsimp only at hS; go_split_ands; go_simp
        simp only [Act.put, List.setIfInBounds_toArray, List.set_cons_zero, List.set_cons_succ]
        refine wpAnyH_take (i := 11) (v := (.int .i64 (hf : Int))) (oi := ⟨_, _, _, _, _, _⟩) rfl (by kernel_rfl) (by kernel_rfl) (by kernel_rfl) (fun _ _ _ h => h) (Or.inl ⟨by kernel_rfl, fun W hS => ?_⟩) (by assumption) ?_
        · dsimp only at hS; go_split_ands; go_simp
        simp only [Act.put, List.setIfInBounds_toArray, List.set_cons_zero, List.set_cons_succ]
        refine wpAnyH_take (i := 12) (v := (.int .i64 ((at_ : Int) + (hf : Int)))) (oi := ⟨_, _, _, _, _, _⟩) rfl (by kernel_rfl) (by kernel_rfl) (by kernel_rfl) (fun _ _ _ h => h) (Or.inl ⟨by kernel_rfl, fun W hS => ?_⟩) (by assumption) ?_
        · dsimp only at hS; go_split_ands; go_simp
        simp only [Act.put, List.setIfInBounds_toArray, List.set_cons_zero, List.set_cons_succ]
        refine wpAnyH_take (i := 13) (v := (.int .i64 (at_ : Int))) (oi := ⟨_, _, _, _, _, _⟩) rfl (by kernel_rfl) (by kernel_rfl) (by kernel_rfl) (fun _ _ _ h => h) (Or.inl ⟨by kernel_rfl, fun W hS => ?_⟩) (by assumption) ?_
        · dsimp only at hS; go_split_ands; go_simp
        simp only [Act.put, List.setIfInBounds_toArray, List.set_cons_zero, List.set_cons_succ]
        refine wpAnyH_take (i := 14) (v := (.int .i64 (nn : Int))) (oi := ⟨_, _, _, _, _, _⟩) rfl (by kernel_rfl) (by kernel_rfl) (by kernel_rfl) (fun _ _ _ h => h) (Or.inl ⟨by kernel_rfl, fun W hS => ?_⟩) (by assumption) ?_
        · dsimp only at hS; go_split_ands; go_simp
        simp only [Act.put, List.setIfInBounds_toArray, List.set_cons_zero, List.set_cons_succ]
        refine wpAnyH_take (i := 15) (v := (.int .i64 ((at_ : Int) + (nn : Int)))) (oi := ⟨_, _, _, _, _, _⟩) rfl (by kernel_rfl) (by kernel_rfl) (by kernel_rfl) (fun _ _ _ h => h) (Or.inl ⟨by kernel_rfl, fun W hS => ?_⟩) (by assumption) ?_
        · dsimp only at hS; go_split_ands; go_simp
        simp only [Act.put, List.setIfInBounds_toArray, List.set_cons_zero, List.set_cons_succ]
        refine wpAnyH_take (i := 16) (v := (.slice Ab (nn - hf) (c - (at_ + hf)))) (oi := ⟨_, _, _, _, _, _⟩) rfl (by kernel_rfl) (by kernel_rfl) (by kernel_rfl) (fun _ _ _ h => h) (Or.inl ⟨by kernel_rfl, fun W hS => ?_⟩) (by assumption) ?_
        · dsimp only at hS; go_split_ands; go_simp
        simp only [Act.put, List.setIfInBounds_toArray, List.set_cons_zero, List.set_cons_succ]
        refine wpAnyH_ready (rs := [17, 22]) (by kernel_rfl) (by decide) (AllReadyH.cons (o := ⟨_, _, _, _, _, _⟩) rfl (fun K hK => ?_) (AllReadyH.cons (o := ⟨_, _, _, _, _, _⟩) rfl (fun K hK => ?_) AllReadyH.nil))
        · skip
          rw [if_pos (by kernel_rfl)]
          go_simp
          have hP := PB.two (cap := c - at_) (cap2 := c - (at_ + hf)) 23 (HRa.out _ hQ.b) (HRb.out _ hQ.b) HFa.out HFb.out hQ.dc2.toDb.old
          have hbx := below_alloc (Below.refl _ wm0) (.cells #[.slice Aa hf (c - at_), .slice Ab (nn - hf) (c - (at_ + hf))] 23)
          obtain ⟨gl, hgl⟩ : ∃ gl, wm0.heap.size = gl := ⟨_, rfl⟩
          replace hQ := hQ.below hbx
          rw [hgl] at hP ⊢
          generalize wm0.alloc (.cells #[.slice Aa hf (c - at_), .slice Ab (nn - hf) (c - (at_ + hf))] 23) = wm1 at *
          clear hbx hgl
          refine hK.out _ _ (trivial) (fun hHeld => ?_)
          clear hK K
          try simp only [Act.put, List.setIfInBounds_toArray, List.set_cons_zero, List.set_cons_succ]
          refine wpAnyH_ready (rs := [18, 22]) (by kernel_rfl) (by decide) (AllReadyH.cons (o := ⟨_, _, _, _, _, _⟩) rfl (fun K hK => ?_) (AllReadyH.cons (o := ⟨_, _, _, _, _, _⟩) rfl (fun K hK => ?_) AllReadyH.nil))
          · skip
            rw [if_pos (by kernel_rfl)]
            go_simp
            refine (feed_any hQ.dc2 HW2.out (some ⟨gl, 0, none⟩) 2 2 _ hP (by have := HFL.out; omega) (by have := HFL.out; omega) (by have := HFL.out; omega)).mono ?_
            rintro e wm2 ⟨v3, vl3, want3, t3, Hs, rfl, HF7, hD7, hO7, ho7, hon7⟩
            replace hO7 := hO7.less hQ.b.size
            replace hQ := hQ.feed ho7 hon7 hD7
            obtain ⟨A7, c7, rfl⟩ := hO7.form
            obtain ⟨n7, hn7⟩ : ∃ n7, Hs.length = n7 := ⟨_, rfl⟩
            have HN7 := Lib.hid hn7
            rw [hn7] at hO7 ⊢
            rw [show Value.agg (fv t3.why t3.wat) = .agg #[.int .i64 t3.why, .int .i64 t3.wat] from rfl]
            clear ho7 hon7 hD7 hn7 hP
            go_wp2_with fail
            refine hK.out _ _ (trivial) (fun hHeld => ?_)
            clear hK K
            try simp only [Act.put, List.setIfInBounds_toArray, List.set_cons_zero, List.set_cons_succ]
            refine wpAnyH_take (i := 19) (v := (.tuple #[.slice A7 n7 c7, (.agg #[.int .i64 t3.why, .int .i64 t3.wat])])) (oi := ⟨_, _, _, _, _, _⟩) rfl (by kernel_rfl) (by kernel_rfl) (by kernel_rfl) (fun _ _ _ h => h) (Or.inl ⟨by kernel_rfl, fun W hS => ?_⟩) (by assumption) ?_
            · dsimp only at hS; go_split_ands; go_simp
            simp only [Act.put, List.setIfInBounds_toArray, List.set_cons_zero, List.set_cons_succ]
            refine wpAnyH_take (i := 20) (v := (.slice A7 n7 c7)) (oi := ⟨_, _, _, _, _, _⟩) rfl (by kernel_rfl) (by kernel_rfl) (by kernel_rfl) (fun _ _ _ h => h) (Or.inl ⟨by kernel_rfl, fun W hS => ?_⟩) (by assumption) ?_
            · dsimp only at hS; go_split_ands; go_simp
            simp only [Act.put, List.setIfInBounds_toArray, List.set_cons_zero, List.set_cons_succ]
            refine wpAnyH_take (i := 21) (v := (.agg #[.int .i64 t3.why, .int .i64 t3.wat])) (oi := ⟨_, _, _, _, _, _⟩) rfl (by kernel_rfl) (by kernel_rfl) (by kernel_rfl) (fun _ _ _ h => h) (Or.inl ⟨by kernel_rfl, fun W hS => ?_⟩) (by assumption) ?_
            · dsimp only at hS; go_split_ands; go_simp
            simp only [Act.put, List.setIfInBounds_toArray, List.set_cons_zero, List.set_cons_succ]
            refine wpAnyH_ready (rs := [22]) (by kernel_rfl) (by decide) (AllReadyH.cons (o := ⟨_, _, _, _, _, _⟩) rfl (fun K hK => ?_) AllReadyH.nil)
            rw [if_pos (by kernel_rfl)]
            go_simp
            obtain ⟨wm3, s0, hX4, hbx⟩ := fault_new wm2
            rw [s0]
            obtain ⟨g4, hg4⟩ : ∃ g4, wm2.heap.size = g4 := ⟨_, rfl⟩
            have hg4l : w.heap.size ≤ g4 ∧ ¬ g10 = g4 ∧ ¬ g12 = g4 := by have h1 := lt_of_block hQ.h10; have h2 := lt_of_block hQ.h12; have h3 := hQ.b.size; refine ⟨?_, ?_, ?_⟩ <;> omega
            have hnv : ¬ dfp d2 v3 g4 ∧ ¬ dfp d1 v1 g4 := ⟨fun hk => by have := hQ.dc2.toDb.old _ hk; omega, fun hk => by have := hQ.dc1.toDb.old _ hk; omega⟩
            replace hQ := hQ.below hbx
            replace hO7 := hO7.below hbx
            rw [hg4] at hX4 ⊢
            clear hbx hg4 s0 hnv
            refine hK.out _ _ (trivial) (fun hHeld => ?_)
            clear hK K
            try simp only [Act.put, List.setIfInBounds_toArray, List.set_cons_zero, List.set_cons_succ]
            refine wpAnyH_take (i := 23) (v := (.slice A7 n7 c7)) (oi := ⟨_, _, _, _, _, _⟩) rfl (by kernel_rfl) (by kernel_rfl) (by kernel_rfl) (fun _ _ _ h => h) (Or.inl ⟨by kernel_rfl, fun W hS => ?_⟩) (by assumption) ?_
            · dsimp only at hS; go_split_ands; go_simp
            simp only [Act.put, List.setIfInBounds_toArray, List.set_cons_zero, List.set_cons_succ]
            refine wpAnyH_ready (rs := [24]) (by kernel_rfl) (by decide) (AllReadyH.cons (o := ⟨_, _, _, _, _, _⟩) rfl (fun K hK => ?_) AllReadyH.nil)
            have s4 := put_fault t3.why t3.wat hX4
            have hX5 := set_fault t3.why t3.wat hX4
            rw [if_pos (by kernel_rfl)]
            go_simp
            refine hK.out _ _ (trivial) (fun hHeld => ?_)
            clear hK K
            try simp only [Act.put, List.setIfInBounds_toArray, List.set_cons_zero, List.set_cons_succ]
            refine wpAnyH_done (by kernel_rfl) ?_ _
            have hor := Fr.only_row wm3 g4 (fv t3.why t3.wat)
            have hty : ∀ k, k = g4 → ∃ cs t, wm3.heap[k]? = some (.cells cs t (0, 0)) ∧ t ≠ 42 ∧ t ≠ 9 := fun k e => by subst e; exact ⟨fv 0 0, 30, hX4, by decide, by decide⟩
            have hQ5 : CuS w d1 d2 v1 want1 t1 (.slice A9 n9 c9) Fs v3 want3 t3 (.slice A11 Gs.length c11) Gs g10 g12 t2.why t2.wat (wm3.setRow g4 (fv t3.why t3.wat)) :=
              ⟨Below.only hQ.b hor hQ.b.size (fun k e => by rw [e]; exact hg4l.1), hQ.dc1.only hor (fun k hk e => dfp_fault hQ.dc1.toDb hX4 (e ▸ hk)), hQ.dc2.only hor (fun k hk e => dfp_fault hQ.dc2.toDb hX4 (e ▸ hk)), hQ.all.only hor hty, hQ.got.only hor hty, fault_only hQ.h10 hor hg4l.2.1, fault_only hQ.h12 hor hg4l.2.2, hQ.n1, hQ.n2, hQ.sep, hQ.sepf, hQ.gg⟩
            have hO8 := hO7.only hor hty
            have HF8 : Hid (feedS (xs.take (at_ + nn)) (Sm.new 2097152) = (t3, (Gs ++ Hs).map Fr.core)) := Lib.hid (by
              have h := HF7.out
              rw [HPF.out] at h
              rw [take_more, feed_append, HG.out.1]
              dsimp only
              rw [h, List.map_append])
            have HLN : Hid ((Gs.length + Hs.length) * 136 ≤ 140737488355328) := Lib.hid (by
              have h1 := (feed_came (xs.take (at_ + nn)) (Sm.new 2097152)).2.2.2.2
              rw [HF8.out, List.length_map, List.length_append, List.length_take] at h1
              have h2 := HXL.out
              have h3 := HAT.out
              omega)
            clear hor hX4 s4 hQ hO7 hty q1 q2 q3 q4 hsa hsb HF7
            generalize wm3.setRow g4 (fv t3.why t3.wat) = w8 at *
            rw [← HN7.out] at hO8 ⊢
            go_wp2_with (at_builtin; refine push_frames (w0 := w8) w.heap.size rfl (.tmp 100) (.tmp 101) rfl rfl rfl hQ5.got hO8 (Below.refl _ _) hQ5.b.size HLN.out ?_)
            intro v6 w9 hO9 _ hg9 hat9
            have hX6 := fault_only hX5 ((Only.refl w8 (rf (.slice A11 Gs.length c11))).grown hg9 (fun k e => .inl e)) (own_not hQ5.got.row hX5 (by decide))
            have hQ6 := hQ5.pushed hO9 hg9 hat9
            have e17 := get_fault hX6
            have p12 := put_fault t3.why t3.wat hQ6.h12
            have HQ7 := Lib.hid (hQ6.told t3.why t3.wat)
            clear hQ5 hO8 hO9 hg9 hat9 hX5 hX6 hQ6
            go_wp2_with fail
            go_roundg (gk - 1)
            case measure => exact HGA.out.1
            case rel => exact ⟨i + 1, at_ + nn, v3, want3, t3, Gs ++ Hs, by simp, by simp, HQ7, Lib.hid ⟨HF8.out, by have := HAT.out; omega, HGA.out.2, fun h => by have h1 := HNN.out.2 h; have := HAT.out; omega⟩⟩
          · skip
            rw [if_pos (by kernel_rfl)]
            go_simp
            obtain ⟨wm2, s0, hX4, hbx⟩ := fault_new wm1
            rw [s0]
            obtain ⟨g4, hg4⟩ : ∃ g4, wm1.heap.size = g4 := ⟨_, rfl⟩
            have hg4l : w.heap.size ≤ g4 ∧ ¬ g10 = g4 ∧ ¬ g12 = g4 := by have h1 := lt_of_block hQ.h10; have h2 := lt_of_block hQ.h12; have h3 := hQ.b.size; refine ⟨?_, ?_, ?_⟩ <;> omega
            have hnv : ¬ dfp d2 v2 g4 ∧ ¬ dfp d1 v1 g4 := ⟨fun hk => by have := hQ.dc2.toDb.old _ hk; omega, fun hk => by have := hQ.dc1.toDb.old _ hk; omega⟩
            replace hQ := hQ.below hbx
            replace hP := hP.below hbx
            rw [hg4] at hX4 ⊢
            clear hbx hg4 s0 hnv
            refine hK.out _ _ (trivial) (fun hHeld => ?_)
            clear hK K
            try simp only [Act.put, List.setIfInBounds_toArray, List.set_cons_zero, List.set_cons_succ]
            refine wpAnyH_ready (rs := [18]) (by kernel_rfl) (by decide) (AllReadyH.cons (o := ⟨_, _, _, _, _, _⟩) rfl (fun K hK => ?_) AllReadyH.nil)
            rw [if_pos (by kernel_rfl)]
            go_simp
            refine (feed_any hQ.dc2 HW2.out (some ⟨gl, 0, none⟩) 2 2 _ hP (by have := HFL.out; omega) (by have := HFL.out; omega) (by have := HFL.out; omega)).mono ?_
            rintro e wm3 ⟨v3, vl3, want3, t3, Hs, rfl, HF7, hD7, hO7, ho7, hon7⟩
            replace hO7 := hO7.less hQ.b.size
            replace hX4 := fault_only hX4 ho7 (dfp_fault hQ.dc2.toDb hX4)
            replace hQ := hQ.feed ho7 hon7 hD7
            obtain ⟨A7, c7, rfl⟩ := hO7.form
            obtain ⟨n7, hn7⟩ : ∃ n7, Hs.length = n7 := ⟨_, rfl⟩
            have HN7 := Lib.hid hn7
            rw [hn7] at hO7 ⊢
            rw [show Value.agg (fv t3.why t3.wat) = .agg #[.int .i64 t3.why, .int .i64 t3.wat] from rfl]
            clear ho7 hon7 hD7 hn7 hP
            go_wp2_with fail
            refine hK.out _ _ (trivial) (fun hHeld => ?_)
            clear hK K
            try simp only [Act.put, List.setIfInBounds_toArray, List.set_cons_zero, List.set_cons_succ]
            refine wpAnyH_take (i := 19) (v := (.tuple #[.slice A7 n7 c7, (.agg #[.int .i64 t3.why, .int .i64 t3.wat])])) (oi := ⟨_, _, _, _, _, _⟩) rfl (by kernel_rfl) (by kernel_rfl) (by kernel_rfl) (fun _ _ _ h => h) (Or.inl ⟨by kernel_rfl, fun W hS => ?_⟩) (by assumption) ?_
            · dsimp only at hS; go_split_ands; go_simp
            simp only [Act.put, List.setIfInBounds_toArray, List.set_cons_zero, List.set_cons_succ]
            refine wpAnyH_take (i := 20) (v := (.slice A7 n7 c7)) (oi := ⟨_, _, _, _, _, _⟩) rfl (by kernel_rfl) (by kernel_rfl) (by kernel_rfl) (fun _ _ _ h => h) (Or.inl ⟨by kernel_rfl, fun W hS => ?_⟩) (by assumption) ?_
            · dsimp only at hS; go_split_ands; go_simp
            simp only [Act.put, List.setIfInBounds_toArray, List.set_cons_zero, List.set_cons_succ]
            refine wpAnyH_take (i := 21) (v := (.agg #[.int .i64 t3.why, .int .i64 t3.wat])) (oi := ⟨_, _, _, _, _, _⟩) rfl (by kernel_rfl) (by kernel_rfl) (by kernel_rfl) (fun _ _ _ h => h) (Or.inl ⟨by kernel_rfl, fun W hS => ?_⟩) (by assumption) ?_
            · dsimp only at hS; go_split_ands; go_simp
            simp only [Act.put, List.setIfInBounds_toArray, List.set_cons_zero, List.set_cons_succ]
            refine wpAnyH_take (i := 23) (v := (.slice A7 n7 c7)) (oi := ⟨_, _, _, _, _, _⟩) rfl (by kernel_rfl) (by kernel_rfl) (by kernel_rfl) (fun _ _ _ h => h) (Or.inl ⟨by kernel_rfl, fun W hS => ?_⟩) (by assumption) ?_
            · dsimp only at hS; go_split_ands; go_simp
            simp only [Act.put, List.setIfInBounds_toArray, List.set_cons_zero, List.set_cons_succ]
            refine wpAnyH_ready (rs := [24]) (by kernel_rfl) (by decide) (AllReadyH.cons (o := ⟨_, _, _, _, _, _⟩) rfl (fun K hK => ?_) AllReadyH.nil)
            have s4 := put_fault t3.why t3.wat hX4
            have hX5 := set_fault t3.why t3.wat hX4
            rw [if_pos (by kernel_rfl)]
            go_simp
            refine hK.out _ _ (trivial) (fun hHeld => ?_)
            clear hK K
            try simp only [Act.put, List.setIfInBounds_toArray, List.set_cons_zero, List.set_cons_succ]
            refine wpAnyH_done (by kernel_rfl) ?_ _
            have hor := Fr.only_row wm3 g4 (fv t3.why t3.wat)
            have hty : ∀ k, k = g4 → ∃ cs t, wm3.heap[k]? = some (.cells cs t (0, 0)) ∧ t ≠ 42 ∧ t ≠ 9 := fun k e => by subst e; exact ⟨fv 0 0, 30, hX4, by decide, by decide⟩
            have hQ5 : CuS w d1 d2 v1 want1 t1 (.slice A9 n9 c9) Fs v3 want3 t3 (.slice A11 Gs.length c11) Gs g10 g12 t2.why t2.wat (wm3.setRow g4 (fv t3.why t3.wat)) :=
              ⟨Below.only hQ.b hor hQ.b.size (fun k e => by rw [e]; exact hg4l.1), hQ.dc1.only hor (fun k hk e => dfp_fault hQ.dc1.toDb hX4 (e ▸ hk)), hQ.dc2.only hor (fun k hk e => dfp_fault hQ.dc2.toDb hX4 (e ▸ hk)), hQ.all.only hor hty, hQ.got.only hor hty, fault_only hQ.h10 hor hg4l.2.1, fault_only hQ.h12 hor hg4l.2.2, hQ.n1, hQ.n2, hQ.sep, hQ.sepf, hQ.gg⟩
            have hO8 := hO7.only hor hty
            have HF8 : Hid (feedS (xs.take (at_ + nn)) (Sm.new 2097152) = (t3, (Gs ++ Hs).map Fr.core)) := Lib.hid (by
              have h := HF7.out
              rw [HPF.out] at h
              rw [take_more, feed_append, HG.out.1]
              dsimp only
              rw [h, List.map_append])
            have HLN : Hid ((Gs.length + Hs.length) * 136 ≤ 140737488355328) := Lib.hid (by
              have h1 := (feed_came (xs.take (at_ + nn)) (Sm.new 2097152)).2.2.2.2
              rw [HF8.out, List.length_map, List.length_append, List.length_take] at h1
              have h2 := HXL.out
              have h3 := HAT.out
              omega)
            clear hor hX4 s4 hQ hO7 hty q1 q2 q3 q4 hsa hsb HF7
            generalize wm3.setRow g4 (fv t3.why t3.wat) = w8 at *
            rw [← HN7.out] at hO8 ⊢
            go_wp2_with (at_builtin; refine push_frames (w0 := w8) w.heap.size rfl (.tmp 100) (.tmp 101) rfl rfl rfl hQ5.got hO8 (Below.refl _ _) hQ5.b.size HLN.out ?_)
            intro v6 w9 hO9 _ hg9 hat9
            have hX6 := fault_only hX5 ((Only.refl w8 (rf (.slice A11 Gs.length c11))).grown hg9 (fun k e => .inl e)) (own_not hQ5.got.row hX5 (by decide))
            have hQ6 := hQ5.pushed hO9 hg9 hat9
            have e17 := get_fault hX6
            have p12 := put_fault t3.why t3.wat hQ6.h12
            have HQ7 := Lib.hid (hQ6.told t3.why t3.wat)
            clear hQ5 hO8 hO9 hg9 hat9 hX5 hX6 hQ6
            go_wp2_with fail
            go_roundg (gk - 1)
            case measure => exact HGA.out.1
            case rel => exact ⟨i + 1, at_ + nn, v3, want3, t3, Gs ++ Hs, by simp, by simp, HQ7, Lib.hid ⟨HF8.out, by have := HAT.out; omega, HGA.out.2, fun h => by have h1 := HNN.out.2 h; have := HAT.out; omega⟩⟩
        · skip
          rw [if_pos (by kernel_rfl)]
          go_simp
          obtain ⟨wm1, s0, hX4, hbx⟩ := fault_new wm0
          rw [s0]
          obtain ⟨g4, hg4⟩ : ∃ g4, wm0.heap.size = g4 := ⟨_, rfl⟩
          have hg4l : w.heap.size ≤ g4 ∧ ¬ g10 = g4 ∧ ¬ g12 = g4 := by have h1 := lt_of_block hQ.h10; have h2 := lt_of_block hQ.h12; have h3 := hQ.b.size; refine ⟨?_, ?_, ?_⟩ <;> omega
          have hnv : ¬ dfp d2 v2 g4 ∧ ¬ dfp d1 v1 g4 := ⟨fun hk => by have := hQ.dc2.toDb.old _ hk; omega, fun hk => by have := hQ.dc1.toDb.old _ hk; omega⟩
          replace hQ := hQ.below hbx
          rw [hg4] at hX4 ⊢
          clear hbx hg4 s0 hnv
          refine hK.out _ _ (trivial) (fun hHeld => ?_)
          clear hK K
          try simp only [Act.put, List.setIfInBounds_toArray, List.set_cons_zero, List.set_cons_succ]
          refine wpAnyH_ready (rs := [17]) (by kernel_rfl) (by decide) (AllReadyH.cons (o := ⟨_, _, _, _, _, _⟩) rfl (fun K hK => ?_) AllReadyH.nil)
          rw [if_pos (by kernel_rfl)]
          go_simp
          have hP := PB.two (cap := c - at_) (cap2 := c - (at_ + hf)) 23 (HRa.out _ hQ.b) (HRb.out _ hQ.b) HFa.out HFb.out hQ.dc2.toDb.old
          have hbx := below_alloc (Below.refl _ wm1) (.cells #[.slice Aa hf (c - at_), .slice Ab (nn - hf) (c - (at_ + hf))] 23)
          obtain ⟨gl, hgl⟩ : ∃ gl, wm1.heap.size = gl := ⟨_, rfl⟩
          replace hQ := hQ.below hbx
          replace hX4 := fault_keep hX4 hbx
          rw [hgl] at hP ⊢
          generalize wm1.alloc (.cells #[.slice Aa hf (c - at_), .slice Ab (nn - hf) (c - (at_ + hf))] 23) = wm2 at *
          clear hbx hgl
          refine hK.out _ _ (trivial) (fun hHeld => ?_)
          clear hK K
          try simp only [Act.put, List.setIfInBounds_toArray, List.set_cons_zero, List.set_cons_succ]
          refine wpAnyH_ready (rs := [18]) (by kernel_rfl) (by decide) (AllReadyH.cons (o := ⟨_, _, _, _, _, _⟩) rfl (fun K hK => ?_) AllReadyH.nil)
          rw [if_pos (by kernel_rfl)]
          go_simp
          refine (feed_any hQ.dc2 HW2.out (some ⟨gl, 0, none⟩) 2 2 _ hP (by have := HFL.out; omega) (by have := HFL.out; omega) (by have := HFL.out; omega)).mono ?_
          rintro e wm3 ⟨v3, vl3, want3, t3, Hs, rfl, HF7, hD7, hO7, ho7, hon7⟩
          replace hO7 := hO7.less hQ.b.size
          replace hX4 := fault_only hX4 ho7 (dfp_fault hQ.dc2.toDb hX4)
          replace hQ := hQ.feed ho7 hon7 hD7
          obtain ⟨A7, c7, rfl⟩ := hO7.form
          obtain ⟨n7, hn7⟩ : ∃ n7, Hs.length = n7 := ⟨_, rfl⟩
          have HN7 := Lib.hid hn7
          rw [hn7] at hO7 ⊢
          rw [show Value.agg (fv t3.why t3.wat) = .agg #[.int .i64 t3.why, .int .i64 t3.wat] from rfl]
          clear ho7 hon7 hD7 hn7 hP
          go_wp2_with fail
          refine hK.out _ _ (trivial) (fun hHeld => ?_)
          clear hK K
          try simp only [Act.put, List.setIfInBounds_toArray, List.set_cons_zero, List.set_cons_succ]
          refine wpAnyH_take (i := 19) (v := (.tuple #[.slice A7 n7 c7, (.agg #[.int .i64 t3.why, .int .i64 t3.wat])])) (oi := ⟨_, _, _, _, _, _⟩) rfl (by kernel_rfl) (by kernel_rfl) (by kernel_rfl) (fun _ _ _ h => h) (Or.inl ⟨by kernel_rfl, fun W hS => ?_⟩) (by assumption) ?_
          · dsimp only at hS; go_split_ands; go_simp
          simp only [Act.put, List.setIfInBounds_toArray, List.set_cons_zero, List.set_cons_succ]
          refine wpAnyH_take (i := 20) (v := (.slice A7 n7 c7)) (oi := ⟨_, _, _, _, _, _⟩) rfl (by kernel_rfl) (by kernel_rfl) (by kernel_rfl) (fun _ _ _ h => h) (Or.inl ⟨by kernel_rfl, fun W hS => ?_⟩) (by assumption) ?_
          · dsimp only at hS; go_split_ands; go_simp
          simp only [Act.put, List.setIfInBounds_toArray, List.set_cons_zero, List.set_cons_succ]
          refine wpAnyH_take (i := 21) (v := (.agg #[.int .i64 t3.why, .int .i64 t3.wat])) (oi := ⟨_, _, _, _, _, _⟩) rfl (by kernel_rfl) (by kernel_rfl) (by kernel_rfl) (fun _ _ _ h => h) (Or.inl ⟨by kernel_rfl, fun W hS => ?_⟩) (by assumption) ?_
          · dsimp only at hS; go_split_ands; go_simp
          simp only [Act.put, List.setIfInBounds_toArray, List.set_cons_zero, List.set_cons_succ]
          refine wpAnyH_take (i := 23) (v := (.slice A7 n7 c7)) (oi := ⟨_, _, _, _, _, _⟩) rfl (by kernel_rfl) (by kernel_rfl) (by kernel_rfl) (fun _ _ _ h => h) (Or.inl ⟨by kernel_rfl, fun W hS => ?_⟩) (by assumption) ?_
          · dsimp only at hS; go_split_ands; go_simp
          simp only [Act.put, List.setIfInBounds_toArray, List.set_cons_zero, List.set_cons_succ]
          refine wpAnyH_ready (rs := [24]) (by kernel_rfl) (by decide) (AllReadyH.cons (o := ⟨_, _, _, _, _, _⟩) rfl (fun K hK => ?_) AllReadyH.nil)
          have s4 := put_fault t3.why t3.wat hX4
          have hX5 := set_fault t3.why t3.wat hX4
          rw [if_pos (by kernel_rfl)]
          go_simp
          refine hK.out _ _ (trivial) (fun hHeld => ?_)
          clear hK K
          try simp only [Act.put, List.setIfInBounds_toArray, List.set_cons_zero, List.set_cons_succ]
          refine wpAnyH_done (by kernel_rfl) ?_ _
          have hor := Fr.only_row wm3 g4 (fv t3.why t3.wat)
          have hty : ∀ k, k = g4 → ∃ cs t, wm3.heap[k]? = some (.cells cs t (0, 0)) ∧ t ≠ 42 ∧ t ≠ 9 := fun k e => by subst e; exact ⟨fv 0 0, 30, hX4, by decide, by decide⟩
          have hQ5 : CuS w d1 d2 v1 want1 t1 (.slice A9 n9 c9) Fs v3 want3 t3 (.slice A11 Gs.length c11) Gs g10 g12 t2.why t2.wat (wm3.setRow g4 (fv t3.why t3.wat)) :=
            ⟨Below.only hQ.b hor hQ.b.size (fun k e => by rw [e]; exact hg4l.1), hQ.dc1.only hor (fun k hk e => dfp_fault hQ.dc1.toDb hX4 (e ▸ hk)), hQ.dc2.only hor (fun k hk e => dfp_fault hQ.dc2.toDb hX4 (e ▸ hk)), hQ.all.only hor hty, hQ.got.only hor hty, fault_only hQ.h10 hor hg4l.2.1, fault_only hQ.h12 hor hg4l.2.2, hQ.n1, hQ.n2, hQ.sep, hQ.sepf, hQ.gg⟩
          have hO8 := hO7.only hor hty
          have HF8 : Hid (feedS (xs.take (at_ + nn)) (Sm.new 2097152) = (t3, (Gs ++ Hs).map Fr.core)) := Lib.hid (by
            have h := HF7.out
            rw [HPF.out] at h
            rw [take_more, feed_append, HG.out.1]
            dsimp only
            rw [h, List.map_append])
          have HLN : Hid ((Gs.length + Hs.length) * 136 ≤ 140737488355328) := Lib.hid (by
            have h1 := (feed_came (xs.take (at_ + nn)) (Sm.new 2097152)).2.2.2.2
            rw [HF8.out, List.length_map, List.length_append, List.length_take] at h1
            have h2 := HXL.out
            have h3 := HAT.out
            omega)
          clear hor hX4 s4 hQ hO7 hty q1 q2 q3 q4 hsa hsb HF7
          generalize wm3.setRow g4 (fv t3.why t3.wat) = w8 at *
          rw [← HN7.out] at hO8 ⊢
          go_wp2_with (at_builtin; refine push_frames (w0 := w8) w.heap.size rfl (.tmp 100) (.tmp 101) rfl rfl rfl hQ5.got hO8 (Below.refl _ _) hQ5.b.size HLN.out ?_)
          intro v6 w9 hO9 _ hg9 hat9
          have hX6 := fault_only hX5 ((Only.refl w8 (rf (.slice A11 Gs.length c11))).grown hg9 (fun k e => .inl e)) (own_not hQ5.got.row hX5 (by decide))
          have hQ6 := hQ5.pushed hO9 hg9 hat9
          have e17 := get_fault hX6
          have p12 := put_fault t3.why t3.wat hQ6.h12
          have HQ7 := Lib.hid (hQ6.told t3.why t3.wat)
          clear hQ5 hO8 hO9 hg9 hat9 hX5 hX6 hQ6
          go_wp2_with fail
          go_roundg (gk - 1)
          case measure => exact HGA.out.1
          case rel => exact ⟨i + 1, at_ + nn, v3, want3, t3, Gs ++ Hs, by simp, by simp, HQ7, Lib.hid ⟨HF8.out, by have := HAT.out; omega, HGA.out.2, fun h => by have h1 := HNN.out.2 h; have := HAT.out; omega⟩⟩
    · have HALL : Hid (feedS xs (Sm.new 2097152) = (t2, Gs.map Fr.core)) := Lib.hid (by
        obtain ⟨h1, h2, h3, h4⟩ := HG.out
        by_cases hw : t2.why = 0
        · have : m < i := by
            rcases Nat.lt_or_ge m i with h | h
            · exact h
            · exact absurd ⟨h, hw⟩ hgo
          rw [h4 this, List.take_of_length_le (by rw [HXL.out]; exact Nat.le_refl _)] at h1
          exact h1
        · have e : xs = xs.take at_ ++ xs.drop at_ := (List.take_append_drop _ _).symm
          rw [e, feed_append, h1]
          dsimp only
          rw [feed_bad hw, List.append_nil])
      have HE := HF1.out.symm.trans HALL.out
      have ht : t1 = t2 := congrArg Prod.fst HE
      have hfg : Fs.map Fr.core = Gs.map Fr.core := congrArg Prod.snd HE
      have HFG := Lib.hid hfg
      have hend : (∀ W : World, (binOp .eql 30 (.agg #[.int .i64 t2.why, .int .i64 t2.wat]) (.agg #[.int .i64 0, .int .i64 0])).run Try.prog W = .ok (.bool false) W) ∨ ¬ (i : Int) ≤ (m : Int) := by
        by_cases hw : t2.why = 0
        · right; intro h; exact hgo ⟨by omega, hw⟩
        · left; exact eql_fault t2.why t2.wat 0 0 false (by simp [hw])
      clear HE hfg hgo
      rcases hin with hi2 | hi2
      · have hne := hend.elim id (fun h => absurd hi2 h)
        clear hend
        subst ht
        have hQ := HQ.out
        go_wp2_with fail
        refine (dCount_any hQ.dc1).mono ?_
        rintro e w6 ⟨rfl, hb6⟩
        replace hQ := hQ.below hb6
        clear hb6 e12
        try clear hne
        go_wp2_with fail
        refine (dCount_any hQ.dc2).mono ?_
        rintro e w7 ⟨rfl, hb7⟩
        replace hQ := hQ.below hb7
        clear hb7
        obtain ⟨cm, hcm⟩ : ∃ cm : Int, (t1.came : Int) = cm := ⟨_, rfl⟩
        obtain ⟨wh, hwh⟩ : ∃ wh : Int, (t1.whole : Int) = wh := ⟨_, rfl⟩
        obtain ⟨ra, hra⟩ : ∃ ra : List Int, t1.rest = ra := ⟨_, rfl⟩
        obtain ⟨wt, hwt⟩ : ∃ wt : Int, wt = wantSm t1 := ⟨_, rfl⟩
        obtain ⟨nr, hnr⟩ : ∃ nr, ra.length = nr := ⟨_, rfl⟩
        have HRA := Lib.hid hra
        have HNR := Lib.hid hnr
        have HWT := Lib.hid hwt
        obtain ⟨n11, hn11⟩ : ∃ n11, Gs.length = n11 := ⟨_, rfl⟩
        have HN11 := Lib.hid hn11
        have HGL : Hid (Gs.length ≤ 1048576 ∧ Fs.length ≤ 1048576) := Lib.hid (by
          have h1 := (feed_came xs (Sm.new 2097152)).2.2.2.2
          have h2 := (feed_came xs (Sm.new 2097152)).2.2.2.2
          rw [HALL.out, List.length_map] at h1
          rw [HF1.out, List.length_map] at h2
          have := HXL.out; have := HL.out
          exact ⟨by omega, by omega⟩)
        rw [hcm, hwh]
        rw [hn11]
        clear hcm hwh hra hwt hnr hn11
        go_upto_region 21 with (fail)
        obtain ⟨xw, hxw⟩ : ∃ xw, t1.why = xw := ⟨_, rfl⟩
        obtain ⟨yw, hyw⟩ : ∃ yw, t1.wat = yw := ⟨_, rfl⟩
        have HXW : Hid (t1.why = xw ∧ t1.wat = yw) := Lib.hid ⟨hxw, hyw⟩
        have l10 : ∀ W : World, W.heap[g10]? = some (.cells (fv xw yw) 30 (0, 0)) → (Instr.loadAt 30 (.pointer (some ⟨g10, 0, none⟩))).run Try.prog W = .ok (.agg #[.int .i64 xw, .int .i64 yw]) W := fun W h => get_fault h
        have l12 : ∀ W : World, W.heap[g12]? = some (.cells (fv xw yw) 30 (0, 0)) → (Instr.loadAt 30 (.pointer (some ⟨g12, 0, none⟩))).run Try.prog W = .ok (.agg #[.int .i64 xw, .int .i64 yw]) W := fun W h => get_fault h
        have q3 := eql_fault xw yw xw yw true (by simp)
        have hQ21 := hQ.below (below_drew (Below.refl w7.heap.size w7))
        have hh10 := hQ21.h10
        have hh12 := hQ21.h12
        rw [hxw, hyw] at hh10 hh12
        clear hxw hyw hQ
        refine wp_region_held_drew (S := fun W => W.heap[g10]? = some (.cells (fv xw yw) 30 (0, 0)) ∧ W.heap[g12]? = some (.cells (fv xw yw) 30 (0, 0))) (by kernel_rfl) (⟨hh10, hh12⟩) (fun hHeld => ?_)
        refine wpAnyH_take (i := 0) (v := (.slice A9 n9 c9)) (oi := ⟨_, _, _, _, _, _⟩) rfl (by kernel_rfl) (by kernel_rfl) (by kernel_rfl) (fun _ _ _ h => h) (Or.inl ⟨by kernel_rfl, fun W hS => ?_⟩) (by assumption) ?_
        · dsimp only at hS; go_split_ands; go_simp
        simp only [Act.put, List.setIfInBounds_toArray, List.set_cons_zero, List.set_cons_succ]
        refine wpAnyH_take (i := 1) (v := (.slice A11 n11 c11)) (oi := ⟨_, _, _, _, _, _⟩) rfl (by kernel_rfl) (by kernel_rfl) (by kernel_rfl) (fun _ _ _ h => h) (Or.inl ⟨by kernel_rfl, fun W hS => ?_⟩) (by assumption) ?_
        · dsimp only at hS; go_split_ands; go_simp
        simp only [Act.put, List.setIfInBounds_toArray, List.set_cons_zero, List.set_cons_succ]
        refine wpAnyH_ready (rs := [2]) (by kernel_rfl) (by decide) (AllReadyH.cons (o := ⟨_, _, _, _, _, _⟩) rfl (fun K hK => ?_) AllReadyH.nil)
        rw [if_pos (by kernel_rfl)]
        go_simp
        refine (rSames_true (hQ21.all.rfo HN9.out.symm (by have := HGL.out; have := HN9.out; omega)) (OFs.rfo (by have h := hQ21.got; rw [HN11.out] at h; exact h) HN11.out.symm (by have := HGL.out; have := HN11.out; omega)) HFG.out).mono ?_
        rintro e wz2 ⟨rfl, hbx⟩
        replace hQ21 := hQ21.below hbx
        have hk2 := hHeld
        go_wp2_with fail
        refine hK.out _ _ (⟨fault_keep hHeld.1 hbx, fault_keep hHeld.2 hbx⟩) (fun hHeld => ?_)
        clear hK K
        try simp only [Act.put, List.setIfInBounds_toArray, List.set_cons_zero, List.set_cons_succ]
        refine wpAnyH_take (i := 3) (v := (.bool true)) (oi := ⟨_, _, _, _, _, _⟩) rfl (by kernel_rfl) (by kernel_rfl) (by kernel_rfl) (fun _ _ _ h => h) (Or.inl ⟨by kernel_rfl, fun W hS => ?_⟩) (by assumption) ?_
        · dsimp only at hS; go_split_ands; go_simp
        simp only [Act.put, List.setIfInBounds_toArray, List.set_cons_zero, List.set_cons_succ]
        refine wpAnyH_take (i := 4) (v := (.agg #[.int .i64 xw, .int .i64 yw])) (oi := ⟨_, _, _, _, _, _⟩) rfl (by kernel_rfl) (by kernel_rfl) (by kernel_rfl) (fun _ _ _ h => h) (Or.inl ⟨by kernel_rfl, fun W hS => ?_⟩) (by assumption) ?_
        · dsimp only at hS; go_split_ands; go_simp
        simp only [Act.put, List.setIfInBounds_toArray, List.set_cons_zero, List.set_cons_succ]
        refine wpAnyH_take (i := 5) (v := (.agg #[.int .i64 xw, .int .i64 yw])) (oi := ⟨_, _, _, _, _, _⟩) rfl (by kernel_rfl) (by kernel_rfl) (by kernel_rfl) (fun _ _ _ h => h) (Or.inl ⟨by kernel_rfl, fun W hS => ?_⟩) (by assumption) ?_
        · dsimp only at hS; go_split_ands; go_simp
        simp only [Act.put, List.setIfInBounds_toArray, List.set_cons_zero, List.set_cons_succ]
        refine wpAnyH_take (i := 6) (v := (.bool true)) (oi := ⟨_, _, _, _, _, _⟩) rfl (by kernel_rfl) (by kernel_rfl) (by kernel_rfl) (fun _ _ _ h => h) (Or.inl ⟨by kernel_rfl, fun W hS => ?_⟩) (by assumption) ?_
        · dsimp only at hS; go_split_ands; go_simp
        simp only [Act.put, List.setIfInBounds_toArray, List.set_cons_zero, List.set_cons_succ]
        refine wpAnyH_take (i := 7) (v := (.bool true)) (oi := ⟨_, _, _, _, _, _⟩) rfl (by kernel_rfl) (by kernel_rfl) (by kernel_rfl) (fun _ _ _ h => h) (Or.inl ⟨by kernel_rfl, fun W hS => ?_⟩) (by assumption) ?_
        · dsimp only at hS; go_split_ands; go_simp
        simp only [Act.put, List.setIfInBounds_toArray, List.set_cons_zero, List.set_cons_succ]
        refine wpAnyH_take (i := 8) (v := (.bool true)) (oi := ⟨_, _, _, _, _, _⟩) rfl (by kernel_rfl) (by kernel_rfl) (by kernel_rfl) (fun _ _ _ h => h) (Or.inl ⟨by kernel_rfl, fun W hS => ?_⟩) (by assumption) ?_
        · dsimp only at hS; go_split_ands; go_simp
        simp only [Act.put, List.setIfInBounds_toArray, List.set_cons_zero, List.set_cons_succ]
        refine wpAnyH_take (i := 9) (v := (.int .i64 cm)) (oi := ⟨_, _, _, _, _, _⟩) rfl (by kernel_rfl) (by kernel_rfl) (by kernel_rfl) (fun _ _ _ h => h) (Or.inl ⟨by kernel_rfl, fun W hS => ?_⟩) (by assumption) ?_
        · dsimp only at hS; go_split_ands; go_simp
        simp only [Act.put, List.setIfInBounds_toArray, List.set_cons_zero, List.set_cons_succ]
        refine wpAnyH_take (i := 10) (v := (.int .i64 cm)) (oi := ⟨_, _, _, _, _, _⟩) rfl (by kernel_rfl) (by kernel_rfl) (by kernel_rfl) (fun _ _ _ h => h) (Or.inl ⟨by kernel_rfl, fun W hS => ?_⟩) (by assumption) ?_
        · dsimp only at hS; go_split_ands; go_simp
        simp only [Act.put, List.setIfInBounds_toArray, List.set_cons_zero, List.set_cons_succ]
        refine wpAnyH_take (i := 11) (v := (.bool true)) (oi := ⟨_, _, _, _, _, _⟩) rfl (by kernel_rfl) (by kernel_rfl) (by kernel_rfl) (fun _ _ _ h => h) (Or.inl ⟨by kernel_rfl, fun W hS => ?_⟩) (by assumption) ?_
        · dsimp only at hS; go_split_ands; go_simp
        simp only [Act.put, List.setIfInBounds_toArray, List.set_cons_zero, List.set_cons_succ]
        refine wpAnyH_take (i := 12) (v := (.bool true)) (oi := ⟨_, _, _, _, _, _⟩) rfl (by kernel_rfl) (by kernel_rfl) (by kernel_rfl) (fun _ _ _ h => h) (Or.inl ⟨by kernel_rfl, fun W hS => ?_⟩) (by assumption) ?_
        · dsimp only at hS; go_split_ands; go_simp
        simp only [Act.put, List.setIfInBounds_toArray, List.set_cons_zero, List.set_cons_succ]
        refine wpAnyH_take (i := 13) (v := (.bool true)) (oi := ⟨_, _, _, _, _, _⟩) rfl (by kernel_rfl) (by kernel_rfl) (by kernel_rfl) (fun _ _ _ h => h) (Or.inl ⟨by kernel_rfl, fun W hS => ?_⟩) (by assumption) ?_
        · dsimp only at hS; go_split_ands; go_simp
        simp only [Act.put, List.setIfInBounds_toArray, List.set_cons_zero, List.set_cons_succ]
        refine wpAnyH_take (i := 14) (v := (.int .i64 wh)) (oi := ⟨_, _, _, _, _, _⟩) rfl (by kernel_rfl) (by kernel_rfl) (by kernel_rfl) (fun _ _ _ h => h) (Or.inl ⟨by kernel_rfl, fun W hS => ?_⟩) (by assumption) ?_
        · dsimp only at hS; go_split_ands; go_simp
        simp only [Act.put, List.setIfInBounds_toArray, List.set_cons_zero, List.set_cons_succ]
        refine wpAnyH_take (i := 15) (v := (.int .i64 wh)) (oi := ⟨_, _, _, _, _, _⟩) rfl (by kernel_rfl) (by kernel_rfl) (by kernel_rfl) (fun _ _ _ h => h) (Or.inl ⟨by kernel_rfl, fun W hS => ?_⟩) (by assumption) ?_
        · dsimp only at hS; go_split_ands; go_simp
        simp only [Act.put, List.setIfInBounds_toArray, List.set_cons_zero, List.set_cons_succ]
        refine wpAnyH_take (i := 16) (v := (.bool true)) (oi := ⟨_, _, _, _, _, _⟩) rfl (by kernel_rfl) (by kernel_rfl) (by kernel_rfl) (fun _ _ _ h => h) (Or.inl ⟨by kernel_rfl, fun W hS => ?_⟩) (by assumption) ?_
        · dsimp only at hS; go_split_ands; go_simp
        simp only [Act.put, List.setIfInBounds_toArray, List.set_cons_zero, List.set_cons_succ]
        refine wpAnyH_take (i := 17) (v := (.bool true)) (oi := ⟨_, _, _, _, _, _⟩) rfl (by kernel_rfl) (by kernel_rfl) (by kernel_rfl) (fun _ _ _ h => h) (Or.inl ⟨by kernel_rfl, fun W hS => ?_⟩) (by assumption) ?_
        · dsimp only at hS; go_split_ands; go_simp
        simp only [Act.put, List.setIfInBounds_toArray, List.set_cons_zero, List.set_cons_succ]
        refine wpAnyH_take (i := 18) (v := (.bool true)) (oi := ⟨_, _, _, _, _, _⟩) rfl (by kernel_rfl) (by kernel_rfl) (by kernel_rfl) (fun _ _ _ h => h) (Or.inl ⟨by kernel_rfl, fun W hS => ?_⟩) (by assumption) ?_
        · dsimp only at hS; go_split_ands; go_simp
        simp only [Act.put, List.setIfInBounds_toArray, List.set_cons_zero, List.set_cons_succ]
        refine wpAnyH_take (i := 19) (v := (.pointer (some ⟨d1, 0, none⟩))) (oi := ⟨_, _, _, _, _, _⟩) rfl (by kernel_rfl) (by kernel_rfl) (by kernel_rfl) (fun _ _ _ h => h) (Or.inl ⟨by kernel_rfl, fun W hS => ?_⟩) (by assumption) ?_
        · dsimp only at hS; go_split_ands; go_simp
        simp only [Act.put, List.setIfInBounds_toArray, List.set_cons_zero, List.set_cons_succ]
        refine wpAnyH_take (i := 22) (v := (.pointer (some ⟨d2, 0, none⟩))) (oi := ⟨_, _, _, _, _, _⟩) rfl (by kernel_rfl) (by kernel_rfl) (by kernel_rfl) (fun _ _ _ h => h) (Or.inl ⟨by kernel_rfl, fun W hS => ?_⟩) (by assumption) ?_
        · dsimp only at hS; go_split_ands; go_simp
        simp only [Act.put, List.setIfInBounds_toArray, List.set_cons_zero, List.set_cons_succ]
        refine wpAnyH_ready (rs := [20]) (by kernel_rfl) (by decide) (AllReadyH.cons (o := ⟨_, _, _, _, _, _⟩) rfl (fun K hK => ?_) AllReadyH.nil)
        rw [if_pos (by kernel_rfl)]
        go_simp
        refine (dRest_any hQ21.dc1).mono ?_
        rintro e wz20 ⟨vR, rfl, hOR, hbx⟩
        obtain ⟨A20, c20, rfl, hRa, _⟩ := hOR.reads'
        rw [HRA.out, HNR.out] at hRa ⊢
        clear hOR
        replace hQ21 := hQ21.below hbx
        have hk2 := hHeld
        go_wp2_with fail
        refine hK.out _ _ (⟨fault_keep hHeld.1 hbx, fault_keep hHeld.2 hbx⟩) (fun hHeld => ?_)
        clear hK K
        try simp only [Act.put, List.setIfInBounds_toArray, List.set_cons_zero, List.set_cons_succ]
        refine wpAnyH_ready (rs := [21, 23]) (by kernel_rfl) (by decide) (AllReadyH.cons (o := ⟨_, _, _, _, _, _⟩) rfl (fun K hK => ?_) (AllReadyH.cons (o := ⟨_, _, _, _, _, _⟩) rfl (fun K hK => ?_) AllReadyH.nil))
        · skip
          have ek := string_of_reads (P := Try.prog) (c := c20) Try.underlying23 Try.underlying5 Try.underlying9 hRa.rd
          rw [if_pos (by kernel_rfl)]
          go_simp
          clear ek
          refine hK.out _ _ (hHeld) (fun hHeld => ?_)
          clear hK K
          try simp only [Act.put, List.setIfInBounds_toArray, List.set_cons_zero, List.set_cons_succ]
          refine wpAnyH_ready (rs := [23]) (by kernel_rfl) (by decide) (AllReadyH.cons (o := ⟨_, _, _, _, _, _⟩) rfl (fun K hK => ?_) AllReadyH.nil)
          rw [if_pos (by kernel_rfl)]
          go_simp
          refine (dRest_any hQ21.dc2).mono ?_
          rintro e wz23 ⟨vR, rfl, hOR, hbx⟩
          obtain ⟨A23, c23, rfl, hRb, _⟩ := hOR.reads'
          rw [HRA.out, HNR.out] at hRb ⊢
          clear hOR
          replace hQ21 := hQ21.below hbx
          have hk2 := hHeld
          go_wp2_with fail
          refine hK.out _ _ (⟨fault_keep hHeld.1 hbx, fault_keep hHeld.2 hbx⟩) (fun hHeld => ?_)
          clear hK K
          try simp only [Act.put, List.setIfInBounds_toArray, List.set_cons_zero, List.set_cons_succ]
          refine wpAnyH_ready (rs := [24]) (by kernel_rfl) (by decide) (AllReadyH.cons (o := ⟨_, _, _, _, _, _⟩) rfl (fun K hK => ?_) AllReadyH.nil)
          have ek := string_of_reads (P := Try.prog) (c := c23) Try.underlying23 Try.underlying5 Try.underlying9 hRb.rd
          rw [if_pos (by kernel_rfl)]
          go_simp
          clear ek
          refine hK.out _ _ (hHeld) (fun hHeld => ?_)
          clear hK K
          try simp only [Act.put, List.setIfInBounds_toArray, List.set_cons_zero, List.set_cons_succ]
          refine wpAnyH_take (i := 25) (v := (.bool true)) (oi := ⟨_, _, _, _, _, _⟩) rfl (by kernel_rfl) (by kernel_rfl) (by kernel_rfl) (fun _ _ _ h => h) (Or.inl ⟨by kernel_rfl, fun W hS => ?_⟩) (by assumption) ?_
          · dsimp only at hS; go_split_ands; go_simp
          simp only [Act.put, List.setIfInBounds_toArray, List.set_cons_zero, List.set_cons_succ]
          refine wpAnyH_take (i := 26) (v := (.bool true)) (oi := ⟨_, _, _, _, _, _⟩) rfl (by kernel_rfl) (by kernel_rfl) (by kernel_rfl) (fun _ _ _ h => h) (Or.inl ⟨by kernel_rfl, fun W hS => ?_⟩) (by assumption) ?_
          · dsimp only at hS; go_split_ands; go_simp
          simp only [Act.put, List.setIfInBounds_toArray, List.set_cons_zero, List.set_cons_succ]
          refine wpAnyH_take (i := 27) (v := (.bool true)) (oi := ⟨_, _, _, _, _, _⟩) rfl (by kernel_rfl) (by kernel_rfl) (by kernel_rfl) (fun _ _ _ h => h) (Or.inl ⟨by kernel_rfl, fun W hS => ?_⟩) (by assumption) ?_
          · dsimp only at hS; go_split_ands; go_simp
          simp only [Act.put, List.setIfInBounds_toArray, List.set_cons_zero, List.set_cons_succ]
          refine wpAnyH_take (i := 28) (v := (.pointer (some ⟨d1, 0, none⟩))) (oi := ⟨_, _, _, _, _, _⟩) rfl (by kernel_rfl) (by kernel_rfl) (by kernel_rfl) (fun _ _ _ h => h) (Or.inl ⟨by kernel_rfl, fun W hS => ?_⟩) (by assumption) ?_
          · dsimp only at hS; go_split_ands; go_simp
          simp only [Act.put, List.setIfInBounds_toArray, List.set_cons_zero, List.set_cons_succ]
          refine wpAnyH_take (i := 30) (v := (.pointer (some ⟨d2, 0, none⟩))) (oi := ⟨_, _, _, _, _, _⟩) rfl (by kernel_rfl) (by kernel_rfl) (by kernel_rfl) (fun _ _ _ h => h) (Or.inl ⟨by kernel_rfl, fun W hS => ?_⟩) (by assumption) ?_
          · dsimp only at hS; go_split_ands; go_simp
          simp only [Act.put, List.setIfInBounds_toArray, List.set_cons_zero, List.set_cons_succ]
          refine wpAnyH_ready (rs := [29]) (by kernel_rfl) (by decide) (AllReadyH.cons (o := ⟨_, _, _, _, _, _⟩) rfl (fun K hK => ?_) AllReadyH.nil)
          rw [if_pos (by kernel_rfl)]
          go_simp
          refine (dWant_any hQ21.dc1 wt HWT.out).mono ?_
          rintro e wz29 ⟨rfl, hbx⟩
          replace hQ21 := hQ21.below hbx
          have hk2 := hHeld
          go_wp2_with fail
          refine hK.out _ _ (⟨fault_keep hHeld.1 hbx, fault_keep hHeld.2 hbx⟩) (fun hHeld => ?_)
          clear hK K
          try simp only [Act.put, List.setIfInBounds_toArray, List.set_cons_zero, List.set_cons_succ]
          refine wpAnyH_ready (rs := [31]) (by kernel_rfl) (by decide) (AllReadyH.cons (o := ⟨_, _, _, _, _, _⟩) rfl (fun K hK => ?_) AllReadyH.nil)
          rw [if_pos (by kernel_rfl)]
          go_simp
          refine (dWant_any hQ21.dc2 wt HWT.out).mono ?_
          rintro e wz31 ⟨rfl, hbx⟩
          replace hQ21 := hQ21.below hbx
          have hk2 := hHeld
          go_wp2_with fail
          refine hK.out _ _ (⟨fault_keep hHeld.1 hbx, fault_keep hHeld.2 hbx⟩) (fun hHeld => ?_)
          clear hK K
          try simp only [Act.put, List.setIfInBounds_toArray, List.set_cons_zero, List.set_cons_succ]
          refine wpAnyH_take (i := 32) (v := (.bool true)) (oi := ⟨_, _, _, _, _, _⟩) rfl (by kernel_rfl) (by kernel_rfl) (by kernel_rfl) (fun _ _ _ h => h) (Or.inl ⟨by kernel_rfl, fun W hS => ?_⟩) (by assumption) ?_
          · dsimp only at hS; go_split_ands; go_simp
          simp only [Act.put, List.setIfInBounds_toArray, List.set_cons_zero, List.set_cons_succ]
          refine wpAnyH_take (i := 33) (v := (.bool true)) (oi := ⟨_, _, _, _, _, _⟩) rfl (by kernel_rfl) (by kernel_rfl) (by kernel_rfl) (fun _ _ _ h => h) (Or.inl ⟨by kernel_rfl, fun W hS => ?_⟩) (by assumption) ?_
          · dsimp only at hS; go_split_ands; go_simp
          simp only [Act.put, List.setIfInBounds_toArray, List.set_cons_zero, List.set_cons_succ]
          refine wpAnyH_take (i := 34) (v := (.bool true)) (oi := ⟨_, _, _, _, _, _⟩) rfl (by kernel_rfl) (by kernel_rfl) (by kernel_rfl) (fun _ _ _ h => h) (Or.inl ⟨by kernel_rfl, fun W hS => ?_⟩) (by assumption) ?_
          · dsimp only at hS; go_split_ands; go_simp
          simp only [Act.put, List.setIfInBounds_toArray, List.set_cons_zero, List.set_cons_succ]
          refine wpAnyH_take (i := 35) (v := (.pointer (some ⟨d1, 0, none⟩))) (oi := ⟨_, _, _, _, _, _⟩) rfl (by kernel_rfl) (by kernel_rfl) (by kernel_rfl) (fun _ _ _ h => h) (Or.inl ⟨by kernel_rfl, fun W hS => ?_⟩) (by assumption) ?_
          · dsimp only at hS; go_split_ands; go_simp
          simp only [Act.put, List.setIfInBounds_toArray, List.set_cons_zero, List.set_cons_succ]
          refine wpAnyH_take (i := 37) (v := (.pointer (some ⟨d2, 0, none⟩))) (oi := ⟨_, _, _, _, _, _⟩) rfl (by kernel_rfl) (by kernel_rfl) (by kernel_rfl) (fun _ _ _ h => h) (Or.inl ⟨by kernel_rfl, fun W hS => ?_⟩) (by assumption) ?_
          · dsimp only at hS; go_split_ands; go_simp
          simp only [Act.put, List.setIfInBounds_toArray, List.set_cons_zero, List.set_cons_succ]
          refine wpAnyH_ready (rs := [36]) (by kernel_rfl) (by decide) (AllReadyH.cons (o := ⟨_, _, _, _, _, _⟩) rfl (fun K hK => ?_) AllReadyH.nil)
          rw [if_pos (by kernel_rfl)]
          go_simp
          refine (cPoisonD hQ21.dc1).mono ?_
          rintro e wz36 ⟨rfl, hbx⟩
          rw [HXW.out.1, HXW.out.2]
          replace hQ21 := hQ21.below hbx
          have hk2 := hHeld
          go_wp2_with fail
          refine hK.out _ _ (⟨fault_keep hHeld.1 hbx, fault_keep hHeld.2 hbx⟩) (fun hHeld => ?_)
          clear hK K
          try simp only [Act.put, List.setIfInBounds_toArray, List.set_cons_zero, List.set_cons_succ]
          refine wpAnyH_ready (rs := [38]) (by kernel_rfl) (by decide) (AllReadyH.cons (o := ⟨_, _, _, _, _, _⟩) rfl (fun K hK => ?_) AllReadyH.nil)
          rw [if_pos (by kernel_rfl)]
          go_simp
          refine (cPoisonD hQ21.dc2).mono ?_
          rintro e wz38 ⟨rfl, hbx⟩
          rw [HXW.out.1, HXW.out.2]
          replace hQ21 := hQ21.below hbx
          have hk2 := hHeld
          go_wp2_with fail
          refine hK.out _ _ (⟨fault_keep hHeld.1 hbx, fault_keep hHeld.2 hbx⟩) (fun hHeld => ?_)
          clear hK K
          try simp only [Act.put, List.setIfInBounds_toArray, List.set_cons_zero, List.set_cons_succ]
          refine wpAnyH_take (i := 39) (v := (.bool true)) (oi := ⟨_, _, _, _, _, _⟩) rfl (by kernel_rfl) (by kernel_rfl) (by kernel_rfl) (fun _ _ _ h => h) (Or.inl ⟨by kernel_rfl, fun W hS => ?_⟩) (by assumption) ?_
          · dsimp only at hS; go_split_ands; go_simp
          simp only [Act.put, List.setIfInBounds_toArray, List.set_cons_zero, List.set_cons_succ]
          refine wpAnyH_take (i := 40) (v := (.bool true)) (oi := ⟨_, _, _, _, _, _⟩) rfl (by kernel_rfl) (by kernel_rfl) (by kernel_rfl) (fun _ _ _ h => h) (Or.inl ⟨by kernel_rfl, fun W hS => ?_⟩) (by assumption) ?_
          · dsimp only at hS; go_split_ands; go_simp
          simp only [Act.put, List.setIfInBounds_toArray, List.set_cons_zero, List.set_cons_succ]
          refine wpAnyH_take (i := 41) (v := (.bool true)) (oi := ⟨_, _, _, _, _, _⟩) rfl (by kernel_rfl) (by kernel_rfl) (by kernel_rfl) (fun _ _ _ h => h) (Or.inl ⟨by kernel_rfl, fun W hS => ?_⟩) (by assumption) ?_
          · dsimp only at hS; go_split_ands; go_simp
          simp only [Act.put, List.setIfInBounds_toArray, List.set_cons_zero, List.set_cons_succ]
          refine wpAnyH_ready (rs := [42]) (by kernel_rfl) (by decide) (AllReadyH.cons (o := ⟨_, _, _, _, _, _⟩) rfl (fun K hK => ?_) AllReadyH.nil)
          rw [if_pos (by kernel_rfl)]
          go_simp
          refine (lawake_any _).mono ?_
          rintro e wz42 ⟨rfl, hbx⟩
          replace hQ21 := hQ21.below hbx
          have hk2 := hHeld
          go_wp2_with fail
          refine hK.out _ _ (⟨fault_keep hHeld.1 hbx, fault_keep hHeld.2 hbx⟩) (fun hHeld => ?_)
          clear hK K
          try simp only [Act.put, List.setIfInBounds_toArray, List.set_cons_zero, List.set_cons_succ]
          refine wpAnyH_take (i := 43) (v := (.bool true)) (oi := ⟨_, _, _, _, _, _⟩) rfl (by kernel_rfl) (by kernel_rfl) (by kernel_rfl) (fun _ _ _ h => h) (Or.inl ⟨by kernel_rfl, fun W hS => ?_⟩) (by assumption) ?_
          · dsimp only at hS; go_split_ands; go_simp
          simp only [Act.put, List.setIfInBounds_toArray, List.set_cons_zero, List.set_cons_succ]
          refine wpAnyH_take (i := 44) (v := (.bool true)) (oi := ⟨_, _, _, _, _, _⟩) rfl (by kernel_rfl) (by kernel_rfl) (by kernel_rfl) (fun _ _ _ h => h) (Or.inl ⟨by kernel_rfl, fun W hS => ?_⟩) (by assumption) ?_
          · dsimp only at hS; go_split_ands; go_simp
          simp only [Act.put, List.setIfInBounds_toArray, List.set_cons_zero, List.set_cons_succ]
          refine wpAnyH_done (by kernel_rfl) ?_ _
          have HB := hQ21.b
          go_wp2_with fail
          go_ret
          exact ⟨rfl, HB⟩
        · skip
          rw [if_pos (by kernel_rfl)]
          go_simp
          refine (dRest_any hQ21.dc2).mono ?_
          rintro e wz23 ⟨vR, rfl, hOR, hbx⟩
          obtain ⟨A23, c23, rfl, hRb, _⟩ := hOR.reads'
          rw [HRA.out, HNR.out] at hRb ⊢
          clear hOR
          replace hQ21 := hQ21.below hbx
          replace hRa := hRa.below hbx
          have hk2 := hHeld
          go_wp2_with fail
          refine hK.out _ _ (⟨fault_keep hHeld.1 hbx, fault_keep hHeld.2 hbx⟩) (fun hHeld => ?_)
          clear hK K
          try simp only [Act.put, List.setIfInBounds_toArray, List.set_cons_zero, List.set_cons_succ]
          refine wpAnyH_ready (rs := [21, 24]) (by kernel_rfl) (by decide) (AllReadyH.cons (o := ⟨_, _, _, _, _, _⟩) rfl (fun K hK => ?_) (AllReadyH.cons (o := ⟨_, _, _, _, _, _⟩) rfl (fun K hK => ?_) AllReadyH.nil))
          · skip
            have ek := string_of_reads (P := Try.prog) (c := c20) Try.underlying23 Try.underlying5 Try.underlying9 hRa.rd
            rw [if_pos (by kernel_rfl)]
            go_simp
            clear ek
            refine hK.out _ _ (hHeld) (fun hHeld => ?_)
            clear hK K
            try simp only [Act.put, List.setIfInBounds_toArray, List.set_cons_zero, List.set_cons_succ]
            refine wpAnyH_ready (rs := [24]) (by kernel_rfl) (by decide) (AllReadyH.cons (o := ⟨_, _, _, _, _, _⟩) rfl (fun K hK => ?_) AllReadyH.nil)
            have ek := string_of_reads (P := Try.prog) (c := c23) Try.underlying23 Try.underlying5 Try.underlying9 hRb.rd
            rw [if_pos (by kernel_rfl)]
            go_simp
            clear ek
            refine hK.out _ _ (hHeld) (fun hHeld => ?_)
            clear hK K
            try simp only [Act.put, List.setIfInBounds_toArray, List.set_cons_zero, List.set_cons_succ]
            refine wpAnyH_take (i := 25) (v := (.bool true)) (oi := ⟨_, _, _, _, _, _⟩) rfl (by kernel_rfl) (by kernel_rfl) (by kernel_rfl) (fun _ _ _ h => h) (Or.inl ⟨by kernel_rfl, fun W hS => ?_⟩) (by assumption) ?_
            · dsimp only at hS; go_split_ands; go_simp
            simp only [Act.put, List.setIfInBounds_toArray, List.set_cons_zero, List.set_cons_succ]
            refine wpAnyH_take (i := 26) (v := (.bool true)) (oi := ⟨_, _, _, _, _, _⟩) rfl (by kernel_rfl) (by kernel_rfl) (by kernel_rfl) (fun _ _ _ h => h) (Or.inl ⟨by kernel_rfl, fun W hS => ?_⟩) (by assumption) ?_
            · dsimp only at hS; go_split_ands; go_simp
            simp only [Act.put, List.setIfInBounds_toArray, List.set_cons_zero, List.set_cons_succ]
            refine wpAnyH_take (i := 27) (v := (.bool true)) (oi := ⟨_, _, _, _, _, _⟩) rfl (by kernel_rfl) (by kernel_rfl) (by kernel_rfl) (fun _ _ _ h => h) (Or.inl ⟨by kernel_rfl, fun W hS => ?_⟩) (by assumption) ?_
            · dsimp only at hS; go_split_ands; go_simp
            simp only [Act.put, List.setIfInBounds_toArray, List.set_cons_zero, List.set_cons_succ]
            refine wpAnyH_take (i := 28) (v := (.pointer (some ⟨d1, 0, none⟩))) (oi := ⟨_, _, _, _, _, _⟩) rfl (by kernel_rfl) (by kernel_rfl) (by kernel_rfl) (fun _ _ _ h => h) (Or.inl ⟨by kernel_rfl, fun W hS => ?_⟩) (by assumption) ?_
            · dsimp only at hS; go_split_ands; go_simp
            simp only [Act.put, List.setIfInBounds_toArray, List.set_cons_zero, List.set_cons_succ]
            refine wpAnyH_take (i := 30) (v := (.pointer (some ⟨d2, 0, none⟩))) (oi := ⟨_, _, _, _, _, _⟩) rfl (by kernel_rfl) (by kernel_rfl) (by kernel_rfl) (fun _ _ _ h => h) (Or.inl ⟨by kernel_rfl, fun W hS => ?_⟩) (by assumption) ?_
            · dsimp only at hS; go_split_ands; go_simp
            simp only [Act.put, List.setIfInBounds_toArray, List.set_cons_zero, List.set_cons_succ]
            refine wpAnyH_ready (rs := [29]) (by kernel_rfl) (by decide) (AllReadyH.cons (o := ⟨_, _, _, _, _, _⟩) rfl (fun K hK => ?_) AllReadyH.nil)
            rw [if_pos (by kernel_rfl)]
            go_simp
            refine (dWant_any hQ21.dc1 wt HWT.out).mono ?_
            rintro e wz29 ⟨rfl, hbx⟩
            replace hQ21 := hQ21.below hbx
            have hk2 := hHeld
            go_wp2_with fail
            refine hK.out _ _ (⟨fault_keep hHeld.1 hbx, fault_keep hHeld.2 hbx⟩) (fun hHeld => ?_)
            clear hK K
            try simp only [Act.put, List.setIfInBounds_toArray, List.set_cons_zero, List.set_cons_succ]
            refine wpAnyH_ready (rs := [31]) (by kernel_rfl) (by decide) (AllReadyH.cons (o := ⟨_, _, _, _, _, _⟩) rfl (fun K hK => ?_) AllReadyH.nil)
            rw [if_pos (by kernel_rfl)]
            go_simp
            refine (dWant_any hQ21.dc2 wt HWT.out).mono ?_
            rintro e wz31 ⟨rfl, hbx⟩
            replace hQ21 := hQ21.below hbx
            have hk2 := hHeld
            go_wp2_with fail
            refine hK.out _ _ (⟨fault_keep hHeld.1 hbx, fault_keep hHeld.2 hbx⟩) (fun hHeld => ?_)
            clear hK K
            try simp only [Act.put, List.setIfInBounds_toArray, List.set_cons_zero, List.set_cons_succ]
            refine wpAnyH_take (i := 32) (v := (.bool true)) (oi := ⟨_, _, _, _, _, _⟩) rfl (by kernel_rfl) (by kernel_rfl) (by kernel_rfl) (fun _ _ _ h => h) (Or.inl ⟨by kernel_rfl, fun W hS => ?_⟩) (by assumption) ?_
            · dsimp only at hS; go_split_ands; go_simp
            simp only [Act.put, List.setIfInBounds_toArray, List.set_cons_zero, List.set_cons_succ]
            refine wpAnyH_take (i := 33) (v := (.bool true)) (oi := ⟨_, _, _, _, _, _⟩) rfl (by kernel_rfl) (by kernel_rfl) (by kernel_rfl) (fun _ _ _ h => h) (Or.inl ⟨by kernel_rfl, fun W hS => ?_⟩) (by assumption) ?_
            · dsimp only at hS; go_split_ands; go_simp
            simp only [Act.put, List.setIfInBounds_toArray, List.set_cons_zero, List.set_cons_succ]
            refine wpAnyH_take (i := 34) (v := (.bool true)) (oi := ⟨_, _, _, _, _, _⟩) rfl (by kernel_rfl) (by kernel_rfl) (by kernel_rfl) (fun _ _ _ h => h) (Or.inl ⟨by kernel_rfl, fun W hS => ?_⟩) (by assumption) ?_
            · dsimp only at hS; go_split_ands; go_simp
            simp only [Act.put, List.setIfInBounds_toArray, List.set_cons_zero, List.set_cons_succ]
            refine wpAnyH_take (i := 35) (v := (.pointer (some ⟨d1, 0, none⟩))) (oi := ⟨_, _, _, _, _, _⟩) rfl (by kernel_rfl) (by kernel_rfl) (by kernel_rfl) (fun _ _ _ h => h) (Or.inl ⟨by kernel_rfl, fun W hS => ?_⟩) (by assumption) ?_
            · dsimp only at hS; go_split_ands; go_simp
            simp only [Act.put, List.setIfInBounds_toArray, List.set_cons_zero, List.set_cons_succ]
            refine wpAnyH_take (i := 37) (v := (.pointer (some ⟨d2, 0, none⟩))) (oi := ⟨_, _, _, _, _, _⟩) rfl (by kernel_rfl) (by kernel_rfl) (by kernel_rfl) (fun _ _ _ h => h) (Or.inl ⟨by kernel_rfl, fun W hS => ?_⟩) (by assumption) ?_
            · dsimp only at hS; go_split_ands; go_simp
            simp only [Act.put, List.setIfInBounds_toArray, List.set_cons_zero, List.set_cons_succ]
            refine wpAnyH_ready (rs := [36]) (by kernel_rfl) (by decide) (AllReadyH.cons (o := ⟨_, _, _, _, _, _⟩) rfl (fun K hK => ?_) AllReadyH.nil)
            rw [if_pos (by kernel_rfl)]
            go_simp
            refine (cPoisonD hQ21.dc1).mono ?_
            rintro e wz36 ⟨rfl, hbx⟩
            rw [HXW.out.1, HXW.out.2]
            replace hQ21 := hQ21.below hbx
            have hk2 := hHeld
            go_wp2_with fail
            refine hK.out _ _ (⟨fault_keep hHeld.1 hbx, fault_keep hHeld.2 hbx⟩) (fun hHeld => ?_)
            clear hK K
            try simp only [Act.put, List.setIfInBounds_toArray, List.set_cons_zero, List.set_cons_succ]
            refine wpAnyH_ready (rs := [38]) (by kernel_rfl) (by decide) (AllReadyH.cons (o := ⟨_, _, _, _, _, _⟩) rfl (fun K hK => ?_) AllReadyH.nil)
            rw [if_pos (by kernel_rfl)]
            go_simp
            refine (cPoisonD hQ21.dc2).mono ?_
            rintro e wz38 ⟨rfl, hbx⟩
            rw [HXW.out.1, HXW.out.2]
            replace hQ21 := hQ21.below hbx
            have hk2 := hHeld
            go_wp2_with fail
            refine hK.out _ _ (⟨fault_keep hHeld.1 hbx, fault_keep hHeld.2 hbx⟩) (fun hHeld => ?_)
            clear hK K
            try simp only [Act.put, List.setIfInBounds_toArray, List.set_cons_zero, List.set_cons_succ]
            refine wpAnyH_take (i := 39) (v := (.bool true)) (oi := ⟨_, _, _, _, _, _⟩) rfl (by kernel_rfl) (by kernel_rfl) (by kernel_rfl) (fun _ _ _ h => h) (Or.inl ⟨by kernel_rfl, fun W hS => ?_⟩) (by assumption) ?_
            · dsimp only at hS; go_split_ands; go_simp
            simp only [Act.put, List.setIfInBounds_toArray, List.set_cons_zero, List.set_cons_succ]
            refine wpAnyH_take (i := 40) (v := (.bool true)) (oi := ⟨_, _, _, _, _, _⟩) rfl (by kernel_rfl) (by kernel_rfl) (by kernel_rfl) (fun _ _ _ h => h) (Or.inl ⟨by kernel_rfl, fun W hS => ?_⟩) (by assumption) ?_
            · dsimp only at hS; go_split_ands; go_simp
            simp only [Act.put, List.setIfInBounds_toArray, List.set_cons_zero, List.set_cons_succ]
            refine wpAnyH_take (i := 41) (v := (.bool true)) (oi := ⟨_, _, _, _, _, _⟩) rfl (by kernel_rfl) (by kernel_rfl) (by kernel_rfl) (fun _ _ _ h => h) (Or.inl ⟨by kernel_rfl, fun W hS => ?_⟩) (by assumption) ?_
            · dsimp only at hS; go_split_ands; go_simp
            simp only [Act.put, List.setIfInBounds_toArray, List.set_cons_zero, List.set_cons_succ]
            refine wpAnyH_ready (rs := [42]) (by kernel_rfl) (by decide) (AllReadyH.cons (o := ⟨_, _, _, _, _, _⟩) rfl (fun K hK => ?_) AllReadyH.nil)
            rw [if_pos (by kernel_rfl)]
            go_simp
            refine (lawake_any _).mono ?_
            rintro e wz42 ⟨rfl, hbx⟩
            replace hQ21 := hQ21.below hbx
            have hk2 := hHeld
            go_wp2_with fail
            refine hK.out _ _ (⟨fault_keep hHeld.1 hbx, fault_keep hHeld.2 hbx⟩) (fun hHeld => ?_)
            clear hK K
            try simp only [Act.put, List.setIfInBounds_toArray, List.set_cons_zero, List.set_cons_succ]
            refine wpAnyH_take (i := 43) (v := (.bool true)) (oi := ⟨_, _, _, _, _, _⟩) rfl (by kernel_rfl) (by kernel_rfl) (by kernel_rfl) (fun _ _ _ h => h) (Or.inl ⟨by kernel_rfl, fun W hS => ?_⟩) (by assumption) ?_
            · dsimp only at hS; go_split_ands; go_simp
            simp only [Act.put, List.setIfInBounds_toArray, List.set_cons_zero, List.set_cons_succ]
            refine wpAnyH_take (i := 44) (v := (.bool true)) (oi := ⟨_, _, _, _, _, _⟩) rfl (by kernel_rfl) (by kernel_rfl) (by kernel_rfl) (fun _ _ _ h => h) (Or.inl ⟨by kernel_rfl, fun W hS => ?_⟩) (by assumption) ?_
            · dsimp only at hS; go_split_ands; go_simp
            simp only [Act.put, List.setIfInBounds_toArray, List.set_cons_zero, List.set_cons_succ]
            refine wpAnyH_done (by kernel_rfl) ?_ _
            have HB := hQ21.b
            go_wp2_with fail
            go_ret
            exact ⟨rfl, HB⟩
          · skip
            have ek := string_of_reads (P := Try.prog) (c := c23) Try.underlying23 Try.underlying5 Try.underlying9 hRb.rd
            rw [if_pos (by kernel_rfl)]
            go_simp
            clear ek
            refine hK.out _ _ (hHeld) (fun hHeld => ?_)
            clear hK K
            try simp only [Act.put, List.setIfInBounds_toArray, List.set_cons_zero, List.set_cons_succ]
            refine wpAnyH_ready (rs := [21]) (by kernel_rfl) (by decide) (AllReadyH.cons (o := ⟨_, _, _, _, _, _⟩) rfl (fun K hK => ?_) AllReadyH.nil)
            have ek := string_of_reads (P := Try.prog) (c := c20) Try.underlying23 Try.underlying5 Try.underlying9 hRa.rd
            rw [if_pos (by kernel_rfl)]
            go_simp
            clear ek
            refine hK.out _ _ (hHeld) (fun hHeld => ?_)
            clear hK K
            try simp only [Act.put, List.setIfInBounds_toArray, List.set_cons_zero, List.set_cons_succ]
            refine wpAnyH_take (i := 25) (v := (.bool true)) (oi := ⟨_, _, _, _, _, _⟩) rfl (by kernel_rfl) (by kernel_rfl) (by kernel_rfl) (fun _ _ _ h => h) (Or.inl ⟨by kernel_rfl, fun W hS => ?_⟩) (by assumption) ?_
            · dsimp only at hS; go_split_ands; go_simp
            simp only [Act.put, List.setIfInBounds_toArray, List.set_cons_zero, List.set_cons_succ]
            refine wpAnyH_take (i := 26) (v := (.bool true)) (oi := ⟨_, _, _, _, _, _⟩) rfl (by kernel_rfl) (by kernel_rfl) (by kernel_rfl) (fun _ _ _ h => h) (Or.inl ⟨by kernel_rfl, fun W hS => ?_⟩) (by assumption) ?_
            · dsimp only at hS; go_split_ands; go_simp
            simp only [Act.put, List.setIfInBounds_toArray, List.set_cons_zero, List.set_cons_succ]
            refine wpAnyH_take (i := 27) (v := (.bool true)) (oi := ⟨_, _, _, _, _, _⟩) rfl (by kernel_rfl) (by kernel_rfl) (by kernel_rfl) (fun _ _ _ h => h) (Or.inl ⟨by kernel_rfl, fun W hS => ?_⟩) (by assumption) ?_
            · dsimp only at hS; go_split_ands; go_simp
            simp only [Act.put, List.setIfInBounds_toArray, List.set_cons_zero, List.set_cons_succ]
            refine wpAnyH_take (i := 28) (v := (.pointer (some ⟨d1, 0, none⟩))) (oi := ⟨_, _, _, _, _, _⟩) rfl (by kernel_rfl) (by kernel_rfl) (by kernel_rfl) (fun _ _ _ h => h) (Or.inl ⟨by kernel_rfl, fun W hS => ?_⟩) (by assumption) ?_
            · dsimp only at hS; go_split_ands; go_simp
            simp only [Act.put, List.setIfInBounds_toArray, List.set_cons_zero, List.set_cons_succ]
            refine wpAnyH_take (i := 30) (v := (.pointer (some ⟨d2, 0, none⟩))) (oi := ⟨_, _, _, _, _, _⟩) rfl (by kernel_rfl) (by kernel_rfl) (by kernel_rfl) (fun _ _ _ h => h) (Or.inl ⟨by kernel_rfl, fun W hS => ?_⟩) (by assumption) ?_
            · dsimp only at hS; go_split_ands; go_simp
            simp only [Act.put, List.setIfInBounds_toArray, List.set_cons_zero, List.set_cons_succ]
            refine wpAnyH_ready (rs := [29]) (by kernel_rfl) (by decide) (AllReadyH.cons (o := ⟨_, _, _, _, _, _⟩) rfl (fun K hK => ?_) AllReadyH.nil)
            rw [if_pos (by kernel_rfl)]
            go_simp
            refine (dWant_any hQ21.dc1 wt HWT.out).mono ?_
            rintro e wz29 ⟨rfl, hbx⟩
            replace hQ21 := hQ21.below hbx
            have hk2 := hHeld
            go_wp2_with fail
            refine hK.out _ _ (⟨fault_keep hHeld.1 hbx, fault_keep hHeld.2 hbx⟩) (fun hHeld => ?_)
            clear hK K
            try simp only [Act.put, List.setIfInBounds_toArray, List.set_cons_zero, List.set_cons_succ]
            refine wpAnyH_ready (rs := [31]) (by kernel_rfl) (by decide) (AllReadyH.cons (o := ⟨_, _, _, _, _, _⟩) rfl (fun K hK => ?_) AllReadyH.nil)
            rw [if_pos (by kernel_rfl)]
            go_simp
            refine (dWant_any hQ21.dc2 wt HWT.out).mono ?_
            rintro e wz31 ⟨rfl, hbx⟩
            replace hQ21 := hQ21.below hbx
            have hk2 := hHeld
            go_wp2_with fail
            refine hK.out _ _ (⟨fault_keep hHeld.1 hbx, fault_keep hHeld.2 hbx⟩) (fun hHeld => ?_)
            clear hK K
            try simp only [Act.put, List.setIfInBounds_toArray, List.set_cons_zero, List.set_cons_succ]
            refine wpAnyH_take (i := 32) (v := (.bool true)) (oi := ⟨_, _, _, _, _, _⟩) rfl (by kernel_rfl) (by kernel_rfl) (by kernel_rfl) (fun _ _ _ h => h) (Or.inl ⟨by kernel_rfl, fun W hS => ?_⟩) (by assumption) ?_
            · dsimp only at hS; go_split_ands; go_simp
            simp only [Act.put, List.setIfInBounds_toArray, List.set_cons_zero, List.set_cons_succ]
            refine wpAnyH_take (i := 33) (v := (.bool true)) (oi := ⟨_, _, _, _, _, _⟩) rfl (by kernel_rfl) (by kernel_rfl) (by kernel_rfl) (fun _ _ _ h => h) (Or.inl ⟨by kernel_rfl, fun W hS => ?_⟩) (by assumption) ?_
            · dsimp only at hS; go_split_ands; go_simp
            simp only [Act.put, List.setIfInBounds_toArray, List.set_cons_zero, List.set_cons_succ]
            refine wpAnyH_take (i := 34) (v := (.bool true)) (oi := ⟨_, _, _, _, _, _⟩) rfl (by kernel_rfl) (by kernel_rfl) (by kernel_rfl) (fun _ _ _ h => h) (Or.inl ⟨by kernel_rfl, fun W hS => ?_⟩) (by assumption) ?_
            · dsimp only at hS; go_split_ands; go_simp
            simp only [Act.put, List.setIfInBounds_toArray, List.set_cons_zero, List.set_cons_succ]
            refine wpAnyH_take (i := 35) (v := (.pointer (some ⟨d1, 0, none⟩))) (oi := ⟨_, _, _, _, _, _⟩) rfl (by kernel_rfl) (by kernel_rfl) (by kernel_rfl) (fun _ _ _ h => h) (Or.inl ⟨by kernel_rfl, fun W hS => ?_⟩) (by assumption) ?_
            · dsimp only at hS; go_split_ands; go_simp
            simp only [Act.put, List.setIfInBounds_toArray, List.set_cons_zero, List.set_cons_succ]
            refine wpAnyH_take (i := 37) (v := (.pointer (some ⟨d2, 0, none⟩))) (oi := ⟨_, _, _, _, _, _⟩) rfl (by kernel_rfl) (by kernel_rfl) (by kernel_rfl) (fun _ _ _ h => h) (Or.inl ⟨by kernel_rfl, fun W hS => ?_⟩) (by assumption) ?_
            · dsimp only at hS; go_split_ands; go_simp
            simp only [Act.put, List.setIfInBounds_toArray, List.set_cons_zero, List.set_cons_succ]
            refine wpAnyH_ready (rs := [36]) (by kernel_rfl) (by decide) (AllReadyH.cons (o := ⟨_, _, _, _, _, _⟩) rfl (fun K hK => ?_) AllReadyH.nil)
            rw [if_pos (by kernel_rfl)]
            go_simp
            refine (cPoisonD hQ21.dc1).mono ?_
            rintro e wz36 ⟨rfl, hbx⟩
            rw [HXW.out.1, HXW.out.2]
            replace hQ21 := hQ21.below hbx
            have hk2 := hHeld
            go_wp2_with fail
            refine hK.out _ _ (⟨fault_keep hHeld.1 hbx, fault_keep hHeld.2 hbx⟩) (fun hHeld => ?_)
            clear hK K
            try simp only [Act.put, List.setIfInBounds_toArray, List.set_cons_zero, List.set_cons_succ]
            refine wpAnyH_ready (rs := [38]) (by kernel_rfl) (by decide) (AllReadyH.cons (o := ⟨_, _, _, _, _, _⟩) rfl (fun K hK => ?_) AllReadyH.nil)
            rw [if_pos (by kernel_rfl)]
            go_simp
            refine (cPoisonD hQ21.dc2).mono ?_
            rintro e wz38 ⟨rfl, hbx⟩
            rw [HXW.out.1, HXW.out.2]
            replace hQ21 := hQ21.below hbx
            have hk2 := hHeld
            go_wp2_with fail
            refine hK.out _ _ (⟨fault_keep hHeld.1 hbx, fault_keep hHeld.2 hbx⟩) (fun hHeld => ?_)
            clear hK K
            try simp only [Act.put, List.setIfInBounds_toArray, List.set_cons_zero, List.set_cons_succ]
            refine wpAnyH_take (i := 39) (v := (.bool true)) (oi := ⟨_, _, _, _, _, _⟩) rfl (by kernel_rfl) (by kernel_rfl) (by kernel_rfl) (fun _ _ _ h => h) (Or.inl ⟨by kernel_rfl, fun W hS => ?_⟩) (by assumption) ?_
            · dsimp only at hS; go_split_ands; go_simp
            simp only [Act.put, List.setIfInBounds_toArray, List.set_cons_zero, List.set_cons_succ]
            refine wpAnyH_take (i := 40) (v := (.bool true)) (oi := ⟨_, _, _, _, _, _⟩) rfl (by kernel_rfl) (by kernel_rfl) (by kernel_rfl) (fun _ _ _ h => h) (Or.inl ⟨by kernel_rfl, fun W hS => ?_⟩) (by assumption) ?_
            · dsimp only at hS; go_split_ands; go_simp
            simp only [Act.put, List.setIfInBounds_toArray, List.set_cons_zero, List.set_cons_succ]
            refine wpAnyH_take (i := 41) (v := (.bool true)) (oi := ⟨_, _, _, _, _, _⟩) rfl (by kernel_rfl) (by kernel_rfl) (by kernel_rfl) (fun _ _ _ h => h) (Or.inl ⟨by kernel_rfl, fun W hS => ?_⟩) (by assumption) ?_
            · dsimp only at hS; go_split_ands; go_simp
            simp only [Act.put, List.setIfInBounds_toArray, List.set_cons_zero, List.set_cons_succ]
            refine wpAnyH_ready (rs := [42]) (by kernel_rfl) (by decide) (AllReadyH.cons (o := ⟨_, _, _, _, _, _⟩) rfl (fun K hK => ?_) AllReadyH.nil)
            rw [if_pos (by kernel_rfl)]
            go_simp
            refine (lawake_any _).mono ?_
            rintro e wz42 ⟨rfl, hbx⟩
            replace hQ21 := hQ21.below hbx
            have hk2 := hHeld
            go_wp2_with fail
            refine hK.out _ _ (⟨fault_keep hHeld.1 hbx, fault_keep hHeld.2 hbx⟩) (fun hHeld => ?_)
            clear hK K
            try simp only [Act.put, List.setIfInBounds_toArray, List.set_cons_zero, List.set_cons_succ]
            refine wpAnyH_take (i := 43) (v := (.bool true)) (oi := ⟨_, _, _, _, _, _⟩) rfl (by kernel_rfl) (by kernel_rfl) (by kernel_rfl) (fun _ _ _ h => h) (Or.inl ⟨by kernel_rfl, fun W hS => ?_⟩) (by assumption) ?_
            · dsimp only at hS; go_split_ands; go_simp
            simp only [Act.put, List.setIfInBounds_toArray, List.set_cons_zero, List.set_cons_succ]
            refine wpAnyH_take (i := 44) (v := (.bool true)) (oi := ⟨_, _, _, _, _, _⟩) rfl (by kernel_rfl) (by kernel_rfl) (by kernel_rfl) (fun _ _ _ h => h) (Or.inl ⟨by kernel_rfl, fun W hS => ?_⟩) (by assumption) ?_
            · dsimp only at hS; go_split_ands; go_simp
            simp only [Act.put, List.setIfInBounds_toArray, List.set_cons_zero, List.set_cons_succ]
            refine wpAnyH_done (by kernel_rfl) ?_ _
            have HB := hQ21.b
            go_wp2_with fail
            go_ret
            exact ⟨rfl, HB⟩
      · clear hend
        subst ht
        have hQ := HQ.out
        go_wp2_with fail
        refine (dCount_any hQ.dc1).mono ?_
        rintro e w6 ⟨rfl, hb6⟩
        replace hQ := hQ.below hb6
        clear hb6 e12
        try clear hne
        go_wp2_with fail
        refine (dCount_any hQ.dc2).mono ?_
        rintro e w7 ⟨rfl, hb7⟩
        replace hQ := hQ.below hb7
        clear hb7
        obtain ⟨cm, hcm⟩ : ∃ cm : Int, (t1.came : Int) = cm := ⟨_, rfl⟩
        obtain ⟨wh, hwh⟩ : ∃ wh : Int, (t1.whole : Int) = wh := ⟨_, rfl⟩
        obtain ⟨ra, hra⟩ : ∃ ra : List Int, t1.rest = ra := ⟨_, rfl⟩
        obtain ⟨wt, hwt⟩ : ∃ wt : Int, wt = wantSm t1 := ⟨_, rfl⟩
        obtain ⟨nr, hnr⟩ : ∃ nr, ra.length = nr := ⟨_, rfl⟩
        have HRA := Lib.hid hra
        have HNR := Lib.hid hnr
        have HWT := Lib.hid hwt
        obtain ⟨n11, hn11⟩ : ∃ n11, Gs.length = n11 := ⟨_, rfl⟩
        have HN11 := Lib.hid hn11
        have HGL : Hid (Gs.length ≤ 1048576 ∧ Fs.length ≤ 1048576) := Lib.hid (by
          have h1 := (feed_came xs (Sm.new 2097152)).2.2.2.2
          have h2 := (feed_came xs (Sm.new 2097152)).2.2.2.2
          rw [HALL.out, List.length_map] at h1
          rw [HF1.out, List.length_map] at h2
          have := HXL.out; have := HL.out
          exact ⟨by omega, by omega⟩)
        rw [hcm, hwh]
        rw [hn11]
        clear hcm hwh hra hwt hnr hn11
        go_upto_region 21 with (fail)
        obtain ⟨xw, hxw⟩ : ∃ xw, t1.why = xw := ⟨_, rfl⟩
        obtain ⟨yw, hyw⟩ : ∃ yw, t1.wat = yw := ⟨_, rfl⟩
        have HXW : Hid (t1.why = xw ∧ t1.wat = yw) := Lib.hid ⟨hxw, hyw⟩
        have l10 : ∀ W : World, W.heap[g10]? = some (.cells (fv xw yw) 30 (0, 0)) → (Instr.loadAt 30 (.pointer (some ⟨g10, 0, none⟩))).run Try.prog W = .ok (.agg #[.int .i64 xw, .int .i64 yw]) W := fun W h => get_fault h
        have l12 : ∀ W : World, W.heap[g12]? = some (.cells (fv xw yw) 30 (0, 0)) → (Instr.loadAt 30 (.pointer (some ⟨g12, 0, none⟩))).run Try.prog W = .ok (.agg #[.int .i64 xw, .int .i64 yw]) W := fun W h => get_fault h
        have q3 := eql_fault xw yw xw yw true (by simp)
        have hQ21 := hQ.below (below_drew (Below.refl w7.heap.size w7))
        have hh10 := hQ21.h10
        have hh12 := hQ21.h12
        rw [hxw, hyw] at hh10 hh12
        clear hxw hyw hQ
        refine wp_region_held_drew (S := fun W => W.heap[g10]? = some (.cells (fv xw yw) 30 (0, 0)) ∧ W.heap[g12]? = some (.cells (fv xw yw) 30 (0, 0))) (by kernel_rfl) (⟨hh10, hh12⟩) (fun hHeld => ?_)
        refine wpAnyH_take (i := 0) (v := (.slice A9 n9 c9)) (oi := ⟨_, _, _, _, _, _⟩) rfl (by kernel_rfl) (by kernel_rfl) (by kernel_rfl) (fun _ _ _ h => h) (Or.inl ⟨by kernel_rfl, fun W hS => ?_⟩) (by assumption) ?_
        · dsimp only at hS; go_split_ands; go_simp
        simp only [Act.put, List.setIfInBounds_toArray, List.set_cons_zero, List.set_cons_succ]
        refine wpAnyH_take (i := 1) (v := (.slice A11 n11 c11)) (oi := ⟨_, _, _, _, _, _⟩) rfl (by kernel_rfl) (by kernel_rfl) (by kernel_rfl) (fun _ _ _ h => h) (Or.inl ⟨by kernel_rfl, fun W hS => ?_⟩) (by assumption) ?_
        · dsimp only at hS; go_split_ands; go_simp
        simp only [Act.put, List.setIfInBounds_toArray, List.set_cons_zero, List.set_cons_succ]
        refine wpAnyH_ready (rs := [2]) (by kernel_rfl) (by decide) (AllReadyH.cons (o := ⟨_, _, _, _, _, _⟩) rfl (fun K hK => ?_) AllReadyH.nil)
        rw [if_pos (by kernel_rfl)]
        go_simp
        refine (rSames_true (hQ21.all.rfo HN9.out.symm (by have := HGL.out; have := HN9.out; omega)) (OFs.rfo (by have h := hQ21.got; rw [HN11.out] at h; exact h) HN11.out.symm (by have := HGL.out; have := HN11.out; omega)) HFG.out).mono ?_
        rintro e wz2 ⟨rfl, hbx⟩
        replace hQ21 := hQ21.below hbx
        have hk2 := hHeld
        go_wp2_with fail
        refine hK.out _ _ (⟨fault_keep hHeld.1 hbx, fault_keep hHeld.2 hbx⟩) (fun hHeld => ?_)
        clear hK K
        try simp only [Act.put, List.setIfInBounds_toArray, List.set_cons_zero, List.set_cons_succ]
        refine wpAnyH_take (i := 3) (v := (.bool true)) (oi := ⟨_, _, _, _, _, _⟩) rfl (by kernel_rfl) (by kernel_rfl) (by kernel_rfl) (fun _ _ _ h => h) (Or.inl ⟨by kernel_rfl, fun W hS => ?_⟩) (by assumption) ?_
        · dsimp only at hS; go_split_ands; go_simp
        simp only [Act.put, List.setIfInBounds_toArray, List.set_cons_zero, List.set_cons_succ]
        refine wpAnyH_take (i := 4) (v := (.agg #[.int .i64 xw, .int .i64 yw])) (oi := ⟨_, _, _, _, _, _⟩) rfl (by kernel_rfl) (by kernel_rfl) (by kernel_rfl) (fun _ _ _ h => h) (Or.inl ⟨by kernel_rfl, fun W hS => ?_⟩) (by assumption) ?_
        · dsimp only at hS; go_split_ands; go_simp
        simp only [Act.put, List.setIfInBounds_toArray, List.set_cons_zero, List.set_cons_succ]
        refine wpAnyH_take (i := 5) (v := (.agg #[.int .i64 xw, .int .i64 yw])) (oi := ⟨_, _, _, _, _, _⟩) rfl (by kernel_rfl) (by kernel_rfl) (by kernel_rfl) (fun _ _ _ h => h) (Or.inl ⟨by kernel_rfl, fun W hS => ?_⟩) (by assumption) ?_
        · dsimp only at hS; go_split_ands; go_simp
        simp only [Act.put, List.setIfInBounds_toArray, List.set_cons_zero, List.set_cons_succ]
        refine wpAnyH_take (i := 6) (v := (.bool true)) (oi := ⟨_, _, _, _, _, _⟩) rfl (by kernel_rfl) (by kernel_rfl) (by kernel_rfl) (fun _ _ _ h => h) (Or.inl ⟨by kernel_rfl, fun W hS => ?_⟩) (by assumption) ?_
        · dsimp only at hS; go_split_ands; go_simp
        simp only [Act.put, List.setIfInBounds_toArray, List.set_cons_zero, List.set_cons_succ]
        refine wpAnyH_take (i := 7) (v := (.bool true)) (oi := ⟨_, _, _, _, _, _⟩) rfl (by kernel_rfl) (by kernel_rfl) (by kernel_rfl) (fun _ _ _ h => h) (Or.inl ⟨by kernel_rfl, fun W hS => ?_⟩) (by assumption) ?_
        · dsimp only at hS; go_split_ands; go_simp
        simp only [Act.put, List.setIfInBounds_toArray, List.set_cons_zero, List.set_cons_succ]
        refine wpAnyH_take (i := 8) (v := (.bool true)) (oi := ⟨_, _, _, _, _, _⟩) rfl (by kernel_rfl) (by kernel_rfl) (by kernel_rfl) (fun _ _ _ h => h) (Or.inl ⟨by kernel_rfl, fun W hS => ?_⟩) (by assumption) ?_
        · dsimp only at hS; go_split_ands; go_simp
        simp only [Act.put, List.setIfInBounds_toArray, List.set_cons_zero, List.set_cons_succ]
        refine wpAnyH_take (i := 9) (v := (.int .i64 cm)) (oi := ⟨_, _, _, _, _, _⟩) rfl (by kernel_rfl) (by kernel_rfl) (by kernel_rfl) (fun _ _ _ h => h) (Or.inl ⟨by kernel_rfl, fun W hS => ?_⟩) (by assumption) ?_
        · dsimp only at hS; go_split_ands; go_simp
        simp only [Act.put, List.setIfInBounds_toArray, List.set_cons_zero, List.set_cons_succ]
        refine wpAnyH_take (i := 10) (v := (.int .i64 cm)) (oi := ⟨_, _, _, _, _, _⟩) rfl (by kernel_rfl) (by kernel_rfl) (by kernel_rfl) (fun _ _ _ h => h) (Or.inl ⟨by kernel_rfl, fun W hS => ?_⟩) (by assumption) ?_
        · dsimp only at hS; go_split_ands; go_simp
        simp only [Act.put, List.setIfInBounds_toArray, List.set_cons_zero, List.set_cons_succ]
        refine wpAnyH_take (i := 11) (v := (.bool true)) (oi := ⟨_, _, _, _, _, _⟩) rfl (by kernel_rfl) (by kernel_rfl) (by kernel_rfl) (fun _ _ _ h => h) (Or.inl ⟨by kernel_rfl, fun W hS => ?_⟩) (by assumption) ?_
        · dsimp only at hS; go_split_ands; go_simp
        simp only [Act.put, List.setIfInBounds_toArray, List.set_cons_zero, List.set_cons_succ]
        refine wpAnyH_take (i := 12) (v := (.bool true)) (oi := ⟨_, _, _, _, _, _⟩) rfl (by kernel_rfl) (by kernel_rfl) (by kernel_rfl) (fun _ _ _ h => h) (Or.inl ⟨by kernel_rfl, fun W hS => ?_⟩) (by assumption) ?_
        · dsimp only at hS; go_split_ands; go_simp
        simp only [Act.put, List.setIfInBounds_toArray, List.set_cons_zero, List.set_cons_succ]
        refine wpAnyH_take (i := 13) (v := (.bool true)) (oi := ⟨_, _, _, _, _, _⟩) rfl (by kernel_rfl) (by kernel_rfl) (by kernel_rfl) (fun _ _ _ h => h) (Or.inl ⟨by kernel_rfl, fun W hS => ?_⟩) (by assumption) ?_
        · dsimp only at hS; go_split_ands; go_simp
        simp only [Act.put, List.setIfInBounds_toArray, List.set_cons_zero, List.set_cons_succ]
        refine wpAnyH_take (i := 14) (v := (.int .i64 wh)) (oi := ⟨_, _, _, _, _, _⟩) rfl (by kernel_rfl) (by kernel_rfl) (by kernel_rfl) (fun _ _ _ h => h) (Or.inl ⟨by kernel_rfl, fun W hS => ?_⟩) (by assumption) ?_
        · dsimp only at hS; go_split_ands; go_simp
        simp only [Act.put, List.setIfInBounds_toArray, List.set_cons_zero, List.set_cons_succ]
        refine wpAnyH_take (i := 15) (v := (.int .i64 wh)) (oi := ⟨_, _, _, _, _, _⟩) rfl (by kernel_rfl) (by kernel_rfl) (by kernel_rfl) (fun _ _ _ h => h) (Or.inl ⟨by kernel_rfl, fun W hS => ?_⟩) (by assumption) ?_
        · dsimp only at hS; go_split_ands; go_simp
        simp only [Act.put, List.setIfInBounds_toArray, List.set_cons_zero, List.set_cons_succ]
        refine wpAnyH_take (i := 16) (v := (.bool true)) (oi := ⟨_, _, _, _, _, _⟩) rfl (by kernel_rfl) (by kernel_rfl) (by kernel_rfl) (fun _ _ _ h => h) (Or.inl ⟨by kernel_rfl, fun W hS => ?_⟩) (by assumption) ?_
        · dsimp only at hS; go_split_ands; go_simp
        simp only [Act.put, List.setIfInBounds_toArray, List.set_cons_zero, List.set_cons_succ]
        refine wpAnyH_take (i := 17) (v := (.bool true)) (oi := ⟨_, _, _, _, _, _⟩) rfl (by kernel_rfl) (by kernel_rfl) (by kernel_rfl) (fun _ _ _ h => h) (Or.inl ⟨by kernel_rfl, fun W hS => ?_⟩) (by assumption) ?_
        · dsimp only at hS; go_split_ands; go_simp
        simp only [Act.put, List.setIfInBounds_toArray, List.set_cons_zero, List.set_cons_succ]
        refine wpAnyH_take (i := 18) (v := (.bool true)) (oi := ⟨_, _, _, _, _, _⟩) rfl (by kernel_rfl) (by kernel_rfl) (by kernel_rfl) (fun _ _ _ h => h) (Or.inl ⟨by kernel_rfl, fun W hS => ?_⟩) (by assumption) ?_
        · dsimp only at hS; go_split_ands; go_simp
        simp only [Act.put, List.setIfInBounds_toArray, List.set_cons_zero, List.set_cons_succ]
        refine wpAnyH_take (i := 19) (v := (.pointer (some ⟨d1, 0, none⟩))) (oi := ⟨_, _, _, _, _, _⟩) rfl (by kernel_rfl) (by kernel_rfl) (by kernel_rfl) (fun _ _ _ h => h) (Or.inl ⟨by kernel_rfl, fun W hS => ?_⟩) (by assumption) ?_
        · dsimp only at hS; go_split_ands; go_simp
        simp only [Act.put, List.setIfInBounds_toArray, List.set_cons_zero, List.set_cons_succ]
        refine wpAnyH_take (i := 22) (v := (.pointer (some ⟨d2, 0, none⟩))) (oi := ⟨_, _, _, _, _, _⟩) rfl (by kernel_rfl) (by kernel_rfl) (by kernel_rfl) (fun _ _ _ h => h) (Or.inl ⟨by kernel_rfl, fun W hS => ?_⟩) (by assumption) ?_
        · dsimp only at hS; go_split_ands; go_simp
        simp only [Act.put, List.setIfInBounds_toArray, List.set_cons_zero, List.set_cons_succ]
        refine wpAnyH_ready (rs := [20]) (by kernel_rfl) (by decide) (AllReadyH.cons (o := ⟨_, _, _, _, _, _⟩) rfl (fun K hK => ?_) AllReadyH.nil)
        rw [if_pos (by kernel_rfl)]
        go_simp
        refine (dRest_any hQ21.dc1).mono ?_
        rintro e wz20 ⟨vR, rfl, hOR, hbx⟩
        obtain ⟨A20, c20, rfl, hRa, _⟩ := hOR.reads'
        rw [HRA.out, HNR.out] at hRa ⊢
        clear hOR
        replace hQ21 := hQ21.below hbx
        have hk2 := hHeld
        go_wp2_with fail
        refine hK.out _ _ (⟨fault_keep hHeld.1 hbx, fault_keep hHeld.2 hbx⟩) (fun hHeld => ?_)
        clear hK K
        try simp only [Act.put, List.setIfInBounds_toArray, List.set_cons_zero, List.set_cons_succ]
        refine wpAnyH_ready (rs := [21, 23]) (by kernel_rfl) (by decide) (AllReadyH.cons (o := ⟨_, _, _, _, _, _⟩) rfl (fun K hK => ?_) (AllReadyH.cons (o := ⟨_, _, _, _, _, _⟩) rfl (fun K hK => ?_) AllReadyH.nil))
        · skip
          have ek := string_of_reads (P := Try.prog) (c := c20) Try.underlying23 Try.underlying5 Try.underlying9 hRa.rd
          rw [if_pos (by kernel_rfl)]
          go_simp
          clear ek
          refine hK.out _ _ (hHeld) (fun hHeld => ?_)
          clear hK K
          try simp only [Act.put, List.setIfInBounds_toArray, List.set_cons_zero, List.set_cons_succ]
          refine wpAnyH_ready (rs := [23]) (by kernel_rfl) (by decide) (AllReadyH.cons (o := ⟨_, _, _, _, _, _⟩) rfl (fun K hK => ?_) AllReadyH.nil)
          rw [if_pos (by kernel_rfl)]
          go_simp
          refine (dRest_any hQ21.dc2).mono ?_
          rintro e wz23 ⟨vR, rfl, hOR, hbx⟩
          obtain ⟨A23, c23, rfl, hRb, _⟩ := hOR.reads'
          rw [HRA.out, HNR.out] at hRb ⊢
          clear hOR
          replace hQ21 := hQ21.below hbx
          have hk2 := hHeld
          go_wp2_with fail
          refine hK.out _ _ (⟨fault_keep hHeld.1 hbx, fault_keep hHeld.2 hbx⟩) (fun hHeld => ?_)
          clear hK K
          try simp only [Act.put, List.setIfInBounds_toArray, List.set_cons_zero, List.set_cons_succ]
          refine wpAnyH_ready (rs := [24]) (by kernel_rfl) (by decide) (AllReadyH.cons (o := ⟨_, _, _, _, _, _⟩) rfl (fun K hK => ?_) AllReadyH.nil)
          have ek := string_of_reads (P := Try.prog) (c := c23) Try.underlying23 Try.underlying5 Try.underlying9 hRb.rd
          rw [if_pos (by kernel_rfl)]
          go_simp
          clear ek
          refine hK.out _ _ (hHeld) (fun hHeld => ?_)
          clear hK K
          try simp only [Act.put, List.setIfInBounds_toArray, List.set_cons_zero, List.set_cons_succ]
          refine wpAnyH_take (i := 25) (v := (.bool true)) (oi := ⟨_, _, _, _, _, _⟩) rfl (by kernel_rfl) (by kernel_rfl) (by kernel_rfl) (fun _ _ _ h => h) (Or.inl ⟨by kernel_rfl, fun W hS => ?_⟩) (by assumption) ?_
          · dsimp only at hS; go_split_ands; go_simp
          simp only [Act.put, List.setIfInBounds_toArray, List.set_cons_zero, List.set_cons_succ]
          refine wpAnyH_take (i := 26) (v := (.bool true)) (oi := ⟨_, _, _, _, _, _⟩) rfl (by kernel_rfl) (by kernel_rfl) (by kernel_rfl) (fun _ _ _ h => h) (Or.inl ⟨by kernel_rfl, fun W hS => ?_⟩) (by assumption) ?_
          · dsimp only at hS; go_split_ands; go_simp
          simp only [Act.put, List.setIfInBounds_toArray, List.set_cons_zero, List.set_cons_succ]
          refine wpAnyH_take (i := 27) (v := (.bool true)) (oi := ⟨_, _, _, _, _, _⟩) rfl (by kernel_rfl) (by kernel_rfl) (by kernel_rfl) (fun _ _ _ h => h) (Or.inl ⟨by kernel_rfl, fun W hS => ?_⟩) (by assumption) ?_
          · dsimp only at hS; go_split_ands; go_simp
          simp only [Act.put, List.setIfInBounds_toArray, List.set_cons_zero, List.set_cons_succ]
          refine wpAnyH_take (i := 28) (v := (.pointer (some ⟨d1, 0, none⟩))) (oi := ⟨_, _, _, _, _, _⟩) rfl (by kernel_rfl) (by kernel_rfl) (by kernel_rfl) (fun _ _ _ h => h) (Or.inl ⟨by kernel_rfl, fun W hS => ?_⟩) (by assumption) ?_
          · dsimp only at hS; go_split_ands; go_simp
          simp only [Act.put, List.setIfInBounds_toArray, List.set_cons_zero, List.set_cons_succ]
          refine wpAnyH_take (i := 30) (v := (.pointer (some ⟨d2, 0, none⟩))) (oi := ⟨_, _, _, _, _, _⟩) rfl (by kernel_rfl) (by kernel_rfl) (by kernel_rfl) (fun _ _ _ h => h) (Or.inl ⟨by kernel_rfl, fun W hS => ?_⟩) (by assumption) ?_
          · dsimp only at hS; go_split_ands; go_simp
          simp only [Act.put, List.setIfInBounds_toArray, List.set_cons_zero, List.set_cons_succ]
          refine wpAnyH_ready (rs := [29]) (by kernel_rfl) (by decide) (AllReadyH.cons (o := ⟨_, _, _, _, _, _⟩) rfl (fun K hK => ?_) AllReadyH.nil)
          rw [if_pos (by kernel_rfl)]
          go_simp
          refine (dWant_any hQ21.dc1 wt HWT.out).mono ?_
          rintro e wz29 ⟨rfl, hbx⟩
          replace hQ21 := hQ21.below hbx
          have hk2 := hHeld
          go_wp2_with fail
          refine hK.out _ _ (⟨fault_keep hHeld.1 hbx, fault_keep hHeld.2 hbx⟩) (fun hHeld => ?_)
          clear hK K
          try simp only [Act.put, List.setIfInBounds_toArray, List.set_cons_zero, List.set_cons_succ]
          refine wpAnyH_ready (rs := [31]) (by kernel_rfl) (by decide) (AllReadyH.cons (o := ⟨_, _, _, _, _, _⟩) rfl (fun K hK => ?_) AllReadyH.nil)
          rw [if_pos (by kernel_rfl)]
          go_simp
          refine (dWant_any hQ21.dc2 wt HWT.out).mono ?_
          rintro e wz31 ⟨rfl, hbx⟩
          replace hQ21 := hQ21.below hbx
          have hk2 := hHeld
          go_wp2_with fail
          refine hK.out _ _ (⟨fault_keep hHeld.1 hbx, fault_keep hHeld.2 hbx⟩) (fun hHeld => ?_)
          clear hK K
          try simp only [Act.put, List.setIfInBounds_toArray, List.set_cons_zero, List.set_cons_succ]
          refine wpAnyH_take (i := 32) (v := (.bool true)) (oi := ⟨_, _, _, _, _, _⟩) rfl (by kernel_rfl) (by kernel_rfl) (by kernel_rfl) (fun _ _ _ h => h) (Or.inl ⟨by kernel_rfl, fun W hS => ?_⟩) (by assumption) ?_
          · dsimp only at hS; go_split_ands; go_simp
          simp only [Act.put, List.setIfInBounds_toArray, List.set_cons_zero, List.set_cons_succ]
          refine wpAnyH_take (i := 33) (v := (.bool true)) (oi := ⟨_, _, _, _, _, _⟩) rfl (by kernel_rfl) (by kernel_rfl) (by kernel_rfl) (fun _ _ _ h => h) (Or.inl ⟨by kernel_rfl, fun W hS => ?_⟩) (by assumption) ?_
          · dsimp only at hS; go_split_ands; go_simp
          simp only [Act.put, List.setIfInBounds_toArray, List.set_cons_zero, List.set_cons_succ]
          refine wpAnyH_take (i := 34) (v := (.bool true)) (oi := ⟨_, _, _, _, _, _⟩) rfl (by kernel_rfl) (by kernel_rfl) (by kernel_rfl) (fun _ _ _ h => h) (Or.inl ⟨by kernel_rfl, fun W hS => ?_⟩) (by assumption) ?_
          · dsimp only at hS; go_split_ands; go_simp
          simp only [Act.put, List.setIfInBounds_toArray, List.set_cons_zero, List.set_cons_succ]
          refine wpAnyH_take (i := 35) (v := (.pointer (some ⟨d1, 0, none⟩))) (oi := ⟨_, _, _, _, _, _⟩) rfl (by kernel_rfl) (by kernel_rfl) (by kernel_rfl) (fun _ _ _ h => h) (Or.inl ⟨by kernel_rfl, fun W hS => ?_⟩) (by assumption) ?_
          · dsimp only at hS; go_split_ands; go_simp
          simp only [Act.put, List.setIfInBounds_toArray, List.set_cons_zero, List.set_cons_succ]
          refine wpAnyH_take (i := 37) (v := (.pointer (some ⟨d2, 0, none⟩))) (oi := ⟨_, _, _, _, _, _⟩) rfl (by kernel_rfl) (by kernel_rfl) (by kernel_rfl) (fun _ _ _ h => h) (Or.inl ⟨by kernel_rfl, fun W hS => ?_⟩) (by assumption) ?_
          · dsimp only at hS; go_split_ands; go_simp
          simp only [Act.put, List.setIfInBounds_toArray, List.set_cons_zero, List.set_cons_succ]
          refine wpAnyH_ready (rs := [36]) (by kernel_rfl) (by decide) (AllReadyH.cons (o := ⟨_, _, _, _, _, _⟩) rfl (fun K hK => ?_) AllReadyH.nil)
          rw [if_pos (by kernel_rfl)]
          go_simp
          refine (cPoisonD hQ21.dc1).mono ?_
          rintro e wz36 ⟨rfl, hbx⟩
          rw [HXW.out.1, HXW.out.2]
          replace hQ21 := hQ21.below hbx
          have hk2 := hHeld
          go_wp2_with fail
          refine hK.out _ _ (⟨fault_keep hHeld.1 hbx, fault_keep hHeld.2 hbx⟩) (fun hHeld => ?_)
          clear hK K
          try simp only [Act.put, List.setIfInBounds_toArray, List.set_cons_zero, List.set_cons_succ]
          refine wpAnyH_ready (rs := [38]) (by kernel_rfl) (by decide) (AllReadyH.cons (o := ⟨_, _, _, _, _, _⟩) rfl (fun K hK => ?_) AllReadyH.nil)
          rw [if_pos (by kernel_rfl)]
          go_simp
          refine (cPoisonD hQ21.dc2).mono ?_
          rintro e wz38 ⟨rfl, hbx⟩
          rw [HXW.out.1, HXW.out.2]
          replace hQ21 := hQ21.below hbx
          have hk2 := hHeld
          go_wp2_with fail
          refine hK.out _ _ (⟨fault_keep hHeld.1 hbx, fault_keep hHeld.2 hbx⟩) (fun hHeld => ?_)
          clear hK K
          try simp only [Act.put, List.setIfInBounds_toArray, List.set_cons_zero, List.set_cons_succ]
          refine wpAnyH_take (i := 39) (v := (.bool true)) (oi := ⟨_, _, _, _, _, _⟩) rfl (by kernel_rfl) (by kernel_rfl) (by kernel_rfl) (fun _ _ _ h => h) (Or.inl ⟨by kernel_rfl, fun W hS => ?_⟩) (by assumption) ?_
          · dsimp only at hS; go_split_ands; go_simp
          simp only [Act.put, List.setIfInBounds_toArray, List.set_cons_zero, List.set_cons_succ]
          refine wpAnyH_take (i := 40) (v := (.bool true)) (oi := ⟨_, _, _, _, _, _⟩) rfl (by kernel_rfl) (by kernel_rfl) (by kernel_rfl) (fun _ _ _ h => h) (Or.inl ⟨by kernel_rfl, fun W hS => ?_⟩) (by assumption) ?_
          · dsimp only at hS; go_split_ands; go_simp
          simp only [Act.put, List.setIfInBounds_toArray, List.set_cons_zero, List.set_cons_succ]
          refine wpAnyH_take (i := 41) (v := (.bool true)) (oi := ⟨_, _, _, _, _, _⟩) rfl (by kernel_rfl) (by kernel_rfl) (by kernel_rfl) (fun _ _ _ h => h) (Or.inl ⟨by kernel_rfl, fun W hS => ?_⟩) (by assumption) ?_
          · dsimp only at hS; go_split_ands; go_simp
          simp only [Act.put, List.setIfInBounds_toArray, List.set_cons_zero, List.set_cons_succ]
          refine wpAnyH_ready (rs := [42]) (by kernel_rfl) (by decide) (AllReadyH.cons (o := ⟨_, _, _, _, _, _⟩) rfl (fun K hK => ?_) AllReadyH.nil)
          rw [if_pos (by kernel_rfl)]
          go_simp
          refine (lawake_any _).mono ?_
          rintro e wz42 ⟨rfl, hbx⟩
          replace hQ21 := hQ21.below hbx
          have hk2 := hHeld
          go_wp2_with fail
          refine hK.out _ _ (⟨fault_keep hHeld.1 hbx, fault_keep hHeld.2 hbx⟩) (fun hHeld => ?_)
          clear hK K
          try simp only [Act.put, List.setIfInBounds_toArray, List.set_cons_zero, List.set_cons_succ]
          refine wpAnyH_take (i := 43) (v := (.bool true)) (oi := ⟨_, _, _, _, _, _⟩) rfl (by kernel_rfl) (by kernel_rfl) (by kernel_rfl) (fun _ _ _ h => h) (Or.inl ⟨by kernel_rfl, fun W hS => ?_⟩) (by assumption) ?_
          · dsimp only at hS; go_split_ands; go_simp
          simp only [Act.put, List.setIfInBounds_toArray, List.set_cons_zero, List.set_cons_succ]
          refine wpAnyH_take (i := 44) (v := (.bool true)) (oi := ⟨_, _, _, _, _, _⟩) rfl (by kernel_rfl) (by kernel_rfl) (by kernel_rfl) (fun _ _ _ h => h) (Or.inl ⟨by kernel_rfl, fun W hS => ?_⟩) (by assumption) ?_
          · dsimp only at hS; go_split_ands; go_simp
          simp only [Act.put, List.setIfInBounds_toArray, List.set_cons_zero, List.set_cons_succ]
          refine wpAnyH_done (by kernel_rfl) ?_ _
          have HB := hQ21.b
          go_wp2_with fail
          go_ret
          exact ⟨rfl, HB⟩
        · skip
          rw [if_pos (by kernel_rfl)]
          go_simp
          refine (dRest_any hQ21.dc2).mono ?_
          rintro e wz23 ⟨vR, rfl, hOR, hbx⟩
          obtain ⟨A23, c23, rfl, hRb, _⟩ := hOR.reads'
          rw [HRA.out, HNR.out] at hRb ⊢
          clear hOR
          replace hQ21 := hQ21.below hbx
          replace hRa := hRa.below hbx
          have hk2 := hHeld
          go_wp2_with fail
          refine hK.out _ _ (⟨fault_keep hHeld.1 hbx, fault_keep hHeld.2 hbx⟩) (fun hHeld => ?_)
          clear hK K
          try simp only [Act.put, List.setIfInBounds_toArray, List.set_cons_zero, List.set_cons_succ]
          refine wpAnyH_ready (rs := [21, 24]) (by kernel_rfl) (by decide) (AllReadyH.cons (o := ⟨_, _, _, _, _, _⟩) rfl (fun K hK => ?_) (AllReadyH.cons (o := ⟨_, _, _, _, _, _⟩) rfl (fun K hK => ?_) AllReadyH.nil))
          · skip
            have ek := string_of_reads (P := Try.prog) (c := c20) Try.underlying23 Try.underlying5 Try.underlying9 hRa.rd
            rw [if_pos (by kernel_rfl)]
            go_simp
            clear ek
            refine hK.out _ _ (hHeld) (fun hHeld => ?_)
            clear hK K
            try simp only [Act.put, List.setIfInBounds_toArray, List.set_cons_zero, List.set_cons_succ]
            refine wpAnyH_ready (rs := [24]) (by kernel_rfl) (by decide) (AllReadyH.cons (o := ⟨_, _, _, _, _, _⟩) rfl (fun K hK => ?_) AllReadyH.nil)
            have ek := string_of_reads (P := Try.prog) (c := c23) Try.underlying23 Try.underlying5 Try.underlying9 hRb.rd
            rw [if_pos (by kernel_rfl)]
            go_simp
            clear ek
            refine hK.out _ _ (hHeld) (fun hHeld => ?_)
            clear hK K
            try simp only [Act.put, List.setIfInBounds_toArray, List.set_cons_zero, List.set_cons_succ]
            refine wpAnyH_take (i := 25) (v := (.bool true)) (oi := ⟨_, _, _, _, _, _⟩) rfl (by kernel_rfl) (by kernel_rfl) (by kernel_rfl) (fun _ _ _ h => h) (Or.inl ⟨by kernel_rfl, fun W hS => ?_⟩) (by assumption) ?_
            · dsimp only at hS; go_split_ands; go_simp
            simp only [Act.put, List.setIfInBounds_toArray, List.set_cons_zero, List.set_cons_succ]
            refine wpAnyH_take (i := 26) (v := (.bool true)) (oi := ⟨_, _, _, _, _, _⟩) rfl (by kernel_rfl) (by kernel_rfl) (by kernel_rfl) (fun _ _ _ h => h) (Or.inl ⟨by kernel_rfl, fun W hS => ?_⟩) (by assumption) ?_
            · dsimp only at hS; go_split_ands; go_simp
            simp only [Act.put, List.setIfInBounds_toArray, List.set_cons_zero, List.set_cons_succ]
            refine wpAnyH_take (i := 27) (v := (.bool true)) (oi := ⟨_, _, _, _, _, _⟩) rfl (by kernel_rfl) (by kernel_rfl) (by kernel_rfl) (fun _ _ _ h => h) (Or.inl ⟨by kernel_rfl, fun W hS => ?_⟩) (by assumption) ?_
            · dsimp only at hS; go_split_ands; go_simp
            simp only [Act.put, List.setIfInBounds_toArray, List.set_cons_zero, List.set_cons_succ]
            refine wpAnyH_take (i := 28) (v := (.pointer (some ⟨d1, 0, none⟩))) (oi := ⟨_, _, _, _, _, _⟩) rfl (by kernel_rfl) (by kernel_rfl) (by kernel_rfl) (fun _ _ _ h => h) (Or.inl ⟨by kernel_rfl, fun W hS => ?_⟩) (by assumption) ?_
            · dsimp only at hS; go_split_ands; go_simp
            simp only [Act.put, List.setIfInBounds_toArray, List.set_cons_zero, List.set_cons_succ]
            refine wpAnyH_take (i := 30) (v := (.pointer (some ⟨d2, 0, none⟩))) (oi := ⟨_, _, _, _, _, _⟩) rfl (by kernel_rfl) (by kernel_rfl) (by kernel_rfl) (fun _ _ _ h => h) (Or.inl ⟨by kernel_rfl, fun W hS => ?_⟩) (by assumption) ?_
            · dsimp only at hS; go_split_ands; go_simp
            simp only [Act.put, List.setIfInBounds_toArray, List.set_cons_zero, List.set_cons_succ]
            refine wpAnyH_ready (rs := [29]) (by kernel_rfl) (by decide) (AllReadyH.cons (o := ⟨_, _, _, _, _, _⟩) rfl (fun K hK => ?_) AllReadyH.nil)
            rw [if_pos (by kernel_rfl)]
            go_simp
            refine (dWant_any hQ21.dc1 wt HWT.out).mono ?_
            rintro e wz29 ⟨rfl, hbx⟩
            replace hQ21 := hQ21.below hbx
            have hk2 := hHeld
            go_wp2_with fail
            refine hK.out _ _ (⟨fault_keep hHeld.1 hbx, fault_keep hHeld.2 hbx⟩) (fun hHeld => ?_)
            clear hK K
            try simp only [Act.put, List.setIfInBounds_toArray, List.set_cons_zero, List.set_cons_succ]
            refine wpAnyH_ready (rs := [31]) (by kernel_rfl) (by decide) (AllReadyH.cons (o := ⟨_, _, _, _, _, _⟩) rfl (fun K hK => ?_) AllReadyH.nil)
            rw [if_pos (by kernel_rfl)]
            go_simp
            refine (dWant_any hQ21.dc2 wt HWT.out).mono ?_
            rintro e wz31 ⟨rfl, hbx⟩
            replace hQ21 := hQ21.below hbx
            have hk2 := hHeld
            go_wp2_with fail
            refine hK.out _ _ (⟨fault_keep hHeld.1 hbx, fault_keep hHeld.2 hbx⟩) (fun hHeld => ?_)
            clear hK K
            try simp only [Act.put, List.setIfInBounds_toArray, List.set_cons_zero, List.set_cons_succ]
            refine wpAnyH_take (i := 32) (v := (.bool true)) (oi := ⟨_, _, _, _, _, _⟩) rfl (by kernel_rfl) (by kernel_rfl) (by kernel_rfl) (fun _ _ _ h => h) (Or.inl ⟨by kernel_rfl, fun W hS => ?_⟩) (by assumption) ?_
            · dsimp only at hS; go_split_ands; go_simp
            simp only [Act.put, List.setIfInBounds_toArray, List.set_cons_zero, List.set_cons_succ]
            refine wpAnyH_take (i := 33) (v := (.bool true)) (oi := ⟨_, _, _, _, _, _⟩) rfl (by kernel_rfl) (by kernel_rfl) (by kernel_rfl) (fun _ _ _ h => h) (Or.inl ⟨by kernel_rfl, fun W hS => ?_⟩) (by assumption) ?_
            · dsimp only at hS; go_split_ands; go_simp
            simp only [Act.put, List.setIfInBounds_toArray, List.set_cons_zero, List.set_cons_succ]
            refine wpAnyH_take (i := 34) (v := (.bool true)) (oi := ⟨_, _, _, _, _, _⟩) rfl (by kernel_rfl) (by kernel_rfl) (by kernel_rfl) (fun _ _ _ h => h) (Or.inl ⟨by kernel_rfl, fun W hS => ?_⟩) (by assumption) ?_
            · dsimp only at hS; go_split_ands; go_simp
            simp only [Act.put, List.setIfInBounds_toArray, List.set_cons_zero, List.set_cons_succ]
            refine wpAnyH_take (i := 35) (v := (.pointer (some ⟨d1, 0, none⟩))) (oi := ⟨_, _, _, _, _, _⟩) rfl (by kernel_rfl) (by kernel_rfl) (by kernel_rfl) (fun _ _ _ h => h) (Or.inl ⟨by kernel_rfl, fun W hS => ?_⟩) (by assumption) ?_
            · dsimp only at hS; go_split_ands; go_simp
            simp only [Act.put, List.setIfInBounds_toArray, List.set_cons_zero, List.set_cons_succ]
            refine wpAnyH_take (i := 37) (v := (.pointer (some ⟨d2, 0, none⟩))) (oi := ⟨_, _, _, _, _, _⟩) rfl (by kernel_rfl) (by kernel_rfl) (by kernel_rfl) (fun _ _ _ h => h) (Or.inl ⟨by kernel_rfl, fun W hS => ?_⟩) (by assumption) ?_
            · dsimp only at hS; go_split_ands; go_simp
            simp only [Act.put, List.setIfInBounds_toArray, List.set_cons_zero, List.set_cons_succ]
            refine wpAnyH_ready (rs := [36]) (by kernel_rfl) (by decide) (AllReadyH.cons (o := ⟨_, _, _, _, _, _⟩) rfl (fun K hK => ?_) AllReadyH.nil)
            rw [if_pos (by kernel_rfl)]
            go_simp
            refine (cPoisonD hQ21.dc1).mono ?_
            rintro e wz36 ⟨rfl, hbx⟩
            rw [HXW.out.1, HXW.out.2]
            replace hQ21 := hQ21.below hbx
            have hk2 := hHeld
            go_wp2_with fail
            refine hK.out _ _ (⟨fault_keep hHeld.1 hbx, fault_keep hHeld.2 hbx⟩) (fun hHeld => ?_)
            clear hK K
            try simp only [Act.put, List.setIfInBounds_toArray, List.set_cons_zero, List.set_cons_succ]
            refine wpAnyH_ready (rs := [38]) (by kernel_rfl) (by decide) (AllReadyH.cons (o := ⟨_, _, _, _, _, _⟩) rfl (fun K hK => ?_) AllReadyH.nil)
            rw [if_pos (by kernel_rfl)]
            go_simp
            refine (cPoisonD hQ21.dc2).mono ?_
            rintro e wz38 ⟨rfl, hbx⟩
            rw [HXW.out.1, HXW.out.2]
            replace hQ21 := hQ21.below hbx
            have hk2 := hHeld
            go_wp2_with fail
            refine hK.out _ _ (⟨fault_keep hHeld.1 hbx, fault_keep hHeld.2 hbx⟩) (fun hHeld => ?_)
            clear hK K
            try simp only [Act.put, List.setIfInBounds_toArray, List.set_cons_zero, List.set_cons_succ]
            refine wpAnyH_take (i := 39) (v := (.bool true)) (oi := ⟨_, _, _, _, _, _⟩) rfl (by kernel_rfl) (by kernel_rfl) (by kernel_rfl) (fun _ _ _ h => h) (Or.inl ⟨by kernel_rfl, fun W hS => ?_⟩) (by assumption) ?_
            · dsimp only at hS; go_split_ands; go_simp
            simp only [Act.put, List.setIfInBounds_toArray, List.set_cons_zero, List.set_cons_succ]
            refine wpAnyH_take (i := 40) (v := (.bool true)) (oi := ⟨_, _, _, _, _, _⟩) rfl (by kernel_rfl) (by kernel_rfl) (by kernel_rfl) (fun _ _ _ h => h) (Or.inl ⟨by kernel_rfl, fun W hS => ?_⟩) (by assumption) ?_
            · dsimp only at hS; go_split_ands; go_simp
            simp only [Act.put, List.setIfInBounds_toArray, List.set_cons_zero, List.set_cons_succ]
            refine wpAnyH_take (i := 41) (v := (.bool true)) (oi := ⟨_, _, _, _, _, _⟩) rfl (by kernel_rfl) (by kernel_rfl) (by kernel_rfl) (fun _ _ _ h => h) (Or.inl ⟨by kernel_rfl, fun W hS => ?_⟩) (by assumption) ?_
            · dsimp only at hS; go_split_ands; go_simp
            simp only [Act.put, List.setIfInBounds_toArray, List.set_cons_zero, List.set_cons_succ]
            refine wpAnyH_ready (rs := [42]) (by kernel_rfl) (by decide) (AllReadyH.cons (o := ⟨_, _, _, _, _, _⟩) rfl (fun K hK => ?_) AllReadyH.nil)
            rw [if_pos (by kernel_rfl)]
            go_simp
            refine (lawake_any _).mono ?_
            rintro e wz42 ⟨rfl, hbx⟩
            replace hQ21 := hQ21.below hbx
            have hk2 := hHeld
            go_wp2_with fail
            refine hK.out _ _ (⟨fault_keep hHeld.1 hbx, fault_keep hHeld.2 hbx⟩) (fun hHeld => ?_)
            clear hK K
            try simp only [Act.put, List.setIfInBounds_toArray, List.set_cons_zero, List.set_cons_succ]
            refine wpAnyH_take (i := 43) (v := (.bool true)) (oi := ⟨_, _, _, _, _, _⟩) rfl (by kernel_rfl) (by kernel_rfl) (by kernel_rfl) (fun _ _ _ h => h) (Or.inl ⟨by kernel_rfl, fun W hS => ?_⟩) (by assumption) ?_
            · dsimp only at hS; go_split_ands; go_simp
            simp only [Act.put, List.setIfInBounds_toArray, List.set_cons_zero, List.set_cons_succ]
            refine wpAnyH_take (i := 44) (v := (.bool true)) (oi := ⟨_, _, _, _, _, _⟩) rfl (by kernel_rfl) (by kernel_rfl) (by kernel_rfl) (fun _ _ _ h => h) (Or.inl ⟨by kernel_rfl, fun W hS => ?_⟩) (by assumption) ?_
            · dsimp only at hS; go_split_ands; go_simp
            simp only [Act.put, List.setIfInBounds_toArray, List.set_cons_zero, List.set_cons_succ]
            refine wpAnyH_done (by kernel_rfl) ?_ _
            have HB := hQ21.b
            go_wp2_with fail
            go_ret
            exact ⟨rfl, HB⟩
          · skip
            have ek := string_of_reads (P := Try.prog) (c := c23) Try.underlying23 Try.underlying5 Try.underlying9 hRb.rd
            rw [if_pos (by kernel_rfl)]
            go_simp
            clear ek
            refine hK.out _ _ (hHeld) (fun hHeld => ?_)
            clear hK K
            try simp only [Act.put, List.setIfInBounds_toArray, List.set_cons_zero, List.set_cons_succ]
            refine wpAnyH_ready (rs := [21]) (by kernel_rfl) (by decide) (AllReadyH.cons (o := ⟨_, _, _, _, _, _⟩) rfl (fun K hK => ?_) AllReadyH.nil)
            have ek := string_of_reads (P := Try.prog) (c := c20) Try.underlying23 Try.underlying5 Try.underlying9 hRa.rd
            rw [if_pos (by kernel_rfl)]
            go_simp
            clear ek
            refine hK.out _ _ (hHeld) (fun hHeld => ?_)
            clear hK K
            try simp only [Act.put, List.setIfInBounds_toArray, List.set_cons_zero, List.set_cons_succ]
            refine wpAnyH_take (i := 25) (v := (.bool true)) (oi := ⟨_, _, _, _, _, _⟩) rfl (by kernel_rfl) (by kernel_rfl) (by kernel_rfl) (fun _ _ _ h => h) (Or.inl ⟨by kernel_rfl, fun W hS => ?_⟩) (by assumption) ?_
            · dsimp only at hS; go_split_ands; go_simp
            simp only [Act.put, List.setIfInBounds_toArray, List.set_cons_zero, List.set_cons_succ]
            refine wpAnyH_take (i := 26) (v := (.bool true)) (oi := ⟨_, _, _, _, _, _⟩) rfl (by kernel_rfl) (by kernel_rfl) (by kernel_rfl) (fun _ _ _ h => h) (Or.inl ⟨by kernel_rfl, fun W hS => ?_⟩) (by assumption) ?_
            · dsimp only at hS; go_split_ands; go_simp
            simp only [Act.put, List.setIfInBounds_toArray, List.set_cons_zero, List.set_cons_succ]
            refine wpAnyH_take (i := 27) (v := (.bool true)) (oi := ⟨_, _, _, _, _, _⟩) rfl (by kernel_rfl) (by kernel_rfl) (by kernel_rfl) (fun _ _ _ h => h) (Or.inl ⟨by kernel_rfl, fun W hS => ?_⟩) (by assumption) ?_
            · dsimp only at hS; go_split_ands; go_simp
            simp only [Act.put, List.setIfInBounds_toArray, List.set_cons_zero, List.set_cons_succ]
            refine wpAnyH_take (i := 28) (v := (.pointer (some ⟨d1, 0, none⟩))) (oi := ⟨_, _, _, _, _, _⟩) rfl (by kernel_rfl) (by kernel_rfl) (by kernel_rfl) (fun _ _ _ h => h) (Or.inl ⟨by kernel_rfl, fun W hS => ?_⟩) (by assumption) ?_
            · dsimp only at hS; go_split_ands; go_simp
            simp only [Act.put, List.setIfInBounds_toArray, List.set_cons_zero, List.set_cons_succ]
            refine wpAnyH_take (i := 30) (v := (.pointer (some ⟨d2, 0, none⟩))) (oi := ⟨_, _, _, _, _, _⟩) rfl (by kernel_rfl) (by kernel_rfl) (by kernel_rfl) (fun _ _ _ h => h) (Or.inl ⟨by kernel_rfl, fun W hS => ?_⟩) (by assumption) ?_
            · dsimp only at hS; go_split_ands; go_simp
            simp only [Act.put, List.setIfInBounds_toArray, List.set_cons_zero, List.set_cons_succ]
            refine wpAnyH_ready (rs := [29]) (by kernel_rfl) (by decide) (AllReadyH.cons (o := ⟨_, _, _, _, _, _⟩) rfl (fun K hK => ?_) AllReadyH.nil)
            rw [if_pos (by kernel_rfl)]
            go_simp
            refine (dWant_any hQ21.dc1 wt HWT.out).mono ?_
            rintro e wz29 ⟨rfl, hbx⟩
            replace hQ21 := hQ21.below hbx
            have hk2 := hHeld
            go_wp2_with fail
            refine hK.out _ _ (⟨fault_keep hHeld.1 hbx, fault_keep hHeld.2 hbx⟩) (fun hHeld => ?_)
            clear hK K
            try simp only [Act.put, List.setIfInBounds_toArray, List.set_cons_zero, List.set_cons_succ]
            refine wpAnyH_ready (rs := [31]) (by kernel_rfl) (by decide) (AllReadyH.cons (o := ⟨_, _, _, _, _, _⟩) rfl (fun K hK => ?_) AllReadyH.nil)
            rw [if_pos (by kernel_rfl)]
            go_simp
            refine (dWant_any hQ21.dc2 wt HWT.out).mono ?_
            rintro e wz31 ⟨rfl, hbx⟩
            replace hQ21 := hQ21.below hbx
            have hk2 := hHeld
            go_wp2_with fail
            refine hK.out _ _ (⟨fault_keep hHeld.1 hbx, fault_keep hHeld.2 hbx⟩) (fun hHeld => ?_)
            clear hK K
            try simp only [Act.put, List.setIfInBounds_toArray, List.set_cons_zero, List.set_cons_succ]
            refine wpAnyH_take (i := 32) (v := (.bool true)) (oi := ⟨_, _, _, _, _, _⟩) rfl (by kernel_rfl) (by kernel_rfl) (by kernel_rfl) (fun _ _ _ h => h) (Or.inl ⟨by kernel_rfl, fun W hS => ?_⟩) (by assumption) ?_
            · dsimp only at hS; go_split_ands; go_simp
            simp only [Act.put, List.setIfInBounds_toArray, List.set_cons_zero, List.set_cons_succ]
            refine wpAnyH_take (i := 33) (v := (.bool true)) (oi := ⟨_, _, _, _, _, _⟩) rfl (by kernel_rfl) (by kernel_rfl) (by kernel_rfl) (fun _ _ _ h => h) (Or.inl ⟨by kernel_rfl, fun W hS => ?_⟩) (by assumption) ?_
            · dsimp only at hS; go_split_ands; go_simp
            simp only [Act.put, List.setIfInBounds_toArray, List.set_cons_zero, List.set_cons_succ]
            refine wpAnyH_take (i := 34) (v := (.bool true)) (oi := ⟨_, _, _, _, _, _⟩) rfl (by kernel_rfl) (by kernel_rfl) (by kernel_rfl) (fun _ _ _ h => h) (Or.inl ⟨by kernel_rfl, fun W hS => ?_⟩) (by assumption) ?_
            · dsimp only at hS; go_split_ands; go_simp
            simp only [Act.put, List.setIfInBounds_toArray, List.set_cons_zero, List.set_cons_succ]
            refine wpAnyH_take (i := 35) (v := (.pointer (some ⟨d1, 0, none⟩))) (oi := ⟨_, _, _, _, _, _⟩) rfl (by kernel_rfl) (by kernel_rfl) (by kernel_rfl) (fun _ _ _ h => h) (Or.inl ⟨by kernel_rfl, fun W hS => ?_⟩) (by assumption) ?_
            · dsimp only at hS; go_split_ands; go_simp
            simp only [Act.put, List.setIfInBounds_toArray, List.set_cons_zero, List.set_cons_succ]
            refine wpAnyH_take (i := 37) (v := (.pointer (some ⟨d2, 0, none⟩))) (oi := ⟨_, _, _, _, _, _⟩) rfl (by kernel_rfl) (by kernel_rfl) (by kernel_rfl) (fun _ _ _ h => h) (Or.inl ⟨by kernel_rfl, fun W hS => ?_⟩) (by assumption) ?_
            · dsimp only at hS; go_split_ands; go_simp
            simp only [Act.put, List.setIfInBounds_toArray, List.set_cons_zero, List.set_cons_succ]
            refine wpAnyH_ready (rs := [36]) (by kernel_rfl) (by decide) (AllReadyH.cons (o := ⟨_, _, _, _, _, _⟩) rfl (fun K hK => ?_) AllReadyH.nil)
            rw [if_pos (by kernel_rfl)]
            go_simp
            refine (cPoisonD hQ21.dc1).mono ?_
            rintro e wz36 ⟨rfl, hbx⟩
            rw [HXW.out.1, HXW.out.2]
            replace hQ21 := hQ21.below hbx
            have hk2 := hHeld
            go_wp2_with fail
            refine hK.out _ _ (⟨fault_keep hHeld.1 hbx, fault_keep hHeld.2 hbx⟩) (fun hHeld => ?_)
            clear hK K
            try simp only [Act.put, List.setIfInBounds_toArray, List.set_cons_zero, List.set_cons_succ]
            refine wpAnyH_ready (rs := [38]) (by kernel_rfl) (by decide) (AllReadyH.cons (o := ⟨_, _, _, _, _, _⟩) rfl (fun K hK => ?_) AllReadyH.nil)
            rw [if_pos (by kernel_rfl)]
            go_simp
            refine (cPoisonD hQ21.dc2).mono ?_
            rintro e wz38 ⟨rfl, hbx⟩
            rw [HXW.out.1, HXW.out.2]
            replace hQ21 := hQ21.below hbx
            have hk2 := hHeld
            go_wp2_with fail
            refine hK.out _ _ (⟨fault_keep hHeld.1 hbx, fault_keep hHeld.2 hbx⟩) (fun hHeld => ?_)
            clear hK K
            try simp only [Act.put, List.setIfInBounds_toArray, List.set_cons_zero, List.set_cons_succ]
            refine wpAnyH_take (i := 39) (v := (.bool true)) (oi := ⟨_, _, _, _, _, _⟩) rfl (by kernel_rfl) (by kernel_rfl) (by kernel_rfl) (fun _ _ _ h => h) (Or.inl ⟨by kernel_rfl, fun W hS => ?_⟩) (by assumption) ?_
            · dsimp only at hS; go_split_ands; go_simp
            simp only [Act.put, List.setIfInBounds_toArray, List.set_cons_zero, List.set_cons_succ]
            refine wpAnyH_take (i := 40) (v := (.bool true)) (oi := ⟨_, _, _, _, _, _⟩) rfl (by kernel_rfl) (by kernel_rfl) (by kernel_rfl) (fun _ _ _ h => h) (Or.inl ⟨by kernel_rfl, fun W hS => ?_⟩) (by assumption) ?_
            · dsimp only at hS; go_split_ands; go_simp
            simp only [Act.put, List.setIfInBounds_toArray, List.set_cons_zero, List.set_cons_succ]
            refine wpAnyH_take (i := 41) (v := (.bool true)) (oi := ⟨_, _, _, _, _, _⟩) rfl (by kernel_rfl) (by kernel_rfl) (by kernel_rfl) (fun _ _ _ h => h) (Or.inl ⟨by kernel_rfl, fun W hS => ?_⟩) (by assumption) ?_
            · dsimp only at hS; go_split_ands; go_simp
            simp only [Act.put, List.setIfInBounds_toArray, List.set_cons_zero, List.set_cons_succ]
            refine wpAnyH_ready (rs := [42]) (by kernel_rfl) (by decide) (AllReadyH.cons (o := ⟨_, _, _, _, _, _⟩) rfl (fun K hK => ?_) AllReadyH.nil)
            rw [if_pos (by kernel_rfl)]
            go_simp
            refine (lawake_any _).mono ?_
            rintro e wz42 ⟨rfl, hbx⟩
            replace hQ21 := hQ21.below hbx
            have hk2 := hHeld
            go_wp2_with fail
            refine hK.out _ _ (⟨fault_keep hHeld.1 hbx, fault_keep hHeld.2 hbx⟩) (fun hHeld => ?_)
            clear hK K
            try simp only [Act.put, List.setIfInBounds_toArray, List.set_cons_zero, List.set_cons_succ]
            refine wpAnyH_take (i := 43) (v := (.bool true)) (oi := ⟨_, _, _, _, _, _⟩) rfl (by kernel_rfl) (by kernel_rfl) (by kernel_rfl) (fun _ _ _ h => h) (Or.inl ⟨by kernel_rfl, fun W hS => ?_⟩) (by assumption) ?_
            · dsimp only at hS; go_split_ands; go_simp
            simp only [Act.put, List.setIfInBounds_toArray, List.set_cons_zero, List.set_cons_succ]
            refine wpAnyH_take (i := 44) (v := (.bool true)) (oi := ⟨_, _, _, _, _, _⟩) rfl (by kernel_rfl) (by kernel_rfl) (by kernel_rfl) (fun _ _ _ h => h) (Or.inl ⟨by kernel_rfl, fun W hS => ?_⟩) (by assumption) ?_
            · dsimp only at hS; go_split_ands; go_simp
            simp only [Act.put, List.setIfInBounds_toArray, List.set_cons_zero, List.set_cons_succ]
            refine wpAnyH_done (by kernel_rfl) ?_ _
            have HB := hQ21.b
            go_wp2_with fail
            go_ret
            exact ⟨rfl, HB⟩
end Go.Proofs.Ytpjpgcjhdbiepaa
end
