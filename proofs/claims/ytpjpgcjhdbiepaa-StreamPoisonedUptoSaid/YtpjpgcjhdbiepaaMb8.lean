/- Contracts of functions that the laws reach (texts laid together, part 8): each says of its call what it answers and what it leaves of memory; the conditions stand in each statement. -/
import Derived.Test.YtpjpgcjhdbiepaaMb5
import Derived.Test.YtpjpgcjhdbiepaaMb4
import Derived.Test.YtpjpgcjhdbiepaaMb7
import Derived.Test.YtpjpgcjhdbiepaaMb1
import Derived.Deep.RegionHeld3
set_option linter.unusedVariables false
/-! Rows of frames; the contracts of All and of the document's All; the walk of FrameAll. -/
section
namespace Go.Kit
open Go.RowKit Go.Proofs.YtpjpgcjhdbiepaaW.PrintWords
/-- A row of frames that is read. -/
structure RF (w : World) (A : Option Addr) (n : Nat) (L : List Fr) : Prop where
  len : L.length = n
  max : n ≤ 9223372036854775807
  at0 : ∀ i, i < n → ∃ ad f, A = some ad ∧ (∀ j v, f.cells[j]? = some v → w.cell? ((ad.add (i * 42)).add j) = some v) ∧ L[i]? = some f ∧ f.ok w ∧ f.wf ∧ (∀ s ∈ f.args, s.size ≤ 9223372036854775807)
theorem RF.below {w w1 : World} {A : Option Addr} {n : Nat} {L : List Fr} (h : RF w A n L) (hb : Below w.heap.size w w1) : RF w1 A n L :=
  ⟨h.len, h.max, fun i hi => by
    obtain ⟨ad, f, e, hc, hl, ho, hw, ha⟩ := h.at0 i hi
    exact ⟨ad, f, e, fun j v hj => pw_cell_below hb (hc j v hj), hl, ho.below hb, hw, ha⟩⟩
end Go.Kit
namespace Go.Proofs.Ytpjpgcjhdbiepaa
open Go.RowKit Go.Kit Go.Proofs.YtpjpgcjhdbiepaaW.PrintWords
theorem load_frame_at (f : Fr) (hf : f.tool.length = 32) (W : World) (a : Addr) (h : ∀ j v, f.cells[j]? = some v → W.cell? (a.add j) = some v) :
    (Instr.loadAt 42 (.pointer (some a))).run Try.prog W = .ok (.agg f.arr) W := by
  have hi : (Try.prog.info? 42).map (·.size) = some f.cells.length := by rw [frame_size]; have := Fr.arr_size f hf; simp [Fr.arr] at this; rw [this]
  have hl : (loadCells a f.cells.length).run Try.prog W = .ok f.cells.toArray W := run_loadCells_list (P := Try.prog) W a f.cells h
  simp only [Instr.loadAt, Instr.sureAddr, Sem.run_bind, Sem.run_pure, Result.andThen_ok]
  cases hq : Try.prog.info? 42 with
  | none => simp [hq] at hi
  | some i =>
    have hs : i.size = f.cells.length := by simpa [hq] using hi
    have hagg : (isAgg 42).run Try.prog W = .ok true W := by
      unfold isAgg
      rw [Sem.run_bind, run_underlying Try.underlying42 W]
      rfl
    simp [loadVar, Sem.run_bind, hagg, sizeOf, typeInfo, hq, hs, hl, Fr.arr]
/-- Frames' bytes, one behind the other, or why one may not be. -/
def allF : List Fr → List Int × Int
  | [] => ([], 0)
  | f :: r => if chkF f ≠ 0 then ([], chkF f) else if (allF r).2 ≠ 0 then ([], (allF r).2) else (encF f ++ (allF r).1, 0)
def encs_ (L : List Fr) : List Int := (L.map encF).flatten
theorem all_ok : ∀ (L : List Fr), (∀ f ∈ L, chkF f = 0) → allF L = (encs_ L, 0)
  | [], _ => rfl
  | f :: r, h => by
    have h1 := all_ok r (fun g hg => h g (List.mem_cons_of_mem _ hg))
    unfold allF
    rw [if_neg (by rw [h f List.mem_cons_self]; decide), h1, if_neg (by simp)]
    rfl
theorem all_bad : ∀ (L : List Fr) (k : Nat) (f : Fr), (∀ j, j < k → ∀ g, L[j]? = some g → chkF g = 0) → L[k]? = some f → chkF f ≠ 0 → allF L = ([], chkF f)
  | [], k, f, _, h, _ => by simp at h
  | g :: r, 0, f, _, h, hc => by
    simp at h
    subst h
    unfold allF
    rw [if_pos hc]
  | g :: r, k + 1, f, hk, h, hc => by
    have h1 := all_bad r k f (fun j hj x hx => hk (j + 1) (by omega) x (by simpa using hx)) (by simpa using h) hc
    unfold allF
    rw [if_neg (by rw [hk 0 (by omega) g rfl]; decide), h1, if_pos hc]
theorem encs_snoc {L : List Fr} {i : Nat} {f : Fr} (h : L[i]? = some f) : encs_ (L.take (i + 1)) = encs_ (L.take i) ++ encF f := by rw [snoc h]; simp [encs_]
theorem enc_len (f : Fr) : (encF f).length ≤ 2097176 := by
  unfold encF
  split
  · simp
  · next h =>
    have h1 := (chk_facts (by simpa using h)).2.2
    have h2 := sh_ten (n := (bodyF f).length) (by omega)
    rw [sealed_length, List.length_append]
    omega
theorem encs_len (L : List Fr) : (encs_ L).length ≤ 2097176 * L.length := by
  induction L with
  | nil => simp [encs_]
  | cons f r ih =>
    have := enc_len f
    simp only [encs_, List.map_cons, List.flatten_cons, List.length_append, List.length_cons] at ih ⊢
    omega
attribute [-go_sem] Instr.loadAt Instr.storeAt
section
variable {A : Option Addr} {n c : Nat} {L : List Fr} {w : World}
end
end Go.Proofs.Ytpjpgcjhdbiepaa
end
/-! Frames told are frames that can be read; strings of bytes. -/
section
namespace Go.Proofs.Ytpjpgcjhdbiepaa
open Go.RowKit Go.Kit CrcM Go.Proofs.YtpjpgcjhdbiepaaW.PrintWords
theorem told_frame {F : Fr} (h : Told F.core) : chkF F = 0 ∧ F.wf ∧ ∀ s ∈ F.args, s.size ≤ 9223372036854775807 := by
  obtain ⟨a, c⟩ := h
  have hm := (chk_facts a).1
  exact ⟨a, core_wf rfl c ⟨hm.k1, hm.k6⟩, fun s hs => by have := c.each s hs; omega⟩
theorem OFs.rf {w : World} {base : Nat} {A : Option Addr} {n c : Nat} {L : List Fr} (h : OFs w base (.slice A n c) L) (hn : n = L.length) (hm : n ≤ 9223372036854775807) (hT : ∀ F ∈ L, Told F.core) : RF w A n L :=
  ⟨hn.symm, hm, fun i hi => by
    obtain ⟨g, f, hA, hf, ht, ho, _, _, hc⟩ := h.at_ hn i hi
    obtain ⟨_, h2, h3⟩ := told_frame (hT f (List.mem_of_getElem? hf))
    refine ⟨⟨g, 0, none⟩, f, hA, fun j v hj => ?_, hf, ho.ok ht, h2, h3⟩
    rw [add_plain, show (⟨g, i * 42, none⟩ : Addr).add j = ⟨g, i * 42 + j, none⟩ by simp [Addr.add]]
    exact hc j v hj⟩
theorem sent_snoc {L : List Fr} {k : Nat} {f : Fr} (h : L[k]? = some f) : sentS (L.take (k + 1)) = sentS (L.take k) ++ encF f := by
  rw [snoc h, sent_append]; simp [sentS]
theorem sent_core (L : List Fr) : sentS (L.map Fr.core) = sentS L := by
  unfold sentS; rw [List.map_map]; rfl
theorem str_append (xs ys : List Int) : strOfNums xs ++ strOfNums ys = strOfNums (xs ++ ys) := by
  apply ByteArray.ext
  simp [strOfNums]
theorem str_add (a b : ByteArray) (W : World) (h : a.size + b.size ≤ 140737488355328) : (binOp .add 9 (.string a) (.string b)).run Try.prog W = .ok (.string (a ++ b)) W := by
  have h1 : a.size + b.size ≤ maxLen := by unfold maxLen; omega
  unfold maxLen at h1
  go_simp
theorem str_neq (a : ByteArray) (W : World) : (binOp .neq 9 (.string a) (.string a)).run Try.prog W = .ok (.bool false) W := by
  go_simp
theorem str_size (xs : List Int) : (strOfNums xs).size = xs.length := by simp [strOfNums, ByteArray.size]
theorem sent_take_le (L : List Fr) (k : Nat) : (sentS (L.take k)).length ≤ (sentS L).length := by
  conv => rhs; rw [← List.take_append_drop k L, sent_append, List.length_append]
  exact Nat.le_add_right _ _
/-- What is kept while a decoder tells of itself. -/
structure PK (w : World) (d : Nat) (v : Value) (want : Int) (t : Sm) (g : Nat) (x y : Int) (W : World) : Prop where
  b : Below w.heap.size w W
  dc : Dc W d v want t
  flt : W.heap[g]? = some (.cells (fv x y) 30 (0, 0))
theorem PK.below {w W W1 : World} {d g : Nat} {v : Value} {want x y : Int} {t : Sm} (h : PK w d v want t g x y W) (hb : Below W.heap.size W W1) : PK w d v want t g x y W1 := ⟨below_step h.b hb, h.dc.below hb, fault_keep h.flt hb⟩
theorem cPoisonD {w : World} {d : Nat} {v : Value} {want : Int} {s : Sm} (h : Dc w d v want s) : Calls Try.prog 11 #[.pointer (some ⟨d, 0, none⟩)] w fun e w' => e = .returned (.agg #[.int .i64 s.why, .int .i64 s.wat]) ∧ Below w.heap.size w w' := dPoison_any h
theorem lawake_b (w : World) {B : Nat} {w0 : World} (hb : Below B w0 w) (hB : B ≤ w.heap.size) : Calls Try.prog 12 #[] w fun e w' => e = .returned (.bool true) ∧ Below w.heap.size w w' := lawake_any w
/-- One byte more. -/
theorem one_more {s t : Sm} {c : Int} {l : List Fr} (h : s.ok) (hw : s.why = 0) (h0 : 0 ≤ c) (h1 : c < 256) (ht : feedS [[c]].flatten s = (t, l)) :
    sentS l ++ t.rest = s.rest ++ [c] ∧ (∀ f ∈ l, Told f) ∧ t.most = s.most ∧ t.came = s.came + 1 ∧ t.whole ≤ s.whole + 1 ∧ t.rest.length ≤ s.most + 14 ∧ l.length ≤ 1 := by
  obtain ⟨t', l', hT⟩ : ∃ t l, takeS s c = (t, l) := ⟨_, _, rfl⟩
  have e : feedS [[c]].flatten s = (t', l') := by
    show feedS (c :: []) s = _
    rw [feed_cons [] hw hT, feedS, List.append_nil]
  rw [e] at ht
  cases ht
  have a := take_sent h h0 h1
  have b := take_most s c
  have c1 := take_came s c
  have d := take_whole s c
  have r := take_rest h hw c
  have n := take_len s c
  rw [hT] at a b c1 d r n
  exact ⟨a.1, a.2, b, c1, d, r, n⟩
end Go.Proofs.Ytpjpgcjhdbiepaa
end
/-! The walk of StreamThrough. -/
section
namespace Go.Proofs.Ytpjpgcjhdbiepaa
open Go.RowKit Go.Kit CrcM Go.Proofs.YtpjpgcjhdbiepaaW.PrintWords
/-- Between two bytes. -/
structure Th (w : World) (d M : Nat) (i : Nat) (xs : List Int) (v v8 : Value) (want : Int) (s : Sm) (SL : List Int) (W : World) : Prop where
  dc : Dc W d v want s
  row : OB 5 W w.heap.size v8 SL
  b : Below w.heap.size w W
  new : ∀ k, dfp d v k → w.heap.size ≤ k
  sep : Sep (dfp d v) (rf v8)
  why : s.why = 0
  most : s.most = M
  came : s.came = i
  whole : s.whole ≤ i
  all : SL ++ s.rest = xs.take i
def ThRel (w : World) (d M n : Nat) (xs : List Int) (g : Nat) (v8 v9 : Value) (W : World) : Prop :=
  ∃ (i : Nat) (v : Value) (want : Int) (s : Sm) (SL : List Int), v9 = .int .i64 (i : Int) ∧ Hid (Th w d M i xs v v8 want s SL W) ∧ Hid (i + g = n)
/-- In the inner loop. -/
structure Ti (w : World) (d : Nat) (v v8 v10 : Value) (want : Int) (t : Sm) (SL : List Int) (Fs : List Fr) (base g11 : Nat) (W : World) : Prop where
  dc : Dc W d v want t
  row : OB 5 W w.heap.size v8 SL
  b : Below w.heap.size w W
  new : ∀ k, dfp d v k → w.heap.size ≤ k
  sep : Sep (dfp d v) (rf v8)
  frames : OFs W base v10 Fs
  flt : W.heap[g11]? = some (.cells (fv t.why t.wat) 30 (0, 0))
def TiRel (w : World) (d : Nat) (v v10 : Value) (want : Int) (t : Sm) (SL : List Int) (Fs : List Fr) (base g11 : Nat) (g : Nat) (v8 v12 : Value) (W : World) : Prop :=
  ∃ k : Nat, v12 = .int .i64 (k : Int) ∧ Hid (Ti w d v v8 v10 want t (SL ++ sentS (Fs.take k)) Fs base g11 W) ∧ Hid (k + g = Fs.length)
attribute [-go_sem] Instr.loadAt Instr.storeAt Instr.build run_slice_lh run_slice_any
set_option maxHeartbeats 16000000 in
set_option maxRecDepth 100000 in
theorem StreamThrough_walk (m : Int) (hm0 : 0 ≤ m) (hm : m ≤ 65535) (A : Option Addr) (n c : Nat) (xs : List Int) (w : World) (hx : RB w A n xs) (hc : n ≤ c) (hl : n ≤ 140737488351232) :
    Calls Try.prog 3 #[.int .u16 m, .slice A n c] w fun e w' => e = .returned (.bool true) ∧ Below w.heap.size w w' := by
  obtain ⟨M, hM⟩ : ∃ M : Nat, (M : Int) = m + 1 := ⟨(m + 1).toNat, by omega⟩
  have cN := dNew_any M (by omega) (by omega) w
  rw [hM] at cN
  have k0 : IntKind.i64.wrap m = m := by rw [IntKind.wrap_i64]; omega
  have k1 : IntKind.i64.wrap (m + 1) = m + 1 := by rw [IntKind.wrap_i64]; omega
  have HM := Lib.hid hM
  have HX := Lib.hid hx
  have HXL := Lib.hid hx.len
  have HC := Lib.hid hc
  have HL := Lib.hid hl
  clear hM hx hc hl
  go_enter Try.func3, Try.ntmps3
  go_wp2_with fail
  refine cN.mono ?_
  rintro e w1 ⟨rfl, hD, hb⟩
  obtain ⟨d, hd⟩ : ∃ d, w.heap.size = d := ⟨_, rfl⟩
  have HDS : Hid (w.heap.size = d) := Lib.hid hd
  have HT0 : Hid (Th w w.heap.size M 0 xs (.slice none 0 0) (.slice none 0 0) 0 (Sm.new M) [] w1) := Lib.hid ⟨hD, OB.nil _ _ _, hb, fun k hk => hk.elim (fun e => by rw [e]; exact Nat.le_refl _) (fun e => by cases e), (fun k _ e => by cases e), rfl, rfl, rfl, Nat.le_refl _, rfl⟩
  rw [hd] at HT0 ⊢
  clear hd hD hb cN
  go_wp2_with fail
  go_loopg [8, 9] n (fun gk v8 v9 w' => ThRel w d M n xs gk v8 v9 w')
  case atStart => exact ⟨0, _, _, _, _, rfl, HT0, Lib.hid (by omega)⟩
  case round =>
    rename Nat => go1
    obtain ⟨i, v, want, s, SL, rfl, HT, HG⟩ := hrel
    clear HT0
    by_cases hi : i < n
    · have HXi : Hid (∃ x, xs[i]? = some x ∧ 0 ≤ x ∧ x < 256) := Lib.hid (by
        have hl : i < xs.length := by have := HXL.out; omega
        have hb := HX.out.byt xs[i] (List.getElem_mem hl)
        exact ⟨xs[i], List.getElem?_eq_getElem hl, hb⟩)
      obtain ⟨x, hxi, hx0, hx1⟩ := HXi.out
      have HXX := Lib.hid hxi
      have hi2 : (i : Int) < (n : Int) := by omega
      have hi1 : IntKind.i64.wrap ((i : Int) + 1) = (i : Int) + 1 := by rw [IntKind.wrap_i64]; have := HL.out; omega
      have HGA : Hid (go1 - 1 < go1 ∧ i + 1 + (go1 - 1) = n) := Lib.hid (by have h := HG.out; exact ⟨by omega, by omega⟩)
      obtain ⟨A', hs0, hs1, hs2⟩ := mid_bytes A n c i (i + 1) (by omega) (by omega) HC.out
      have hs : ∀ W : World, (Instr.slice 23 (.slice A n c) (some (.int .i64 (i : Int))) (some (.int .i64 ((i : Int) + 1))) none).run Try.prog W = .ok (.slice A' 1 (c - i)) W := fun W => by
        have := hs0 (i : Int) ((i : Int) + 1) rfl (by push_cast; rfl) W
        rwa [show i + 1 - i = 1 by omega] at this
      have HR1 : Hid (RB wr A' 1 [x]) := Lib.hid (by
        have h := hs1 wr xs (HX.out.below HT.out.b)
        rw [show i + 1 - i = 1 by omega, List.drop_eq_getElem_cons (by have := HXL.out; omega)] at h
        have e := hxi
        rw [List.getElem?_eq_getElem (by have := HXL.out; omega)] at e
        injection e with e
        rw [e] at h
        simpa using h)
      have HFAR : Hid (∀ a, A' = some a → 0 < 1 → ¬ dfp d v a.block) := Lib.hid (fun a e _ hk => by
        obtain ⟨a0, e0, hbk⟩ := hs2 a e
        have h1 := rb_lt HX.out a0 e0 (by omega)
        have h2 := HT.out.new _ hk
        omega)
      have hbx := below_alloc (Below.refl _ wr) (.cells #[.slice A' 1 (c - i)] 23)
      have hP := PB.one (cap := c - i) 23 HR1.out HFAR.out HT.out.dc.toDb.old
      have HTx : Hid (Th w d M i xs v u8 want s SL (wr.alloc (.cells #[.slice A' 1 (c - i)] 23))) := Lib.hid ⟨HT.out.dc.below hbx, HT.out.row.below hbx, below_step HT.out.b hbx, HT.out.new, HT.out.sep, HT.out.why, HT.out.most, HT.out.came, HT.out.whole, HT.out.all⟩
      clear hxi hs0 hs1 hs2 hi hbx HR1 HFAR HT HXi
      go_wp2_with fail
      refine (feed_any HTx.out.dc HTx.out.why _ 1 1 [[x]] hP (by show 1 * 136 ≤ _; omega) (by have := HTx.out.came; have := HL.out; show s.came + 1 ≤ _; have := HG.out; omega) (by have := HTx.out.whole; have := HL.out; show s.whole + 1 ≤ _; have := HG.out; omega)).mono ?_
      rintro e w3 ⟨v3, vl, want3, t, Fs, rfl, HF, hD3, hO3, ho3, hon3⟩
      have HOM := Lib.hid (one_more HTx.out.dc.ok HTx.out.why hx0 hx1 HF.out)
      obtain ⟨wa, w4, s0, s1, hY, hb4⟩ := fault_put w3 t.why t.wat
      obtain ⟨bs, hbs⟩ : ∃ bs, (wr.alloc (.cells #[.slice A' 1 (c - i)] 23)).heap.size = bs := ⟨_, rfl⟩
      rw [hbs] at hO3
      have hbw : Below w.heap.size w w3 := Below.only HTx.out.b ho3 HTx.out.b.size (fun k hk => HTx.out.new k hk)
      have HBS : Hid (w.heap.size ≤ bs) := Lib.hid (by rw [← hbs]; exact HTx.out.b.size)
      have HTI : Hid (Ti w d v3 u8 vl want3 t SL Fs bs w3.heap.size w4) := Lib.hid ⟨hD3.below hb4, (HTx.out.row.only ho3 HTx.out.sep.symm).below hb4, below_step hbw hb4, fun k hk => (hon3 k hk).elim (fun e => HTx.out.new k e) (fun e => by have := HBS.out; omega), HTx.out.sep.onto hon3 HTx.out.row.old, hO3.below hb4, hY⟩
      have HTOT : Hid (SL.length + (sentS Fs).length + t.rest.length = i + 1 ∧ SL ++ sentS Fs ++ t.rest = xs.take (i + 1)) := Lib.hid (by
        have h1 := HOM.out.1
        rw [sent_core] at h1
        have h2 : SL ++ sentS Fs ++ t.rest = xs.take (i + 1) := by
          rw [List.append_assoc, h1, ← List.append_assoc, HTx.out.all, snoc HXX.out]
        refine ⟨?_, h2⟩
        have h3 := congrArg List.length h2
        rw [List.length_append, List.length_append, List.length_take] at h3
        have := HXL.out
        omega)
      have HTD : Hid (∀ F ∈ Fs, Told F.core) := Lib.hid (fun F hF => HOM.out.2.1 _ (List.mem_map_of_mem hF))
      have HNX : Hid (t.most = M ∧ t.came = i + 1 ∧ t.whole ≤ i + 1 ∧ t.rest.length ≤ M + 14) := Lib.hid (by
        have h := HOM.out
        have h1 := HTx.out.most; have h2 := HTx.out.came; have h3 := HTx.out.whole
        refine ⟨by omega, by omega, by omega, by omega⟩)
      have HFS : Hid (Fs.length ≤ 1) := Lib.hid (by have := HOM.out.2.2.2.2.2.2; rw [List.length_map] at this; exact this)
      clear hO3 hb4 hY hbw hD3 ho3 hon3 hP HTx HF HOM hbs hx0 hx1
      go_upto_region 10 with (fail)
      clear s0 s1
      obtain ⟨g11, hg11⟩ : ∃ g, w3.heap.size = g := ⟨_, rfl⟩
      rw [hg11] at HTI ⊢
      clear hg11
      obtain ⟨A10, c10, rfl⟩ := HTI.out.frames.form
      obtain ⟨nf, hnf⟩ : ∃ nf, Fs.length = nf := ⟨_, rfl⟩
      have HNF := Lib.hid hnf
      rw [hnf] at HTI ⊢
      clear hnf
      have HZ : Hid (TiRel w d v3 (.slice A10 nf c10) want3 t SL Fs bs g11 Fs.length u8 (.int .i64 0) w4) := Lib.hid ⟨0, rfl, by rw [List.take_zero, show sentS [] = [] from rfl, List.append_nil]; exact HTI, Lib.hid (by omega)⟩
      clear HTI
      go_wp2_with fail
      go_loopg [8, 12] Fs.length (fun gq v8 v12 w' => TiRel w d v3 (.slice A10 nf c10) want3 t SL Fs bs g11 gq v8 v12 w')
      case atStart => exact HZ.out
      case round =>
        clear HZ
        obtain ⟨k, rfl, HI, HK⟩ := hrel
        by_cases hk : k < Fs.length
        · have hrf := OFs.rf HI.out.frames HNF.out.symm (by have := HNF.out; have := HFS.out; omega) HTD.out
          obtain ⟨ad, f, hA, hcl, hfk, hok, hwf, hag⟩ := hrf.at0 k (by have := HNF.out; omega)
          have hk2 : (k : Int) < (nf : Int) := by have := HNF.out; omega
          have hk1 : IntKind.i64.wrap ((k : Int) + 1) = (k : Int) + 1 := by rw [IntKind.wrap_i64]; have := HFS.out; omega
          have HKA : Hid (gk - 1 < gk ∧ k + 1 + (gk - 1) = Fs.length) := Lib.hid (by have h := HK.out; exact ⟨by omega, by omega⟩)
          have hch : chkF f = 0 := (told_frame (HTD.out f (List.mem_of_getElem? hfk))).1
          have e57 := load_frame_at f hok.tool _ _ hcl
          have HFK := Lib.hid hfk
          have cE := rEncode_any hok hwf hag
          rw [hch] at cE
          subst hA
          clear hrf hcl hfk hok hwf hag hk hch
          go_wp2_with fail
          refine cE.mono ?_
          rintro e w5 ⟨v5, rfl, hO5, hb5⟩
          obtain ⟨A5, c5, rfl, hR5, _⟩ := hO5.reads'
          have hdc := HI.out.dc.below hb5
          have hrow := HI.out.row.below hb5
          have hB5 := below_step HI.out.b hb5
          have hfr := HI.out.frames.below hb5
          have hfl := fault_keep HI.out.flt hb5
          have HNEW := Lib.hid HI.out.new
          have HSEP := Lib.hid HI.out.sep
          have HLN : Hid ((SL ++ sentS (Fs.take k)).length + (encF f).length ≤ 140737488355328) := Lib.hid (by
            have h1 := sent_take_le Fs (k + 1)
            rw [sent_snoc HFK.out, List.length_append] at h1
            rw [List.length_append]
            have := HTOT.out.1; have := HG.out; have := HL.out; omega)
          clear cE e57 hO5 hb5 HI
          go_wp2_with (at_builtin; refine push_row (w0 := w) w.heap.size rfl (.tmp 63) (.tmp 64) 23 (encF f) A5 _ c5 rfl Try.underlying23 u8_info rfl rfl hrow hR5 hB5 hB5.size HLN.out ?_)
          intro v6 w6 hO6 hb6 hg6 hat6
          have ho6 : Only w5 w6 (rf u8) := (Only.refl _ _).grown hg6 (fun k e => .inl e)
          have HE : Hid (TiRel w d v3 (.slice (some ad) nf c10) want3 t SL Fs bs g11 (gk - 1) v6 (.int .i64 ((k : Int) + 1)) w6) := Lib.hid (by
            have hty : ∀ k, rf u8 k → ∃ cs t, w5.heap[k]? = some (.cells cs t (0, 0)) ∧ t ≠ 42 ∧ t ≠ 9 := fun k e => by
              obtain ⟨cs, hc⟩ := own_typed hrow.own e
              exact ⟨cs, _, hc, by decide, by decide⟩
            have hon : Onto w5 (rf u8) (rf v6) := fun k e => by
              rcases hat6 with h | ⟨b, hb, hle⟩
              · exact .inl (h.symm.trans e)
              · have : b = k := by have e2 := hb.symm.trans e; injection e2
                exact .inr (by omega)
            refine ⟨k + 1, by simp, Lib.hid ⟨hdc.only ho6 HSEP.out, ?_, hb6, HNEW.out, (HSEP.out.symm.onto hon hdc.toDb.old).symm, hfr.only ho6 hty, fault_only hfl ho6 (own_not hrow.own hfl (by decide))⟩, HKA.out.2⟩
            rw [sent_snoc HFK.out, ← List.append_assoc]
            simpa only [List.append_assoc] using hO6)
          clear hdc hrow hB5 hfr hfl hR5 hO6 hb6 hg6 hat6 ho6
          go_wp2_with fail
          go_roundg (gk - 1)
          case measure => exact HKA.out.1
          case rel => exact HE.out
        · have hk2 : ¬ (k : Int) < (nf : Int) := by have := HNF.out; omega
          obtain rfl : k = Fs.length := by have := HK.out; omega
          clear hk
          have hdc := HI.out.dc
          go_wp2_with fail
          refine (dRest_any hdc).mono ?_
          rintro e w5 ⟨v15, rfl, hO5, hb5⟩
          obtain ⟨A15, c15, rfl, hR15, _⟩ := hO5.reads'
          have hrow := HI.out.row.below hb5
          rw [List.take_of_length_le (Nat.le_refl _)] at hrow
          obtain ⟨A8, c8, rfl, hR8, _⟩ := hrow.reads'
          have hB5 := below_step HI.out.b hb5
          have hfl := fault_keep HI.out.flt hb5
          have HTH : Hid (Th w d M (i + 1) xs v3 (.slice A8 (SL ++ sentS Fs).length c8) want3 t (SL ++ sentS Fs) w5 ∨ t.why ≠ 0) := Lib.hid (by
            by_cases hw : t.why = 0
            · exact .inl ⟨hdc.below hb5, hrow, hB5, HI.out.new, HI.out.sep, hw, HNX.out.1, HNX.out.2.1, HNX.out.2.2.1, HTOT.out.2⟩
            · exact .inr hw)
          have hd5 := hdc.below hb5
          have hxs := HX.out.below hB5
          have hA13 : ∀ W : World, (Instr.slice 23 (.slice A n c) none (some (.int .i64 ((i : Int) + 1))) none).run Try.prog W = .ok (.slice A (i + 1) c) W := fun W => head_bytes A n c (i + 1) (by have := HG.out; have := HC.out; omega) W
          have hR13 : RB w5 A (i + 1) (xs.take (i + 1)) := RB.take_ hxs (i + 1) (by have := HG.out; omega)
          have hm1 : ¬ (m + 1 + 10 + 4 : Int) < (t.rest.length : Int) := by have := HNX.out.2.2.2; have := HM.out; omega
          have hm2 : decide ((m + 1 + 10 + 4 : Int) < (t.rest.length : Int)) = false := decide_eq_false hm1
          have q1 : IntKind.i64.wrap (m + 1 + 10) = m + 1 + 10 := by rw [IntKind.wrap_i64]; omega
          have q2 : IntKind.i64.wrap (m + 1 + 10 + 4) = m + 1 + 10 + 4 := by rw [IntKind.wrap_i64]; omega
          have s1 := fun j => string_of_reads (P := Try.prog) (c := c8) Try.underlying23 Try.underlying5 Try.underlying9 (hR8.drewN j).rd
          have s2 := fun j => string_of_reads (P := Try.prog) (c := c15) Try.underlying23 Try.underlying5 Try.underlying9 (hR15.drewN j).rd
          have s3 := fun j => string_of_reads (P := Try.prog) (c := c) Try.underlying23 Try.underlying5 Try.underlying9 (hR13.drewN j).rd
          have s4 : (strOfNums (SL ++ sentS Fs)).size + (strOfNums t.rest).size ≤ 9223372036854775807 := by rw [str_size, str_size, List.length_append]; have := HTOT.out.1; have := HG.out; have := HL.out; omega
          have s5 : strOfNums (SL ++ sentS Fs) ++ strOfNums t.rest = strOfNums (xs.take (i + 1)) := by rw [str_append, HTOT.out.2]
          generalize strOfNums (SL ++ sentS Fs) = sa at *
          generalize strOfNums t.rest = sb at *
          generalize strOfNums (xs.take (i + 1)) = sc at *
          generalize (SL ++ sentS Fs).length = na at *
          generalize t.rest.length = nr at *
          clear hdc hO5 hb5 hR15 hrow hR8 hR13 HI HNX HTOT HK hxs
          go_wp2_with fail
          go_quiet (fail)
          have hdr := pw_below_drewN (Below.refl w5.heap.size w5) nq
          have hd6 := hd5.below hdr
          have hB6 := below_step hB5 hdr
          have hf6 := fault_keep hfl hdr
          have hb0 := build_fault0
          have HT6 : Hid (Th w d M (i + 1) xs v3 (.slice A8 na c8) want3 t (SL ++ sentS Fs) (w5.drewN nq) ∨ t.why ≠ 0) := Lib.hid (HTH.out.imp (fun h => ⟨h.dc.below hdr, h.row.below hdr, below_step h.b hdr, h.new, h.sep, h.why, h.most, h.came, h.whole, h.all⟩) id)
          clear hdr hd5 hB5 hfl HTH
          generalize w5.drewN nq = w6 at *
          have eX := get_fault hf6
          have str1 : (sa ++ sb = sc) := s5
          by_cases hw : t.why = 0
          · have hne := neq_fault t.why t.wat true (by rw [hw, (hd6.ok.low hw).1]; rfl)
            have HE : Hid (ThRel w d M n xs (go1 - 1) (.slice A8 na c8) (.int .i64 ((i : Int) + 1)) w6) := Lib.hid ⟨i + 1, v3, want3, t, SL ++ sentS Fs, by simp, Lib.hid (HT6.out.elim id (fun h => absurd hw h)), HGA.out.2⟩
            clear hw hd6 hB6 hf6 HT6
            go_wp2_with fail
            go_roundg (go1 - 1)
            case measure => exact HGA.out.1
            case rel => exact HE.out
          · have hne := neq_fault t.why t.wat false (by simp [hw])
            have hK : PK w d v3 want3 t g11 t.why t.wat w6 := ⟨hB6, hd6, hf6⟩
            have l11 : ∀ W : World, W.heap[g11]? = some (.cells (fv t.why t.wat) 30 (0, 0)) → (Instr.loadAt 30 (.pointer (some ⟨g11, 0, none⟩))).run Try.prog W = .ok (.agg #[.int .i64 t.why, .int .i64 t.wat]) W := fun W h => get_fault h
            have q3 := eql_fault t.why t.wat t.why t.wat true (by simp)
            clear hw hd6 hB6 hf6 HT6
            go_upto_region 21 with (fail)
            clear eX
            go_region_held3 (fun W => Below w.heap.size w W ∧ PK w d v3 want3 t g11 t.why t.wat W ∧ W.heap[g11]? = some (.cells (fv t.why t.wat) 30 (0, 0)))
              (first
                | assumption
                | exact ⟨(hK.below (below_drew (Below.refl _ _))).b, hK.below (below_drew (Below.refl _ _)), (hK.below (below_drew (Below.refl _ _))).flt⟩
                | (go_split_ands; exact ⟨by assumption, by assumption, by assumption⟩)
                | (go_split_ands; have hKn := PK.below ‹PK w d v3 want3 t g11 t.why t.wat _› (by assumption); exact ⟨hKn.b, hKn, hKn.flt⟩))
              (first
                | (go_at_call 11; go_split_ands; with_reducible refine (cPoisonD (PK.dc (by assumption))).mono ?_; rintro e wy ⟨rfl, hby⟩)
                | (go_at_call 12; go_split_ands; with_reducible refine (lawake_any _).mono ?_; rintro e wy ⟨rfl, hby⟩))
            all_goals
              go_split_ands
              go_wp2_with fail
              go_ret
              exact ⟨rfl, by assumption⟩
    · have hi2 : ¬ (i : Int) < (n : Int) := by omega
      have HB2 : Hid (Below w.heap.size w wr) := Lib.hid HT.out.b
      clear hi HT
      go_wp2_with fail
      refine (lawake_any _).mono ?_
      rintro e w2 ⟨rfl, hb2⟩
      go_wp2_with fail
      go_ret
      exact ⟨rfl, below_step HB2.out hb2⟩
end Go.Proofs.Ytpjpgcjhdbiepaa
end
