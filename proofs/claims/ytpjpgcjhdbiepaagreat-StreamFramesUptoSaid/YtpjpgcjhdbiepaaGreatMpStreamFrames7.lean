/- Contracts of functions that the law reaches (texts laid together, part 7): each says of its call what it answers and what it leaves of memory; the conditions stand in each statement. -/
import Derived.Test.YtpjpgcjhdbiepaaGreatMpStreamFrames6
import Derived.Test.YtpjpgcjhdbiepaaGreatWWords
import Derived.WalkKit
import Derived.Lib.Hide
import Derived.Laws.BitsAllLaws
import Derived.Deep.WholeRow
import Derived.Deep.CutBlock
import Derived.Deep.Cut
import Derived.Deep.LoopGhost
import Derived.Laws.CopyOwn
import Derived.Lib.SlBytesConst
import Derived.ChangeKeysEq
import Derived.Laws.StructEq
import Derived.Test.YtpjpgcjhdbiepaaGreatWMore
import Derived.Laws.Bits64b
import Derived.IntWalk
import Derived.Test.YtpjpgcjhdbiepaaGreatProg
import Derived.Test.YtpjpgcjhdbiepaaGreatWGuard
import Derived.Deep.MidRow
import Derived.Deep.RegionHeld3
import Derived.Deep.RegionLaw
import Derived.Deep.DeepMust
import Derived.Laws.Cover3
import Derived.Test.YtpjpgcjhdbiepaaGreatWEqStruct
import Derived.StillTailTactics
import Derived.Recover
import Derived.WalkLawsBesides
import Derived.Deep.RegionWith
import Derived.Laws.CopyRow
import Derived.Deep.QuietTactic
import Derived.BigQuiet
import Derived.RegionTactic
import Derived.BigRegion
import Derived.Great.BuildSlice
set_option linter.unusedVariables false
/-! The contract of Sizes. -/
section
namespace Go.Proofs.YtpjpgcjhdbiepaaGreat
open Go.RowKit Go.Kit CrcM Go.Proofs.YtpjpgcjhdbiepaaGreatW.PrintWords
/-- A row of whole numbers of the call's own. -/
def OI (w : World) (base : Nat) (v : Value) (xs : List Int) : Prop := w.ownsRow base 3 1 v xs.length (nums .i64 xs)
theorem OI.nil (w : World) (base : Nat) : OI w base (.slice none 0 0) [] := own_nil w base 3 1
theorem OI.below {w w1 : World} {base : Nat} {v : Value} {xs : List Int} (h : OI w base v xs) (hb : Below w.heap.size w w1) : OI w1 base v xs := pw_own_below h hb
theorem OI.reads {w : World} {base : Nat} {v : Value} {xs : List Int} (h : OI w base v xs) : ∃ A c, v = .slice A xs.length c ∧ ReadsInt w .i64 A xs.length xs := own_reads h
theorem int_info : (Tryz.prog.info? 3).map (fun i => (i.zero, i.size, i.bytes)) = some (some (.int .i64 0), 1, 8) := by kernel_rfl
def sizesS (L : List Fr) : List Int := L.map fun F => ((encF F).length : Int)
theorem sizes_snoc {L : List Fr} {k : Nat} {f : Fr} (h : L[k]? = some f) : sizesS (L.take (k + 1)) = sizesS (L.take k) ++ [((encF f).length : Int)] := by
  unfold sizesS; rw [snoc h, List.map_append]; rfl
def SizesPost (w : World) (xs : List Int) (e : Ending) (w' : World) : Prop :=
  ∃ (vs : Value) (Fs : List Fr) (t : Sm) (x y : Int), e = .returned (.tuple #[vs, .agg (fv x y)]) ∧ Hid (feedS xs (Sm.new 2097152) = (t, Fs.map Fr.core)) ∧ Hid ((x, y) = endSm t) ∧ OI w' w.heap.size vs (sizesS Fs) ∧ Below w.heap.size w w'
theorem sizes_ret {W : World} {tmps : Array Value} {g : Nat} {x y : Int} {vl : Value} (hp : tmps.getD 3 undef = .pointer (some ⟨g, 0, none⟩)) (hX : W.heap[g]? = some (.cells (fv x y) 28 (0, 0))) (hv : tmps.getD 2 undef = vl) :
    (results Tryz.f18 tmps).run Tryz.prog W = .ok (.tuple #[vl, .agg (fv x y)]) W :=
  results_tmp_cell (P := Tryz.prog) (fn := Tryz.f18) (p := 3) (u := 2) rfl tmps W g 28 (fv x y) (0, 0) _ hp hX Tryz.underlying28 rfl (fv_size x y) vl hv
structure Sz (w : World) (v4 v6 : Value) (Fs : List Fr) (zs : List Int) (g3 g5 : Nat) (x y : Int) (W : World) : Prop where
  b : Below w.heap.size w W
  frames : OFs W w.heap.size v4 Fs
  row : OI W w.heap.size v6 zs
  h3 : W.heap[g3]? = some (.cells (fv 0 0) 28 (0, 0))
  h5 : W.heap[g5]? = some (.cells (fv x y) 28 (0, 0))
theorem Sz.below {w W W1 : World} {v4 v6 : Value} {Fs : List Fr} {zs : List Int} {g3 g5 : Nat} {x y : Int} (h : Sz w v4 v6 Fs zs g3 g5 x y W) (hb : Below W.heap.size W W1) : Sz w v4 v6 Fs zs g3 g5 x y W1 := ⟨below_step h.b hb, h.frames.below hb, h.row.below hb, fault_keep h.h3 hb, fault_keep h.h5 hb⟩
theorem Sz.pushed {w W W1 : World} {v4 v6 v7 : Value} {Fs : List Fr} {zs ws : List Int} {g3 g5 : Nat} {x y : Int} (h : Sz w v4 v6 Fs zs g3 g5 x y W) (hg : W.grownBy W1 v6.ownBlock) (hO : OI W1 w.heap.size v7 ws) : Sz w v4 v7 Fs ws g3 g5 x y W1 := by
  have ho : Only W W1 (rf v6) := (Only.refl _ _).grown hg (fun k e => .inl e)
  refine ⟨Below.only h.b ho h.b.size (fun k e => (own_new h.row k e).1), h.frames.only ho (fun k e => ?_), hO, fault_only h.h3 ho (own_not h.row h.h3 (by decide)), fault_only h.h5 ho (own_not h.row h.h5 (by decide))⟩
  obtain ⟨cs, hc⟩ := own_typed h.row e
  exact ⟨cs, _, hc, by decide, by decide⟩
def SzRel (w : World) (v4 : Value) (Fs : List Fr) (g3 g5 : Nat) (x y : Int) (g : Nat) (v6 v18 : Value) (W : World) : Prop :=
  ∃ k : Nat, v18 = .int .i64 (k : Int) ∧ Hid (Sz w v4 v6 Fs (sizesS (Fs.take k)) g3 g5 x y W) ∧ Hid (k + g = Fs.length)
theorem told_all {xs : List Int} {t : Sm} {Fs : List Fr} (hb : Byt xs) (h : feedS xs (Sm.new 2097152) = (t, Fs.map Fr.core)) : ∀ F ∈ Fs, Told F.core := by
  obtain ⟨_, _, _, _, h4⟩ := feed_sent xs (new_ok (most := 2097152) (by decide) (by decide)) hb
  rw [h] at h4
  exact fun F hF => h4 _ (List.mem_map_of_mem hF)
attribute [-go_sem] Instr.loadAt Instr.storeAt Instr.build
set_option maxHeartbeats 8000000 in
set_option maxRecDepth 100000 in
theorem Sizes_any {w : World} {A : Option Addr} {n c : Nat} {xs : List Int} (hx : RB w A n xs) (hl : n ≤ 1034834473200) : Calls Tryz.prog 18 #[.slice A n c] w (SizesPost w xs) := by
  obtain ⟨w0, s0, hX0, hb0⟩ := fault_new w
  have HX := Lib.hid hx
  have HXL := Lib.hid hx.len
  have HL := Lib.hid hl
  have HB0 := Lib.hid hb0
  have HX0 := Lib.hid hX0
  clear hx hl hb0 hX0
  go_enter Tryz.func18, Tryz.ntmps18
  go_upto_region 1 with (fail)
  clear s0
  go_wp2_with fail
  refine (Split_any (HX.out.below HB0.out) HL.out).mono ?_
  rintro e w1 ⟨vl, Fs, t, x, y, rfl, HF, HXY, hO, hb1⟩
  obtain ⟨wa, w2, s0, s1, hY, hb2⟩ := fault_put w1 x y
  have hb12 := below_step hb1 hb2
  have hg : w.heap.size < w1.heap.size := by have := lt_of_block HX0.out; have := hb1.size; omega
  have HFL : Hid (Fs.length ≤ n) := Lib.hid (by
    have h := (feed_came xs (Sm.new 2097152)).2.2.2.2
    rw [HF.out, List.length_map] at h
    have := HXL.out; omega)
  have HTD := Lib.hid (told_all HX.out.byt HF.out)
  have HS0 : Hid (Sz w vl (.slice none 0 0) Fs [] w.heap.size w1.heap.size x y w2) := Lib.hid ⟨below_step (below_step HB0.out hb1) hb2, (hO.less HB0.out.size).below hb2, OI.nil _ _, fault_keep (fault_keep HX0.out hb1) hb2, hY⟩
  clear hO hb1 hb2 hb12 hY HX0
  go_upto_region 2 with (fail)
  clear s0 s1
  obtain ⟨g3, hg3⟩ : ∃ g, w.heap.size = g := ⟨_, rfl⟩
  obtain ⟨g5, hg5⟩ : ∃ g, w1.heap.size = g := ⟨_, rfl⟩
  have HG3 := Lib.hid hg3
  rw [hg3, hg5] at HS0 ⊢
  clear hg hg3 hg5
  obtain ⟨A4, c4, rfl⟩ := HS0.out.frames.form
  obtain ⟨nf, hnf⟩ : ∃ nf, Fs.length = nf := ⟨_, rfl⟩
  have HNF := Lib.hid hnf
  rw [hnf] at HS0 ⊢
  have HZ : Hid (SzRel w (.slice A4 nf c4) Fs g3 g5 x y nf (.slice none 0 0) (.int .i64 0) w2) := Lib.hid ⟨0, rfl, HS0, Lib.hid (by omega)⟩
  clear HS0 hnf
  go_wp2_with fail
  go_loopg [6, 18] nf (fun gk v6 v18 w' => SzRel w (.slice A4 nf c4) Fs g3 g5 x y gk v6 v18 w')
  case atStart => exact HZ.out
  case round =>
    clear HZ
    obtain ⟨k, rfl, HS, HG⟩ := hrel
    by_cases hk : k < nf
    · have hrf := OFs.rf HS.out.frames HNF.out.symm (by have := HFL.out; have := HL.out; have := HNF.out; omega) HTD.out
      obtain ⟨ad, f, hA, hcl, hfk, hok, hwf, hag⟩ := hrf.at0 k hk
      have hk2 : (k : Int) < (nf : Int) := by omega
      have hk1 : IntKind.i64.wrap ((k : Int) + 1) = (k : Int) + 1 := by rw [IntKind.wrap_i64]; have := HFL.out; have := HL.out; have := HNF.out; omega
      have HGA : Hid (gk - 1 < gk ∧ k + 1 + (gk - 1) = Fs.length) := Lib.hid (by have h := HG.out; have := HNF.out; exact ⟨by omega, by omega⟩)
      have e21 := load_frame_at f hok.tool _ _ hcl
      have HFK := Lib.hid hfk
      obtain ⟨wb, w3, s0, s1, hF, hb3⟩ := frame_put wr f hok.tool
      have HF3 := Lib.hid hF
      have HS3 := Lib.hid (HS.out.below hb3)
      have HOK := Lib.hid (hok.below hb3)
      have HWF : Hid (f.wf ∧ ∀ s ∈ f.args, s.size ≤ 9223372036854775807) := Lib.hid ⟨hwf, hag⟩
      subst hA
      clear hrf hcl hfk hok hwf hag hk hF hb3 HS
      go_upto_region 6 with (fail)
      clear s0 s1 e21
      have e23 := get_frame HF3.out
      go_wp2_with fail
      refine (fSize_any HOK.out HWF.out.1 HWF.out.2).mono ?_
      rintro e w4 ⟨rfl, hb4⟩
      have HS4 := Lib.hid (HS3.out.below hb4)
      obtain ⟨z, hz⟩ : ∃ z : Int, ((encF f).length : Int) = z := ⟨_, rfl⟩
      have HZZ := Lib.hid hz
      rw [hz]
      have hrow := HS4.out.row
      have HLN : Hid (((sizesS (Fs.take k)).length + 1) * 8 ≤ 140737488355328) := Lib.hid (by unfold sizesS; rw [List.length_map, List.length_take]; have := HFL.out; have := HL.out; omega)
      clear hz hb4 e23 HS3
      go_wp2_with (at_builtin; refine print_append_num (w0 := w4) w.heap.size rfl (.tmp 27) (.tmp 29) 29 3 .i64 8 rfl Tryz.underlying29 int_info (by decide) _ _ z rfl rfl hrow (Below.refl _ _) HS4.out.b.size HLN.out ?_)
      intro v7 w5 hO7 _ hg7 _
      have HS5 : Hid (Sz w (.slice (some ad) nf c4) v7 Fs (sizesS (Fs.take (k + 1))) g3 g5 x y w5) := Lib.hid (HS4.out.pushed hg7 (by unfold OI; rw [sizes_snoc HFK.out, HZZ.out, List.length_append, List.length_singleton]; exact hO7))
      clear hrow hO7 hg7 HS4
      go_wp2_with fail
      go_roundg (gk - 1)
      case measure => exact HGA.out.1
      case rel => exact ⟨k + 1, by simp, HS5, HGA.out.2⟩
    · have hk2 : ¬ (k : Int) < (nf : Int) := by omega
      have hall : Fs.take k = Fs := List.take_of_length_le (by have := HNF.out; omega)
      rw [hall] at HS
      clear hk hall
      go_upto_region 9 with (fail)
      have hS := HS.out
      have hdr := below_drew (Below.refl wr.heap.size wr)
      have hS2 := hS.below hdr
      have e33 := get_fault hS2.h5
      have p3 := put_fault x y hS2.h3
      have q2 := set_fault x y hS2.h3
      have hor := Fr.only_row wr.drew g3 (fv x y)
      have HQ : Hid (SizesPost w xs (.returned (.tuple #[u6, .agg (fv x y)])) (wr.drew.setRow g3 (fv x y))) := Lib.hid ⟨u6, Fs, t, x, y, rfl, HF, HXY, own_only hS2.row hor (fun k hk e => by subst e; exact own_not hS2.row hS2.h3 (by decide) hk), Below.only hS2.b hor hS2.b.size (fun k e => by rw [e]; exact Nat.le_of_eq HG3.out)⟩
      clear hS hdr hS2 hor HS
      go_wp2_with fail
      go_region_law (fail)
      all_goals
        go_wp2_with fail
        exact bodyPost_ret (v := .tuple #[u6, .agg (fv x y)]) (sizes_ret rfl q2 rfl) rfl HQ.out
end Go.Proofs.YtpjpgcjhdbiepaaGreat
end
/-! The walk of StreamFrames. -/
section
namespace Go.Proofs.YtpjpgcjhdbiepaaGreat
open Go.RowKit Go.Kit CrcM Go.Proofs.YtpjpgcjhdbiepaaGreatW.PrintWords
theorem limits_info : (Tryz.prog.info? 45).map (·.size) = some 3 := by kernel_rfl
theorem load_limits_at (x y z : Int) (W : World) (a : Addr) (h : ∀ j v, [Value.int .i64 x, .int .i64 y, .int .i64 z][j]? = some v → W.cell? (a.add j) = some v) :
    (Instr.loadAt 45 (.pointer (some a))).run Tryz.prog W = .ok (.agg #[.int .i64 x, .int .i64 y, .int .i64 z]) W := by
  have hl : (loadCells a [Value.int .i64 x, .int .i64 y, .int .i64 z].length).run Tryz.prog W = .ok [Value.int .i64 x, .int .i64 y, .int .i64 z].toArray W := run_loadCells_list (P := Tryz.prog) W a _ h
  simp only [Instr.loadAt, Instr.sureAddr, Sem.run_bind, Sem.run_pure, Result.andThen_ok]
  cases hq : Tryz.prog.info? 45 with
  | none => have := limits_info; simp [hq] at this
  | some i =>
    have hs : i.size = 3 := by have := limits_info; simpa [hq] using this
    have hagg : (isAgg 45).run Tryz.prog W = .ok true W := by
      unfold isAgg
      rw [Sem.run_bind, run_underlying Tryz.underlying45 W]
      rfl
    have hl2 : (loadCells a 3).run Tryz.prog W = .ok #[Value.int .i64 x, .int .i64 y, .int .i64 z] W := by simpa using hl
    simp [loadVar, sizeOf, typeInfo, hq, hs, hagg, hl2]
theorem lim_new (W : World) (x y z : Int) : ∃ W1 W2 : World, W.alloc (.cells #[.int .i64 0, .int .i64 0, .int .i64 0] 45) = W1 ∧ (Instr.storeAt 45 (.pointer (some ⟨W.heap.size, 0, none⟩)) (.agg #[.int .i64 x, .int .i64 y, .int .i64 z])).run Tryz.prog W1 = .ok () W2 ∧
    W2.heap[W.heap.size]? = some (.cells #[.int .i64 x, .int .i64 y, .int .i64 z] 45 (0, 0)) ∧ Below W.heap.size W W2 := by
  have h0 := heap_alloc_new W (.cells #[.int .i64 0, .int .i64 0, .int .i64 0] 45)
  have hb := below_alloc (Below.refl _ W) (.cells #[.int .i64 0, .int .i64 0, .int .i64 0] 45)
  exact ⟨_, _, rfl, storeAt_all (P := Tryz.prog) _ W.heap.size 45 45 #[.int .i64 x, .int .i64 y, .int .i64 z] _ h0 rfl limits_info (by simp [Value.oneCell']), setRow_heap _ _ _ _ _ _ h0, below_setRow hb (Nat.le_refl _) _⟩
theorem sizes_core {L M : List Fr} (h : L.map Fr.core = M.map Fr.core) : sizesS L = sizesS M := by
  have e : ∀ L : List Fr, sizesS L = (L.map Fr.core).map fun F => ((encF F).length : Int) := fun L => by unfold sizesS; rw [List.map_map]; rfl
  rw [e L, e M, h]
theorem neq_faults' (x y a b : Int) (c : Bool) (hc : ((x == a) && (y == b)) = c) (W : World) : (binOp .neq 28 (.agg #[.int .i64 x, .int .i64 y]) (.agg #[.int .i64 a, .int .i64 b])).run Tryz.prog W = .ok (.bool !c) W := by
  have he : (Op.equalIn 10000 28 (.agg #[.int .i64 x, .int .i64 y]) (.agg #[.int .i64 a, .int .i64 b])).run Tryz.prog W = .ok c W := by
    subst hc
    by_cases h1 : x = a <;> by_cases h2 : y = b <;> go_simp
  simp [run_neq_struct W 28 _ _, he]
structure Fm (w : World) (M : List Fr) (v3 v4 : Value) (W : World) : Prop where
  b : Below w.heap.size w W
  row : OB 5 W w.heap.size v3 (sentS M)
  ks : OI W w.heap.size v4 (sizesS M)
theorem Fm.below {w W W1 : World} {M : List Fr} {v3 v4 : Value} (h : Fm w M v3 v4 W) (hb : Below W.heap.size W W1) : Fm w M v3 v4 W1 := ⟨below_step h.b hb, h.row.below hb, h.ks.below hb⟩
def FmRel (w : World) (n : Nat) (L : List Fr) (g : Nat) (v3 v4 v5 : Value) (W : World) : Prop :=
  ∃ i : Nat, v5 = .int .i64 (i : Int) ∧ Hid (Fm w (L.take i) v3 v4 W) ∧ Hid (i + g = n ∧ ∀ f ∈ L.take i, f.wf ∧ f.tool.length = 32 ∧ chkF f = 0 ∧ Lim f)
attribute [-go_sem] Instr.loadAt Instr.storeAt Instr.build
set_option maxHeartbeats 16000000 in
set_option maxRecDepth 100000 in
theorem StreamFrames_walk {A : Option Addr} {n c : Nat} {L : List Fr} {w : World} (hA : RF w A n L) (hn : n * 9 ≤ 1048576) :
    Calls Tryz.prog 6 #[.slice A n c] w fun e w' => e = .returned (.bool true) ∧ Below w.heap.size w w' := by
  have HA := Lib.hid hA
  have HN := Lib.hid hn
  have HZ : Hid (FmRel w n L n (.slice none 0 0) (.slice none 0 0) (.int .i64 0) w) := Lib.hid ⟨0, rfl, Lib.hid ⟨Below.refl _ _, OB.nil _ _ _, OI.nil _ _⟩, Lib.hid ⟨by omega, fun f hf => by simp at hf⟩⟩
  clear hA hn
  go_enter Tryz.func6, Tryz.ntmps6
  go_wp2_with fail
  go_loopg [3, 4, 5] n (fun gk v3 v4 v5 w' => FmRel w n L gk v3 v4 v5 w')
  case atStart => exact HZ.out
  case round =>
    clear HZ
    obtain ⟨i, rfl, HF, HG⟩ := hrel
    by_cases hi : i < n
    · obtain ⟨ad, f, hAd, hcl, hfk, hok, hwf, hag⟩ := (HA.out.below HF.out.b).at0 i hi
      have hi2 : (i : Int) < (n : Int) := by omega
      have hi1 : IntKind.i64.wrap ((i : Int) + 1) = (i : Int) + 1 := by rw [IntKind.wrap_i64]; have := HN.out; omega
      have HGA : Hid (gk - 1 < gk ∧ i + 1 + (gk - 1) = n) := Lib.hid (by have h := HG.out.1; exact ⟨by omega, by omega⟩)
      have e24 := load_frame_at f hok.tool _ _ hcl
      have HFK := Lib.hid hfk
      have HCL := Lib.hid hcl
      have HOK := Lib.hid hok
      have HWF := Lib.hid hwf
      subst hAd
      clear hcl hfk hi
      go_wp2_with fail
      refine (rEncode_any hok hwf hag).mono ?_
      rintro e w1 ⟨v1, rfl, hO1, hb1⟩
      obtain ⟨A1, c1, rfl, hR1, _⟩ := hO1.reads'
      have HF1 := Lib.hid (HF.out.below hb1)
      have HLA : Hid (∀ j v, [Value.int .i64 f.mo, .int .i64 f.fu, .int .i64 f.di][j]? = some v → w1.cell? ((ad.add (i * 42)).add (37 + j)) = some v) := Lib.hid (fun j v hj => by
        have h1 := pw_cell_below hb1 (HCL.out (37 + j) v (by
          have := Fr.tail_at f HOK.out.tool (j + 1)
          rw [show 36 + (j + 1) = 37 + j by omega] at this
          rw [this, List.getElem?_append_right (by simp)]
          simp only [List.length_cons, List.length_nil, Nat.zero_add, Nat.add_sub_cancel]
          rw [List.getElem?_append_left (by
            have h2 : j < [Value.int .i64 f.mo, .int .i64 f.fu, .int .i64 f.di].length := by
              rcases Nat.lt_or_ge j [Value.int .i64 f.mo, .int .i64 f.fu, .int .i64 f.di].length with h | h
              · exact h
              · rw [List.getElem?_eq_none h] at hj; cases hj
            exact h2)]
          exact hj))
        exact h1)
      have e32 : (Instr.loadAt 45 (.pointer (some ⟨(ad.add (i * 42)).block, (ad.add (i * 42)).off + 37, none⟩))).run Tryz.prog w1 = .ok (.agg #[.int .i64 f.mo, .int .i64 f.fu, .int .i64 f.di]) w1 := load_limits_at f.mo f.fu f.di w1 ((ad.add (i * 42)).add 37) (fun j v hj => by rw [Addr.add_add]; exact HLA.out j v hj)
      obtain ⟨wa, w2, s0, s1, hM, hb2⟩ := lim_new w1 f.mo f.fu f.di
      have HF2 := Lib.hid (HF1.out.below hb2)
      have HR2 := Lib.hid (hR1.below hb2)
      have HM := Lib.hid hM
      clear hok hwf hag hO1 hb1 hR1 HF hM hb2 e24 HLA
      go_upto_region 8 with (fail)
      clear s0 s1 e32
      obtain ⟨g8, hg8⟩ : ∃ g, w1.heap.size = g := ⟨_, rfl⟩
      have hM := HM.out
      rw [hg8] at hM ⊢
      clear hg8 HM
      have m0' : (Instr.loadAt 3 (.pointer (some ⟨g8, 0, none⟩))).run Tryz.prog w2 = .ok (.int .i64 f.mo) w2 := load_cell_int (by rw [cell_of_row w2 g8 0 _ _ _ hM]; rfl)
      have m1' : (Instr.loadAt 3 (.pointer (some ⟨g8, 1, none⟩))).run Tryz.prog w2 = .ok (.int .i64 f.fu) w2 := load_cell_int (by rw [cell_of_row w2 g8 1 _ _ _ hM]; rfl)
      have m2' : (Instr.loadAt 3 (.pointer (some ⟨g8, 2, none⟩))).run Tryz.prog w2 = .ok (.int .i64 f.di) w2 := load_cell_int (by rw [cell_of_row w2 g8 2 _ _ _ hM]; rfl)
      clear hM
      obtain ⟨mo, hmo⟩ : ∃ mo, f.mo = mo := ⟨_, rfl⟩
      obtain ⟨fu, hfu⟩ : ∃ fu, f.fu = fu := ⟨_, rfl⟩
      obtain ⟨di, hdi⟩ : ∃ di, f.di = di := ⟨_, rfl⟩
      obtain ⟨ck, hck⟩ : ∃ ck, chkF f = ck := ⟨_, rfl⟩
      have HLM : Hid (f.mo = mo ∧ f.fu = fu ∧ f.di = di ∧ chkF f = ck) := Lib.hid ⟨hmo, hfu, hdi, hck⟩
      rw [hmo] at m0' ⊢
      rw [hfu] at m1' ⊢
      rw [hdi] at m2' ⊢
      rw [hck]
      clear hmo hfu hdi hck
      have bad : ∀ W, Below w.heap.size w W → Calls Tryz.prog 14 #[] W fun e w' => e = .returned (.bool true) ∧ Below w.heap.size w w' := fun W hb => (lawake_any W).mono fun e w' h => ⟨h.1, below_step hb h.2⟩
      have HBAD := Lib.hid bad
      clear bad
      by_cases h0 : ck = 0
      · have b0 : (ck != 0) = false := by simp [h0]
        by_cases h1 : (2147483648 : Int) < mo
        · clear h0
          go_wp2_with fail
          refine (HBAD.out _ HF2.out.b).mono ?_
          rintro e w3 ⟨rfl, hb3⟩
          go_wp2_with fail
          go_ret
          exact ⟨rfl, hb3⟩
        · by_cases h2 : (2147483648 : Int) < fu
          · clear h0
            go_wp2_with fail
            refine (HBAD.out _ HF2.out.b).mono ?_
            rintro e w3 ⟨rfl, hb3⟩
            go_wp2_with fail
            go_ret
            exact ⟨rfl, hb3⟩
          · by_cases h3 : (2147483648 : Int) < di
            · clear h0
              go_wp2_with fail
              refine (HBAD.out _ HF2.out.b).mono ?_
              rintro e w3 ⟨rfl, hb3⟩
              go_wp2_with fail
              go_ret
              exact ⟨rfl, hb3⟩
            · have HOKF : Hid (∀ g ∈ L.take (i + 1), g.wf ∧ g.tool.length = 32 ∧ chkF g = 0 ∧ Lim g) := Lib.hid (fun g hg => by
                rw [snoc HFK.out] at hg
                rcases List.mem_append.1 hg with hg | hg
                · exact HG.out.2 g hg
                · simp at hg; subst hg
                  obtain ⟨a1, a2, a3, a4⟩ := HLM.out
                  exact ⟨HWF.out, HOK.out.tool, by rw [a4]; exact h0, ⟨by omega, by omega, by omega⟩⟩)
              have HLN : Hid ((sentS (L.take i)).length + (encF f).length ≤ 140737488355328 ∧ ((sizesS (L.take i)).length + 1) * 8 ≤ 140737488355328) := Lib.hid (by
                have h1 := encs_len (L.take (i + 1))
                have h2 : encs_ (L.take (i + 1)) = sentS (L.take (i + 1)) := rfl
                rw [h2, sent_snoc HFK.out, List.length_append, List.length_take] at h1
                have h3 : 2097176 * min (i + 1) L.length ≤ 2097176 * 116509 := Nat.mul_le_mul_left _ (by have := HN.out; have := HG.out.1; omega)
                have h4 : (sizesS (L.take i)).length ≤ i := by unfold sizesS; rw [List.length_map, List.length_take]; omega
                have := HN.out; have := HG.out.1
                exact ⟨by omega, by omega⟩)
              obtain ⟨N1, hN1⟩ : ∃ N1, (encF f).length = N1 := ⟨_, rfl⟩
              have HN1 := Lib.hid hN1
              rw [hN1] at HLN HR2 ⊢
              have hrow := HF2.out.row
              clear h0 hN1
              go_wp2_with (at_builtin; refine push_row (w0 := w2) w.heap.size rfl (.tmp 51) (.tmp 52) 22 (encF f) A1 N1 c1 rfl Tryz.underlying22 u8_info rfl rfl hrow HR2.out (Below.refl _ _) HF2.out.b.size HLN.out.1 ?_)
              intro v5 w5 hO5 _ hg5 _
              have ho5 : Only w2 w5 (rf u3) := (Only.refl _ _).grown hg5 (fun k e => .inl e)
              have HB5 : Hid (Below w.heap.size w w5) := Lib.hid (Below.only HF2.out.b ho5 HF2.out.b.size (fun k e => (own_new HF2.out.row.own k e).1))
              have HO5 : Hid (OB 5 w5 w.heap.size v5 (sentS (L.take (i + 1)))) := Lib.hid (by rw [sent_snoc HFK.out]; exact hO5)
              have hks : OI w5 w.heap.size u4 (sizesS (L.take i)) := own_only HF2.out.ks ho5 (fun k hk e => by
                obtain ⟨cs, hc⟩ := own_typed HF2.out.row.own e
                exact own_not HF2.out.ks hc (by decide) hk)
              have hks' := hks
              unfold OI at hks'
              clear hrow hO5 hg5 ho5 HR2 hks
              go_wp2_with (at_builtin; refine print_append_num (w0 := w5) w.heap.size rfl (.tmp 54) (.tmp 57) 29 3 .i64 8 rfl Tryz.underlying29 int_info (by decide) _ _ (N1 : Int) rfl rfl hks' (Below.refl _ _) HB5.out.size HLN.out.2 ?_)
              intro v7 w7 hO7 _ hg7 _
              have ho7 : Only w5 w7 (rf u4) := (Only.refl _ _).grown hg7 (fun k e => .inl e)
              have HF7 : Hid (Fm w (L.take (i + 1)) v5 v7 w7) := Lib.hid ⟨Below.only HB5.out ho7 HB5.out.size (fun k e => (own_new hks' k e).1), HO5.out.only ho7 (fun k hk e => by
                obtain ⟨cs, hc⟩ := own_typed hks' e
                exact own_not HO5.out.own hc (by decide) hk), by unfold OI; rw [sizes_snoc HFK.out, HN1.out, List.length_append, List.length_singleton]; exact hO7⟩
              clear hks' hO7 hg7 ho7
              go_wp2_with fail
              go_roundg (gk - 1)
              case measure => exact HGA.out.1
              case rel => exact ⟨i + 1, by simp, HF7, Lib.hid ⟨HGA.out.2, HOKF.out⟩⟩
      · have b0 : (ck != 0) = true := by simpa using h0
        clear h0
        go_wp2_with fail
        refine (HBAD.out _ HF2.out.b).mono ?_
        rintro e w3 ⟨rfl, hb3⟩
        go_wp2_with fail
        go_ret
        exact ⟨rfl, hb3⟩
    · have hi2 : ¬ (i : Int) < (n : Int) := by omega
      have hall : L.take i = L := List.take_of_length_le (by have := HA.out.len; omega)
      rw [hall] at HF HG
      have HFS : Hid (feedS (sentS L) (Sm.new 2097152) = ({ Sm.new 2097152 with rest := [], came := (Sm.new 2097152).came + (sentS L).length, whole := (Sm.new 2097152).whole + L.length }, L.map Fr.core)) := Lib.hid (feed_frames L (Sm.new 2097152) HG.out.2 rfl rfl rfl)
      have HSL : Hid ((sentS L).length ≤ 1034834473200) := Lib.hid (by
        have h1 := encs_len L
        have h2 : encs_ L = sentS L := rfl
        rw [h2, HA.out.len] at h1
        have := HN.out
        omega)
      obtain ⟨A3, c3, rfl, hR3, _⟩ := HF.out.row.reads'
      have hF := HF.out
      clear hi hall
      go_wp2_with fail
      refine (Split_any hR3 HSL.out).mono ?_
      rintro e w1 ⟨vl, Fs, t, x, y, rfl, HT, HXY, hO, hb1⟩
      have HFC : Hid (L.map Fr.core = Fs.map Fr.core) := Lib.hid (congrArg Prod.snd (HFS.out.symm.trans HT.out))
      have hend : endSm t = (0, 0) := by
        have ht := congrArg Prod.fst (HFS.out.symm.trans HT.out)
        dsimp only at ht
        rw [← ht]; rfl
      obtain ⟨rfl, rfl⟩ : x = 0 ∧ y = 0 := by have h := HXY.out; rw [hend] at h; cases h; exact ⟨rfl, rfl⟩
      obtain ⟨wa, w2, s0, s1, hY, hb2⟩ := fault_put w1 0 0
      have hb12 := below_step hb1 hb2
      have hF2 := hF.below hb12
      have hR2 := (hR3.below hb1).below hb2
      have hO2 := hO.below hb2
      have HFL : Hid (Fs.length = n) := Lib.hid (by have h := congrArg List.length HFC.out; rw [List.length_map, List.length_map] at h; have := HA.out.len; omega)
      have HY := Lib.hid hY
      clear hF hR3 hO hb1 hb2 hb12 hY hend HT HXY HF
      go_upto_region 13 with (fail)
      clear s0 s1
      obtain ⟨g10, hg10⟩ : ∃ g, w1.heap.size = g := ⟨_, rfl⟩
      have hY := HY.out
      rw [hg10] at hY ⊢
      clear hg10 HY
      go_wp2_with fail
      refine (Sizes_any hR2 HSL.out).mono ?_
      rintro e w3 ⟨vs, Gs, t2, x2, y2, rfl, HT2, HXY2, hS, hb3⟩
      have HGC : Hid (L.map Fr.core = Gs.map Fr.core) := Lib.hid (congrArg Prod.snd (HFS.out.symm.trans HT2.out))
      have hend : endSm t2 = (0, 0) := by
        have ht := congrArg Prod.fst (HFS.out.symm.trans HT2.out)
        dsimp only at ht
        rw [← ht]; rfl
      obtain ⟨rfl, rfl⟩ : x2 = 0 ∧ y2 = 0 := by have h := HXY2.out; rw [hend] at h; cases h; exact ⟨rfl, rfl⟩
      obtain ⟨wb, w4, s0, s1, hY4, hb4⟩ := fault_put w3 0 0
      have hb34 := below_step hb3 hb4
      have hF4 := hF2.below hb34
      have hO4 := hO2.below hb34
      have hY2 := fault_keep hY hb34
      have hS4 := hS.below hb4
      rw [← sizes_core HGC.out] at hS4
      have HY4 := Lib.hid hY4
      clear hF2 hR2 hO2 hY hS hb3 hb4 hb34 hY4 hend HT2 HXY2
      go_upto_region 14 with (fail)
      clear s0 s1
      obtain ⟨g12, hg12⟩ : ∃ g, w3.heap.size = g := ⟨_, rfl⟩
      have hY4 := HY4.out
      rw [hg12] at hY4 ⊢
      clear hg12 HY4
      obtain ⟨A9, c9, rfl⟩ := hO4.form
      obtain ⟨As, cs, rfl, hRs⟩ := hS4.reads
      obtain ⟨Ak, ck, rfl, hRk⟩ := hF4.ks.reads
      have HSZ : Hid ((sizesS L).length = n) := Lib.hid (by unfold sizesS; rw [List.length_map]; exact HA.out.len)
      rw [HFL.out] at hO4 ⊢
      rw [HSZ.out] at hRs hRk ⊢
      have HB4 := Lib.hid hF4.b
      have HRs := Lib.hid hRs
      have HRk := Lib.hid hRk
      have hLo := (HA.out.below HB4.out).o
      have hFo := OFs.rfo hO4 HFL.out.symm (by have := HN.out; omega)
      have e10 := get_fault hY2
      have e12 := get_fault hY4
      have hb0 := build_fault0
      have q1 := neq_faults' 0 0 0 0 true rfl
      clear hF4 hO4 hY2 hY4 hS4 hRs hRk
      go_wp2_with fail
      refine (rSames_true hLo hFo HFC.out).mono ?_
      rintro e w5 ⟨rfl, hb5⟩
      have HB5 := Lib.hid (below_step HB4.out hb5)
      have HR5 : Hid (∀ W, Below w5.heap.size w5 W → ReadsInt W .i64 As n (sizesS L) ∧ ReadsInt W .i64 Ak n (sizesS L)) := Lib.hid (fun W hb => ⟨(HRs.out.below hb5).below hb, (HRk.out.below hb5).below hb⟩)
      have bn : ((n : Int) != (n : Int)) = false := by simp
      clear hLo hFo e10 e12 hb5
      go_wp2_with fail
      go_loopg [13] n (fun gk v13 w' => ∃ i : Nat, v13 = .int .i64 (i : Int) ∧ Below w5.heap.size w5 w' ∧ Hid (i + gk = n))
      case atStart => exact ⟨0, rfl, Below.refl _ _, Lib.hid (by omega)⟩
      case round =>
        obtain ⟨k, rfl, hbw, HK⟩ := hrel
        have HBW := Lib.hid hbw
        obtain ⟨r1, r2⟩ := HR5.out wr hbw
        clear hbw
        by_cases hk : k < n
        · have hk2 : (k : Int) < (n : Int) := by omega
          have hk1 : IntKind.i64.wrap ((k : Int) + 1) = (k : Int) + 1 := by rw [IntKind.wrap_i64]; have := HN.out; omega
          have HKA : Hid (gk - 1 < gk ∧ k + 1 + (gk - 1) = n) := Lib.hid (by have h := HK.out; exact ⟨by omega, by omega⟩)
          obtain ⟨a1, ea1, hc1⟩ := r1.2.2 (by omega)
          obtain ⟨a2, ea2, hc2⟩ := r2.2.2 (by omega)
          have d1 := hc1 k hk
          have d2 := hc2 k hk
          generalize (sizesS L).getD k 0 = z at *
          have l1 : ∀ i, (Instr.loadAt 3 (.pointer (some (a1.add k)))).run Tryz.prog (wr.drewN i) = .ok (.int .i64 z) (wr.drewN i) := fun i => load_cell_int d1
          have l2 : ∀ i, (Instr.loadAt 3 (.pointer (some (a2.add k)))).run Tryz.prog (wr.drewN i) = .ok (.int .i64 z) (wr.drewN i) := fun i => load_cell_int d2
          have bz : (z != z) = false := by simp
          subst ea1 ea2
          clear r1 r2 hk hc1 hc2 d1 d2
          go_wp2_with fail
          go_quiet (fail)
          have hbq := pw_below_drewN HBW.out nq
          go_wp2_with fail
          go_roundg (gk - 1)
          case measure => exact HKA.out.1
          case rel => exact ⟨k + 1, by simp, hbq, HKA.out.2⟩
        · have hk2 : ¬ (k : Int) < (n : Int) := by omega
          have HBj := Lib.hid (below_step HB5.out HBW.out)
          clear hk r1 r2
          go_wp2_with fail
          refine (lawake_any _).mono ?_
          rintro e w6 ⟨rfl, hb6⟩
          go_wp2_with fail
          go_ret
          exact ⟨rfl, below_step HBj.out hb6⟩
end Go.Proofs.YtpjpgcjhdbiepaaGreat
end
