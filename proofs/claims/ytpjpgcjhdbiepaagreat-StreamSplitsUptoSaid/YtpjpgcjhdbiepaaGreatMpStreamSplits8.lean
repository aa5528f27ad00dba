/- Contracts of functions that the law reaches (texts laid together, part 8): each says of its call what it answers and what it leaves of memory; the conditions stand in each statement. -/
import Derived.Test.YtpjpgcjhdbiepaaGreatMpStreamSplits7
import Derived.Test.YtpjpgcjhdbiepaaGreatWWords
import Derived.WalkKit
import Derived.Lib.Hide
import Derived.Laws.BitsAllLaws
import Derived.Deep.WholeRow
import Derived.Deep.CutBlock
import Derived.Deep.Cut
import Derived.Deep.LoopGhost
import Derived.Laws.CopyOwn
import Derived.Lib.SlBytesConst
import Derived.ChangeKeysEq
import Derived.Laws.StructEq
import Derived.Test.YtpjpgcjhdbiepaaGreatWMore
import Derived.Laws.Bits64b
import Derived.IntWalk
import Derived.Test.YtpjpgcjhdbiepaaGreatProg
import Derived.Test.YtpjpgcjhdbiepaaGreatWGuard
import Derived.Deep.MidRow
import Derived.Deep.RegionHeld3
import Derived.Deep.RegionLaw
import Derived.Deep.DeepMust
import Derived.Laws.Cover3
import Derived.Test.YtpjpgcjhdbiepaaGreatWEqStruct
import Derived.StillTailTactics
import Derived.Recover
import Derived.WalkLawsBesides
import Derived.Deep.RegionWith
import Derived.Laws.CopyRow
import Derived.Deep.QuietTactic
import Derived.BigQuiet
import Derived.RegionTactic
import Derived.BigRegion
import Derived.Great.BuildSlice
import Derived.Laws.BytesArg
set_option linter.unusedVariables false
set_option linter.unusedSimpArgs false
set_option linter.unusedSectionVars false
set_option linter.unnecessarySimpa false
section
namespace Go.Proofs.YtpjpgcjhdbiepaaGreat
open Go.RowKit Go.Kit CrcM Go.Proofs.YtpjpgcjhdbiepaaGreatW.PrintWords
def SomeQ (w : World) (s : Sm) (zs : List Int) (n : Int) (xs : List Int) (e : Ending) (w' : World) : Prop :=
 ∃ (v' vs' vl : Value) (t : Sm) (Fs : List Fr) (k : Nat), e = .returned (.tuple #[.agg (zV t v' vs'), vl, .int .i64 (k : Int), .agg (fv t.why t.wat)]) ∧ Hid (someR n xs s 0 = (t, Fs.map Fr.core, k)) ∧ Qr w' w.heap.size v' vs' t (zs ++ sizesS Fs) ∧ OFs w' w.heap.size vl Fs ∧ Below w.heap.size w w'
structure Qs (w : World) (gq gr g9 : Nat) (v vs v10 : Value) (s : Sm) (zs : List Int) (Fs : List Fr) (W : World) : Prop where
 q : Qr W w.heap.size v vs s zs
 b : Below w.heap.size w W
 hq : W.heap[gq]? = some (.cells (zV s v vs) 31 (0, 0))
 hr : W.heap[gr]? = some (.cells zZ 31 (0, 0))
 h9 : W.heap[g9]? = some (.cells (fv 0 0) 28 (0, 0))
 out : OFs W w.heap.size v10 Fs
 gg : w.heap.size ≤ gq ∧ w.heap.size ≤ gr ∧ w.heap.size ≤ g9 ∧ ¬ gq = gr
section
variable {w W W1 : World} {gq gr g9 : Nat} {v vs v10 : Value} {s : Sm} {zs : List Int} {Fs : List Fr} {S : Nat → Prop}
theorem Qs.below (h : Qs w gq gr g9 v vs v10 s zs Fs W) (hb : Below W.heap.size W W1) : Qs w gq gr g9 v vs v10 s zs Fs W1 :=
 ⟨h.q.below hb, below_step h.b hb, (hb.block _ (lt_of_block h.hq)).trans h.hq, (hb.block _ (lt_of_block h.hr)).trans h.hr, fault_keep h.h9 hb, h.out.below hb, h.gg⟩
theorem Qs.took (h : Qs w gq gr g9 v vs v10 s zs Fs W) (ho : Only W W1 (qfp v vs)) : W1.heap[gq]? = some (.cells (zV s v vs) 31 (0, 0)) ∧ W1.heap[gr]? = some (.cells zZ 31 (0, 0)) ∧ W1.heap[g9]? = some (.cells (fv 0 0) 28 (0, 0)) ∧ OFs W1 w.heap.size v10 Fs ∧ Below w.heap.size w W1 :=
 ⟨ho.kept h.hq (h.q.not_at h.hq), ho.kept h.hr (h.q.not_at h.hr), fault_only h.h9 ho (h.q.not_fault h.h9), h.out.only ho (fun k hk => by obtain ⟨cs, t, hc, h1, h2, _⟩ := h.q.typed k hk; exact ⟨cs, t, hc, h1, h2⟩), Below.only h.b ho h.b.size (fun k hk => (h.q.new k hk).1)⟩
end
theorem z_poison {W : World} {g : Nat} {s : Sm} {v vs : Value} (h : W.heap[g]? = some (.cells (zV s v vs) 31 (0, 0))) : (Instr.loadAt 28 (.pointer (some ⟨g, 4, none⟩))).run Tryz.prog W = .ok (.agg #[.int .i64 s.why, .int .i64 s.wat]) W :=
 run_loadAt_mid W g 4 28 [.int .i64 s.why, .int .i64 s.wat] _ (fun j u hj => by
  match j, hj with
  | 0, hj => simp at hj; subst hj; rw [cell_of_row W g 4 _ _ _ h]; rfl
  | 1, hj => simp at hj; subst hj; rw [cell_of_row W g 5 _ _ _ h]; rfl
  | j + 2, hj => simp at hj) Tryz.underlying28 rfl (fv_size s.why s.wat)
theorem some4_ret {W : World} {tmps : Array Value} {g g2 : Nat} {cs : Array Value} {x y : Int} {vl k : Value} (hp : tmps.getD 6 undef = .pointer (some ⟨g, 0, none⟩)) (hq : tmps.getD 9 undef = .pointer (some ⟨g2, 0, none⟩)) (hF : W.heap[g]? = some (.cells cs 31 (0, 0))) (hs : cs.size = 7) (hX : W.heap[g2]? = some (.cells (fv x y) 28 (0, 0))) (hv : tmps.getD 7 undef = vl) (hk : tmps.getD 8 undef = k) :
  (results Tryz.f21 tmps).run Tryz.prog W = .ok (.tuple #[.agg cs, vl, k, .agg (fv x y)]) W := by
 have hp' : tmps[6]?.getD undef = .pointer (some ⟨g, 0, none⟩) := by simpa using hp
 have hq' : tmps[9]?.getD undef = .pointer (some ⟨g2, 0, none⟩) := by simpa using hq
 subst hv hk
 have h1 := run_loadVar_row (P := Tryz.prog) W g 31 31 cs (0, 0) _ hF Tryz.underlying31 rfl (by rw [hs]; kernel_rfl)
 have h2 := run_loadVar_row (P := Tryz.prog) W g2 28 28 (fv x y) (0, 0) _ hX Tryz.underlying28 rfl (fv_size x y)
 simp [results, hp', hq', asAddr, h1, h2]
theorem someq_end {w W : World} {gq gr g9 : Nat} {v vs v10 : Value} {s t : Sm} {zs ws : List Int} {Fs : List Fr} {n : Int} {xs : List Int} {k : Nat} (h : Qs w gq gr g9 v vs v10 t ws Fs W) (hws : ws = zs ++ sizesS Fs) (hs : someR n xs s 0 = (t, Fs.map Fr.core, k)) (x y : Int) (hx : x = t.why) (hy : y = t.wat) :
  SomeQ w s zs n xs (.returned (.tuple #[.agg (zV t v vs), v10, .int .i64 (k : Int), .agg (fv x y)])) ((W.setRow gr (zV t v vs)).setRow g9 (fv x y)) ∧ ((W.setRow gr (zV t v vs)).setRow g9 (fv x y)).heap[gr]? = some (.cells (zV t v vs) 31 (0, 0)) ∧ ((W.setRow gr (zV t v vs)).setRow g9 (fv x y)).heap[g9]? = some (.cells (fv x y) 28 (0, 0)) ∧ (W.setRow gr (zV t v vs)).heap[g9]? = some (.cells (fv 0 0) 28 (0, 0)) := by
 have hne : ¬ gr = g9 := fun e => by
  have h1 := h.hr
  rw [e, h.h9] at h1
  injection h1 with h1
  injection h1 with _ h1
  exact absurd h1 (by decide)
 have ho1 := Fr.only_row W gr (zV t v vs)
 have hr1 : (W.setRow gr (zV t v vs)).heap[gr]? = some (.cells (zV t v vs) 31 (0, 0)) := setRow_heap _ _ _ _ _ _ h.hr
 have h91 := fault_only h.h9 ho1 (fun e => hne e.symm)
 have hq1 := h.q.only ho1 (fun k hk e => by subst e; exact h.q.not_at h.hr hk)
 have hf1 := h.out.only ho1 (fun k e => by subst e; exact ⟨zZ, _, h.hr, by decide, by decide⟩)
 have ho2 := Fr.only_row (W.setRow gr (zV t v vs)) g9 (fv x y)
 have hq2 := hq1.only ho2 (fun k hk e => by subst e; exact hq1.not_fault h91 hk)
 have hf2 := hf1.only ho2 (fun k e => by subst e; exact ⟨fv 0 0, _, h91, by decide, by decide⟩)
 have hb := Below.only (Below.only h.b ho1 h.b.size (fun k e => by rw [e]; exact h.gg.2.1)) ho2 (Nat.le_trans h.b.size ho1.size) (fun k e => by rw [e]; exact h.gg.2.2.1)
 subst hx hy hws
 exact ⟨⟨v, vs, v10, t, Fs, k, rfl, Lib.hid hs, hq2, hf2, hb⟩, ho2.kept hr1 hne, set_fault _ _ h91, h91⟩
def SomeRelQ (w : World) (s : Sm) (zs : List Int) (n : Int) (nn : Nat) (xs : List Int) (gq gr g9 : Nat) (g : Nat) (v10 v11 : Value) (W : World) : Prop :=
 ∃ (i : Nat) (v vs : Value) (t : Sm) (Fs : List Fr) (ws : List Int), v11 = .int .i64 (i : Int) ∧ Hid (ws = zs ++ sizesS Fs) ∧ Hid (Qs w gq gr g9 v vs v10 t ws Fs W) ∧ Hid (t.why = 0 ∧ i + g = nn ∧ Fs.length ≤ i ∧ t.came ≤ s.came + i ∧ t.whole ≤ s.whole + i) ∧
  Hid (someR n xs s 0 = ((someR n (xs.drop i) t Fs.length).1, Fs.map Fr.core ++ (someR n (xs.drop i) t Fs.length).2.1, i + (someR n (xs.drop i) t Fs.length).2.2))
theorem sizes_append (L M : List Fr) : sizesS (L ++ M) = sizesS L ++ sizesS M := by simp [sizesS]
theorem sizes_len (L : List Fr) : (sizesS L).length = L.length := by simp [sizesS]
attribute [-go_sem] Instr.loadAt Instr.storeAt Instr.build
set_option maxHeartbeats 16000000 in
set_option maxRecDepth 100000 in
theorem rSome_any {w : World} {base : Nat} {v vs : Value} {s : Sm} {zs : List Int} (h : Qr w base v vs s zs) (hw : s.why = 0) (m n : Int) (A : Option Addr) (nn c : Nat) (xs : List Int) (hx : RB w A nn xs) (hmn : (0 ≤ m ∧ n = m) ∨ (m < 0 ∧ n = nn)) (hl : nn ≤ 1048576) (hz : (zs.length + nn + 1) * 8 ≤ 140737488355328) (hcm : s.came + nn ≤ 576460752303423488) (hwh : s.whole + nn ≤ 576460752303423488) :
  Calls Tryz.prog 21 #[.agg (zV s v vs), .int .i64 m, .slice A nn c] w (SomeQ w s zs n xs) := by
 obtain ⟨A0, ca, B0, kb, rfl, rfl⟩ := h.slices
 have hq0 := heap_alloc_new w (.cells (zV s (.slice A0 s.rest.length ca) (.slice B0 zs.length kb)) 31)
 have hb0 := below_alloc (Below.refl _ w) (.cells (zV s (.slice A0 s.rest.length ca) (.slice B0 zs.length kb)) 31)
 obtain ⟨w1, hw1⟩ : ∃ W, w.alloc (.cells #[.int .i64 (s.most : Int), .slice A0 s.rest.length ca, .int .i64 (s.came : Int), .int .i64 (s.whole : Int), .int .i64 s.why, .int .i64 s.wat, .slice B0 zs.length kb] 31) = W := ⟨_, rfl⟩
 rw [show w.alloc (.cells (zV s (.slice A0 s.rest.length ca) (.slice B0 zs.length kb)) 31) = w1 from hw1] at hq0 hb0
 obtain ⟨w2, s1, hZ, hb1⟩ := z_new w1
 obtain ⟨w3, s2, hX, hb2⟩ := fault_new w2
 have hb02 := below_step (below_step hb0 hb1) hb2
 have hqw := h.below hb02
 have hq1 := (hb2.block _ (Nat.lt_of_lt_of_le (lt_of_block hq0) hb1.size)).trans ((hb1.block _ (lt_of_block hq0)).trans hq0)
 have hZ1 := (hb2.block _ (lt_of_block hZ)).trans hZ
 have HGE : Hid (w.heap.size < w1.heap.size ∧ w1.heap.size < w2.heap.size) := Lib.hid ⟨lt_of_block hq0, lt_of_block hZ⟩
 have HX := Lib.hid hx
 have HXL := Lib.hid hx.len
 have HMN := Lib.hid hmn
 have HL := Lib.hid hl
 have HZL := Lib.hid hz
 have HCM := Lib.hid hcm
 have HWH := Lib.hid hwh
 have HW := Lib.hid hw
 have HB := Lib.hid hb02
 have HH := Lib.hid h
 unfold zV
 clear h hq0 hb0 hb1 hb2 hb02 hZ hx hmn hl hz hcm hwh hw
 go_enter Tryz.func21, Tryz.ntmps21
 go_upto_region 1 with (fail)
 clear hw1 s1 s2
 obtain ⟨gq, hgq⟩ : ∃ g, w.heap.size = g := ⟨_, rfl⟩
 obtain ⟨gr, hgr⟩ : ∃ g, w1.heap.size = g := ⟨_, rfl⟩
 obtain ⟨g9, hg9⟩ : ∃ g, w2.heap.size = g := ⟨_, rfl⟩
 have HGR : Hid (w.heap.size = gq ∧ gq < gr ∧ gr < g9) := Lib.hid ⟨hgq, by rw [← hgq, ← hgr]; exact HGE.out.1, by rw [← hgr, ← hg9]; exact HGE.out.2⟩
 rw [hgq] at hq1 ⊢
 rw [hgr] at hZ1 ⊢
 rw [hg9] at hX ⊢
 clear hgq hgr hg9 HGE
 have eP := z_poison hq1
 have hne := neq_fault s.why s.wat true (by rw [HW.out, (HH.out.ok.low HW.out).1]; rfl)
 have hb00 := build_fault0
 have lz := z_load hq1
 go_wp2_with fail
 refine (rcopy_any hqw (by have := HZL.out; omega)).mono ?_
 rintro e w4 ⟨v4, vs4, rfl, hq4, hb4⟩
 have hqk := (hb4.block _ (lt_of_block hq1)).trans hq1
 have hZk := (hb4.block _ (lt_of_block hZ1)).trans hZ1
 have hXk := fault_keep hX hb4
 obtain ⟨A4, c4, B4, k4, rfl, rfl⟩ := hq4.slices
 have pz := z_put s A4 B4 s.rest.length c4 zs.length k4 hqk rfl
 have hor := Fr.only_row w4 gq (zV s (.slice A4 s.rest.length c4) (.slice B4 zs.length k4))
 have HZ : Hid (SomeRelQ w s zs n nn xs gq gr g9 nn (.slice none 0 0) (.int .i64 0) (w4.setRow gq (zV s (.slice A4 s.rest.length c4) (.slice B4 zs.length k4)))) := Lib.hid (by
  refine ⟨0, _, _, s, [], zs, rfl, Lib.hid (by simp [sizesS]), Lib.hid ⟨?_, Below.only (below_step HB.out hb4) hor (below_step HB.out hb4).size (fun k e => by rw [e]; exact Nat.le_of_eq HGR.out.1), setRow_heap _ _ _ _ _ _ hqk, hor.kept hZk (fun e => by have := HGR.out; omega), fault_only hXk hor (fun e => by have := HGR.out; omega), OFs.nil _ _, by have := HGR.out; refine ⟨?_, ?_, ?_, ?_⟩ <;> omega⟩, Lib.hid ⟨HW.out, by omega, Nat.le_refl _, by omega, by omega⟩, Lib.hid (by simp)⟩
  exact (hq4.only hor (fun k hk e => by subst e; exact hq4.not_at hqk hk)).less HB.out.size)
 clear hqw hq1 hZ1 hX hq4 hb4 hqk hZk hXk hor eP hne lz
 go_upto_region 5 with (fail)
 clear pz
 generalize w4.setRow gq (zV s (.slice A4 s.rest.length c4) (.slice B4 zs.length k4)) = w5 at *
 go_wp2_with fail
 go_loopg [10, 11] nn (fun gk v10 v11 w' => SomeRelQ w s zs n nn xs gq gr g9 gk v10 v11 w')
 case atStart => exact HZ.out
 case round =>
  clear HZ
  obtain ⟨i, v, vs, t, Fs, ws, rfl, HWS, HQ, HG, HS⟩ := hrel
  obtain ⟨A5, c5, B5, k5, rfl, rfl⟩ := HQ.out.q.slices
  obtain ⟨A10, c10, rfl⟩ := HQ.out.out.form
  have hq := HQ.out.hq
  have lz := z_load hq
  by_cases hi : i < nn
  ·have hi2 : (i : Int) < (nn : Int) := by omega
   by_cases hk : 0 ≤ m ∧ m ≤ (Fs.length : Int)
   ·have hk1 : (0 : Int) ≤ m := hk.1
    have hk2 : m ≤ (Fs.length : Int) := hk.2
    have hHS : someR n xs s 0 = (t, Fs.map Fr.core, i) := by
     rw [HS.out, some_stop (.inl (by rcases HMN.out with h | h <;> omega))]; simp
    obtain ⟨q1, q2, q3, q4⟩ := someq_end HQ.out HWS.out hHS 0 0 HG.out.1.symm ((HQ.out.q.ok.low HG.out.1).1).symm
    have pr := z_put t A5 B5 t.rest.length c5 ws.length k5 HQ.out.hr rfl
    have pf : (Instr.storeAt 28 (.pointer (some ⟨g9, 0, none⟩)) (.agg #[.int .i64 0, .int .i64 0])).run Tryz.prog _ = .ok () _ := put_fault 0 0 q4
    have HP := Lib.hid q1
    clear q1 q4 hk hq
    go_wp2_with fail
    exact bodyPost_ret (some4_ret (vl := .slice A10 Fs.length c10) (k := .int .i64 (i : Int)) rfl rfl q2 rfl q3 rfl rfl) rfl HP.out
   ·have hkk : ¬ (0 ≤ m ∧ m ≤ (Fs.length : Int)) := hk
    have HNK : Hid (¬ n ≤ (Fs.length : Int)) := Lib.hid (by have := HG.out.2.2.1; rcases HMN.out with h | h <;> omega)
    obtain ⟨ad, x, hA, hcx, hx0, hx1, HXi⟩ := (HX.out.below HQ.out.b).at_ i hi
    have hi1 : IntKind.i64.wrap ((i : Int) + 1) = (i : Int) + 1 := by rw [IntKind.wrap_i64]; have := HL.out; omega
    have HDR : Hid (xs.drop i = x :: xs.drop (i + 1)) := Lib.hid (by
     have hl : i < xs.length := by have := HXL.out; omega
     have e := HXi.out
     rw [List.getElem?_eq_getElem hl] at e
     injection e with e
     rw [List.drop_eq_getElem_cons hl, e])
    have HGA : Hid (gk - 1 < gk ∧ i + 1 + (gk - 1) = nn) := Lib.hid (by have h := HG.out.2.1; exact ⟨by omega, by omega⟩)
    have HADF : Hid (∀ k, w.heap.size ≤ k → ¬ (ad.add i).block = k) := Lib.hid (fun k hk e => by
     obtain ⟨ad', x', hA', hcx', _⟩ := HX.out.at_ i hi
     rw [hA] at hA'
     cases hA'
     have := cell_lt hcx'
     omega)
    have hQ := HQ.out.below (below_drew (Below.refl wr.heap.size wr))
    have hqd := hQ.hq
    have hcd : wr.drew.cell? (ad.add i) = some (.int .u8 x) := pw_cell_below (below_drew (Below.refl _ wr)) hcx
    have lq : ∀ W : World, W.heap[gq]? = some (.cells (zV t (.slice A5 t.rest.length c5) (.slice B5 ws.length k5)) 31 (0, 0)) → (Instr.loadAt 31 (.pointer (some ⟨gq, 0, none⟩))).run Tryz.prog W = .ok (.agg (zV t (.slice A5 t.rest.length c5) (.slice B5 ws.length k5))) W := fun W h => z_load h
    have lu : ∀ W : World, W.cell? (ad.add i) = some (.int .u8 x) → (Instr.loadAt 5 (.pointer (some (ad.add i)))).run Tryz.prog W = .ok (.int .u8 x) W := fun W h => load_cell_u8 h
    have HCW : Hid (t.came ≤ 576460752303423488 ∧ t.whole ≤ 576460752303423488 ∧ (ws.length + 1) * 8 ≤ 140737488355328) := Lib.hid (by
     have h1 := HG.out; have h2 := HCM.out; have h3 := HWH.out; have h4 := HZL.out
     rw [HWS.out, List.length_append, sizes_len]
     refine ⟨?_, ?_, ?_⟩ <;> omega)
    have hgu : (0 ≤ m ∧ (Fs.length : Int) < m) ∨ m < 0 := by omega
    subst hA
    clear hcx hq lz hk hkk hi
    rcases hgu with ⟨hm0, hm1⟩ | hm0
    have hm2 : ¬ m ≤ (Fs.length : Int) := by omega
    go_upto_region 10 with (fail)
    clear hm0 hm1 hm2
    rotate_left
    have hm2 : ¬ 0 ≤ m := by omega
    go_upto_region 10 with (fail)
    clear hm0 hm2
    all_goals
     refine wp_region_held_drew (S := fun W => W.heap[gq]? = some (.cells (zV t (.slice A5 t.rest.length c5) (.slice B5 ws.length k5)) 31 (0, 0)) ∧ W.cell? (ad.add i) = some (.int .u8 x)) (by kernel_rfl) (⟨hqd, hcd⟩) (fun hHeld => ?_)
     generalize wr.drew = wm0 at *
     refine Go.Kit.tk 0 (.agg (zV t (.slice A5 t.rest.length c5) (.slice B5 ws.length k5))) rfl ?_
     refine Go.Kit.tk 1 (.slice (some ad) nn c) rfl ?_
     refine Go.Kit.tk 2 (.int .i64 (i : Int)) rfl ?_
     refine Go.Kit.tk 3 (.pointer (some (ad.add i))) rfl ?_
     refine Go.Kit.tk 4 (.int .u8 x) rfl ?_
     refine wpAnyH_ready (rs := [5, 9]) (by kernel_rfl) (by decide) (AllReadyH.cons (o := ⟨_, _, _, _, _, _⟩) rfl (fun K hK => ?_) (AllReadyH.cons (o := ⟨_, _, _, _, _, _⟩) rfl (fun K hK => ?_) AllReadyH.nil))
     ·skip
      rw [if_pos (by kernel_rfl)]
      go_simp
      refine (rtake_any hQ.q HG.out.1 hQ.b.size x hx0 hx1 HCW.out.1 HCW.out.2.1 HCW.out.2.2).mono ?_
      rintro e wm1 ⟨v6, vs6, vl6, u, Gs, rfl, HT, hq6, hG6, ho6, hon6⟩
      have HTO := Lib.hid (hQ.took ho6)
      have HC6 := Lib.hid (ho6.cell hHeld.2 (fun hk => HADF.out _ (hQ.q.new _ hk).1 rfl))
      have hG7 : OFs wm1 w.heap.size vl6 Gs := hG6.less hQ.b.size
      obtain ⟨us, hus⟩ : ∃ us, ws ++ sizesS Gs = us := ⟨_, rfl⟩
      have HUS : Hid (us = zs ++ sizesS (Fs ++ Gs)) := Lib.hid (by rw [← hus, HWS.out, sizes_append, List.append_assoc])
      rw [hus] at hq6
      obtain ⟨A6, c6, B6, k6, rfl, rfl⟩ := hq6.slices
      clear hG6 ho6 hon6 hus
      go_wp2_with fail
      refine hK.out _ _ (⟨HTO.out.1, HC6.out⟩) (fun hHeld => ?_)
      clear hK K
      try simp only [Act.put, List.setIfInBounds_toArray, List.set_cons_zero, List.set_cons_succ]
      refine Go.Kit.tk 6 (.tuple #[.agg (zV u (.slice A6 u.rest.length c6) (.slice B6 us.length k6)), vl6]) rfl ?_
      refine Go.Kit.tk 7 (.agg (zV u (.slice A6 u.rest.length c6) (.slice B6 us.length k6))) rfl ?_
      refine Go.Kit.tk 8 vl6 rfl ?_
      refine wpAnyH_ready (rs := [9]) (by kernel_rfl) (by decide) (AllReadyH.cons (o := ⟨_, _, _, _, _, _⟩) rfl (fun K hK => ?_) AllReadyH.nil)
      rw [if_pos (by kernel_rfl)]
      go_simp
      obtain ⟨wm2, s0, hZ12, hbx⟩ := z_new wm1
      rw [s0]
      obtain ⟨g12, hg12⟩ : ∃ g, wm1.heap.size = g := ⟨_, rfl⟩
      have hgl : w.heap.size ≤ g12 ∧ gq < g12 ∧ gr < g12 := by have h1 := lt_of_block HTO.out.1; have h2 := lt_of_block HTO.out.2.1; have h3 := (HTO.out.2.2.2.2).size; omega
      have hqn := (hbx.block _ (lt_of_block hHeld.1)).trans hHeld.1
      have hcn := pw_cell_below hbx hHeld.2
      replace hq6 := hq6.below hbx
      replace hG7 := hG7.below hbx
      replace HTO := Lib.hid (And.intro ((hbx.block _ (lt_of_block HTO.out.1)).trans HTO.out.1) (And.intro ((hbx.block _ (lt_of_block HTO.out.2.1)).trans HTO.out.2.1) (And.intro (fault_keep HTO.out.2.2.1 hbx) (And.intro (HTO.out.2.2.2.1.below hbx) (below_step HTO.out.2.2.2.2 hbx)))))
      rw [hg12] at hZ12 ⊢
      clear hbx hg12 s0
      refine hK.out _ _ (⟨hqn, hcn⟩) (fun hHeld => ?_)
      clear hK K
      try simp only [Act.put, List.setIfInBounds_toArray, List.set_cons_zero, List.set_cons_succ]
      refine wpAnyH_ready (rs := [10]) (by kernel_rfl) (by decide) (AllReadyH.cons (o := ⟨_, _, _, _, _, _⟩) rfl (fun K hK => ?_) AllReadyH.nil)
      have p12 := z_put u A6 B6 u.rest.length c6 us.length k6 hZ12 rfl
      have hor := Fr.only_row wm2 g12 (zV u (.slice A6 u.rest.length c6) (.slice B6 us.length k6))
      have hZe : (wm2.setRow g12 (zV u (.slice A6 u.rest.length c6) (.slice B6 us.length k6))).heap[g12]? = some (.cells (zV u (.slice A6 u.rest.length c6) (.slice B6 us.length k6)) 31 (0, 0)) := setRow_heap _ _ _ _ _ _ hZ12
      have hqe := hor.kept hHeld.1 (fun e => by omega)
      have hce := hor.cell hHeld.2 (HADF.out g12 hgl.1)
      rw [if_pos (by kernel_rfl)]
      go_simp
      refine hK.out _ _ (⟨hqe, hce⟩) (fun hHeld => ?_)
      clear hK K
      try simp only [Act.put, List.setIfInBounds_toArray, List.set_cons_zero, List.set_cons_succ]
      refine Go.Kit.tk 11 vl6 rfl ?_
      refine wpAnyH_done (by kernel_rfl) ?_ _
      have hq8 := hq6.only hor (fun k hk e => by subst e; exact hq6.not_at hZ12 hk)
      have hr8 := hor.kept HTO.out.2.1 (fun e => by omega)
      have h98 := fault_only HTO.out.2.2.1 hor (fun e => by have h1 := HTO.out.2.2.1; rw [e, hZ12] at h1; injection h1 with h1; injection h1 with _ h1; exact absurd h1 (by decide))
      have hty : ∀ k, k = g12 → ∃ cs t, wm2.heap[k]? = some (.cells cs t (0, 0)) ∧ t ≠ 48 ∧ t ≠ 9 := fun k e => by subst e; exact ⟨zZ, _, hZ12, by decide, by decide⟩
      have hF8 := HTO.out.2.2.2.1.only hor hty
      have hG8 := hG7.only hor hty
      have hB8 := Below.only HTO.out.2.2.2.2 hor HTO.out.2.2.2.2.size (fun k e => by rw [e]; exact hgl.1)
      clear HTO hq6 hG7 hor hZ12 hce p12 hty
      generalize wm2.setRow g12 (zV u (.slice A6 u.rest.length c6) (.slice B6 us.length k6)) = w8 at *
      have l12 := z_load hZe
      have pq := z_put u A6 B6 u.rest.length c6 us.length k6 hqe rfl
      have hor := Fr.only_row w8 gq (zV u (.slice A6 u.rest.length c6) (.slice B6 us.length k6))
      have hq9 : (w8.setRow gq (zV u (.slice A6 u.rest.length c6) (.slice B6 us.length k6))).heap[gq]? = some (.cells (zV u (.slice A6 u.rest.length c6) (.slice B6 us.length k6)) 31 (0, 0)) := setRow_heap _ _ _ _ _ _ hqe
      have hty : ∀ k, k = gq → ∃ cs t, w8.heap[k]? = some (.cells cs t (0, 0)) ∧ t ≠ 48 ∧ t ≠ 9 := fun k e => by subst e; exact ⟨_, _, hqe, by decide, by decide⟩
      have hF9 := hF8.only hor hty
      have hG9 := hG8.only hor hty
      have HQ9 : Hid (Qs w gq gr g9 (.slice A6 u.rest.length c6) (.slice B6 us.length k6) (.slice A10 Fs.length c10) u us Fs (w8.setRow gq (zV u (.slice A6 u.rest.length c6) (.slice B6 us.length k6)))) := Lib.hid ⟨hq8.only hor (fun k hk e => by subst e; exact hq8.not_at hqe hk), Below.only hB8 hor hB8.size (fun k e => by rw [e]; exact hQ.gg.1), hq9, hor.kept hr8 (fun e => hQ.gg.2.2.2 e.symm), fault_only h98 hor (fun e => by have h1 := h98; rw [e, hqe] at h1; injection h1 with h1; injection h1 with _ h1; exact absurd h1 (by decide)), hF9, hQ.gg⟩
      clear hq8 hr8 h98 hF8 hG8 hB8 hZe hor hqe hty hF9
      go_upto_region 12 with (fail)
      clear l12 pq
      generalize w8.setRow gq (zV u (.slice A6 u.rest.length c6) (.slice B6 us.length k6)) = w9 at *
      obtain ⟨A7, c7, rfl⟩ := hG9.form
      have hS2 : someR n xs s 0 = ((someR n (xs.drop (i + 1)) u (Fs.length + Gs.length)).1, (Fs ++ Gs).map Fr.core ++ (someR n (xs.drop (i + 1)) u (Fs.length + Gs.length)).2.1, (i + 1) + (someR n (xs.drop (i + 1)) u (Fs.length + Gs.length)).2.2) := by
       rw [HS.out, HDR.out, some_step (Int.not_le.2 HNK.out) HG.out.1 HT.out]
       simp only [List.length_map, List.map_append, List.append_assoc, Prod.mk.injEq, true_and]
       omega
      have HS2 := Lib.hid hS2
      have HG2 : Hid ((Fs ++ Gs).length ≤ i + 1 ∧ u.came ≤ s.came + (i + 1) ∧ u.whole ≤ s.whole + (i + 1)) := Lib.hid (by
       have h1 := take_len t x
       have h2 := take_came t x
       have h3 := take_whole t x
       rw [HT.out] at h1 h2 h3
       dsimp only at h1 h2 h3
       rw [List.length_map] at h1
       have h4 := HG.out
       rw [List.length_append]
       refine ⟨?_, ?_, ?_⟩ <;> omega)
      have HLN : Hid ((Fs.length + Gs.length) * 136 ≤ 140737488355328) := Lib.hid (by have h1 := HG2.out.1; rw [List.length_append] at h1; have := HL.out; omega)
      have hrow := HQ9.out.out
      clear hS2
      go_wp2_with (at_builtin; refine push_frames (w0 := w9) w.heap.size rfl (.tmp 52) (.tmp 53) rfl rfl rfl hrow hG9 (Below.refl _ _) HQ9.out.b.size HLN.out ?_)
      intro v11 wa hOa _ hga _
      have hoa : Only w9 wa (rf (.slice A10 Fs.length c10)) := (Only.refl _ _).grown hga (fun k e => .inl e)
      have HQa : Hid (Qs w gq gr g9 (.slice A6 u.rest.length c6) (.slice B6 us.length k6) v11 u us (Fs ++ Gs) wa) := Lib.hid (by
       have hQ9 := HQ9.out
       exact ⟨hQ9.q.only hoa (fun k hk e => by
         obtain ⟨cs, t, hc, ht, _⟩ := hQ9.q.typed k hk
         obtain ⟨cs', hc'⟩ := own_typed hrow.row e
         rw [hc] at hc'
         injection hc' with hc'
         injection hc' with _ hc'
         exact ht hc'), Below.only hQ9.b hoa hQ9.b.size (fun k e => (own_new hrow.row k e).1), hoa.kept hQ9.hq (own_not hrow.row hQ9.hq (by decide)), hoa.kept hQ9.hr (own_not hrow.row hQ9.hr (by decide)), fault_only hQ9.h9 hoa (own_not hrow.row hQ9.h9 (by decide)), hOa, hQ9.gg⟩)
      clear hrow hG9 hOa hga hoa HQ9 hQ
      have eP := z_poison HQa.out.hq
      by_cases hw : u.why = 0
      ·have hne := neq_fault u.why u.wat true (by rw [hw, (HQa.out.q.ok.low hw).1]; rfl)
       have HE : Hid (SomeRelQ w s zs n nn xs gq gr g9 (gk - 1) v11 (.int .i64 ((i : Int) + 1)) wa) := Lib.hid (by
        refine ⟨i + 1, _, _, u, Fs ++ Gs, us, by simp, Lib.hid HUS.out, Lib.hid HQa.out, Lib.hid ⟨hw, HGA.out.2, HG2.out.1, HG2.out.2.1, HG2.out.2.2⟩, Lib.hid ?_⟩
        rw [List.length_append]
        exact HS2.out)
       clear hw HQa
       go_wp2_with fail
       go_roundg (gk - 1)
       case measure => exact HGA.out.1
       case rel => exact HE.out
      ·have hne := neq_fault u.why u.wat false (by simp [hw])
       have hHS : someR n xs s 0 = (u, (Fs ++ Gs).map Fr.core, i + 1) := by
        rw [HS2.out, some_stop (.inr hw)]; simp
       have HHS := Lib.hid hHS
       clear hw hHS
       go_upto_region 14 with (fail)
       clear eP hne
       have hQd := HQa.out.below (below_drew (Below.refl wa.heap.size wa))
       obtain ⟨q1, q2, q3, q4⟩ := someq_end hQd HUS.out HHS.out u.why u.wat rfl rfl
       have pr := z_put u A6 B6 u.rest.length c6 us.length k6 hQd.hr rfl
       have pf : (Instr.storeAt 28 (.pointer (some ⟨g9, 0, none⟩)) (.agg #[.int .i64 u.why, .int .i64 u.wat])).run Tryz.prog _ = .ok () _ := put_fault u.why u.wat q4
       have HP := Lib.hid q1
       have l59 : ∀ W : World, W.heap[gq]? = some (.cells (zV u (.slice A6 u.rest.length c6) (.slice B6 us.length k6)) 31 (0, 0)) → (Instr.loadAt 31 (.pointer (some ⟨gq, 0, none⟩))).run Tryz.prog W = .ok (.agg (zV u (.slice A6 u.rest.length c6) (.slice B6 us.length k6))) W := fun W h => z_load h
       have l64 : ∀ W : World, W.heap[gq]? = some (.cells (zV u (.slice A6 u.rest.length c6) (.slice B6 us.length k6)) 31 (0, 0)) → (Instr.loadAt 28 (.pointer (some ⟨gq, 4, none⟩))).run Tryz.prog W = .ok (.agg #[.int .i64 u.why, .int .i64 u.wat]) W := fun W h => z_poison h
       have hqd := hQd.hq
       have hqe := (Fr.only_row wa.drew gr (zV u (.slice A6 u.rest.length c6) (.slice B6 us.length k6))).kept hqd hQd.gg.2.2.2
       have hqf := (Fr.only_row (wa.drew.setRow gr (zV u (.slice A6 u.rest.length c6) (.slice B6 us.length k6))) g9 (fv u.why u.wat)).kept hqe (fun e => by have h1 := hqd; rw [e, hQd.h9] at h1; injection h1 with h1; injection h1 with _ h1; exact absurd h1 (by decide))
       have k62 : IntKind.i64.wrap ((i : Int) + 1) = ((i + 1 : Nat) : Int) := by rw [hi1]; push_cast; rfl
       clear q1 q4 hi1
       refine wp_region_held_drew (S := fun W => W.heap[gq]? = some (.cells (zV u (.slice A6 u.rest.length c6) (.slice B6 us.length k6)) 31 (0, 0))) (by kernel_rfl) (hqd) (fun hHeld => ?_)
       refine Go.Kit.tk 0 (.agg (zV u (.slice A6 u.rest.length c6) (.slice B6 us.length k6))) rfl ?_
       refine Go.Kit.tk 1 v11 rfl ?_
       refine Go.Kit.tk 2 (.int .i64 (i : Int)) rfl ?_
       refine Go.Kit.tk 3 (.int .i64 ((i + 1 : Nat) : Int)) rfl ?_
       refine Go.Kit.tk 4 (.pointer (some ⟨gq, 4, none⟩)) rfl ?_
       refine Go.Kit.tk 5 (.agg #[.int .i64 u.why, .int .i64 u.wat]) rfl ?_
       refine wpAnyH_ready (rs := [6]) (by kernel_rfl) (by decide) (AllReadyH.cons (o := ⟨_, _, _, _, _, _⟩) rfl (fun K hK => ?_) AllReadyH.nil)
       rw [if_pos (by kernel_rfl)]
       go_simp
       refine hK.out _ _ (hqe) (fun hHeld => ?_)
       clear hK K
       try simp only [Act.put, List.setIfInBounds_toArray, List.set_cons_zero, List.set_cons_succ]
       refine Go.Kit.tk 7 v11 rfl ?_
       refine Go.Kit.tk 8 (.int .i64 ((i + 1 : Nat) : Int)) rfl ?_
       refine wpAnyH_ready (rs := [9]) (by kernel_rfl) (by decide) (AllReadyH.cons (o := ⟨_, _, _, _, _, _⟩) rfl (fun K hK => ?_) AllReadyH.nil)
       rw [if_pos (by kernel_rfl)]
       go_simp
       refine hK.out _ _ (hqf) (fun hHeld => ?_)
       clear hK K
       try simp only [Act.put, List.setIfInBounds_toArray, List.set_cons_zero, List.set_cons_succ]
       refine wpAnyH_done (by kernel_rfl) ?_ _
       go_wp2_with fail
       exact bodyPost_ret (some4_ret rfl rfl q2 rfl q3 rfl rfl) rfl HP.out
     ·skip
      rw [if_pos (by kernel_rfl)]
      go_simp
      obtain ⟨wm1, s0, hZ12, hbx⟩ := z_new wm0
      rw [s0]
      obtain ⟨g12, hg12⟩ : ∃ g, wm0.heap.size = g := ⟨_, rfl⟩
      have hgl : w.heap.size ≤ g12 ∧ gq < g12 ∧ gr < g12 := by have h1 := lt_of_block hQ.hq; have h2 := lt_of_block hQ.hr; have h3 := (hQ.b).size; omega
      have hqn := (hbx.block _ (lt_of_block hHeld.1)).trans hHeld.1
      have hcn := pw_cell_below hbx hHeld.2
      replace hQ := hQ.below hbx
      rw [hg12] at hZ12 ⊢
      clear hbx hg12 s0
      refine hK.out _ _ (⟨hqn, hcn⟩) (fun hHeld => ?_)
      clear hK K
      try simp only [Act.put, List.setIfInBounds_toArray, List.set_cons_zero, List.set_cons_succ]
      refine wpAnyH_ready (rs := [5]) (by kernel_rfl) (by decide) (AllReadyH.cons (o := ⟨_, _, _, _, _, _⟩) rfl (fun K hK => ?_) AllReadyH.nil)
      rw [if_pos (by kernel_rfl)]
      go_simp
      refine (rtake_any hQ.q HG.out.1 hQ.b.size x hx0 hx1 HCW.out.1 HCW.out.2.1 HCW.out.2.2).mono ?_
      rintro e wm2 ⟨v6, vs6, vl6, u, Gs, rfl, HT, hq6, hG6, ho6, hon6⟩
      have HTO := Lib.hid (hQ.took ho6)
      have HC6 := Lib.hid (ho6.cell hHeld.2 (fun hk => HADF.out _ (hQ.q.new _ hk).1 rfl))
      have hG7 : OFs wm2 w.heap.size vl6 Gs := hG6.less hQ.b.size
      replace hZ12 := ho6.kept hZ12 (hQ.q.not_at hZ12)
      obtain ⟨us, hus⟩ : ∃ us, ws ++ sizesS Gs = us := ⟨_, rfl⟩
      have HUS : Hid (us = zs ++ sizesS (Fs ++ Gs)) := Lib.hid (by rw [← hus, HWS.out, sizes_append, List.append_assoc])
      rw [hus] at hq6
      obtain ⟨A6, c6, B6, k6, rfl, rfl⟩ := hq6.slices
      clear hG6 ho6 hon6 hus
      go_wp2_with fail
      refine hK.out _ _ (⟨HTO.out.1, HC6.out⟩) (fun hHeld => ?_)
      clear hK K
      try simp only [Act.put, List.setIfInBounds_toArray, List.set_cons_zero, List.set_cons_succ]
      refine Go.Kit.tk 6 (.tuple #[.agg (zV u (.slice A6 u.rest.length c6) (.slice B6 us.length k6)), vl6]) rfl ?_
      refine Go.Kit.tk 7 (.agg (zV u (.slice A6 u.rest.length c6) (.slice B6 us.length k6))) rfl ?_
      refine Go.Kit.tk 8 vl6 rfl ?_
      refine wpAnyH_ready (rs := [10]) (by kernel_rfl) (by decide) (AllReadyH.cons (o := ⟨_, _, _, _, _, _⟩) rfl (fun K hK => ?_) AllReadyH.nil)
      have p12 := z_put u A6 B6 u.rest.length c6 us.length k6 hZ12 rfl
      have hor := Fr.only_row wm2 g12 (zV u (.slice A6 u.rest.length c6) (.slice B6 us.length k6))
      have hZe : (wm2.setRow g12 (zV u (.slice A6 u.rest.length c6) (.slice B6 us.length k6))).heap[g12]? = some (.cells (zV u (.slice A6 u.rest.length c6) (.slice B6 us.length k6)) 31 (0, 0)) := setRow_heap _ _ _ _ _ _ hZ12
      have hqe := hor.kept hHeld.1 (fun e => by omega)
      have hce := hor.cell hHeld.2 (HADF.out g12 hgl.1)
      rw [if_pos (by kernel_rfl)]
      go_simp
      refine hK.out _ _ (⟨hqe, hce⟩) (fun hHeld => ?_)
      clear hK K
      try simp only [Act.put, List.setIfInBounds_toArray, List.set_cons_zero, List.set_cons_succ]
      refine Go.Kit.tk 11 vl6 rfl ?_
      refine wpAnyH_done (by kernel_rfl) ?_ _
      have hq8 := hq6.only hor (fun k hk e => by subst e; exact hq6.not_at hZ12 hk)
      have hr8 := hor.kept HTO.out.2.1 (fun e => by omega)
      have h98 := fault_only HTO.out.2.2.1 hor (fun e => by have h1 := HTO.out.2.2.1; rw [e, hZ12] at h1; injection h1 with h1; injection h1 with _ h1; exact absurd h1 (by decide))
      have hty : ∀ k, k = g12 → ∃ cs t, wm2.heap[k]? = some (.cells cs t (0, 0)) ∧ t ≠ 48 ∧ t ≠ 9 := fun k e => by subst e; exact ⟨zZ, _, hZ12, by decide, by decide⟩
      have hF8 := HTO.out.2.2.2.1.only hor hty
      have hG8 := hG7.only hor hty
      have hB8 := Below.only HTO.out.2.2.2.2 hor HTO.out.2.2.2.2.size (fun k e => by rw [e]; exact hgl.1)
      clear HTO hq6 hG7 hor hZ12 hce p12 hty
      generalize wm2.setRow g12 (zV u (.slice A6 u.rest.length c6) (.slice B6 us.length k6)) = w8 at *
      have l12 := z_load hZe
      have pq := z_put u A6 B6 u.rest.length c6 us.length k6 hqe rfl
      have hor := Fr.only_row w8 gq (zV u (.slice A6 u.rest.length c6) (.slice B6 us.length k6))
      have hq9 : (w8.setRow gq (zV u (.slice A6 u.rest.length c6) (.slice B6 us.length k6))).heap[gq]? = some (.cells (zV u (.slice A6 u.rest.length c6) (.slice B6 us.length k6)) 31 (0, 0)) := setRow_heap _ _ _ _ _ _ hqe
      have hty : ∀ k, k = gq → ∃ cs t, w8.heap[k]? = some (.cells cs t (0, 0)) ∧ t ≠ 48 ∧ t ≠ 9 := fun k e => by subst e; exact ⟨_, _, hqe, by decide, by decide⟩
      have hF9 := hF8.only hor hty
      have hG9 := hG8.only hor hty
      have HQ9 : Hid (Qs w gq gr g9 (.slice A6 u.rest.length c6) (.slice B6 us.length k6) (.slice A10 Fs.length c10) u us Fs (w8.setRow gq (zV u (.slice A6 u.rest.length c6) (.slice B6 us.length k6)))) := Lib.hid ⟨hq8.only hor (fun k hk e => by subst e; exact hq8.not_at hqe hk), Below.only hB8 hor hB8.size (fun k e => by rw [e]; exact hQ.gg.1), hq9, hor.kept hr8 (fun e => hQ.gg.2.2.2 e.symm), fault_only h98 hor (fun e => by have h1 := h98; rw [e, hqe] at h1; injection h1 with h1; injection h1 with _ h1; exact absurd h1 (by decide)), hF9, hQ.gg⟩
      clear hq8 hr8 h98 hF8 hG8 hB8 hZe hor hqe hty hF9
      go_upto_region 12 with (fail)
      clear l12 pq
      generalize w8.setRow gq (zV u (.slice A6 u.rest.length c6) (.slice B6 us.length k6)) = w9 at *
      obtain ⟨A7, c7, rfl⟩ := hG9.form
      have hS2 : someR n xs s 0 = ((someR n (xs.drop (i + 1)) u (Fs.length + Gs.length)).1, (Fs ++ Gs).map Fr.core ++ (someR n (xs.drop (i + 1)) u (Fs.length + Gs.length)).2.1, (i + 1) + (someR n (xs.drop (i + 1)) u (Fs.length + Gs.length)).2.2) := by
       rw [HS.out, HDR.out, some_step (Int.not_le.2 HNK.out) HG.out.1 HT.out]
       simp only [List.length_map, List.map_append, List.append_assoc, Prod.mk.injEq, true_and]
       omega
      have HS2 := Lib.hid hS2
      have HG2 : Hid ((Fs ++ Gs).length ≤ i + 1 ∧ u.came ≤ s.came + (i + 1) ∧ u.whole ≤ s.whole + (i + 1)) := Lib.hid (by
       have h1 := take_len t x
       have h2 := take_came t x
       have h3 := take_whole t x
       rw [HT.out] at h1 h2 h3
       dsimp only at h1 h2 h3
       rw [List.length_map] at h1
       have h4 := HG.out
       rw [List.length_append]
       refine ⟨?_, ?_, ?_⟩ <;> omega)
      have HLN : Hid ((Fs.length + Gs.length) * 136 ≤ 140737488355328) := Lib.hid (by have h1 := HG2.out.1; rw [List.length_append] at h1; have := HL.out; omega)
      have hrow := HQ9.out.out
      clear hS2
      go_wp2_with (at_builtin; refine push_frames (w0 := w9) w.heap.size rfl (.tmp 52) (.tmp 53) rfl rfl rfl hrow hG9 (Below.refl _ _) HQ9.out.b.size HLN.out ?_)
      intro v11 wa hOa _ hga _
      have hoa : Only w9 wa (rf (.slice A10 Fs.length c10)) := (Only.refl _ _).grown hga (fun k e => .inl e)
      have HQa : Hid (Qs w gq gr g9 (.slice A6 u.rest.length c6) (.slice B6 us.length k6) v11 u us (Fs ++ Gs) wa) := Lib.hid (by
       have hQ9 := HQ9.out
       exact ⟨hQ9.q.only hoa (fun k hk e => by
         obtain ⟨cs, t, hc, ht, _⟩ := hQ9.q.typed k hk
         obtain ⟨cs', hc'⟩ := own_typed hrow.row e
         rw [hc] at hc'
         injection hc' with hc'
         injection hc' with _ hc'
         exact ht hc'), Below.only hQ9.b hoa hQ9.b.size (fun k e => (own_new hrow.row k e).1), hoa.kept hQ9.hq (own_not hrow.row hQ9.hq (by decide)), hoa.kept hQ9.hr (own_not hrow.row hQ9.hr (by decide)), fault_only hQ9.h9 hoa (own_not hrow.row hQ9.h9 (by decide)), hOa, hQ9.gg⟩)
      clear hrow hG9 hOa hga hoa HQ9 hQ
      have eP := z_poison HQa.out.hq
      by_cases hw : u.why = 0
      ·have hne := neq_fault u.why u.wat true (by rw [hw, (HQa.out.q.ok.low hw).1]; rfl)
       have HE : Hid (SomeRelQ w s zs n nn xs gq gr g9 (gk - 1) v11 (.int .i64 ((i : Int) + 1)) wa) := Lib.hid (by
        refine ⟨i + 1, _, _, u, Fs ++ Gs, us, by simp, Lib.hid HUS.out, Lib.hid HQa.out, Lib.hid ⟨hw, HGA.out.2, HG2.out.1, HG2.out.2.1, HG2.out.2.2⟩, Lib.hid ?_⟩
        rw [List.length_append]
        exact HS2.out)
       clear hw HQa
       go_wp2_with fail
       go_roundg (gk - 1)
       case measure => exact HGA.out.1
       case rel => exact HE.out
      ·have hne := neq_fault u.why u.wat false (by simp [hw])
       have hHS : someR n xs s 0 = (u, (Fs ++ Gs).map Fr.core, i + 1) := by
        rw [HS2.out, some_stop (.inr hw)]; simp
       have HHS := Lib.hid hHS
       clear hw hHS
       go_upto_region 14 with (fail)
       clear eP hne
       have hQd := HQa.out.below (below_drew (Below.refl wa.heap.size wa))
       obtain ⟨q1, q2, q3, q4⟩ := someq_end hQd HUS.out HHS.out u.why u.wat rfl rfl
       have pr := z_put u A6 B6 u.rest.length c6 us.length k6 hQd.hr rfl
       have pf : (Instr.storeAt 28 (.pointer (some ⟨g9, 0, none⟩)) (.agg #[.int .i64 u.why, .int .i64 u.wat])).run Tryz.prog _ = .ok () _ := put_fault u.why u.wat q4
       have HP := Lib.hid q1
       have l59 : ∀ W : World, W.heap[gq]? = some (.cells (zV u (.slice A6 u.rest.length c6) (.slice B6 us.length k6)) 31 (0, 0)) → (Instr.loadAt 31 (.pointer (some ⟨gq, 0, none⟩))).run Tryz.prog W = .ok (.agg (zV u (.slice A6 u.rest.length c6) (.slice B6 us.length k6))) W := fun W h => z_load h
       have l64 : ∀ W : World, W.heap[gq]? = some (.cells (zV u (.slice A6 u.rest.length c6) (.slice B6 us.length k6)) 31 (0, 0)) → (Instr.loadAt 28 (.pointer (some ⟨gq, 4, none⟩))).run Tryz.prog W = .ok (.agg #[.int .i64 u.why, .int .i64 u.wat]) W := fun W h => z_poison h
       have hqd := hQd.hq
       have hqe := (Fr.only_row wa.drew gr (zV u (.slice A6 u.rest.length c6) (.slice B6 us.length k6))).kept hqd hQd.gg.2.2.2
       have hqf := (Fr.only_row (wa.drew.setRow gr (zV u (.slice A6 u.rest.length c6) (.slice B6 us.length k6))) g9 (fv u.why u.wat)).kept hqe (fun e => by have h1 := hqd; rw [e, hQd.h9] at h1; injection h1 with h1; injection h1 with _ h1; exact absurd h1 (by decide))
       have k62 : IntKind.i64.wrap ((i : Int) + 1) = ((i + 1 : Nat) : Int) := by rw [hi1]; push_cast; rfl
       clear q1 q4 hi1
       refine wp_region_held_drew (S := fun W => W.heap[gq]? = some (.cells (zV u (.slice A6 u.rest.length c6) (.slice B6 us.length k6)) 31 (0, 0))) (by kernel_rfl) (hqd) (fun hHeld => ?_)
       refine Go.Kit.tk 0 (.agg (zV u (.slice A6 u.rest.length c6) (.slice B6 us.length k6))) rfl ?_
       refine Go.Kit.tk 1 v11 rfl ?_
       refine Go.Kit.tk 2 (.int .i64 (i : Int)) rfl ?_
       refine Go.Kit.tk 3 (.int .i64 ((i + 1 : Nat) : Int)) rfl ?_
       refine Go.Kit.tk 4 (.pointer (some ⟨gq, 4, none⟩)) rfl ?_
       refine Go.Kit.tk 5 (.agg #[.int .i64 u.why, .int .i64 u.wat]) rfl ?_
       refine wpAnyH_ready (rs := [6]) (by kernel_rfl) (by decide) (AllReadyH.cons (o := ⟨_, _, _, _, _, _⟩) rfl (fun K hK => ?_) AllReadyH.nil)
       rw [if_pos (by kernel_rfl)]
       go_simp
       refine hK.out _ _ (hqe) (fun hHeld => ?_)
       clear hK K
       try simp only [Act.put, List.setIfInBounds_toArray, List.set_cons_zero, List.set_cons_succ]
       refine Go.Kit.tk 7 v11 rfl ?_
       refine Go.Kit.tk 8 (.int .i64 ((i + 1 : Nat) : Int)) rfl ?_
       refine wpAnyH_ready (rs := [9]) (by kernel_rfl) (by decide) (AllReadyH.cons (o := ⟨_, _, _, _, _, _⟩) rfl (fun K hK => ?_) AllReadyH.nil)
       rw [if_pos (by kernel_rfl)]
       go_simp
       refine hK.out _ _ (hqf) (fun hHeld => ?_)
       clear hK K
       try simp only [Act.put, List.setIfInBounds_toArray, List.set_cons_zero, List.set_cons_succ]
       refine wpAnyH_done (by kernel_rfl) ?_ _
       go_wp2_with fail
       exact bodyPost_ret (some4_ret rfl rfl q2 rfl q3 rfl rfl) rfl HP.out
  ·have hi2 : ¬ (i : Int) < (nn : Int) := by omega
   obtain rfl : i = nn := by have := HG.out.2.1; omega
   have hHS : someR n xs s 0 = (t, Fs.map Fr.core, i) := by
    rw [HS.out, List.drop_of_length_le (by have := HXL.out; omega), someR]; simp
   obtain ⟨q1, q2, q3, q4⟩ := someq_end HQ.out HWS.out hHS 0 0 HG.out.1.symm ((HQ.out.q.ok.low HG.out.1).1).symm
   have pr := z_put t A5 B5 t.rest.length c5 ws.length k5 HQ.out.hr rfl
   have pf : (Instr.storeAt 28 (.pointer (some ⟨g9, 0, none⟩)) (.agg #[.int .i64 0, .int .i64 0])).run Tryz.prog _ = .ok () _ := put_fault 0 0 q4
   have HP := Lib.hid q1
   clear q1 q4 hi hq
   go_wp2_with fail
   exact bodyPost_ret (some4_ret (vl := .slice A10 Fs.length c10) (k := .int .i64 (i : Int)) rfl rfl q2 rfl q3 rfl rfl) rfl HP.out
end Go.Proofs.YtpjpgcjhdbiepaaGreat
end
section
namespace Go.Proofs.YtpjpgcjhdbiepaaGreat
open Go.RowKit Go.Kit CrcM Go.Proofs.YtpjpgcjhdbiepaaGreatW.PrintWords
def FeedQ (w : World) (s : Sm) (zs : List Int) (xs : List Int) (e : Ending) (w' : World) : Prop :=
 ∃ (v' vs' vl : Value) (t : Sm) (Fs : List Fr), e = .returned (.tuple #[.agg (zV t v' vs'), vl, .agg (fv t.why t.wat)]) ∧ Hid (feedS xs s = (t, Fs.map Fr.core)) ∧ Qr w' w.heap.size v' vs' t (zs ++ sizesS Fs) ∧ OFs w' w.heap.size vl Fs ∧ Below w.heap.size w w'
theorem feed4_ret {W : World} {tmps : Array Value} {g g2 : Nat} {cs : Array Value} {x y : Int} {vl : Value} (hp : tmps.getD 4 undef = .pointer (some ⟨g, 0, none⟩)) (hq : tmps.getD 6 undef = .pointer (some ⟨g2, 0, none⟩)) (hF : W.heap[g]? = some (.cells cs 31 (0, 0))) (hs : cs.size = 7) (hX : W.heap[g2]? = some (.cells (fv x y) 28 (0, 0))) (hv : tmps.getD 5 undef = vl) :
  (results Tryz.f9 tmps).run Tryz.prog W = .ok (.tuple #[.agg cs, vl, .agg (fv x y)]) W := by
 have hp' : tmps[4]?.getD undef = .pointer (some ⟨g, 0, none⟩) := by simpa using hp
 have hq' : tmps[6]?.getD undef = .pointer (some ⟨g2, 0, none⟩) := by simpa using hq
 subst hv
 have h1 := run_loadVar_row (P := Tryz.prog) W g 31 31 cs (0, 0) _ hF Tryz.underlying31 rfl (by rw [hs]; kernel_rfl)
 have h2 := run_loadVar_row (P := Tryz.prog) W g2 28 28 (fv x y) (0, 0) _ hX Tryz.underlying28 rfl (fv_size x y)
 simp [results, hp', hq', asAddr, h1, h2]
structure Qf (w : World) (gq gr g6 : Nat) (v vs v7 : Value) (s : Sm) (xs : List Int) (W : World) : Prop where
 b : Below w.heap.size w W
 hq : W.heap[gq]? = some (.cells (zV s v vs) 31 (0, 0))
 hr : W.heap[gr]? = some (.cells zZ 31 (0, 0))
 h6 : W.heap[g6]? = some (.cells (fv 0 0) 28 (0, 0))
 row : OB 5 W w.heap.size v7 xs
theorem Qf.pushed {w W W1 : World} {gq gr g6 : Nat} {v vs v7 v8 : Value} {s : Sm} {xs ys : List Int} (h : Qf w gq gr g6 v vs v7 s xs W) (hg : W.grownBy W1 v7.ownBlock) (hO : OB 5 W1 w.heap.size v8 ys) : Qf w gq gr g6 v vs v8 s ys W1 := by
 have ho : Only W W1 (rf v7) := (Only.refl _ _).grown hg (fun k e => .inl e)
 exact ⟨Below.only h.b ho h.b.size (fun k e => (own_new h.row.own k e).1), ho.kept h.hq (own_not h.row.own h.hq (by decide)), ho.kept h.hr (own_not h.row.own h.hr (by decide)), fault_only h.h6 ho (own_not h.row.own h.h6 (by decide)), hO⟩
theorem feedq_end {w W : World} {gr g6 : Nat} {v vs vl : Value} {s t : Sm} {zs ws : List Int} {Fs : List Fr} {xs : List Int} (hq : Qr W w.heap.size v vs t ws) (hf : OFs W w.heap.size vl Fs) (hb : Below w.heap.size w W) (hr : W.heap[gr]? = some (.cells zZ 31 (0, 0))) (h6 : W.heap[g6]? = some (.cells (fv 0 0) 28 (0, 0))) (hg : w.heap.size ≤ gr ∧ w.heap.size ≤ g6) (hws : ws = zs ++ sizesS Fs) (hs : feedS xs s = (t, Fs.map Fr.core)) :
  FeedQ w s zs xs (.returned (.tuple #[.agg (zV t v vs), vl, .agg (fv t.why t.wat)])) ((W.setRow gr (zV t v vs)).setRow g6 (fv t.why t.wat)) ∧ ((W.setRow gr (zV t v vs)).setRow g6 (fv t.why t.wat)).heap[gr]? = some (.cells (zV t v vs) 31 (0, 0)) ∧ ((W.setRow gr (zV t v vs)).setRow g6 (fv t.why t.wat)).heap[g6]? = some (.cells (fv t.why t.wat) 28 (0, 0)) ∧ (W.setRow gr (zV t v vs)).heap[g6]? = some (.cells (fv 0 0) 28 (0, 0)) ∧ ¬ gr = g6 := by
 have hne : ¬ gr = g6 := fun e => by
  have h1 := hr
  rw [e, h6] at h1
  injection h1 with h1
  injection h1 with _ h1
  exact absurd h1 (by decide)
 have ho1 := Fr.only_row W gr (zV t v vs)
 have hr1 : (W.setRow gr (zV t v vs)).heap[gr]? = some (.cells (zV t v vs) 31 (0, 0)) := setRow_heap _ _ _ _ _ _ hr
 have h91 := fault_only h6 ho1 (fun e => hne e.symm)
 have hq1 := hq.only ho1 (fun k hk e => by subst e; exact hq.not_at hr hk)
 have hf1 := hf.only ho1 (fun k e => by subst e; exact ⟨zZ, _, hr, by decide, by decide⟩)
 have ho2 := Fr.only_row (W.setRow gr (zV t v vs)) g6 (fv t.why t.wat)
 have hq2 := hq1.only ho2 (fun k hk e => by subst e; exact hq1.not_fault h91 hk)
 have hf2 := hf1.only ho2 (fun k e => by subst e; exact ⟨fv 0 0, _, h91, by decide, by decide⟩)
 have hb' := Below.only (Below.only hb ho1 hb.size (fun k e => by rw [e]; exact hg.1)) ho2 (Nat.le_trans hb.size ho1.size) (fun k e => by rw [e]; exact hg.2)
 subst hws
 exact ⟨⟨v, vs, vl, t, Fs, rfl, Lib.hid hs, hq2, hf2, hb'⟩, ho2.kept hr1 hne, set_fault _ _ h91, h91, hne⟩
def FeedRelQ (w : World) (v vs : Value) (s : Sm) (n : Nat) (L : List (List Int)) (gq gr g6 : Nat) (g : Nat) (v7 v8 : Value) (W : World) : Prop :=
 ∃ i : Nat, v8 = .int .i64 (i : Int) ∧ Hid (Qf w gq gr g6 v vs v7 s (L.take i).flatten W) ∧ Hid (i + g = n)
theorem take_le (L : List (List Int)) (k : Nat) : (L.take k).flatten.length ≤ L.flatten.length := by
 conv => rhs; rw [← List.take_append_drop k L]
 rw [List.flatten_append, List.length_append]; omega
attribute [-go_sem] Instr.loadAt Instr.storeAt Instr.build
set_option maxHeartbeats 16000000 in
set_option maxRecDepth 100000 in
theorem rFeed_any {w : World} {base : Nat} {v vs : Value} {s : Sm} {zs : List Int} (h : Qr w base v vs s zs) (hw : s.why = 0) (A : Option Addr) (n c : Nat) (L : List (List Int)) (hx : RBs w A n L) (hl : L.flatten.length ≤ 1048576) (hz : (zs.length + L.flatten.length + 1) * 8 ≤ 140737488355328) (hcm : s.came + L.flatten.length ≤ 576460752303423488) (hwh : s.whole + L.flatten.length ≤ 576460752303423488) :
  Calls Tryz.prog 9 #[.agg (zV s v vs), .slice A n c] w (FeedQ w s zs L.flatten) := by
 obtain ⟨A0, ca, B0, kb, rfl, rfl⟩ := h.slices
 have hq0 := heap_alloc_new w (.cells (zV s (.slice A0 s.rest.length ca) (.slice B0 zs.length kb)) 31)
 have hb0 := below_alloc (Below.refl _ w) (.cells (zV s (.slice A0 s.rest.length ca) (.slice B0 zs.length kb)) 31)
 obtain ⟨w1, hw1⟩ : ∃ W, w.alloc (.cells #[.int .i64 (s.most : Int), .slice A0 s.rest.length ca, .int .i64 (s.came : Int), .int .i64 (s.whole : Int), .int .i64 s.why, .int .i64 s.wat, .slice B0 zs.length kb] 31) = W := ⟨_, rfl⟩
 rw [show w.alloc (.cells (zV s (.slice A0 s.rest.length ca) (.slice B0 zs.length kb)) 31) = w1 from hw1] at hq0 hb0
 obtain ⟨w2, s1, hZ, hb1⟩ := z_new w1
 obtain ⟨w3, s2, hX, hb2⟩ := fault_new w2
 have hq1 := (hb2.block _ (Nat.lt_of_lt_of_le (lt_of_block hq0) hb1.size)).trans ((hb1.block _ (lt_of_block hq0)).trans hq0)
 have hZ1 := (hb2.block _ (lt_of_block hZ)).trans hZ
 have HGE : Hid (w.heap.size < w1.heap.size ∧ w1.heap.size < w2.heap.size) := Lib.hid ⟨lt_of_block hq0, lt_of_block hZ⟩
 have HQF : Hid (Qf w w.heap.size w1.heap.size w2.heap.size (.slice A0 s.rest.length ca) (.slice B0 zs.length kb) (.slice none 0 0) s [] w3) := Lib.hid ⟨below_step (below_step hb0 hb1) hb2, hq1, hZ1, hX, OB.nil _ _ _⟩
 have HX := Lib.hid hx
 have HL := Lib.hid hl
 have HZL := Lib.hid hz
 have HCM := Lib.hid hcm
 have HWH := Lib.hid hwh
 have HW := Lib.hid hw
 have HH := Lib.hid h
 unfold zV
 clear h hq0 hb0 hb1 hb2 hZ hX hq1 hZ1 hx hl hz hcm hwh hw
 go_enter Tryz.func9, Tryz.ntmps9
 go_upto_region 1 with (fail)
 clear hw1 s1 s2
 obtain ⟨gq, hgq⟩ : ∃ g, w.heap.size = g := ⟨_, rfl⟩
 obtain ⟨gr, hgr⟩ : ∃ g, w1.heap.size = g := ⟨_, rfl⟩
 obtain ⟨g6, hg6⟩ : ∃ g, w2.heap.size = g := ⟨_, rfl⟩
 have HGR : Hid (w.heap.size = gq ∧ gq < gr ∧ gr < g6) := Lib.hid ⟨hgq, by rw [← hgq, ← hgr]; exact HGE.out.1, by rw [← hgr, ← hg6]; exact HGE.out.2⟩
 have HZ : Hid (FeedRelQ w (.slice A0 s.rest.length ca) (.slice B0 zs.length kb) s n L gq gr g6 n (.slice none 0 0) (.int .i64 0) w3) := Lib.hid (by
  rw [← hgq, ← hgr, ← hg6]
  exact ⟨0, rfl, HQF, Lib.hid (by omega)⟩)
 rw [hgq, hgr, hg6]
 clear hgq hgr hg6 HGE HQF
 go_wp2_with fail
 go_loopg [7, 8] n (fun gk v7 v8 w' => FeedRelQ w (.slice A0 s.rest.length ca) (.slice B0 zs.length kb) s n L gq gr g6 gk v7 v8 w')
 case atStart => exact HZ.out
 case round =>
  clear HZ
  obtain ⟨i, rfl, HQ, HG⟩ := hrel
  have hO := HQ.out.row
  by_cases hi : i < n
  ·have hi2 : (i : Int) < (n : Int) := by omega
   obtain ⟨ad, Ai, m, ci, xs, hA, hc, hR, HXi⟩ := (HX.out.below HQ.out.b).at_ i hi
   have hi1 : IntKind.i64.wrap ((i : Int) + 1) = (i : Int) + 1 := by rw [IntKind.wrap_i64]; have := HX.out.max; omega
   have e23 := load_bytes_cell hc
   have HLN : Hid ((L.take i).flatten.length + m ≤ 140737488355328) := Lib.hid (by
    have h1 := take_le L (i + 1)
    rw [flat_snoc HXi.out, List.length_append] at h1
    have := hR.len; have := HL.out; omega)
   have HGA : Hid (gk - 1 < gk ∧ i + 1 + (gk - 1) = n) := Lib.hid (by have h := HG.out; exact ⟨by omega, by omega⟩)
   obtain ⟨ys, hys⟩ : ∃ ys, (L.take i).flatten = ys := ⟨_, rfl⟩
   have HYS : Hid ((L.take (i + 1)).flatten = ys ++ xs) := Lib.hid (by rw [flat_snoc HXi.out, hys])
   rw [hys] at hO HLN HQ
   subst hA
   clear hc hys hi
   go_wp2_with (at_builtin; refine push_row (w0 := wr) w.heap.size rfl (.tmp 19) (.tmp 23) 22 xs Ai m ci rfl Tryz.underlying22 u8_info rfl rfl hO hR (Below.refl _ _) HQ.out.b.size HLN.out ?_)
   intro v9 wa hOa _ hga _
   have HE : Hid (FeedRelQ w (.slice A0 s.rest.length ca) (.slice B0 zs.length kb) s n L gq gr g6 (gk - 1) v9 (.int .i64 ((i : Int) + 1)) wa) := Lib.hid ⟨i + 1, by simp, Lib.hid (by rw [HYS.out]; exact HQ.out.pushed hga hOa), Lib.hid HGA.out.2⟩
   clear hO hR e23 HQ hOa hga
   go_wp2_with fail
   go_roundg (gk - 1)
   case measure => exact HGA.out.1
   case rel => exact HE.out
  ·have hi2 : ¬ (i : Int) < (n : Int) := by omega
   obtain rfl : i = n := by have := HG.out; omega
   have HTA : Hid ((L.take i).flatten = L.flatten) := Lib.hid (by rw [List.take_of_length_le (Nat.le_of_eq HX.out.len)])
   rw [HTA.out] at HQ hO
   obtain ⟨xs, hxs⟩ : ∃ xs, L.flatten = xs := ⟨_, rfl⟩
   have HXS := Lib.hid hxs
   rw [hxs] at HQ hO HL HZL HCM HWH ⊢
   obtain ⟨A7, c7, rfl, hR, _⟩ := hO.reads'
   have hq := HQ.out.hq
   have lz := z_load hq
   obtain ⟨nx, hnx⟩ : ∃ k, xs.length = k := ⟨_, rfl⟩
   have HNX := Lib.hid hnx
   rw [hnx] at hR HL HZL HCM HWH ⊢
   have cS := rSome_any (HH.out.below HQ.out.b) HW.out (-1) (nx : Int) A7 nx c7 xs hR (.inr ⟨by omega, rfl⟩) HL.out HZL.out HCM.out HWH.out
   clear hi hO hR hq hnx
   go_wp2_with fail
   refine cS.mono ?_
   rintro e w4 ⟨v4, vs4, vl4, t, Fs, k, rfl, HT, hq4, hF4, hb4⟩
   obtain ⟨us, hus⟩ : ∃ us, zs ++ sizesS Fs = us := ⟨_, rfl⟩
   have HUS : Hid (us = zs ++ sizesS Fs) := Lib.hid hus.symm
   rw [hus] at hq4
   obtain ⟨A4, c4, B4, k4, rfl, rfl⟩ := hq4.slices
   obtain ⟨w5, s1, hZ9, hb5⟩ := z_new w4
   obtain ⟨w6, s2, hX12, hb6⟩ := fault_new w5
   have hlt := lt_of_block hZ9
   have hb46 := below_step (below_step hb4 hb5) hb6
   have hq6 := (hq4.below hb5).below hb6
   have hF6 := (hF4.below hb5).below hb6
   have hZ6 := (hb6.block _ hlt).trans hZ9
   have p9 := z_put t A4 B4 t.rest.length c4 us.length k4 hZ6 rfl
   have ho7 := Fr.only_row w6 w4.heap.size (zV t (.slice A4 t.rest.length c4) (.slice B4 us.length k4))
   have hZ7 : (w6.setRow w4.heap.size (zV t (.slice A4 t.rest.length c4) (.slice B4 us.length k4))).heap[w4.heap.size]? = some (.cells (zV t (.slice A4 t.rest.length c4) (.slice B4 us.length k4)) 31 (0, 0)) := setRow_heap _ _ _ _ _ _ hZ6
   have hX7 := fault_only hX12 ho7 (fun e => by omega)
   have p12 : (Instr.storeAt 28 (.pointer (some ⟨w5.heap.size, 0, none⟩)) (.agg (fv t.why t.wat))).run Tryz.prog _ = .ok () _ := put_fault t.why t.wat hX7
   have ho8 := Fr.only_row (w6.setRow w4.heap.size (zV t (.slice A4 t.rest.length c4) (.slice B4 us.length k4))) w5.heap.size (fv t.why t.wat)
   have hZ8 := ho8.kept hZ7 (fun e => by omega)
   have hX8 := set_fault t.why t.wat hX7
   have HQ8 : Hid (Qr ((w6.setRow w4.heap.size (zV t (.slice A4 t.rest.length c4) (.slice B4 us.length k4))).setRow w5.heap.size (fv t.why t.wat)) w.heap.size (.slice A4 t.rest.length c4) (.slice B4 us.length k4) t us) := Lib.hid (by
    have h1 := hq6.only ho7 (fun k hk e => by subst e; exact hq6.not_at hZ6 hk)
    exact (h1.only ho8 (fun k hk e => by subst e; exact h1.not_fault hX7 hk)).less HQ.out.b.size)
   have HF8 : Hid (OFs ((w6.setRow w4.heap.size (zV t (.slice A4 t.rest.length c4) (.slice B4 us.length k4))).setRow w5.heap.size (fv t.why t.wat)) w.heap.size vl4 Fs) := Lib.hid (by
    have h1 := hF6.only ho7 (fun k e => by subst e; exact ⟨_, _, hZ6, by decide, by decide⟩)
    exact (h1.only ho8 (fun k e => by subst e; exact ⟨fv 0 0, _, hX7, by decide, by decide⟩)).less HQ.out.b.size)
   have HB8 : Hid (Below w.heap.size w ((w6.setRow w4.heap.size (zV t (.slice A4 t.rest.length c4) (.slice B4 us.length k4))).setRow w5.heap.size (fv t.why t.wat)) ∧ Below wr.heap.size wr ((w6.setRow w4.heap.size (zV t (.slice A4 t.rest.length c4) (.slice B4 us.length k4))).setRow w5.heap.size (fv t.why t.wat))) := Lib.hid (by
    have h1 := hb4.size
    have h2 := Below.only (Below.only hb46 ho7 hb46.size (fun k e => by rw [e]; exact h1)) ho8 (Nat.le_trans hb46.size ho7.size) (fun k e => by rw [e]; omega)
    exact ⟨below_step HQ.out.b h2, h2⟩)
   have HHS : Hid (feedS xs s = (t, Fs.map Fr.core)) := Lib.hid (by
    have h1 := some_feed (nx : Int) xs s 0 (by rw [HNX.out]; omega)
    rw [HT.out] at h1
    dsimp only at h1
    rw [h1.1, h1.2])
   have HGN : Hid (gr < w4.heap.size ∧ g6 < w4.heap.size ∧ w4.heap.size < w5.heap.size) := Lib.hid (by have h1 := lt_of_block HQ.out.hr; have h2 := lt_of_block HQ.out.h6; have h3 := hb4.size; refine ⟨?_, ?_, ?_⟩ <;> omega)
   clear hus hq4 hF4 hb4 hb5 hb6 hZ9 hX12 hlt hb46 hq6 hF6 hZ6 ho7 hZ7 hX7 ho8
   go_upto_region 7 with (fail)
   clear s1 s2 p9 p12 cS lz
   obtain ⟨g9, hg9⟩ : ∃ g, w4.heap.size = g := ⟨_, rfl⟩
   obtain ⟨g12, hg12⟩ : ∃ g, w5.heap.size = g := ⟨_, rfl⟩
   rw [hg9, hg12] at hZ8 hX8 HQ8 HF8 HB8 HGN ⊢
   clear hg9 hg12
   generalize (w6.setRow g9 (zV t (.slice A4 t.rest.length c4) (.slice B4 us.length k4))).setRow g12 (fv t.why t.wat) = w8 at *
   have hdr := below_drew (Below.refl w8.heap.size w8)
   have hr8 := (HB8.out.2.block _ (lt_of_block HQ.out.hr)).trans HQ.out.hr
   have h68 := fault_keep HQ.out.h6 HB8.out.2
   obtain ⟨q1, q2, q3, q4, q5⟩ := feedq_end (HQ8.out.below hdr) (HF8.out.below hdr) (below_step HB8.out.1 hdr) ((hdr.block _ (lt_of_block hr8)).trans hr8) (fault_keep h68 hdr) (by have := HGR.out; omega) HUS.out HHS.out
   have hZd := (hdr.block _ (lt_of_block hZ8)).trans hZ8
   have hXd := fault_keep hX8 hdr
   have pr := z_put t A4 B4 t.rest.length c4 us.length k4 ((hdr.block _ (lt_of_block hr8)).trans hr8) rfl
   have pf : (Instr.storeAt 28 (.pointer (some ⟨g6, 0, none⟩)) (.agg (fv t.why t.wat))).run Tryz.prog _ = .ok () _ := put_fault t.why t.wat q4
   have HP := Lib.hid q1
   have l33 : ∀ W : World, W.heap[g9]? = some (.cells (zV t (.slice A4 t.rest.length c4) (.slice B4 us.length k4)) 31 (0, 0)) → (Instr.loadAt 31 (.pointer (some ⟨g9, 0, none⟩))).run Tryz.prog W = .ok (.agg (zV t (.slice A4 t.rest.length c4) (.slice B4 us.length k4))) W := fun W h => z_load h
   have l35 : ∀ W : World, W.heap[g12]? = some (.cells (fv t.why t.wat) 28 (0, 0)) → (Instr.loadAt 28 (.pointer (some ⟨g12, 0, none⟩))).run Tryz.prog W = .ok (.agg (fv t.why t.wat)) W := fun W h => get_fault h
   have hgn : ¬ g9 = gr ∧ ¬ g12 = gr ∧ ¬ g9 = g6 ∧ ¬ g12 = g6 := by have := HGN.out; refine ⟨?_, ?_, ?_, ?_⟩ <;> omega
   have ho1 := Fr.only_row w8.drew gr (zV t (.slice A4 t.rest.length c4) (.slice B4 us.length k4))
   have hZ1 := ho1.kept hZd hgn.1
   have hX1 := fault_only hXd ho1 hgn.2.1
   have ho2 := Fr.only_row (w8.drew.setRow gr (zV t (.slice A4 t.rest.length c4) (.slice B4 us.length k4))) g6 (fv t.why t.wat)
   have hZ2 := ho2.kept hZ1 hgn.2.2.1
   have hX2 := fault_only hX1 ho2 hgn.2.2.2
   have HS1 := Lib.hid (And.intro hZ1 hX1)
   have HS2 := Lib.hid (And.intro hZ2 hX2)
   clear q1 q4 q5 hgn hr8 h68 ho1 ho2 hZ1 hX1 hZ2 hX2 hdr hZ8 hX8
   refine wp_region_held_drew (S := fun W => W.heap[g9]? = some (.cells (zV t (.slice A4 t.rest.length c4) (.slice B4 us.length k4)) 31 (0, 0)) ∧ W.heap[g12]? = some (.cells (fv t.why t.wat) 28 (0, 0))) (by kernel_rfl) (⟨hZd, hXd⟩) (fun hHeld => ?_)
   refine Go.Kit.tk 0 (.agg (zV t (.slice A4 t.rest.length c4) (.slice B4 us.length k4))) rfl ?_
   refine Go.Kit.tk 1 vl4 rfl ?_
   refine Go.Kit.tk 2 (.agg (fv t.why t.wat)) rfl ?_
   refine wpAnyH_ready (rs := [3]) (by kernel_rfl) (by decide) (AllReadyH.cons (o := ⟨_, _, _, _, _, _⟩) rfl (fun K hK => ?_) AllReadyH.nil)
   rw [if_pos (by kernel_rfl)]
   go_simp
   refine hK.out _ _ (HS1.out) (fun hHeld => ?_)
   clear hK K
   try simp only [Act.put, List.setIfInBounds_toArray, List.set_cons_zero, List.set_cons_succ]
   refine Go.Kit.tk 4 vl4 rfl ?_
   refine wpAnyH_ready (rs := [5]) (by kernel_rfl) (by decide) (AllReadyH.cons (o := ⟨_, _, _, _, _, _⟩) rfl (fun K hK => ?_) AllReadyH.nil)
   rw [if_pos (by kernel_rfl)]
   go_simp
   refine hK.out _ _ (HS2.out) (fun hHeld => ?_)
   clear hK K
   try simp only [Act.put, List.setIfInBounds_toArray, List.set_cons_zero, List.set_cons_succ]
   refine wpAnyH_done (by kernel_rfl) ?_ _
   go_wp2_with fail
   exact bodyPost_ret (feed4_ret (vl := vl4) rfl rfl q2 rfl q3 rfl) rfl (by rw [HXS.out]; exact HP.out)
end Go.Proofs.YtpjpgcjhdbiepaaGreat
end
section
namespace Go.Proofs.YtpjpgcjhdbiepaaGreat
open Go.RowKit Go.Kit CrcM Go.Proofs.YtpjpgcjhdbiepaaGreatW.PrintWords
attribute [-go_sem] Instr.loadAt Instr.storeAt Instr.build
set_option maxHeartbeats 8000000 in
set_option maxRecDepth 100000 in
theorem zEnd_any {w : World} {base : Nat} {v vs : Value} {s : Sm} {zs : List Int} (h : Qr w base v vs s zs) (x y : Int) (hx : (x, y) = endSm s) :
  Calls Tryz.prog 32 #[.agg (zV s v vs)] w fun e w' => e = .returned (.agg (fv x y)) ∧ Below w.heap.size w w' := by
 obtain ⟨A0, ca, B0, kb, rfl, rfl⟩ := h.slices
 have hq0 := heap_alloc_new w (.cells (zV s (.slice A0 s.rest.length ca) (.slice B0 zs.length kb)) 31)
 have hb0 := below_alloc (Below.refl _ w) (.cells (zV s (.slice A0 s.rest.length ca) (.slice B0 zs.length kb)) 31)
 obtain ⟨n, hn⟩ : ∃ n, s.rest.length = n := ⟨_, rfl⟩
 have HN := Lib.hid hn
 rw [hn] at hq0 hb0 ⊢
 obtain ⟨w1, hw1⟩ : ∃ W, w.alloc (.cells #[.int .i64 (s.most : Int), .slice A0 n ca, .int .i64 (s.came : Int), .int .i64 (s.whole : Int), .int .i64 s.why, .int .i64 s.wat, .slice B0 zs.length kb] 31) = W := ⟨_, rfl⟩
 rw [show w.alloc (.cells (zV s (.slice A0 n ca) (.slice B0 zs.length kb)) 31) = w1 from hw1] at hq0 hb0
 obtain ⟨w2, s2, hX, hb2⟩ := fault_new w1
 have hq1 := (hb2.block _ (lt_of_block hq0)).trans hq0
 have HB := Lib.hid (below_step hb0 hb2)
 have HH := Lib.hid hx
 have HOK := Lib.hid h.ok
 have HGE : Hid (w.heap.size < w1.heap.size) := Lib.hid (lt_of_block hq0)
 unfold zV
 clear h hx hq0 hb0 hb2 hn
 go_enter Tryz.func32, Tryz.ntmps32
 go_upto_region 1 with (fail)
 clear hw1 s2
 obtain ⟨gq, hgq⟩ : ∃ g, w.heap.size = g := ⟨_, rfl⟩
 obtain ⟨g, hg⟩ : ∃ g, w1.heap.size = g := ⟨_, rfl⟩
 have HG : Hid (w.heap.size ≤ g) := Lib.hid (by rw [← hg]; exact Nat.le_of_lt HGE.out)
 rw [hgq] at hq1 ⊢
 rw [hg] at hX ⊢
 clear hgq hg HGE
 have eP := z_poison hq1
 have hb00 := build_fault0
 have hbf := build_fault
 have e9 : (Instr.loadAt 22 (.pointer (some ⟨gq, 1, none⟩))).run Tryz.prog w2 = .ok (.slice A0 n ca) w2 := load_bytes_cell (by rw [cell_of_row _ gq 1 _ _ _ hq1]; rfl)
 have e14 : (Instr.loadAt 3 (.pointer (some ⟨gq, 2, none⟩))).run Tryz.prog w2 = .ok (.int .i64 (s.came : Int)) w2 := load_cell_int (by rw [cell_of_row _ gq 2 _ _ _ hq1]; rfl)
 have fin : ∀ x y : Int, Hid (Below w.heap.size w (w2.setRow g (fv x y))) := fun x y => Lib.hid (below_setRow HB.out HG.out _)
 by_cases hp : s.why = 0
 ·have hwat := (HOK.out.low hp).1
  have hne := eql_fault s.why s.wat 0 0 true (by rw [hp, hwat]; rfl)
  by_cases hr : n = 0
  ·obtain ⟨rfl, rfl⟩ : x = 0 ∧ y = 0 := by have e := HH.out; unfold endSm at e; rw [if_neg (by simp [hp]), if_pos (List.eq_nil_of_length_eq_zero (HN.out.trans hr))] at e; cases e; exact ⟨rfl, rfl⟩
   have hr2 : ¬ (0 : Int) < (n : Int) := by omega
   have sX : (Instr.storeAt 28 (.pointer (some ⟨g, 0, none⟩)) (.agg #[.int .i64 s.why, .int .i64 s.wat])).run Tryz.prog w2 = .ok () (w2.setRow g (fv 0 0)) := by rw [hp, hwat]; exact put_fault 0 0 hX
   have hX2 := set_fault 0 0 hX
   clear hp hwat hX hr hq1
   go_wp2_with fail
   exact bodyPost_ret (v := .agg (fv 0 0)) (fault_ret rfl rfl hX2) rfl ⟨rfl, (fin 0 0).out⟩
  ·obtain ⟨rfl, rfl⟩ : x = 4 ∧ y = s.came := by have e := HH.out; unfold endSm at e; rw [if_neg (by simp [hp]), if_neg (fun e => hr (by rw [← HN.out, e]; rfl))] at e; cases e; exact ⟨rfl, rfl⟩
   have hr2 : (0 : Int) < (n : Int) := by omega
   have hr3 : 0 < n := by omega
   have sX := put_fault 4 (s.came : Int) hX
   have hX2 := set_fault 4 (s.came : Int) hX
   clear hp hwat hX hr hq1
   go_wp2_with fail
   exact bodyPost_ret (v := .agg (fv 4 (s.came : Int))) (fault_ret rfl rfl hX2) rfl ⟨rfl, (fin 4 (s.came : Int)).out⟩
 ·have hne := eql_fault s.why s.wat 0 0 false (by simp [hp])
  obtain ⟨rfl, rfl⟩ : x = s.why ∧ y = s.wat := by have e := HH.out; unfold endSm at e; rw [if_pos hp] at e; cases e; exact ⟨rfl, rfl⟩
  have sX := put_fault s.why s.wat hX
  have hX2 := set_fault s.why s.wat hX
  clear hp hX hq1
  go_wp2_with fail
  exact bodyPost_ret (v := .agg (fv s.why s.wat)) (fault_ret rfl rfl hX2) rfl ⟨rfl, (fin s.why s.wat).out⟩
def SplitQ (w : World) (xs : List Int) (e : Ending) (w' : World) : Prop :=
 ∃ (vl vs : Value) (Fs : List Fr) (t : Sm) (x y : Int), e = .returned (.tuple #[vl, vs, .agg (fv x y)]) ∧ Hid (feedS xs (Sm.new 2097152) = (t, Fs.map Fr.core)) ∧ Hid ((x, y) = endSm t) ∧ OFs w' w.heap.size vl Fs ∧ OI w' w.heap.size vs (sizesS Fs) ∧ Below w.heap.size w w'
theorem split3_ret {W : World} {tmps : Array Value} {g : Nat} {x y : Int} {vl vs : Value} (hp : tmps.getD 4 undef = .pointer (some ⟨g, 0, none⟩)) (hX : W.heap[g]? = some (.cells (fv x y) 28 (0, 0))) (hv : tmps.getD 2 undef = vl) (hu : tmps.getD 3 undef = vs) :
  (results Tryz.f19 tmps).run Tryz.prog W = .ok (.tuple #[vl, vs, .agg (fv x y)]) W := by
 have hp' : tmps[4]?.getD undef = .pointer (some ⟨g, 0, none⟩) := by simpa using hp
 subst hv hu
 have h2 := run_loadVar_row (P := Tryz.prog) W g 28 28 (fv x y) (0, 0) _ hX Tryz.underlying28 rfl (fv_size x y)
 simp [results, hp', asAddr, h2]
theorem Qr.fresh (w : World) (base : Nat) : Qr w base (.slice none 0 0) (.slice none 0 0) (Sm.new 2097152) [] := ⟨OB.nil _ _ _, OI.nil _ _, new_ok (by decide) (by decide), by simp [Sm.new]⟩
theorem z_build (W : World) : (Instr.build 31 #[(0, .int .i64 2097152)]).run Tryz.prog W = .ok (.agg #[.int .i64 2097152, .slice none 0 0, .int .i64 0, .int .i64 0, .int .i64 0, .int .i64 0, .slice none 0 0]) W := by kernel_rfl
set_option maxHeartbeats 16000000 in
set_option maxRecDepth 100000 in
theorem rSplit_any {w : World} {A : Option Addr} {n c : Nat} {xs : List Int} (hx : RB w A n xs) (hl : n ≤ 1048576) : Calls Tryz.prog 19 #[.slice A n c] w (SplitQ w xs) := by
 obtain ⟨w0, s0, hX0, hb0⟩ := fault_new w
 have hbx := below_alloc (Below.refl _ w0) (.cells #[.slice A n c] 22)
 have HXL := Lib.hid hx.len
 have cF : Calls Tryz.prog 9 #[.agg #[.int .i64 2097152, .slice none 0 0, .int .i64 0, .int .i64 0, .int .i64 0, .int .i64 0, .slice none 0 0], .slice (some ⟨w0.heap.size, 0, none⟩) 1 1] (w0.alloc (.cells #[.slice A n c] 22)) (FeedQ (w0.alloc (.cells #[.slice A n c] 22)) (Sm.new 2097152) [] [xs].flatten) :=
  rFeed_any (Qr.fresh _ 0) rfl _ 1 1 [xs] (RBs.one (cap := c) 22 (hx.below hb0)) (by simp; have := hx.len; omega) (by simp; have := hx.len; omega) (by simp [Sm.new]; have := hx.len; omega) (by simp [Sm.new]; have := hx.len; omega)
 have HXs : Hid ([xs].flatten = xs) := Lib.hid (by simp)
 rw [HXs.out] at cF
 have HB1 := Lib.hid (below_step hb0 hbx)
 have HX1 := Lib.hid (fault_keep hX0 hbx)
 have zb := z_build
 clear hx hl hb0 hbx hX0
 go_enter Tryz.func19, Tryz.ntmps19
 go_upto_region 1 with (fail)
 clear s0
 go_wp2_with fail
 refine cF.mono ?_
 rintro e w1 ⟨v1, vs1, vl, t, Fs, rfl, HF, hq1, hF1, hb1⟩
 have hX1 := fault_keep HX1.out hb1
 obtain ⟨us, hus⟩ : ∃ us, ([] : List Int) ++ sizesS Fs = us := ⟨_, rfl⟩
 have HUS : Hid (us = sizesS Fs) := Lib.hid (by rw [← hus]; simp)
 rw [hus] at hq1
 obtain ⟨A4, c4, B4, k4, rfl, rfl⟩ := hq1.slices
 clear zb cF hus
 obtain ⟨w5, s1, hZ5, hb5⟩ := z_new w1
 obtain ⟨w6, s2, hX6, hb6⟩ := fault_new w5
 have hlt := lt_of_block hZ5
 have hb16 := below_step (below_step hb1 hb5) hb6
 have hq6 := (hq1.below hb5).below hb6
 have hF6 := (hF1.below hb5).below hb6
 have hZ6 := (hb6.block _ hlt).trans hZ5
 have h46 := fault_keep (fault_keep hX1 hb5) hb6
 have p5 := z_put t A4 B4 t.rest.length c4 us.length k4 hZ6 rfl
 have ho7 := Fr.only_row w6 w1.heap.size (zV t (.slice A4 t.rest.length c4) (.slice B4 us.length k4))
 have hZ7 : (w6.setRow w1.heap.size (zV t (.slice A4 t.rest.length c4) (.slice B4 us.length k4))).heap[w1.heap.size]? = some (.cells (zV t (.slice A4 t.rest.length c4) (.slice B4 us.length k4)) 31 (0, 0)) := setRow_heap _ _ _ _ _ _ hZ6
 have hX7 := fault_only hX6 ho7 (fun e => by omega)
 have p7 : (Instr.storeAt 28 (.pointer (some ⟨w5.heap.size, 0, none⟩)) (.agg (fv t.why t.wat))).run Tryz.prog _ = .ok () _ := put_fault t.why t.wat hX7
 have ho8 := Fr.only_row (w6.setRow w1.heap.size (zV t (.slice A4 t.rest.length c4) (.slice B4 us.length k4))) w5.heap.size (fv t.why t.wat)
 have hZ8 := ho8.kept hZ7 (fun e => by omega)
 have hX8 := set_fault t.why t.wat hX7
 have HGN : Hid (w.heap.size < w1.heap.size ∧ w1.heap.size < w5.heap.size) := Lib.hid ⟨lt_of_block hX1, hlt⟩
 have h48 : ((w6.setRow w1.heap.size (zV t (.slice A4 t.rest.length c4) (.slice B4 us.length k4))).setRow w5.heap.size (fv t.why t.wat)).heap[w.heap.size]? = some (.cells (fv 0 0) 28 (0, 0)) := fault_only (fault_only h46 ho7 (fun e => by have := HGN.out; omega)) ho8 (fun e => by have := HGN.out; omega)
 have HQ8 : Hid (Qr ((w6.setRow w1.heap.size (zV t (.slice A4 t.rest.length c4) (.slice B4 us.length k4))).setRow w5.heap.size (fv t.why t.wat)) w.heap.size (.slice A4 t.rest.length c4) (.slice B4 us.length k4) t us) := Lib.hid (by
  have h1 := hq6.only ho7 (fun k hk e => by subst e; exact hq6.not_at hZ6 hk)
  exact (h1.only ho8 (fun k hk e => by subst e; exact h1.not_fault hX7 hk)).less HB1.out.size)
 have HF8 : Hid (OFs ((w6.setRow w1.heap.size (zV t (.slice A4 t.rest.length c4) (.slice B4 us.length k4))).setRow w5.heap.size (fv t.why t.wat)) w.heap.size vl Fs) := Lib.hid (by
  have h1 := hF6.only ho7 (fun k e => by subst e; exact ⟨_, _, hZ6, by decide, by decide⟩)
  exact (h1.only ho8 (fun k e => by subst e; exact ⟨fv 0 0, _, hX7, by decide, by decide⟩)).less HB1.out.size)
 have HB8 : Hid (Below w.heap.size w ((w6.setRow w1.heap.size (zV t (.slice A4 t.rest.length c4) (.slice B4 us.length k4))).setRow w5.heap.size (fv t.why t.wat))) := Lib.hid (by
  have h0 := below_step HB1.out hb16
  have h2 := HGN.out
  exact Below.only (Below.only h0 ho7 h0.size (fun k e => by rw [e]; omega)) ho8 (Nat.le_trans h0.size ho7.size) (fun k e => by rw [e]; omega))
 clear hq1 hF1 hb1 hb5 hb6 hZ5 hX6 hlt hb16 hq6 hF6 hZ6 h46 ho7 hZ7 hX7 ho8 hX1
 go_upto_region 2 with (fail)
 clear s1 s2 p5 p7
 obtain ⟨g4, hg4⟩ : ∃ g, w.heap.size = g := ⟨_, rfl⟩
 obtain ⟨g5, hg5⟩ : ∃ g, w1.heap.size = g := ⟨_, rfl⟩
 obtain ⟨g7, hg7⟩ : ∃ g, w5.heap.size = g := ⟨_, rfl⟩
 have HG4 : Hid (w.heap.size = g4 ∧ g4 < g5 ∧ g5 < g7) := Lib.hid ⟨hg4, by rw [← hg4, ← hg5]; exact HGN.out.1, by rw [← hg5, ← hg7]; exact HGN.out.2⟩
 have h48' := h48
 rw [hg5, hg7] at hZ8 hX8 h48' HQ8 HF8 HB8 ⊢
 rw [hg4] at h48' ⊢
 clear hg4 hg5 hg7 HGN h48 HX1
 generalize (w6.setRow g5 (zV t (.slice A4 t.rest.length c4) (.slice B4 us.length k4))).setRow g7 (fv t.why t.wat) = w8 at *
 obtain ⟨x, y, hxy⟩ : ∃ x y, (x, y) = endSm t := ⟨_, _, rfl⟩
 have HXY := Lib.hid hxy
 have eY := get_fault hX8
 have hbf := build_fault0
 have fin : ∀ W : World, Below w.heap.size w W → W.heap[g4]? = some (.cells (fv 0 0) 28 (0, 0)) → OFs W w.heap.size vl Fs → Qr W w.heap.size (.slice A4 t.rest.length c4) (.slice B4 us.length k4) t us →
   SplitQ w xs (.returned (.tuple #[vl, .slice B4 us.length k4, .agg (fv x y)])) (W.setRow g4 (fv x y)) ∧ (W.setRow g4 (fv x y)).heap[g4]? = some (.cells (fv x y) 28 (0, 0)) := fun W hb h4 hO hq => by
  have hor := Fr.only_row W g4 (fv x y)
  have h1 := hq.only hor (fun k hk e => by subst e; exact hq.not_fault h4 hk)
  exact ⟨⟨vl, _, Fs, t, x, y, rfl, HF, HXY, hO.only hor (fun k e => by subst e; exact ⟨fv 0 0, 28, h4, by decide, by decide⟩), by rw [← HUS.out]; exact h1.zrow, Below.only hb hor hb.size (fun k e => by rw [e]; exact Nat.le_of_eq HG4.out.1)⟩, set_fault x y h4⟩
 by_cases hw : t.why = 0
 ·have hne := eql_fault t.why t.wat 0 0 true (by rw [hw, (HQ8.out.ok.low hw).1]; rfl)
  have lz := z_load hZ8
  clear hw hxy
  go_wp2_with fail
  refine (zEnd_any HQ8.out x y HXY.out).mono ?_
  rintro e w9 ⟨rfl, hb9⟩
  have hX9 := fault_keep hX8 hb9
  have hZ9 := (hb9.block _ (lt_of_block hZ8)).trans hZ8
  have p9 : (Instr.storeAt 28 (.pointer (some ⟨g7, 0, none⟩)) (.agg (fv x y))).run Tryz.prog w9 = .ok () (w9.setRow g7 (fv x y)) := put_fault x y hX9
  have hor := Fr.only_row w9 g7 (fv x y)
  have hYA := set_fault x y hX9
  have hZA := hor.kept hZ9 (fun e => by have := HG4.out; omega)
  have h4A := fault_only (fault_keep h48' hb9) hor (fun e => by have := HG4.out; omega)
  have HQA : Hid (Qr (w9.setRow g7 (fv x y)) w.heap.size (.slice A4 t.rest.length c4) (.slice B4 us.length k4) t us) := Lib.hid ((HQ8.out.below hb9).only hor (fun k hk e => by subst e; exact (HQ8.out.below hb9).not_fault hX9 hk))
  have HFA : Hid (OFs (w9.setRow g7 (fv x y)) w.heap.size vl Fs) := Lib.hid ((HF8.out.below hb9).only hor (fun k e => by subst e; exact ⟨fv t.why t.wat, 28, hX9, by decide, by decide⟩))
  have HBA : Hid (Below w.heap.size w (w9.setRow g7 (fv x y))) := Lib.hid (below_setRow (below_step HB8.out hb9) (by have := HG4.out; omega) _)
  clear hZ8 hX8 h48' HQ8 HF8 HB8 eY hne lz hb9 hX9 hZ9 hor
  go_upto_region 4 with (fail)
  clear p9
  generalize w9.setRow g7 (fv x y) = wA at *
  have hdr := below_drew (Below.refl wA.heap.size wA)
  have hZd := (hdr.block _ (lt_of_block hZA)).trans hZA
  have hYd := fault_keep hYA hdr
  have h4d := fault_keep h4A hdr
  obtain ⟨q1, q2⟩ := fin wA.drew (below_step HBA.out hdr) h4d (HFA.out.below hdr) (HQA.out.below hdr)
  have HP := Lib.hid q1
  have pf : (Instr.storeAt 28 (.pointer (some ⟨g4, 0, none⟩)) (.agg (fv x y))).run Tryz.prog _ = .ok () _ := put_fault x y h4d
  have l23 : ∀ W : World, W.heap[g5]? = some (.cells (zV t (.slice A4 t.rest.length c4) (.slice B4 us.length k4)) 31 (0, 0)) → (Instr.loadAt 29 (.pointer (some ⟨g5, 6, none⟩))).run Tryz.prog W = .ok (.slice B4 us.length k4) W := fun W h => load_ints_cell (by rw [cell_of_row _ g5 6 _ _ _ h]; rfl)
  have l24 : ∀ W : World, W.heap[g7]? = some (.cells (fv x y) 28 (0, 0)) → (Instr.loadAt 28 (.pointer (some ⟨g7, 0, none⟩))).run Tryz.prog W = .ok (.agg (fv x y)) W := fun W h => get_fault h
  have ho1 := Fr.only_row wA.drew g4 (fv x y)
  have HS1 := Lib.hid (And.intro (ho1.kept hZd (fun e => by have := HG4.out; omega)) (fault_only hYd ho1 (fun e => by have := HG4.out; omega)))
  clear hdr q1 ho1 hZA hYA h4A fin HQA HFA HBA h4d
  refine wp_region_held_drew (S := fun W => W.heap[g5]? = some (.cells (zV t (.slice A4 t.rest.length c4) (.slice B4 us.length k4)) 31 (0, 0)) ∧ W.heap[g7]? = some (.cells (fv x y) 28 (0, 0))) (by kernel_rfl) (⟨hZd, hYd⟩) (fun hHeld => ?_)
  refine Go.Kit.tk 0 vl rfl ?_
  refine Go.Kit.tk 1 (.pointer (some ⟨g5, 6, none⟩)) rfl ?_
  refine Go.Kit.tk 2 (.slice B4 us.length k4) rfl ?_
  refine Go.Kit.tk 3 (.agg (fv x y)) rfl ?_
  refine Go.Kit.tk 4 vl rfl ?_
  refine Go.Kit.tk 5 (.slice B4 us.length k4) rfl ?_
  refine wpAnyH_ready (rs := [6]) (by kernel_rfl) (by decide) (AllReadyH.cons (o := ⟨_, _, _, _, _, _⟩) rfl (fun K hK => ?_) AllReadyH.nil)
  rw [if_pos (by kernel_rfl)]
  go_simp
  refine hK.out _ _ (HS1.out) (fun hHeld => ?_)
  clear hK K
  try simp only [Act.put, List.setIfInBounds_toArray, List.set_cons_zero, List.set_cons_succ]
  refine wpAnyH_done (by kernel_rfl) ?_ _
  go_wp2_with fail
  exact bodyPost_ret (split3_ret (vl := vl) (vs := (.slice B4 us.length k4)) rfl q2 rfl rfl) rfl HP.out
 ·have hne := eql_fault t.why t.wat 0 0 false (by simp [hw])
  obtain ⟨rfl, rfl⟩ : x = t.why ∧ y = t.wat := by
   unfold endSm at hxy
   rw [if_pos hw] at hxy
   cases hxy; exact ⟨rfl, rfl⟩
  have hYA := hX8
  have hZA := hZ8
  have h4A := h48'
  have HQA := HQ8
  have HFA := HF8
  have HBA := HB8
  clear hw hxy hX8 hZ8 h48' HQ8 HF8 HB8
  go_upto_region 4 with (fail)
  clear eY hne
  have hdr := below_drew (Below.refl w8.heap.size w8)
  have hZd := (hdr.block _ (lt_of_block hZA)).trans hZA
  have hYd := fault_keep hYA hdr
  have h4d := fault_keep h4A hdr
  obtain ⟨q1, q2⟩ := fin w8.drew (below_step HBA.out hdr) h4d (HFA.out.below hdr) (HQA.out.below hdr)
  have HP := Lib.hid q1
  have pf : (Instr.storeAt 28 (.pointer (some ⟨g4, 0, none⟩)) (.agg (fv t.why t.wat))).run Tryz.prog _ = .ok () _ := put_fault t.why t.wat h4d
  have l23 : ∀ W : World, W.heap[g5]? = some (.cells (zV t (.slice A4 t.rest.length c4) (.slice B4 us.length k4)) 31 (0, 0)) → (Instr.loadAt 29 (.pointer (some ⟨g5, 6, none⟩))).run Tryz.prog W = .ok (.slice B4 us.length k4) W := fun W h => load_ints_cell (by rw [cell_of_row _ g5 6 _ _ _ h]; rfl)
  have l24 : ∀ W : World, W.heap[g7]? = some (.cells (fv t.why t.wat) 28 (0, 0)) → (Instr.loadAt 28 (.pointer (some ⟨g7, 0, none⟩))).run Tryz.prog W = .ok (.agg (fv t.why t.wat)) W := fun W h => get_fault h
  have ho1 := Fr.only_row w8.drew g4 (fv t.why t.wat)
  have HS1 := Lib.hid (And.intro (ho1.kept hZd (fun e => by have := HG4.out; omega)) (fault_only hYd ho1 (fun e => by have := HG4.out; omega)))
  clear hdr q1 ho1 hZA hYA h4A fin HQA HFA HBA h4d
  refine wp_region_held_drew (S := fun W => W.heap[g5]? = some (.cells (zV t (.slice A4 t.rest.length c4) (.slice B4 us.length k4)) 31 (0, 0)) ∧ W.heap[g7]? = some (.cells (fv t.why t.wat) 28 (0, 0))) (by kernel_rfl) (⟨hZd, hYd⟩) (fun hHeld => ?_)
  refine Go.Kit.tk 0 vl rfl ?_
  refine Go.Kit.tk 1 (.pointer (some ⟨g5, 6, none⟩)) rfl ?_
  refine Go.Kit.tk 2 (.slice B4 us.length k4) rfl ?_
  refine Go.Kit.tk 3 (.agg (fv t.why t.wat)) rfl ?_
  refine Go.Kit.tk 4 vl rfl ?_
  refine Go.Kit.tk 5 (.slice B4 us.length k4) rfl ?_
  refine wpAnyH_ready (rs := [6]) (by kernel_rfl) (by decide) (AllReadyH.cons (o := ⟨_, _, _, _, _, _⟩) rfl (fun K hK => ?_) AllReadyH.nil)
  rw [if_pos (by kernel_rfl)]
  go_simp
  refine hK.out _ _ (HS1.out) (fun hHeld => ?_)
  clear hK K
  try simp only [Act.put, List.setIfInBounds_toArray, List.set_cons_zero, List.set_cons_succ]
  refine wpAnyH_done (by kernel_rfl) ?_ _
  go_wp2_with fail
  exact bodyPost_ret (split3_ret (vl := vl) (vs := (.slice B4 us.length k4)) rfl q2 rfl rfl) rfl HP.out
end Go.Proofs.YtpjpgcjhdbiepaaGreat
end
section
namespace Go.Proofs.YtpjpgcjhdbiepaaGreat
open Go.RowKit Go.Kit CrcM Go.Proofs.YtpjpgcjhdbiepaaGreatW.PrintWords
theorem sizes_core {L M : List Fr} (h : L.map Fr.core = M.map Fr.core) : sizesS L = sizesS M := by
 have e : ∀ L : List Fr, sizesS L = (L.map Fr.core).map fun F => ((encF F).length : Int) := fun L => by unfold sizesS; rw [List.map_map]; rfl
 rw [e L, e M, h]
theorem neq_faults' (x y a b : Int) (c : Bool) (hc : ((x == a) && (y == b)) = c) (W : World) : (binOp .neq 28 (.agg #[.int .i64 x, .int .i64 y]) (.agg #[.int .i64 a, .int .i64 b])).run Tryz.prog W = .ok (.bool !c) W := by
 have he : (Op.equalIn 10000 28 (.agg #[.int .i64 x, .int .i64 y]) (.agg #[.int .i64 a, .int .i64 b])).run Tryz.prog W = .ok c W := by
  subst hc
  by_cases h1 : x = a <;> by_cases h2 : y = b <;> go_simp
 simp [run_neq_struct W 28 _ _, he]
attribute [-go_sem] Instr.loadAt Instr.storeAt Instr.build
end Go.Proofs.YtpjpgcjhdbiepaaGreat
end
section
namespace Go.Proofs.YtpjpgcjhdbiepaaGreat
open Go.RowKit Go.Kit CrcM Go.Proofs.YtpjpgcjhdbiepaaGreatW.PrintWords
theorem rb_str {w : World} {A : Option Addr} {n : Nat} {xs : List Int} (h : RB w A n xs) (c : Nat) : (convert 22 9 (.slice A n c)).run Tryz.prog w = .ok (.string (strOfNums xs)) w := by
 rw [run_convert_bytes_string w 22 9 5 A n c Tryz.underlying22 Tryz.underlying5 Tryz.underlying9]
 have hlen := h.len
 rcases A with _ | a
 ·have h0 : n = 0 := by
   rcases Nat.eq_zero_or_pos n with e | e
   ·exact e
   ·obtain ⟨ad, e, _⟩ := h.rd.2.2 e
    cases e
  rw [h0] at hlen
  rw [List.eq_nil_of_length_eq_zero hlen]
  rfl
 ·have hl : (loadCells a n).run Tryz.prog w = .ok (xs.map (Value.int .u8)).toArray w := by
   have := run_loadCells_list (P := Tryz.prog) w a (xs.map (Value.int .u8)) (fun j v hj => by
    have hjl : j < xs.length := by
     rcases Nat.lt_or_ge j xs.length with h | h
     ·exact h
     ·simp [List.getElem?_eq_none (show (xs.map (Value.int .u8)).length ≤ j by simpa using h)] at hj
    obtain ⟨ad, e, hc⟩ := h.rd.2.2 (by omega)
    cases e
    rw [hc j (by omega)]
    simp [List.getElem?_eq_getElem hjl] at hj
    subst hj
    simp [List.getD, List.getElem?_eq_getElem hjl])
   simpa [hlen] using this
  rw [run_bytesToString w _ n c xs hl, foldl_push_bytes]
  simp [strOfNums, ByteArray.empty, ByteArray.emptyWithCapacity]
  rfl
attribute [-go_sem] Instr.loadAt Instr.storeAt Instr.build
set_option maxHeartbeats 16000000 in
set_option maxRecDepth 100000 in
theorem StreamSplits_walk {A : Option Addr} {n c : Nat} {xs : List Int} {w : World} (hx : RB w A n xs) (hn : n ≤ 1048576) :
  Calls Tryz.prog 5 #[.slice A n c] w fun e w' => e = .returned (.bool true) ∧ Below w.heap.size w w' := by
 have hba := below_alloc (Below.refl _ w) (.cells #[] 5)
 have hO0 : OB 5 (w.alloc (.cells #[] 5)) w.heap.size (.slice (some ⟨w.heap.size, 0, none⟩) 0 0) [] := OB.of_block (rest := []) (Nat.le_refl _) (heap_alloc_new w _) rfl rfl (by simp) Byt.nil
 have hR := hx.below hba
 have HX := Lib.hid hx
 have HN := Lib.hid hn
 have HA := Lib.hid hba
 clear hx hn hba
 go_enter Tryz.func5, Tryz.ntmps5
 go_wp2_with (at_builtin; refine push_row (w0 := w.alloc (.cells #[] 5)) w.heap.size rfl (.tmp 12) (.tmp 13) 22 xs A n c rfl Tryz.underlying22 u8_info rfl rfl hO0 hR (Below.refl _ _) HA.out.size (by have := HN.out; simp; omega) ?_)
 intro v3 w3 hO3 _ hg3 _
 have HB3 : Hid (Below w.heap.size w w3) := Lib.hid (Below.only HA.out ((Only.refl _ _).grown (S := rf (.slice (some ⟨w.heap.size, 0, none⟩) 0 0)) hg3 (fun k e => .inl e)) HA.out.size (fun k e => (own_new hO0.own k e).1))
 obtain ⟨A3, c3, rfl, hR3, _⟩ := hO3.reads'
 rw [HX.out.len] at hR3 ⊢
 have HR3 := Lib.hid hR3
 clear hO0 hR hO3 hg3 hR3
 go_wp2_with fail
 refine (Split_any HR3.out (by have := HN.out; omega)).mono ?_
 rintro e w4 ⟨vl, Fs, t, x, y, rfl, HF, HXY, hO4, hb4⟩
 obtain ⟨wa, w5, s0, s1, hY5, hb5⟩ := fault_put w4 x y
 have HO5 := Lib.hid (hO4.below hb5)
 have HB5 := Lib.hid (below_step hb4 hb5)
 clear hO4 hb4 hb5
 go_upto_region 3 with (fail)
 clear s0 s1
 obtain ⟨g5, hg5⟩ : ∃ g, w4.heap.size = g := ⟨_, rfl⟩
 rw [hg5] at hY5 ⊢
 have HY5 := Lib.hid hY5
 clear hg5 hY5
 go_wp2_with fail
 refine (Sizes_any (HR3.out.below HB5.out) (by have := HN.out; omega)).mono ?_
 rintro e w6 ⟨vs, Gs, t', x', y', rfl, HF', HXY', hI6, hb6⟩
 obtain ⟨rfl, HFG⟩ : t' = t ∧ Hid (Gs.map Fr.core = Fs.map Fr.core) := by
  have h1 := HF'.out
  rw [HF.out] at h1
  injection h1 with h1 h2
  exact ⟨h1.symm, Lib.hid h2.symm⟩
 obtain ⟨rfl, rfl⟩ : x' = x ∧ y' = y := by
  have h1 := HXY'.out
  rw [← HXY.out] at h1
  injection h1 with h1 h2
  exact ⟨h1, h2⟩
 obtain ⟨wa, w7, s0, s1, hY7, hb7⟩ := fault_put w6 x' y'
 have HI7 := Lib.hid (hI6.below hb7)
 have HB7 := Lib.hid (below_step hb6 hb7)
 clear hI6 hb6 hb7
 go_upto_region 4 with (fail)
 clear s0 s1
 obtain ⟨g7, hg7⟩ : ∃ g, w6.heap.size = g := ⟨_, rfl⟩
 rw [hg7] at hY7 ⊢
 have HY7 := Lib.hid hY7
 clear hg7 hY7
 go_wp2_with fail
 refine (rSplit_any (HX.out.below (below_step (below_step HB3.out HB5.out) HB7.out)) HN.out).mono ?_
 rintro e w8 ⟨vl2, vs2, Hs, t'', x'', y'', rfl, HF2, HXY2, hO8, hI8, hb8⟩
 obtain ⟨rfl, HFH⟩ : t'' = t' ∧ Hid (Hs.map Fr.core = Fs.map Fr.core) := by
  have h1 := HF2.out
  rw [HF.out] at h1
  injection h1 with h1 h2
  exact ⟨h1.symm, Lib.hid h2.symm⟩
 obtain ⟨rfl, rfl⟩ : x'' = x' ∧ y'' = y' := by
  have h1 := HXY2.out
  rw [← HXY.out] at h1
  injection h1 with h1 h2
  exact ⟨h1, h2⟩
 obtain ⟨wa, w9, s0, s1, hY9, hb9⟩ := fault_put w8 x'' y''
 have hb79 := below_step hb8 hb9
 have hb59 := below_step HB7.out hb79
 have hb39 := below_step HB5.out hb59
 have HB9 := Lib.hid (below_step HB3.out hb39)
 have hY5 := fault_keep HY5.out hb59
 have hY7 := fault_keep HY7.out hb79
 have hO5 := HO5.out.below hb59
 have hO9 := hO8.below hb9
 have HFL : Hid (Fs.length ≤ n) := Lib.hid (by
  have h := (feed_came xs (Sm.new 2097152)).2.2.2.2
  rw [HF.out, List.length_map] at h
  have := HX.out.len; omega)
 have HLH : Hid (Hs.length = Fs.length) := Lib.hid (by have h := congrArg List.length HFH.out; rwa [List.length_map, List.length_map] at h)
 have HLG : Hid (Gs.length = Fs.length) := Lib.hid (by have h := congrArg List.length HFG.out; rwa [List.length_map, List.length_map] at h)
 obtain ⟨A5, c5, rfl⟩ := hO5.form
 obtain ⟨A8, c8, rfl⟩ := hO9.form
 obtain ⟨As, cs, rfl, hRs⟩ := (HI7.out.below hb79).reads
 obtain ⟨Ak, ck, rfl, hRk⟩ := (hI8.below hb9).reads
 have hR9 := HR3.out.below hb39
 have hX9 := HX.out.below HB9.out
 have HSS : Hid (sizesS Gs = sizesS Fs ∧ sizesS Hs = sizesS Fs) := Lib.hid ⟨sizes_core HFG.out, sizes_core HFH.out⟩
 rw [HSS.out.1] at hRs ⊢
 rw [HSS.out.2] at hRk ⊢
 obtain ⟨nf, hnf⟩ : ∃ nf, Fs.length = nf := ⟨_, rfl⟩
 have HNF := Lib.hid hnf
 have HSL : Hid ((sizesS Fs).length = nf) := Lib.hid (by rw [sizes_len, hnf])
 rw [HSL.out] at hRs hRk ⊢
 rw [HLH.out] at hO9 ⊢
 rw [hnf] at hO5 hO9 HFL ⊢
 have hLo := OFs.rfo hO5 hnf.symm (by have := HFL.out; have := HN.out; omega)
 have hHo := OFs.rfo hO9 (HLH.out.trans hnf).symm (by have := HFL.out; have := HN.out; omega)
 have HRs := Lib.hid hRs
 have HRk := Lib.hid hRk
 have HR9 := Lib.hid hR9
 have HX9 := Lib.hid hX9
 clear hO8 hI8 hb8 hb9 hb79 hb59 hb39 hO5 hO9 hRs hRk hR9 hX9 hnf
 go_upto_region 5 with (fail)
 clear s0 s1
 obtain ⟨g10, hg10⟩ : ∃ g, w8.heap.size = g := ⟨_, rfl⟩
 rw [hg10] at hY9 ⊢
 clear hg10
 have e5 := get_fault hY5
 have e7 := get_fault hY7
 have e10 := get_fault hY9
 have q1 := neq_faults' x'' y'' x'' y'' true (by simp)
 clear hY5 hY7 hY9
 go_wp2_with fail
 refine (rSames_true hLo hHo HFH.out.symm).mono ?_
 rintro e wS ⟨rfl, hbS⟩
 have HBS := Lib.hid (below_step HB9.out hbS)
 have HRS : Hid (∀ W, Below wS.heap.size wS W → ReadsInt W .i64 As nf (sizesS Fs) ∧ ReadsInt W .i64 Ak nf (sizesS Fs)) := Lib.hid (fun W hb => ⟨(HRs.out.below hbS).below hb, (HRk.out.below hbS).below hb⟩)
 have k54 := rb_str (HR9.out.below hbS) c3
 have k56 := rb_str (HX9.out.below hbS) c
 have bn : ((nf : Int) != (nf : Int)) = false := by simp
 have q2 := str_neq (strOfNums xs)
 clear hLo hHo e5 e7 e10 hbS
 clear HRs HRk HR9 HX9
 go_wp2_with fail
 go_loopg [11] nf (fun gk v11 w' => ∃ i : Nat, v11 = .int .i64 (i : Int) ∧ Below wS.heap.size wS w' ∧ Hid (i + gk = nf))
 case atStart => exact ⟨0, rfl, Below.refl _ _, Lib.hid (by omega)⟩
 case round =>
  obtain ⟨k, rfl, hbw, HK⟩ := hrel
  have HBW := Lib.hid hbw
  obtain ⟨r1, r2⟩ := HRS.out wr hbw
  clear hbw
  by_cases hk : k < nf
  ·have hk2 : (k : Int) < (nf : Int) := by omega
   have hk1 : IntKind.i64.wrap ((k : Int) + 1) = (k : Int) + 1 := by rw [IntKind.wrap_i64]; have := HN.out; have := HFL.out; omega
   have HKA : Hid (gk - 1 < gk ∧ k + 1 + (gk - 1) = nf) := Lib.hid (by have h := HK.out; exact ⟨by omega, by omega⟩)
   obtain ⟨a1, ea1, hc1⟩ := r1.2.2 (by omega)
   obtain ⟨a2, ea2, hc2⟩ := r2.2.2 (by omega)
   have d1 := hc1 k hk
   have d2 := hc2 k hk
   generalize (sizesS Fs).getD k 0 = z at *
   have l1 : ∀ i, (Instr.loadAt 3 (.pointer (some (a1.add k)))).run Tryz.prog (wr.drewN i) = .ok (.int .i64 z) (wr.drewN i) := fun i => load_cell_int d1
   have l2 : ∀ i, (Instr.loadAt 3 (.pointer (some (a2.add k)))).run Tryz.prog (wr.drewN i) = .ok (.int .i64 z) (wr.drewN i) := fun i => load_cell_int d2
   have bz : (z != z) = false := by simp
   subst ea1 ea2
   clear r1 r2 hk hc1 hc2 d1 d2
   go_wp2_with fail
   go_quiet (fail)
   have hbq := pw_below_drewN HBW.out nq
   go_wp2_with fail
   go_roundg (gk - 1)
   case measure => exact HKA.out.1
   case rel => exact ⟨k + 1, by simp, hbq, HKA.out.2⟩
  ·have hk2 : ¬ (k : Int) < (nf : Int) := by omega
   have HBj := Lib.hid (below_step HBS.out HBW.out)
   clear hk r1 r2
   go_wp2_with fail
   refine (lawake_any _).mono ?_
   rintro e w6 ⟨rfl, hb6⟩
   go_wp2_with fail
   go_ret
   exact ⟨rfl, below_step HBj.out hb6⟩
end Go.Proofs.YtpjpgcjhdbiepaaGreat
end
