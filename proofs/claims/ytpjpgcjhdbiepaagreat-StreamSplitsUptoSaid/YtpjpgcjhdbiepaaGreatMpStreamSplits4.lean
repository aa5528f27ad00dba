/- Contracts of functions that the law reaches (texts laid together, part 4): each says of its call what it answers and what it leaves of memory; the conditions stand in each statement. -/
import Derived.Test.YtpjpgcjhdbiepaaGreatMpStreamSplits3
import Derived.Test.YtpjpgcjhdbiepaaGreatWWords
import Derived.WalkKit
import Derived.Lib.Hide
import Derived.Laws.BitsAllLaws
import Derived.Deep.WholeRow
import Derived.Deep.CutBlock
import Derived.Deep.Cut
import Derived.Deep.LoopGhost
import Derived.Laws.CopyOwn
import Derived.Lib.SlBytesConst
import Derived.ChangeKeysEq
import Derived.Laws.StructEq
import Derived.Test.YtpjpgcjhdbiepaaGreatWMore
import Derived.Laws.Bits64b
import Derived.IntWalk
import Derived.Test.YtpjpgcjhdbiepaaGreatProg
import Derived.Test.YtpjpgcjhdbiepaaGreatWGuard
import Derived.Deep.MidRow
import Derived.Deep.RegionHeld3
import Derived.Deep.RegionLaw
import Derived.Deep.DeepMust
import Derived.Laws.Cover3
import Derived.Test.YtpjpgcjhdbiepaaGreatWEqStruct
import Derived.StillTailTactics
import Derived.Recover
import Derived.WalkLawsBesides
import Derived.Deep.RegionWith
import Derived.Laws.CopyRow
import Derived.Deep.QuietTactic
import Derived.BigQuiet
import Derived.RegionTactic
import Derived.BigRegion
set_option linter.unusedVariables false
set_option linter.unusedSimpArgs false
set_option linter.unusedSectionVars false
set_option linter.unnecessarySimpa false
section
namespace Go.Kit
open Go.RowKit Go.Proofs.YtpjpgcjhdbiepaaGreatW.PrintWords
end Go.Kit
namespace Go.Proofs.YtpjpgcjhdbiepaaGreat
open Go.RowKit Go.Kit Go.Proofs.YtpjpgcjhdbiepaaGreatW.PrintWords
def ownG (f : Fr) : Fr := { onlyG f.k f with k := f.k }
theorem own_core {f : Fr} (h1 : 1 ≤ f.k) (h6 : f.k ≤ 6) : (ownG f).core = onlyF f := by
 unfold ownG onlyG onlyF Fr.core
 rcases (by omega : f.k = 1 ∨ f.k = 2 ∨ f.k = 3 ∨ f.k = 4 ∨ f.k = 5 ∨ f.k = 6) with h | h | h | h | h | h <;> simp [h, only1, only2, only3, only4, only6, noF]
theorem may_iffK {f : Fr} (h1 : 1 ≤ f.k) (h6 : f.k ≤ 6) (hc : f.core = onlyF f) (hn : f.args.length = f.n) : May f ↔ MayK f.k f := by
 constructor
 ·intro h
  refine ⟨h.hello, fun _ => ⟨h.mo, h.fu, h.di, by have := h.many; omega, h.each⟩, fun e => ?_⟩
  obtain ⟨a, b, c⟩ := h.resp e
  by_cases hs : f.st = 1
  ·exact .inl hs
  ·exact .inr ⟨by omega, c hs⟩
 ·rintro ⟨ha, hb, hd⟩
  have e1 : f.mo = if f.k = 2 then f.mo else 0 := congrArg Fr.mo hc
  have e2 : f.fu = if f.k = 2 then f.fu else 0 := congrArg Fr.fu hc
  have e3 : f.di = if f.k = 2 then f.di else 0 := congrArg Fr.di hc
  have e4 : f.args = if f.k = 2 then f.args else [] := congrArg Fr.args hc
  by_cases h2 : f.k = 2
  ·obtain ⟨b1, b2, b3, b4, b5⟩ := hb h2
   exact ⟨h1, h6, hc, by omega, b1, b2, b3, fun e => by omega, fun e => by omega, b5⟩
  ·rw [if_neg h2] at e1 e2 e3 e4
   refine ⟨h1, h6, hc, by rw [e4]; simp, by omega, by omega, by omega, ha, fun e => ?_, fun s hs => by rw [e4] at hs; cases hs⟩
   rcases hd e with h | ⟨h, h3⟩
   ·exact ⟨by omega, by omega, fun h4 => absurd h h4⟩
   ·exact ⟨by omega, by omega, fun _ => h3⟩
theorem may_lay {f : Fr} (h : May f) (hn : f.args.length = f.n) (hs : f.body.size ≤ 2097152) : LayOk f :=
 ⟨fun e => by have := h.hello e; omega, fun e => ⟨⟨h.mo, h.fu, h.di⟩, by have := h.many; omega, h.each⟩, fun e => by have := (h.resp e).1; omega, hs⟩
theorem chk_no {f : Fr} (h : ¬ May f) : chkF f = 70 := by unfold chkF; rw [if_neg (fun e => h ((may_iff f).1 e))]
theorem chk_long {f : Fr} (h : May f) (hs : 2097152 < f.body.size ∨ 2097152 < (bodyF f).length) : chkF f = 3 := by unfold chkF MF; rw [if_pos ((may_iff f).2 h), if_pos hs]
theorem chk_ok {f : Fr} (h : May f) (hs : ¬ (2097152 < f.body.size ∨ 2097152 < (bodyF f).length)) : chkF f = 0 := by unfold chkF MF; rw [if_pos ((may_iff f).2 h), if_neg hs]
section
variable {f : Fr} {w : World}
attribute [-go_sem] Instr.loadAt
set_option maxHeartbeats 16000000 in
set_option maxRecDepth 100000 in
theorem Check_any (hf : f.ok w) (hw : f.wf) (ha : ∀ s ∈ f.args, s.size ≤ 9223372036854775807) : Calls Tryz.prog 58 #[f.val] w fun e w' => e = .returned (.int .i64 (chkF f)) ∧ Below w.heap.size w w' := by
 have hb := below_alloc (Below.refl _ w) (.cells f.arr 48)
 have hF := boxed hf.tool w
 have hif : (Tryz.prog.info? 48).map (·.size) = some f.cells.length := by rw [frame_size]; have := Fr.arr_size f hf.tool; simp [Fr.arr] at this; rw [this]
 by_cases h1 : f.k < 1 ∨ 6 < f.k
 ·rw [chk_no (f := f) (fun h => by have := h.k1; have := h.k6; omega)]
  have HB := Lib.hid h1
  clear h1 hif
  show Calls Tryz.prog _ #[.agg f.arr] w _
  go_enter Tryz.func58, Tryz.ntmps58
  go_upto_region 1 with (fail)
  generalize w.alloc (.cells f.arr 48) = w1 at *
  have e0 := load_int hF.c0
  go_wp2_with fail
  refine (of_bad f.k HB.out _).mono ?_
  rintro e w2 ⟨rfl, hb2⟩
  have hbz := below_alloc (Below.refl w2.heap.size w2) (.cells #[.nilFunc, .nilFunc, .nilFunc, .nilFunc] 142)
  have hblk := heap_alloc_new w2 (.cells #[.nilFunc, .nilFunc, .nilFunc, .nilFunc] 142)
  have hb3 := below_step (below_step hb hb2) hbz
  have hb4 := below_setRow hb3 (Nat.le_trans hb.size hb2.size) #[.nilFunc, .nilFunc, .nilFunc, .nilFunc]
  have hszz : (Tryz.prog.info? 142).map (·.size) = some (#[.nilFunc, .nilFunc, .nilFunc, .nilFunc] : Array Value).size := kind_size4
  have hone : (#[.nilFunc, .nilFunc, .nilFunc, .nilFunc] : Array Value).all (·.oneCell') = true := by simp [Value.oneCell']
  go_wp2_with (with_reducible show wpList _ _ _ (Oper.mk none _ _ _ _ _ :: _) _ _; refine wpList_store_row rfl 142 (.tmp 3) (.tmp 10) rfl w2.heap.size #[.nilFunc, .nilFunc, .nilFunc, .nilFunc] rfl rfl 142 _ hblk hszz rfl hone ?_)
  go_ret
  exact ⟨rfl, hb4⟩
 ·have h1k : 1 ≤ f.k := by omega
  have h6k : f.k ≤ 6 := by omega
  have H1 := Lib.hid h1k
  have H6 := Lib.hid h6k
  have hO := own_core h1k h6k
  have htO : (ownG f).tool.length = 32 := by
   have e : (ownG f).core.tool = (onlyF f).tool := congrArg Fr.tool hO
   replace e : (ownG f).tool = (onlyF f).tool := e
   rw [e]; unfold onlyF; dsimp only; split
   ·exact hf.tool
   ·rfl
  have hif2 : (Tryz.prog.info? 48).map (·.size) = some (ownG f).cells.length := by rw [frame_size]; have := Fr.arr_size (ownG f) htO; simp [Fr.arr] at this; rw [this]
  obtain ⟨s, hs⟩ : ∃ s, (ownG f).same f = s := ⟨_, rfl⟩
  have hsI : s = true ↔ f.core = onlyF f := by rw [← hs, same_iff, hO]; exact eq_comm
  have HSI := Lib.hid hsI
  have hokO : ∀ W, Below w.heap.size w W → (ownG f).ok W := fun W hbw => by
   refine ⟨htO, ?_⟩
   unfold ownG onlyG
   rcases (by omega : f.k = 1 ∨ f.k = 2 ∨ f.k = 3 ∨ f.k = 4 ∨ f.k = 5 ∨ f.k = 6) with h | h | h | h | h | h <;> simp [h, only1, only2, only3, only4, only6, noF]
   ·exact RT.nil W
   ·exact hf.args.below hbw
   ·exact RT.nil W
   ·exact RT.nil W
   ·exact RT.nil W
   ·exact RT.nil W
  have cS : ∀ W, Below w.heap.size w W → Calls Tryz.prog 73 #[.agg (ownG f).arr, .agg f.arr] W (fun e w' => e = .returned (.bool s) ∧ Below W.heap.size W w') := fun W hbw => Same_is (ownG f) f s hs W (hokO W hbw) (hf.below hbw)
  have cM : ∀ W, Below w.heap.size w W → Calls Tryz.prog (mayN f.k) #[.agg f.arr] W (SomeBool (MayK f.k f) (fun w' => Below W.heap.size W w')) := fun W hbw => may_any f.k H1.out H6.out (hf.below hbw) ha
  have cO : ∀ W, Calls Tryz.prog (onlyN f.k) #[.agg f.arr] W (fun e w' => e = .returned (.agg (onlyG f.k f).arr) ∧ Below W.heap.size W w') := fun W => only_any f.k H1.out H6.out f hf.tool W
  have cB : LayOk f → ∀ W, Below w.heap.size w W → Calls Tryz.prog 59 #[.agg f.arr] W (Laid W (bodyF f)) := fun hL W hbw => body_any H1.out H6.out (hf.below hbw) hw hL
  have htG : (onlyG f.k f).tool.length = 32 := htO
  have hszG := size_of (onlyG f.k f) htG
  have honeG := arr_one (onlyG f.k f)
  have hasG := Fr.arr_size (onlyG f.k f) htG
  have hen := only_enters f.k h1k h6k
  have hen2 := may_enters f.k h1k h6k
  have HLN := Lib.hid hf.args.len
  have htF := hf.tool
  clear hs hO hokO h1k h6k hsI htO h1 hf hw ha
  show Calls Tryz.prog _ #[.agg f.arr] w _
  go_enter Tryz.func58, Tryz.ntmps58
  go_upto_region 1 with (fail)
  generalize w.alloc (.cells f.arr 48) = w1 at *
  have e0 := load_int hF.c0
  obtain ⟨g, hg⟩ : ∃ g, w.heap.size = g := ⟨_, rfl⟩
  rw [hg] at hF e0 ⊢
  clear hg
  go_wp2_with fail
  refine (of_any f.k H1.out H6.out _).mono ?_
  rintro e w2 ⟨rfl, hb2⟩
  have hbz := below_alloc (Below.refl w2.heap.size w2) (.cells #[.nilFunc, .nilFunc, .nilFunc, .nilFunc] 142)
  have hblk := heap_alloc_new w2 (.cells #[.nilFunc, .nilFunc, .nilFunc, .nilFunc] 142)
  have h4 : (#[.nilFunc, .nilFunc, .nilFunc, .nilFunc] : Array Value).size = (kV f.k).size := rfl
  have hsz := kind_size (k := f.k)
  have hone := kind_one f.k
  obtain ⟨KK, hKK⟩ : ∃ KK, kV f.k = KK := ⟨_, rfl⟩
  have hk2 : KK[2]? = some (.func (.func (onlyN f.k)) #[] #[]) := by rw [← hKK]; rfl
  have hk3 : KK[3]? = some (.func (.func (mayN f.k)) #[] #[]) := by rw [← hKK]; rfl
  rw [hKK] at h4 hsz hone ⊢
  have hb3 := below_step (below_step hb hb2) hbz
  have hF3 := (hF.below hb2).below hbz
  have hb4 := below_setRow hb3 (Nat.le_trans hb.size hb2.size) KK
  have hF4 := hF3.only (Fr.only_row _ w2.heap.size KK) (fun e => by have := hF.lt; have := hb2.size; omega)
  have hK4 := setRow_heap _ w2.heap.size _ KK _ _ hblk
  clear hKK e0
  go_upto_region 4 with (with_reducible show wpList _ _ _ (Oper.mk none _ _ _ _ _ :: _) _ _; refine wpList_store_row rfl 142 (.tmp 3) (.tmp 10) rfl w2.heap.size KK rfl rfl 142 _ hblk hsz h4 hone ?_)
  clear hb hb2 hbz hblk hb3 hF3 hF h4 hsz hone
  generalize (w2.alloc (.cells #[.nilFunc, .nilFunc, .nilFunc, .nilFunc] 142)).setRow w2.heap.size KK = w5 at *
  generalize w2.heap.size = gk at *
  have e1 := load_only (a := ⟨gk, 2, none⟩) (by rw [cell_of_row w5 gk 2 _ _ _ hK4]; exact hk2)
  have e2 := load_frame f hif w5 g hF4
  go_wp2_with fail
  refine (cO _).mono ?_
  rintro e w6 ⟨rfl, hb6⟩
  have hb7 := below_step hb4 hb6
  have hF6 := hF4.below hb6
  have hK6 := (hb6.block _ (lt_of_block hK4)).trans hK4
  have hbZ := below_alloc (Below.refl w6.heap.size w6) (.cells #[.int .i64 0, .int .u64 0, .int .i64 0, .int .i64 0, .int .u8 0, .int .u8 0, .int .u8 0, .int .u8 0, .int .u8 0, .int .u8 0, .int .u8 0, .int .u8 0, .int .u8 0, .int .u8 0, .int .u8 0, .int .u8 0, .int .u8 0, .int .u8 0, .int .u8 0, .int .u8 0, .int .u8 0, .int .u8 0, .int .u8 0, .int .u8 0, .int .u8 0, .int .u8 0, .int .u8 0, .int .u8 0, .int .u8 0, .int .u8 0, .int .u8 0, .int .u8 0, .int .u8 0, .int .u8 0, .int .u8 0, .int .u8 0, .int .i64 0, .int .i64 0, .int .i64 0, .int .i64 0, .slice none 0 0, .string ⟨#[]⟩] 48)
  have hblk := heap_alloc_new w6 (.cells #[.int .i64 0, .int .u64 0, .int .i64 0, .int .i64 0, .int .u8 0, .int .u8 0, .int .u8 0, .int .u8 0, .int .u8 0, .int .u8 0, .int .u8 0, .int .u8 0, .int .u8 0, .int .u8 0, .int .u8 0, .int .u8 0, .int .u8 0, .int .u8 0, .int .u8 0, .int .u8 0, .int .u8 0, .int .u8 0, .int .u8 0, .int .u8 0, .int .u8 0, .int .u8 0, .int .u8 0, .int .u8 0, .int .u8 0, .int .u8 0, .int .u8 0, .int .u8 0, .int .u8 0, .int .u8 0, .int .u8 0, .int .u8 0, .int .i64 0, .int .i64 0, .int .i64 0, .int .i64 0, .slice none 0 0, .string ⟨#[]⟩] 48)
  have hF7 := hF6.below hbZ
  have hK7 := (hbZ.block _ (lt_of_block hK6)).trans hK6
  have hb8 := below_step hb7 hbZ
  have h42 : (#[.int .i64 0, .int .u64 0, .int .i64 0, .int .i64 0, .int .u8 0, .int .u8 0, .int .u8 0, .int .u8 0, .int .u8 0, .int .u8 0, .int .u8 0, .int .u8 0, .int .u8 0, .int .u8 0, .int .u8 0, .int .u8 0, .int .u8 0, .int .u8 0, .int .u8 0, .int .u8 0, .int .u8 0, .int .u8 0, .int .u8 0, .int .u8 0, .int .u8 0, .int .u8 0, .int .u8 0, .int .u8 0, .int .u8 0, .int .u8 0, .int .u8 0, .int .u8 0, .int .u8 0, .int .u8 0, .int .u8 0, .int .u8 0, .int .i64 0, .int .i64 0, .int .i64 0, .int .i64 0, .slice none 0 0, .string ⟨#[]⟩] : Array Value).size = (onlyG f.k f).arr.size := by rw [hasG]; rfl
  have hne : ¬ g = w6.heap.size := fun e => by have := hF6.lt; omega
  have hnk : ¬ gk = w6.heap.size := fun e => by have := lt_of_block hK6; omega
  clear e1 e2 hb4 hF4 hK4 hb6 hF6 hK6 hbZ cO
  go_upto_region 5 with (with_reducible show wpList _ _ _ (Oper.mk none _ _ _ _ _ :: _) _ _; refine wpList_store_row rfl 48 (.tmp 5) (.tmp 17) rfl w6.heap.size (onlyG f.k f).arr rfl rfl 48 _ hblk hszG h42 honeG ?_)
  have hb9 := below_setRow hb8 hb7.size (onlyG f.k f).arr
  have hF9 := hF7.only (Fr.only_row _ w6.heap.size (onlyG f.k f).arr) hne
  have hK9 := (Fr.only_row _ w6.heap.size (onlyG f.k f).arr).kept hK7 hnk
  have hG9 : (onlyG f.k f).at_ 48 _ w6.heap.size := ⟨setRow_heap _ w6.heap.size _ (onlyG f.k f).arr _ _ hblk, htG⟩
  have hg9 := hb7.size
  clear hF7 hK7 hb8 hblk hb7 hszG honeG hasG h42
  generalize (w6.alloc (.cells #[.int .i64 0, .int .u64 0, .int .i64 0, .int .i64 0, .int .u8 0, .int .u8 0, .int .u8 0, .int .u8 0, .int .u8 0, .int .u8 0, .int .u8 0, .int .u8 0, .int .u8 0, .int .u8 0, .int .u8 0, .int .u8 0, .int .u8 0, .int .u8 0, .int .u8 0, .int .u8 0, .int .u8 0, .int .u8 0, .int .u8 0, .int .u8 0, .int .u8 0, .int .u8 0, .int .u8 0, .int .u8 0, .int .u8 0, .int .u8 0, .int .u8 0, .int .u8 0, .int .u8 0, .int .u8 0, .int .u8 0, .int .u8 0, .int .i64 0, .int .i64 0, .int .i64 0, .int .i64 0, .slice none 0 0, .string ⟨#[]⟩] 48)).setRow w6.heap.size (onlyG f.k f).arr = w9 at *
  generalize w6.heap.size = g5 at *
  have e0 := load_int hF9.c0
  have r0 := hG9.c0
  have f0 := hG9.fz 0
  have hoz := Fr.only_at w9 g5 0 (.int .i64 f.k)
  have hFa := hF9.only hoz hne
  have hKa := hoz.kept hK9 hnk
  have hGa : (ownG f).at_ 48 _ g5 := hG9.set0 f.k
  have hba := Below.only hb9 hoz hb9.size (fun k e => by rw [e]; exact hg9)
  clear hb9 hF9 hK9 hG9 hoz
  go_upto_region 6 with (fail)
  generalize w9.setCell ⟨g5, 0, none⟩ (.int .i64 f.k) = wa at *
  clear e0 r0 f0 hne hnk hg9
  have e1 := load_frame (ownG f) hif2 wa g5 hGa
  have e2 := load_frame f hif wa g hFa
  go_wp2_with fail
  refine (cS wa hba).mono ?_
  rintro e wb ⟨rfl, hbb⟩
  have hbc := below_step hba hbb
  have hFb := hFa.below hbb
  have hKb := (hbb.block _ (lt_of_block hKa)).trans hKa
  clear e1 e2 hGa hbb hFa hKa hba cS
  cases s with
  | false =>
   have HX : Hid (chkF f = 70) := Lib.hid (chk_no (f := f) (fun h => by have := HSI.out.2 h.only; cases this))
   clear cM cB
   go_wp2_with fail
   go_ret
   exact ⟨by rw [HX.out]; rfl, hbc⟩
  | true =>
   have hco := HSI.out.1 rfl
   have HMK := Lib.hid (may_iffK H1.out H6.out hco HLN.out)
   clear hco
   have e1 := load_may (a := ⟨gk, 3, none⟩) (by rw [cell_of_row wb gk 3 _ _ _ hKb]; exact hk3)
   have e2 := load_frame f hif wb g hFb
   go_wp2_with fail
   refine (cM wb hbc).mono ?_
   rintro e wc ⟨t, rfl, HB, hbd⟩
   have hbe := below_step hbc hbd
   have hFc := hFb.below hbd
   clear e1 e2 hbc hFb hKb hbd cM
   cases t with
   | false =>
    have HX : Hid (chkF f = 70) := Lib.hid (chk_no (f := f) (fun h => by have := HB.out.2 (HMK.out.1 h); cases this))
    clear cB
    go_wp2_with fail
    go_ret
    exact ⟨by rw [HX.out]; rfl, hbe⟩
   | true =>
    have HM : Hid (May f) := Lib.hid (HMK.out.2 (HB.out.1 rfl))
    have e1 := load_str hFc.c41
    by_cases hs : 2097152 < f.body.size
    ·have HX : Hid (chkF f = 3) := Lib.hid (chk_long HM.out (.inl hs))
     have hs2 : (2097152 : Int) < (f.body.size : Int) := by omega
     clear hs cB
     go_wp2_with fail
     go_ret
     exact ⟨by rw [HX.out]; rfl, hbe⟩
    ·have hs2 : ¬ (2097152 : Int) < (f.body.size : Int) := by omega
     have HS := Lib.hid hs
     have e2 := load_frame f hif wc g hFc
     clear hs
     go_wp2_with fail
     refine (cB (may_lay HM.out HLN.out (by have := HS.out; omega)) wc hbe).mono ?_
     rintro e wd ⟨v, rfl, hOd, hbf⟩
     have hbg := below_step hbe hbf
     obtain ⟨Ad, cd, rfl, hRd⟩ := hOd.reads
     obtain ⟨nd, hnd⟩ : ∃ nd, (bodyF f).length = nd := ⟨_, rfl⟩
     rw [hnd] at hOd hRd ⊢
     by_cases hl : 2097152 < nd
     ·have HX : Hid (chkF f = 3) := Lib.hid (chk_long HM.out (.inr (by rw [hnd]; exact hl)))
      have hl2 : (2097152 : Int) < (nd : Int) := by omega
      clear hl hnd
      go_wp2_with fail
      go_ret
      exact ⟨by rw [HX.out]; rfl, hbg⟩
     ·have HX : Hid (chkF f = 0) := Lib.hid (chk_ok HM.out (by rw [hnd]; have := HS.out; omega))
      have hl2 : ¬ (2097152 : Int) < (nd : Int) := by omega
      clear hl hnd
      go_wp2_with fail
      go_ret
      exact ⟨by rw [HX.out]; rfl, hbg⟩
theorem chk_facts {f : Fr} (h : chkF f = 0) : May f ∧ f.body.size ≤ 2097152 ∧ (bodyF f).length ≤ 2097152 := by
 unfold chkF MF at h
 split at h
 ·next hm =>
  split at h
  ·omega
  ·exact ⟨(may_iff f).1 hm, by omega, by omega⟩
 ·omega
def encF (f : Fr) : List Int := if chkF f ≠ 0 then [] else sealed (sh (bodyF f).length ++ bodyF f)
set_option maxHeartbeats 8000000 in
set_option maxRecDepth 100000 in
theorem Encode_any (hf : f.ok w) (hw : f.wf) (ha : ∀ s ∈ f.args, s.size ≤ 9223372036854775807) : Calls Tryz.prog 46 #[f.val] w fun e w' => ∃ v, e = .returned (.tuple #[v, .int .i64 (chkF f)]) ∧ OB 5 w' w.heap.size v (encF f) ∧ Below w.heap.size w w' := by
 have hb := below_alloc (Below.refl _ w) (.cells f.arr 48)
 have hF := boxed hf.tool w
 have hif : (Tryz.prog.info? 48).map (·.size) = some f.cells.length := by rw [frame_size]; have := Fr.arr_size f hf.tool; simp [Fr.arr] at this; rw [this]
 have cC : ∀ W, Below w.heap.size w W → Calls Tryz.prog 58 #[.agg f.arr] W (fun e w' => e = .returned (.int .i64 (chkF f)) ∧ Below W.heap.size W w') := fun W hbw => Check_any (hf.below hbw) hw ha
 have cB : chkF f = 0 → ∀ W, Below w.heap.size w W → Calls Tryz.prog 59 #[.agg f.arr] W (Laid W (bodyF f)) := fun hc W hbw => by
  obtain ⟨hm, h2, _⟩ := chk_facts hc
  exact body_any hm.k1 hm.k6 (hf.below hbw) hw (may_lay hm hf.args.len h2)
 obtain ⟨c, hc⟩ : ∃ c, chkF f = c := ⟨_, rfl⟩
 have HE : Hid (encF f = if c ≠ 0 then [] else sealed (sh (bodyF f).length ++ bodyF f)) := Lib.hid (by unfold encF; rw [hc])
 have HC := Lib.hid hc
 rw [hc] at cC ⊢
 clear hc hf hw ha
 show Calls Tryz.prog _ #[.agg f.arr] w _
 go_enter Tryz.func46, Tryz.ntmps46
 go_upto_region 1 with (fail)
 generalize w.alloc (.cells f.arr 48) = w1 at *
 obtain ⟨g, hg⟩ : ∃ g, w.heap.size = g := ⟨_, rfl⟩
 rw [hg] at hF ⊢
 clear hg
 have e2 := load_frame f hif w1 g hF
 go_wp2_with fail
 refine (cC w1 hb).mono ?_
 rintro e w2 ⟨rfl, hb2⟩
 have hb3 := below_step hb hb2
 have hF2 := hF.below hb2
 clear e2 hb hb2 hF cC
 by_cases h0 : c = 0
 ·subst h0
  have e2 := load_frame f hif w2 g hF2
  have HL := Lib.hid (chk_facts HC.out).2.2
  go_wp2_with fail
  refine (cB HC.out w2 hb3).mono ?_
  rintro e w3 ⟨v3, rfl, hO3, hb4⟩
  have hb5 := below_step hb3 hb4
  obtain ⟨A3, c3, rfl, hR3, _⟩ := hO3.reads'
  obtain ⟨m, hm⟩ : ∃ m, (bodyF f).length = m := ⟨_, rfl⟩
  have hml : m ≤ 2097152 := by rw [← hm]; exact HL.out
  have hwm := u64_nn (x := (m : Int)) (by omega) (by omega)
  rw [hm] at hO3 hR3 HE ⊢
  have HM := Lib.hid hm
  clear e2 hb3 hb4 hF2 cB hm
  go_wp2_with fail
  refine (PutUint_any (A := none) (n := 0) (cap := 0) (xs := []) (w := w3) (m : Int) (RB.nil _) (by omega) (by omega) (by omega)).mono ?_
  rintro e w4 ⟨v4, rfl, hO4, hb6⟩
  have hb7 := below_step hb5 hb6
  have hR4 := hR3.below hb6
  have hO5 := hO4.less hb5.size
  rw [List.nil_append, Int.toNat_natCast] at hO5
  have hls := sh_ten (n := m) (by omega)
  have HLS := Lib.hid hls
  clear hO4 hO3 hR3 hb5 hb6 hls
  go_wp2_with (at_builtin; refine push_row (w0 := w) w.heap.size rfl (.tmp 16) (.tmp 17) 22 (bodyF f) A3 m c3 rfl Tryz.underlying22 u8_info rfl rfl hO5 hR4 hb7 hb7.size (by have := HLS.out; omega) ?_)
  intro v6 w6 hO6 hb8 _ _
  obtain ⟨A6, c6, rfl, hR6, _⟩ := hO6.reads'
  obtain ⟨m6, hm6⟩ : ∃ q, (sh m ++ bodyF f).length = q := ⟨_, rfl⟩
  rw [hm6] at hO6 hR6 ⊢
  have hm6l : m6 ≤ 2097162 := by rw [← hm6, List.length_append, HM.out]; have := HLS.out; omega
  clear hm6 hR4 hO5 hb7
  go_wp2_with fail
  refine (Seal_any A6 m6 c6 (sh m ++ bodyF f) w6 hR6 (by omega)).mono ?_
  rintro e w7 ⟨v7, rfl, hO7, hb9⟩
  have hb10 := below_step hb8 hb9
  have hO8 : OB 5 w7 w.heap.size v7 (encF f) := by
   rw [HE.out, if_neg (by decide)]
   exact hO7.less hb8.size
  go_wp2_with fail
  go_ret2
  exact ⟨_, rfl, hO8, hb10⟩
 ·have h0b : (c != 0) = true := by simpa using h0
  have hO8 : OB 5 w2 w.heap.size (.slice none 0 0) (encF f) := by
   rw [HE.out, if_pos h0]
   exact OB.nil _ _ _
  clear h0
  go_wp2_with fail
  go_ret2
  exact ⟨_, rfl, hO8, hb3⟩
set_option maxHeartbeats 8000000 in
set_option maxRecDepth 100000 in
theorem fSize_any (hf : f.ok w) (hw : f.wf) (ha : ∀ s ∈ f.args, s.size ≤ 9223372036854775807) : Calls Tryz.prog 37 #[f.val] w fun e w' => e = .returned (.tuple #[.int .i64 ((encF f).length : Int), .int .i64 (chkF f)]) ∧ Below w.heap.size w w' := by
 have hb := below_alloc (Below.refl _ w) (.cells f.arr 48)
 have hF := boxed hf.tool w
 have hif : (Tryz.prog.info? 48).map (·.size) = some f.cells.length := by rw [frame_size]; have := Fr.arr_size f hf.tool; simp [Fr.arr] at this; rw [this]
 have cC : ∀ W, Below w.heap.size w W → Calls Tryz.prog 46 #[.agg f.arr] W _ := fun W hbw => Encode_any (hf.below hbw) hw ha
 obtain ⟨c, hc⟩ : ∃ c, chkF f = c := ⟨_, rfl⟩
 obtain ⟨L, hL⟩ : ∃ L, encF f = L := ⟨_, rfl⟩
 rw [hc, hL] at cC ⊢
 clear hc hL hf hw ha
 show Calls Tryz.prog _ #[.agg f.arr] w _
 go_enter Tryz.func37, Tryz.ntmps37
 go_upto_region 1 with (fail)
 generalize w.alloc (.cells f.arr 48) = w1 at *
 obtain ⟨g, hg⟩ : ∃ g, w.heap.size = g := ⟨_, rfl⟩
 rw [hg] at hF ⊢
 clear hg
 have e2 := load_frame f hif w1 g hF
 go_wp2_with fail
 refine (cC w1 hb).mono ?_
 rintro e w2 ⟨v, rfl, hO, hb2⟩
 have hb3 := below_step hb hb2
 obtain ⟨A3, c3, rfl, hR3, _⟩ := hO.reads'
 clear e2 hb hb2 hF cC hO
 go_wp2_with fail
 go_ret2
 exact ⟨rfl, hb3⟩
end
end Go.Proofs.YtpjpgcjhdbiepaaGreat
end
section
namespace Go.Proofs.YtpjpgcjhdbiepaaGreat
open Go.RowKit Go.Kit CrcM Go.Proofs.YtpjpgcjhdbiepaaGreatW.PrintWords
theorem head_num {xs : List Int} {m k : Nat} (h : headF xs = (m, k, 0)) (hk : k ≠ 0 ∨ m ≠ 0) : num xs 0 = (m, k, 0) ∧ m ≤ 2097152 ∧ m ≠ 0 := by
 obtain ⟨p, q, x, hN⟩ : ∃ p q x, num xs 0 = (p, q, x) := ⟨_, _, _, rfl⟩
 unfold headF at h
 rw [hN] at h
 dsimp only at h
 split at h
 ·cases h; omega
 split at h
 ·next h0 => exact absurd (congrArg (fun p => p.2.2) h) h0
 ·next h0 =>
  have h0 := Classical.not_not.mp h0
  split at h
  ·exact absurd (congrArg (fun p => p.2.2) h) (by show ¬ (3 : Int) = 0; decide)
  split at h
  ·exact absurd (congrArg (fun p => p.2.2) h) (by show ¬ (70 : Int) = 0; decide)
  ·cases h
   exact ⟨by rw [hN, h0], by omega, by assumption⟩
theorem need_k {xs : List Int} {m k : Nat} (h : needF xs = (m, k, 0)) (hm : m ≠ 0) : k ≠ 0 := by
 unfold needF at h
 split at h
 ·exact absurd (congrArg Prod.fst h).symm hm
 ·next hn =>
  have e : (headF xs).2.1 = k := congrArg (fun p => p.2.1) h
  rw [← e]
  exact fun e => hn (.inr e)
theorem seal_of_open {xs ys : List Int} (h : openR xs = (ys, 0)) : xs = sealed ys := by
 unfold openR at h
 split at h
 ·cases h
 split at h
 ·next h4 he => cases h; unfold sealed; rw [he, List.take_append_drop]
 ·cases h
theorem dec_form {xs : List Int} (hb : Byt xs) {f : Fr} {y : Int} (h : decF xs = (f, 0, y)) : chkF f = 0 ∧ encF f = xs ∧ ReadOk f := by
 obtain ⟨m, k, e, hN⟩ : ∃ m k e, needF xs = (m, k, e) := ⟨_, _, _, rfl⟩
 obtain ⟨ys, er, hO⟩ : ∃ ys er, openR xs = (ys, er) := ⟨_, _, rfl⟩
 unfold decF at h
 rw [hN, hO] at h
 dsimp only at h
 split at h
 ·next h0 => exact absurd (congrArg (fun p => p.2.1) h) h0
 next h0 =>
 have h0 := Classical.not_not.mp h0
 subst h0
 split at h
 ·exact absurd (congrArg (fun p => p.2.1) h) (by show ¬ (4 : Int) = 0; decide)
 next hm =>
 split at h
 ·exact absurd (congrArg (fun p => p.2.1) h) (by show ¬ (6 : Int) = 0; decide)
 next hm2 =>
 split at h
 ·exact absurd (congrArg (fun p => p.2.1) h) (by show ¬ (71 : Int) = 0; decide)
 next h1 =>
 have h1 := Classical.not_not.mp h1
 subst h1
 obtain ⟨m0, hh, hm0⟩ := need_head hN (fun e => hm (.inl e))
 have hs := seal_of_open hO
 obtain ⟨ht, h4⟩ := open_take hO
 have hyb : Byt ys := by rw [ht]; exact hb.take _
 have hyl : ys.length = xs.length - 4 := by rw [ht, List.length_take]; omega
 have hk : k ≤ ys.length := by omega
 have hm0' : k ≠ 0 ∨ m0 ≠ 0 := by
  exact .inl (need_k hN (fun e => hm (.inl e)))
 obtain ⟨hn, hn1, hn2⟩ := head_num hh hm0'
 obtain ⟨g1, g2⟩ := num_form hb hn
 obtain ⟨hd, hmay, hro⟩ := read_form hyb hk h
 rw [List.drop_zero] at g1
 have htk : ys.take k = sh m0 := by rw [ht, List.take_take, Nat.min_eq_left (by omega)]; exact g1
 have hy : ys = sh m0 ++ bodyF f := by rw [← htk, ← hd, List.take_append_drop]
 have hlen : (bodyF f).length = m0 := by rw [← hd, List.length_drop]; omega
 have hc : chkF f = 0 := chk_ok hmay (by have := body_le f hmay; omega)
 refine ⟨hc, ?_, hro⟩
 unfold encF
 rw [if_neg (by rw [hc]; decide), hlen, ← hy, ← hs]
theorem core_wf {f g : Fr} (h : g.core = f) (ho : ReadOk f) (hk : 1 ≤ f.k ∧ f.k ≤ 6) : g.wf := by
 subst h
 have h1 := ho.hello
 have h2 := ho.resp
 have e := ho.only
 have hv : g.core.v = (onlyF g.core).v := by have t := congrArg Fr.v e; exact t
 have hs : g.core.s = (onlyF g.core).s := by have t := congrArg Fr.s e; exact t
 have ht : g.core.st = (onlyF g.core).st := by have t := congrArg Fr.st e; exact t
 have b1 : -9223372036854775808 ≤ g.core.v ∧ g.core.v ≤ 9223372036854775807 := by
  by_cases hc : g.core.k = 1
  ·have := h1 hc; omega
  ·rw [hv, show (onlyF g.core).v = if g.core.k = 1 then g.core.v else 0 from rfl, if_neg hc]; omega
 have b2 : -9223372036854775808 ≤ g.core.s ∧ g.core.s ≤ 9223372036854775807 := by
  by_cases hc : g.core.k = 1
  ·have := h1 hc; omega
  ·rw [hs, show (onlyF g.core).s = if g.core.k = 1 then g.core.s else 0 from rfl, if_neg hc]; omega
 have b3 : -9223372036854775808 ≤ g.core.st ∧ g.core.st ≤ 9223372036854775807 := by
  by_cases hc : g.core.k = 3
  ·have := h2 hc; omega
  ·rw [ht, show (onlyF g.core).st = if g.core.k = 3 then g.core.st else 0 from rfl, if_neg hc]; omega
 have m1 := ho.mo
 have m2 := ho.fu
 have m3 := ho.di
 exact ⟨ho.id.1, ho.id.2, ⟨by show _ ≤ g.core.k; omega, by show g.core.k ≤ _; omega⟩, b1, b2, b3, ⟨by show _ ≤ g.core.mo; omega, by show g.core.mo ≤ _; omega⟩, ⟨by show _ ≤ g.core.fu; omega, by show g.core.fu ≤ _; omega⟩, ⟨by show _ ≤ g.core.di; omega, by show g.core.di ≤ _; omega⟩, ho.byt⟩
end Go.Proofs.YtpjpgcjhdbiepaaGreat
end
section
namespace Go.Proofs.YtpjpgcjhdbiepaaGreat
open Go.RowKit Go.Kit CrcM Go.Proofs.YtpjpgcjhdbiepaaGreatW.PrintWords
theorem head_of {L : Nat} (rest : List Int) (h1 : 1 ≤ L) (h2 : L ≤ 2097152) : headF (sh L ++ rest) = (L, (sh L).length, 0) := by
 have hn := num_sh [] rest L (by omega)
 rw [List.nil_append] at hn
 unfold headF
 rw [show ([] : List Int).length = 0 from rfl] at hn
 rw [hn]
 dsimp only
 rw [if_neg (by decide), if_neg (by simp), if_neg (by omega), if_neg (by omega)]
theorem need_of' {L : Nat} (rest : List Int) (h1 : 1 ≤ L) (h2 : L ≤ 2097152) : needF (sh L ++ rest) = (L + (sh L).length + 4, (sh L).length, 0) := by
 have hp := sh_pos L
 unfold needF
 rw [head_of rest h1 h2]
 dsimp only
 rw [if_neg (by omega)]
end Go.Proofs.YtpjpgcjhdbiepaaGreat
end
section
namespace Go.Proofs.YtpjpgcjhdbiepaaGreat
open Go.RowKit Go.Kit CrcM Go.Proofs.YtpjpgcjhdbiepaaGreatW.PrintWords

theorem bne_same {x y : Int} (h : x = y) : (x != y) = false := by simp [h]
theorem bne_diff {x y : Int} (h : ¬ x = y) : (x != y) = true := by simp [h]
theorem same_upto {X Y : List Int} (hX : X.length = 4) (hY : Y.length = 4) (h : X.take 4 = Y.take 4) : X = Y := by
 rwa [List.take_of_length_le (by omega), List.take_of_length_le (by omega)] at h
set_option maxHeartbeats 2000000 in
set_option maxRecDepth 100000 in
theorem rOpen_any (A : Option Addr) (len cap : Nat) (xs : List Int) (w : World) (hx : RB w A len xs) (hcap : len ≤ cap) (hl : len ≤ 140737488355000) :
  Calls Tryz.prog 64 #[.slice A len cap] w fun e w' => ∃ v ys err, e = .returned (.tuple #[v, .int .i64 err]) ∧ OB 5 w' w.heap.size v ys ∧ Hid ((ys, err) = openR xs) ∧ Below w.heap.size w w' := by
 by_cases h4 : len < 4
 ·have HF : Hid (([], 4) = openR xs) := (openR_short (by rw [hx.len]; exact h4)).symm
  go_enter Tryz.func64, Tryz.ntmps64
  go_wp2_with fail
  go_ret2
  exact ⟨_, _, _, rfl, OB.nil _ _ _, HF, Below.refl _ _⟩
 ·obtain ⟨N, rfl⟩ : ∃ N, len = N + 4 := ⟨len - 4, by omega⟩
  have hxN := RB.take_ hx N (by omega)
  go_enter Tryz.func64, Tryz.ntmps64
  go_wp2_with fail
  refine (rMore_any 0#32 _ (by decide) A N cap _ _ hxN).mono ?_
  rintro e w2 ⟨rfl, rfl⟩
  obtain ⟨s, hs⟩ : ∃ s, s = more 0#32 (xs.take N) := ⟨_, rfl⟩
  rw [← hs]
  have HS := Lib.hid hs
  clear hs
  go_wp2_with fail
  refine (rBytes_any s _ rfl _).mono ?_
  rintro e w3 ⟨x0, x1, x2, x3, rfl, HB, hb3⟩
  have hz := (zero_of_info info_b4).1
  have hfour : Byt [x0, x1, x2, x3] := by rw [← HB.out]; exact b4_byt s
  have HR := RB.lit w3 [x0, x1, x2, x3] hfour (by simp) 110 (0, 0)
  simp only [nums, List.map_cons, List.map_nil, List.length_cons, List.length_nil, Nat.reduceAdd] at HR
  have hbw := below_alloc hb3 (.cells #[.int .u8 x0, .int .u8 x1, .int .u8 x2, .int .u8 x3] 110)
  go_wp2_with fail
  clear hz hb3
  obtain ⟨gb, hgb⟩ : ∃ gb, gb = w3.heap.size := ⟨_, rfl⟩
  rw [← hgb] at HR ⊢
  clear hgb
  generalize (w3.alloc (.cells #[.int .u8 x0, .int .u8 x1, .int .u8 x2, .int .u8 x3] 110)) = W3 at *
  have hx3 := hx.below hbw
  have hDl : Hid ((xs.drop N).length = 4) := by rw [List.length_drop, hx.len]; show N + 4 - N = 4; omega
  generalize hX : [x0, x1, x2, x3] = X at *
  have HXl : Hid (X.length = 4) := by rw [← hX]; rfl
  clear hX
  go_loopg [6] 4 (fun g v6 w' => ∃ i : Nat, v6 = .int .i64 (i : Int) ∧ i ≤ 4 ∧ (∃ m, w' = W3.drewN m) ∧ Hid (g + i = 4 ∧ X.take i = (xs.drop N).take i))
  case atStart => exact ⟨0, rfl, by omega, ⟨0, rfl⟩, rfl, by simp⟩
  case round =>
   obtain ⟨i, rfl, hi, ⟨m, rfl⟩, HD⟩ := hrel
   cases gk with
   | zero =>
    obtain rfl : i = 4 := by have := HD.out.1; omega
    have HF : Hid ((xs.take N, 0) = openR xs) := (openR_good hx.len (by rw [← HS.out, HB.out]; exact same_upto HXl.out hDl.out HD.out.2)).symm
    have hxm := RB.take_ ((hx3.drewN m)) N (by omega)
    have hbm := pw_below_drewN hbw m
    have hml := hxm.len
    have HM := Lib.hid hml
    clear hml
    go_wp2_with (at_builtin; refine print_append_row (w0 := w2) w2.heap.size rfl (.const (.slice none 0 0)) (.tmp 33) 22 5 .u8 1 rfl Tryz.underlying22 u8_info (by decide) (.slice none 0 0) [] (xs.take N) A N cap rfl rfl (own_nil _ _ _ _) hxm.rd hbm (by have := hbm.size; simpa using this) (by simp; omega) ?_)
    intro v1 w4 hown hb4 _ _
    have hF : OB 5 w4 w2.heap.size v1 (xs.take N) := ⟨by simpa using hown, hx.byt.take N⟩
    clear hown
    go_wp2_with fail
    go_ret2
    exact ⟨_, _, _, rfl, hF, HF, hb4⟩
   | succ g =>
    have hlt : i < 4 := by have := HD.out.1; omega
    obtain ⟨ad, y, rfl, hcy, hy0, hy1, HY⟩ := hx3.at_ (N + i) (by omega)
    obtain ⟨ad2, x, hq, hcx, hx0, hx1, HXX⟩ := HR.at_ i hlt
    injection hq with hq
    subst hq
    rw [add_plain] at hcx
    have hbi : (i : Int) < 4 := by omega
    have hbn : (N : Int) + (i : Int) < (N : Int) + 4 := by omega
    have hwr : IntKind.i64.wrap ((N : Int) + (i : Int)) = (N : Int) + (i : Int) := IntWalk.i64_in _ (by omega)
    have hnn : (0 : Int) ≤ (N : Int) + (i : Int) := by omega
    have hnt : ((N : Int) + (i : Int)).toNat = N + i := by omega
    by_cases hxy : y = x
    ·have hbb := bne_same hxy
     have HE : Hid (X.take (i + 1) = (xs.drop N).take (i + 1)) := by
      have e1 := snoc HXX.out
      have e2 : (xs.drop N).take (i + 1) = (xs.drop N).take i ++ [y] := snoc (by rw [List.getElem?_drop]; exact HY.out)
      show X.take (i + 1) = _
      rw [e1, e2, HD.out.2, hxy]
     clear hxy
     go_wp2_with fail
     go_quiet (fail)
     clear hwr hnt
     go_wp2_with fail
     go_roundg g
     case measure => omega
     case rel => exact ⟨i + 1, by simp, by omega, ⟨_, rfl⟩, by have := HD.out.1; omega, HE.out⟩
    ·have hbb := bne_diff hxy
     have HF : Hid (([], 71) = openR xs) := by
      refine (openR_bad hx.len ?_).symm
      rw [← HS.out, HB.out]
      intro he
      have e1 := HXX.out
      rw [he, List.getElem?_drop, HY.out] at e1
      exact hxy (Option.some.inj e1)
     clear hxy
     go_wp2_with fail
     go_quiet (fail)
     clear hwr hnt
     go_wp2_with fail
     go_ret2
     exact ⟨_, _, _, rfl, OB.nil _ _ _, HF, pw_below_drewN (pw_below_drewN hbw m) _⟩
end Go.Proofs.YtpjpgcjhdbiepaaGreat
end
section
namespace Go.Proofs.YtpjpgcjhdbiepaaGreat
open Go.RowKit Go.Kit CrcM Go.Proofs.YtpjpgcjhdbiepaaGreatW.PrintWords

theorem open_sealed (xs : List Int) : openR (sealed xs) = (xs, 0) := by
 have hl : (sealed xs).length = xs.length + 4 := sealed_length xs
 have h := openR_good (xs := sealed xs) (N := xs.length) hl (by unfold sealed; rw [List.take_left, List.drop_left])
 rw [h]; unfold sealed; rw [List.take_left]
end Go.Proofs.YtpjpgcjhdbiepaaGreat
end
section
namespace Go.Proofs.YtpjpgcjhdbiepaaGreat
open Go.RowKit Go.Kit CrcM Go.Proofs.YtpjpgcjhdbiepaaGreatW.PrintWords
structure Has (D : Rd) (l : List Int) : Prop where
 why : D.why = 0
 wat : D.wat = 0
 le : D.at_ ≤ D.bs.length
 eq : D.bs.drop D.at_ = l
section
variable {D : Rd} {ys : List Int}
theorem Has.num {n : Nat} (h : Has D (sh n ++ ys)) (hn : n < 18446744073709551616) : num D.bs D.at_ = (n, (sh n).length, 0) := by
 unfold Go.Kit.num
 rw [h.eq, numR_sh n 0 0 ys (by omega) (by omega) (by omega)]
 simp
theorem Has.to {l : List Int} (h : Has D (l ++ ys)) : Has (D.to (D.at_ + l.length)) ys := by
 have hl := congrArg List.length h.eq
 rw [List.length_drop, List.length_append] at hl
 have := h.le
 refine ⟨h.why, h.wat, ?_, ?_⟩
 ·show D.at_ + l.length ≤ D.bs.length
  omega
 ·show D.bs.drop (D.at_ + l.length) = ys
  rw [← List.drop_drop, h.eq, List.drop_left]
theorem Has.uint {n : Nat} (h : Has D (sh n ++ ys)) (hn : n < 18446744073709551616) : ∃ D1, uintS D = (D1, n) ∧ Has D1 ys := by
 refine ⟨_, ?_, h.to⟩
 unfold uintS
 rw [if_neg (by simp [h.why]), h.num hn]
 dsimp only
 rw [if_neg (by simp)]
theorem Has.count {n : Nat} {most : Int} (h : Has D (sh n ++ ys)) (hn : n < 18446744073709551616) (hm : (n : Int) ≤ most) : ∃ D1, countS D most = (D1, n) ∧ Has D1 ys := by
 refine ⟨_, ?_, h.to⟩
 unfold countS
 rw [if_neg (by simp [h.why]), if_neg (by omega), h.num hn]
 dsimp only
 rw [if_neg (by simp), if_neg (by omega)]
theorem Has.some_ {n : Nat} {most : Int} (h : Has D (sh n ++ ys)) (hn : n < 18446744073709551616) (hm : (n : Int) ≤ most) (h0 : 0 < n) : ∃ D1, someS D most = (D1, n) ∧ Has D1 ys := by
 obtain ⟨D1, e, h1⟩ := h.count hn hm
 exact ⟨D1, someS_some e (by omega), h1⟩
theorem Has.raw {t : List Int} {k : Int} (h : Has D (t ++ ys)) (hk : k = (t.length : Int)) : ∃ D1, rawS D k = (D1, t) ∧ Has D1 ys := by
 have hl := congrArg List.length h.eq
 rw [List.length_drop, List.length_append] at hl
 have := h.le
 refine ⟨_, ?_, h.to⟩
 unfold rawS
 rw [if_neg (by simp [h.why]), if_neg (by omega), if_neg (by omega), hk, Int.toNat_natCast, h.eq, List.take_left]
theorem Has.cut (h : Has D ys) : D.bs = D.bs.take D.at_ ++ ys ∧ (D.bs.take D.at_).length = D.at_ := by
 have := h.le
 exact ⟨by rw [← h.eq, List.take_append_drop], by rw [List.length_take]; omega⟩
theorem Has.text {s : ByteArray} {most : Int} (h : Has D (txt s ++ ys)) (hs : s.size < 18446744073709551616) (hm : (s.size : Int) ≤ most) : ∃ D1, textS D most = (D1, s) ∧ Has D1 ys := by
 refine ⟨_, ?_, h.to⟩
 obtain ⟨e, hl⟩ := h.cut
 have ht := textAt_txt (D.bs.take D.at_) ys s most hs hm
 rw [← e, hl] at ht
 unfold textS
 rw [if_neg (by simp [h.why]), if_neg (by omega), ht]
 dsimp only
 rw [if_neg (by simp)]
theorem Has.list {l : List ByteArray} {most each : Int} (h : Has D (lst l ++ ys)) (hl : l.length < 18446744073709551616) (hm : (l.length : Int) ≤ most) (he : 0 ≤ each) (hs : ∀ s ∈ l, s.size < 18446744073709551616 ∧ (s.size : Int) ≤ each) : ∃ D1, listS D most each = (D1, l) ∧ Has D1 ys := by
 have h' : Has D (sh l.length ++ (txts l ++ ys)) := by
  have e : lst l ++ ys = sh l.length ++ (txts l ++ ys) := by unfold lst; rw [List.append_assoc]
  rwa [e] at h
 have hN := h'.num hl
 have h2 := h'.to
 obtain ⟨e, hl2⟩ := h2.cut
 have hT := lstR_txts each l ((D.to (D.at_ + (sh l.length).length)).bs.take (D.to (D.at_ + (sh l.length).length)).at_) ys [] hs
 rw [← e, hl2] at hT
 have hT' : lstR D.bs each l.length (D.at_ + (sh l.length).length) [] = (l, D.at_ + (sh l.length).length + (txts l).length, 0) := hT
 refine ⟨_, ?_, h2.to⟩
 unfold listS
 rw [if_neg (by simp [h.why]), if_neg (by omega), hN]
 dsimp only
 rw [if_neg (by simp), if_neg (by omega), hT']
 dsimp only
 rw [if_neg (by simp)]
 rfl
theorem Has.end_ (h : Has D []) : endS D = D := by
 have hl := congrArg List.length h.eq
 rw [List.length_drop, List.length_nil] at hl
 unfold endS
 rw [if_neg (by omega)]
end
theorem nat_of {x : Int} (h : 0 ≤ x) : ((x.toNat : Nat) : Int) = x := Int.toNat_of_nonneg h
section
variable {D : Rd} {ys : List Int} {f : Fr}
def Lim (f : Fr) : Prop := f.mo ≤ 2147483648 ∧ f.fu ≤ 2147483648 ∧ f.di ≤ 2147483648
theorem kind_has (hm : May f) (hw : f.wf) (hs : f.body.size ≤ 2097152) (hl : Lim f) (ht : f.tool.length = 32) (h : Has D (layF f ++ ys)) : ∃ D1, kindS D f.k.toNat = (D1, f.core) ∧ Has D1 ys := by
 have a0 := hw.id0
 have a1 := hw.id1
 have k1 := hm.k1
 have k6 := hm.k6
 have hb := hm.mo
 have hc := hm.fu
 have hd := hm.di
 rw [hm.only]
 rcases (by omega : f.k = 1 ∨ f.k = 2 ∨ f.k = 3 ∨ f.k = 4 ∨ f.k = 5 ∨ f.k = 6) with hk | hk | hk | hk | hk | hk
 ·obtain ⟨v1, s1, s64⟩ := hm.hello hk
  have e : layF f ++ ys = sh f.v.toNat ++ (sh f.s.toNat ++ (f.tool ++ ys)) := by unfold layF; rw [if_pos hk]; simp only [List.append_assoc]
  rw [e] at h
  obtain ⟨D1, e1, h⟩ := h.some_ (most := 1) (by omega) (by omega) (by omega)
  obtain ⟨D2, e2, h⟩ := h.some_ (most := 64) (by omega) (by omega) (by omega)
  obtain ⟨D3, e3, h⟩ := h.raw (k := 32) (by omega)
  refine ⟨D3, ?_, h⟩
  rw [hk]
  show helloS D = _
  unfold helloS
  rw [e1]; dsimp only
  rw [e2]; dsimp only
  rw [e3]; dsimp only
  unfold onlyF
  simp [hk, ht, nat_of (show 0 ≤ f.v by omega), nat_of (show 0 ≤ f.s by omega)]
 ·have e : layF f ++ ys = sh f.id.toNat ++ (sh f.mo.toNat ++ (sh f.fu.toNat ++ (sh f.di.toNat ++ (lst f.args ++ (txt f.body ++ ys))))) := by unfold layF; rw [if_neg (by omega), if_pos hk]; simp only [List.append_assoc]
  rw [e] at h
  have hmany := hm.many
  obtain ⟨l1, l2, l3⟩ := hl
  obtain ⟨D1, e1, h⟩ := h.uint (by omega)
  obtain ⟨D2, e2, h⟩ := h.count (most := 2147483648) (by omega) (by omega)
  obtain ⟨D3, e3, h⟩ := h.count (most := 2147483648) (by omega) (by omega)
  obtain ⟨D4, e4, h⟩ := h.count (most := 2147483648) (by omega) (by omega)
  obtain ⟨D5, e5, h⟩ := h.list (most := 8) (each := 4096) (by omega) (by omega) (by omega) (fun s hs => by have := hm.each s hs; omega)
  obtain ⟨D6, e6, h⟩ := h.text (most := 2097152) (by omega) (by omega)
  refine ⟨D6, ?_, h⟩
  rw [hk]
  show requestS D = _
  unfold requestS
  rw [e1]; dsimp only
  rw [e2]; dsimp only
  rw [e3]; dsimp only
  rw [e4]; dsimp only
  rw [e5]; dsimp only
  rw [e6]; dsimp only
  unfold onlyF
  simp [hk, nat_of a0, nat_of hb, nat_of hc, nat_of hd]
 ·have e : layF f ++ ys = sh f.id.toNat ++ (sh f.st.toNat ++ (txt f.body ++ ys)) := by unfold layF; rw [if_neg (by omega), if_neg (by omega), if_pos hk]; simp only [List.append_assoc]
  rw [e] at h
  obtain ⟨r1, r3, _⟩ := hm.resp hk
  obtain ⟨D1, e1, h⟩ := h.uint (by omega)
  obtain ⟨D2, e2, h⟩ := h.some_ (most := 3) (by omega) (by omega) (by omega)
  obtain ⟨D3, e3, h⟩ := h.text (most := 2097152) (by omega) (by omega)
  refine ⟨D3, ?_, h⟩
  rw [hk]
  show responseS D = _
  unfold responseS
  rw [e1]; dsimp only
  rw [e2]; dsimp only
  rw [e3]; dsimp only
  unfold onlyF
  simp [hk, nat_of a0, nat_of (show 0 ≤ f.st by omega)]
 ·have e : layF f ++ ys = sh f.id.toNat ++ ys := by unfold layF; rw [if_neg (by omega), if_neg (by omega), if_neg (by omega), if_pos hk]
  rw [e] at h
  obtain ⟨D1, e1, h⟩ := h.uint (by omega)
  refine ⟨D1, ?_, h⟩
  rw [hk]
  show cancelS D = _
  unfold cancelS
  rw [e1]; dsimp only
  unfold onlyF
  simp [hk, nat_of a0]
 ·have e : layF f ++ ys = ys := by unfold layF; rw [if_neg (by omega), if_neg (by omega), if_neg (by omega), if_neg (by omega), if_neg (by omega), List.nil_append]
  rw [e] at h
  refine ⟨D, ?_, h⟩
  rw [hk]
  show (D, _) = _
  unfold onlyF
  simp [hk]
 ·have e : layF f ++ ys = txt f.body ++ ys := by unfold layF; rw [if_neg (by omega), if_neg (by omega), if_neg (by omega), if_neg (by omega), if_pos hk]
  rw [e] at h
  obtain ⟨D1, e1, h⟩ := h.text (most := 2097152) (by omega) (by omega)
  refine ⟨D1, ?_, h⟩
  rw [hk]
  show noteS D = _
  unfold noteS
  rw [e1]; dsimp only
  unfold onlyF
  simp [hk]
theorem new_has (L : Nat) (l : List Int) : Has ((Rd.new (sh L ++ l)).to (sh L).length) l :=
 ⟨rfl, rfl, by show (sh L).length ≤ (sh L ++ l).length; rw [List.length_append]; omega, by show (sh L ++ l).drop (sh L).length = l; rw [List.drop_left]⟩
theorem fields_has (hm : May f) (h : Has D (bodyF f ++ ys)) : ∃ D1, fieldsS D = kindS D1 f.k.toNat ∧ Has D1 (layF f ++ ys) := by
 have k1 := hm.k1
 have k6 := hm.k6
 have e : bodyF f ++ ys = sh f.k.toNat ++ (layF f ++ ys) := by unfold bodyF; rw [List.append_assoc]
 rw [e] at h
 obtain ⟨D1, e1, h⟩ := h.some_ (most := 6) (by omega) (by omega) (by omega)
 exact ⟨D1, by unfold fieldsS; rw [e1], h⟩
theorem read_back (hm : May f) (hw : f.wf) (hs : f.body.size ≤ 2097152) (hl : Lim f) (ht : f.tool.length = 32) (L : Nat) : readF (sh L ++ bodyF f) (sh L).length = (f.core, 0, 0) := by
 have h0 := new_has L (bodyF f)
 rw [← List.append_nil (bodyF f)] at h0
 obtain ⟨D1, e1, h1⟩ := fields_has (ys := []) hm h0
 obtain ⟨D2, e2, h2⟩ := kind_has hm hw hs hl ht h1
 rw [List.append_nil] at e1
 rw [readF_of (e1.trans e2)]
 have hf : finS D2 f.core (sh L).length = (0, 0) := by
  unfold finS
  rw [h2.end_, if_neg, h2.why, h2.wat]
  rintro ⟨_, k3, s1, b0⟩
  exact b0 ((hm.resp k3).2.2 s1)
 rw [hf, if_neg (by simp)]
end
theorem len_enc {f : Fr} (hc : chkF f = 0) : 1 ≤ (bodyF f).length ∧ (bodyF f).length ≤ 2097152 ∧ encF f = sealed (sh (bodyF f).length ++ bodyF f) ∧ (encF f).length = (bodyF f).length + (sh (bodyF f).length).length + 4 := by
 obtain ⟨hm, hs, hl⟩ := chk_facts hc
 have h1 : 1 ≤ (bodyF f).length := by unfold bodyF; rw [List.length_append]; have := sh_pos f.k.toNat; omega
 have e : encF f = sealed (sh (bodyF f).length ++ bodyF f) := by unfold encF; rw [if_neg (by rw [hc]; decide)]
 exact ⟨h1, hl, e, by rw [e, sealed_length, List.length_append]; omega⟩
theorem sealed_apart (xs rest : List Int) : sealed xs ++ rest = xs ++ (b4 (more 0#32 xs) ++ rest) := by unfold sealed; rw [List.append_assoc]
theorem need_enc {f : Fr} (hc : chkF f = 0) (rest : List Int) : needF (encF f ++ rest) = ((encF f).length, (sh (bodyF f).length).length, 0) := by
 obtain ⟨h1, h2, e, hl⟩ := len_enc hc
 rw [hl, e, sealed_apart, List.append_assoc, need_of' _ h1 h2]
theorem dec_enc_of {f : Fr} (hc : chkF f = 0) : decF (encF f) = readF (sh (bodyF f).length ++ bodyF f) (sh (bodyF f).length).length := by
 obtain ⟨h1, h2, e, hl⟩ := len_enc hc
 have hn := need_enc hc []
 rw [List.append_nil] at hn
 have ho : openR (encF f) = (sh (bodyF f).length ++ bodyF f, 0) := by rw [e, open_sealed]
 unfold decF
 rw [hn, ho]
 dsimp only
 rw [if_neg (by simp), if_neg (by omega), if_neg (by omega), if_neg (by simp)]
theorem dec_enc {f : Fr} (hw : f.wf) (ht : f.tool.length = 32) (hc : chkF f = 0) (hl : Lim f) : decF (encF f) = (f.core, 0, 0) := by
 obtain ⟨hm, hs, _⟩ := chk_facts hc
 rw [dec_enc_of hc, read_back hm hw hs hl ht]
theorem numR_cut : ∀ (n k acc j : Nat), k ≤ 9 → acc + n * 128 ^ k < 18446744073709551616 → j < (sh n).length → numR ((sh n).take j) k acc = (0, 0, 4) := by
 intro n
 induction n using Nat.strongRecOn with
 | ind n ih =>
  intro k acc j hk hlt hj
  have e9 : (128 : Nat) ^ 9 = 9223372036854775808 := by decide
  cases j with
  | zero => rw [List.take_zero, numR]
  | succ j =>
   rcases Nat.lt_or_ge n 128 with h | h
   ·rw [sh_small h] at hj; simp at hj
   ·rw [sh_big h] at hj ⊢
    rw [List.length_cons] at hj
    have hk9 : k < 9 := by
     rcases Nat.lt_or_ge k 9 with h9 | h9
     ·exact h9
     ·have : k = 9 := by omega
      subst this
      rw [e9] at hlt
      omega
    have h1 : (((n % 128 + 128 : Nat) : Int).toNat) % 128 = n % 128 := by omega
    have h2 : acc + n % 128 * 128 ^ k + n / 128 * 128 ^ (k + 1) = acc + n * 128 ^ k := by
     have h3 : n * 128 ^ k = (n % 128 + 128 * (n / 128)) * 128 ^ k := by rw [Nat.mod_add_div]
     rw [h3, Nat.add_mul, Nat.pow_succ, Nat.mul_comm 128 (n / 128), Nat.mul_assoc, Nat.mul_comm (128 ^ k) 128]
     omega
    rw [List.take_succ_cons, numR, if_neg (by omega), if_neg (by omega), h1, ih (n / 128) (by omega) (k + 1) _ j (by omega) (by rw [h2]; exact hlt) (by omega)]
end Go.Proofs.YtpjpgcjhdbiepaaGreat
end
section
namespace Go.Proofs.YtpjpgcjhdbiepaaGreat
open Go.RowKit Go.Kit CrcM Go.Proofs.YtpjpgcjhdbiepaaGreatW.PrintWords
structure Sm where
 most : Nat
 rest : List Int
 came : Nat
 whole : Nat
 why : Int
 wat : Int
def Sm.new (most : Nat) : Sm := ⟨most, [], 0, 0, 0, 0⟩
def needS (most : Nat) (xs : List Int) : Nat × Int :=
 if (needF xs).2.2 ≠ 0 then (0, (needF xs).2.2) else if most + (needF xs).2.1 + 4 < (needF xs).1 then (0, 3) else ((needF xs).1, 0)
def Sm.put (s : Sm) (c : Int) : Sm := { s with rest := s.rest ++ [c], came := s.came + 1 }
def Sm.bad (s : Sm) (e a : Int) : Sm := { s with why := e, wat := (s.came : Int) - s.rest.length + a }
def Sm.done (s : Sm) : Sm := { s with rest := [], whole := s.whole + 1 }
def takeS (s : Sm) (c : Int) : Sm × List Fr :=
 if (needS s.most (s.rest ++ [c])).2 ≠ 0 then ((s.put c).bad (needS s.most (s.rest ++ [c])).2 0, [])
 else if (needS s.most (s.rest ++ [c])).1 = 0 ∨ (s.rest ++ [c]).length < (needS s.most (s.rest ++ [c])).1 then (s.put c, [])
 else if (decF (s.rest ++ [c])).2.1 ≠ 0 then ((s.put c).bad (decF (s.rest ++ [c])).2.1 (decF (s.rest ++ [c])).2.2, [])
 else ((s.put c).done, [(decF (s.rest ++ [c])).1])
def someR (n : Int) : List Int → Sm → Nat → Sm × List Fr × Nat
 | [], s, _ => (s, [], 0)
 | c :: r, s, k => if n ≤ (k : Int) ∨ s.why ≠ 0 then (s, [], 0) else
   match takeS s c with
   | (t, l) => match someR n r t (k + l.length) with
    | (u, m, j) => (u, l ++ m, j + 1)
def feedS : List Int → Sm → Sm × List Fr
 | [], s => (s, [])
 | c :: r, s => if s.why ≠ 0 then (s, []) else
   match takeS s c with
   | (t, l) => match feedS r t with
    | (u, m) => (u, l ++ m)
theorem take_len (s : Sm) (c : Int) : (takeS s c).2.length ≤ 1 := by
 unfold takeS
 split
 ·simp
 split
 ·simp
 split
 ·simp
 ·simp
theorem take_most (s : Sm) (c : Int) : (takeS s c).1.most = s.most := by
 unfold takeS
 split
 ·rfl
 split
 ·rfl
 split
 ·rfl
 ·rfl
theorem take_came (s : Sm) (c : Int) : (takeS s c).1.came = s.came + 1 := by
 unfold takeS
 split
 ·rfl
 split
 ·rfl
 split
 ·rfl
 ·rfl
theorem feed_bad {s : Sm} (h : s.why ≠ 0) (xs : List Int) : feedS xs s = (s, []) := by
 cases xs with
 | nil => rfl
 | cons c r => unfold feedS; rw [if_pos h]
theorem feed_cons {s t : Sm} {c : Int} {l : List Fr} (r : List Int) (h : s.why = 0) (ht : takeS s c = (t, l)) : feedS (c :: r) s = ((feedS r t).1, l ++ (feedS r t).2) := by
 rw [feedS, if_neg (by simp [h]), ht]
theorem feed_append (xs ys : List Int) : ∀ s : Sm, feedS (xs ++ ys) s = ((feedS ys (feedS xs s).1).1, (feedS xs s).2 ++ (feedS ys (feedS xs s).1).2) := by
 induction xs with
 | nil => intro s; rfl
 | cons c r ih =>
  intro s
  by_cases h : s.why = 0
  ·obtain ⟨t, l, ht⟩ : ∃ t l, takeS s c = (t, l) := ⟨_, _, rfl⟩
   rw [List.cons_append, feed_cons _ h ht, feed_cons _ h ht, ih t]
   simp only [List.append_assoc]
  ·rw [feed_bad h, feed_bad h, feed_bad h]; rfl
theorem feed_snoc {s : Sm} {xs : List Int} {c : Int} : feedS (xs ++ [c]) s = if (feedS xs s).1.why ≠ 0 then feedS xs s else ((takeS (feedS xs s).1 c).1, (feedS xs s).2 ++ (takeS (feedS xs s).1 c).2) := by
 rw [feed_append]
 split
 ·next h => rw [feed_bad h, List.append_nil]
 ·next h =>
  have h := Classical.not_not.mp h
  obtain ⟨t, l, ht⟩ : ∃ t l, takeS (feedS xs s).1 c = (t, l) := ⟨_, _, rfl⟩
  rw [feed_cons [] h ht, ht, feedS, List.append_nil]
theorem some_feed (n : Int) : ∀ (xs : List Int) (s : Sm) (k : Nat), (k + xs.length : Nat) ≤ n → (someR n xs s k).1 = (feedS xs s).1 ∧ (someR n xs s k).2.1 = (feedS xs s).2
 | [], s, k, _ => ⟨rfl, rfl⟩
 | c :: r, s, k, h => by
  rw [List.length_cons] at h
  by_cases hw : s.why = 0
  ·obtain ⟨t, l, ht⟩ : ∃ t l, takeS s c = (t, l) := ⟨_, _, rfl⟩
   have hl := take_len s c
   rw [ht] at hl
   have ih := some_feed n r t (k + l.length) (by dsimp only at hl; omega)
   rw [someR, if_neg (by simp [hw]; omega), ht, feed_cons r hw ht]
   exact ⟨ih.1, by rw [← ih.2]⟩
  ·rw [someR, if_pos (.inr hw), feed_bad hw]; exact ⟨rfl, rfl⟩
theorem numR_more : ∀ (l : List Int) (k acc : Nat) (ys : List Int) {m j : Nat} {e : Int}, numR l k acc = (m, j, e) → e ≠ 4 → numR (l ++ ys) k acc = (m, j, e)
 | [], k, acc, ys, m, j, e, h, he => by
  rw [numR] at h; cases h; exact absurd rfl he
 | c :: l, k, acc, ys, m, j, e, h, he => by
  rw [List.cons_append, numR]
  rw [numR] at h
  split
  ·next h1 => rw [if_pos h1] at h; exact h
  ·next h1 =>
   rw [if_neg h1] at h
   split
   ·next h2 => rw [if_pos h2] at h; exact h
   ·next h2 =>
    rw [if_neg h2] at h
    exact numR_more l _ _ ys h he
theorem num_more {xs : List Int} (ys : List Int) {m j : Nat} {e : Int} (h : num xs 0 = (m, j, e)) (he : e ≠ 4) : num (xs ++ ys) 0 = (m, j, e) := by
 unfold Go.Kit.num at h ⊢
 rw [List.drop_zero] at h ⊢
 exact numR_more xs 0 0 ys h he
theorem head_more {xs : List Int} (ys : List Int) {m j : Nat} {e : Int} (h : headF xs = (m, j, e)) (hn : e ≠ 0 ∨ m ≠ 0) : headF (xs ++ ys) = (m, j, e) := by
 obtain ⟨p, q, x, hN⟩ : ∃ p q x, num xs 0 = (p, q, x) := ⟨_, _, _, rfl⟩
 have hx : x ≠ 4 := by
  intro hx
  unfold headF at h
  rw [hN, if_pos hx] at h
  cases h; simp at hn
 have hN2 := num_more ys hN hx
 unfold headF at h ⊢
 rw [hN] at h
 rw [hN2]
 exact h
theorem need_more {xs : List Int} (ys : List Int) {m k : Nat} {e : Int} (h : needF xs = (m, k, e)) (hn : e ≠ 0 ∨ m ≠ 0) : needF (xs ++ ys) = (m, k, e) := by
 obtain ⟨p, q, x, hH⟩ : ∃ p q x, headF xs = (p, q, x) := ⟨_, _, _, rfl⟩
 unfold needF at h
 rw [hH] at h
 dsimp only at h
 by_cases hc : x ≠ 0 ∨ q = 0
 ·rw [if_pos hc] at h
  cases h
  have hx : e ≠ 0 := by rcases hn with h | h; exact h; exact absurd rfl h
  have := head_more ys hH (.inl hx)
  unfold needF
  rw [this]
  dsimp only
  rw [if_pos (.inl hx)]
 ·rw [if_neg hc] at h
  cases h
  have hp : p ≠ 0 := by
   intro hp
   unfold headF at hH
   split at hH
   ·cases hH; omega
   split at hH
   ·cases hH; omega
   split at hH
   ·cases hH; omega
   split at hH
   ·cases hH; omega
   ·cases hH; omega
  have := head_more ys hH (.inr hp)
  unfold needF
  rw [this]
  dsimp only
  rw [if_neg hc]
theorem needS_more {most : Nat} {xs : List Int} (ys : List Int) {m : Nat} {e : Int} (h : needS most xs = (m, e)) (hn : e ≠ 0 ∨ m ≠ 0) : needS most (xs ++ ys) = (m, e) := by
 obtain ⟨p, q, x, hN⟩ : ∃ p q x, needF xs = (p, q, x) := ⟨_, _, _, rfl⟩
 have hc : x ≠ 0 ∨ p ≠ 0 := by
  unfold needS at h
  rw [hN] at h
  dsimp only at h
  split at h
  ·next hx => exact .inl hx
  split at h
  ·right; omega
  ·next hx _ =>
   cases h
   rcases hn with h | h
   ·exact absurd rfl h
   ·exact .inr h
 have := need_more ys hN hc
 unfold needS at h ⊢
 rw [hN] at h
 rw [this]
 exact h
structure Sm.ok (s : Sm) : Prop where
 byt : Byt s.rest
 len : s.rest.length ≤ s.came
 one : 1 ≤ s.most
 two : s.most ≤ 2097152
 low : s.why = 0 → s.wat = 0 ∧ (needS s.most s.rest).2 = 0 ∧ ((needS s.most s.rest).1 ≠ 0 → s.rest.length < (needS s.most s.rest).1) ∧ ((needS s.most s.rest).1 = 0 → s.rest.length ≤ 10)
theorem numR_pos : ∀ (l : List Int) (k acc : Nat) {m j : Nat} {x : Int}, numR l k acc = (m, j, x) → x = 0 → 0 < j
 | [], k, acc, m, j, x, h, hx => by rw [numR] at h; cases h; exact absurd hx (by decide)
 | c :: l, k, acc, m, j, x, h, hx => by
  rw [numR] at h
  split at h
  ·cases h; exact absurd hx (by decide)
  split at h
  ·split at h
   ·cases h; exact absurd hx (by decide)
   ·cases h; omega
  ·exact numR_pos l _ _ h hx
theorem needS_facts {most : Nat} {xs : List Int} (hb : Byt xs) : (needS most xs).1 ≤ most + 14 ∧ ((needS most xs).2 ≠ 0 → (needS most xs).1 = 0) := by
 obtain ⟨p, q, x, hN⟩ : ∃ p q x, needF xs = (p, q, x) := ⟨_, _, _, rfl⟩
 obtain ⟨p1, q1, x1, hH⟩ : ∃ p q x, headF xs = (p, q, x) := ⟨_, _, _, rfl⟩
 have h8 := headF_facts hb hH
 have hq : q ≤ 10 := by
  unfold needF at hN
  rw [hH] at hN
  dsimp only at hN
  split at hN
  ·cases hN; omega
  ·cases hN; omega
 unfold needS
 rw [hN]
 dsimp only
 split
 ·exact ⟨by simp, fun _ => rfl⟩
 split
 ·exact ⟨by simp, fun _ => rfl⟩
 ·exact ⟨by dsimp only; omega, fun h => absurd rfl h⟩
theorem numR_short : ∀ (l : List Int) (k acc : Nat) {m j : Nat}, k ≤ 9 → numR l k acc = (m, j, 4) → l.length + k ≤ 9 ∨ l.length = 0
 | [], k, acc, m, j, _, _ => .inr rfl
 | c :: l, k, acc, m, j, hk, h => by
  rw [numR] at h
  split at h
  ·cases h
  split at h
  ·split at h
   ·cases h
   ·cases h
  ·next h1 h2 =>
   by_cases hk9 : k = 9
   ·omega
   ·have := numR_short l (k + 1) _ (by omega) h
    rw [List.length_cons]
    omega
theorem need_short {xs : List Int} (h0 : (needF xs).1 = 0) (h1 : (needF xs).2.2 = 0) : xs.length ≤ 9 := by
 obtain ⟨p, q, x, hN⟩ : ∃ p q x, num xs 0 = (p, q, x) := ⟨_, _, _, rfl⟩
 have hx : x = 4 := by
  refine Classical.byContradiction fun hx => ?_
  have hH : (∃ e, e ≠ 0 ∧ headF xs = (0, 0, e)) ∨ (0 < q ∧ headF xs = (p, q, 0)) := by
   unfold headF
   rw [hN]
   dsimp only
   rw [if_neg hx]
   split
   ·next h => exact .inl ⟨x, h, rfl⟩
   ·next h =>
    split
    ·exact .inl ⟨3, by decide, rfl⟩
    split
    ·exact .inl ⟨70, by decide, rfl⟩
    ·exact .inr ⟨numR_pos _ _ _ (show numR (xs.drop 0) 0 0 = (p, q, x) from hN) (Classical.not_not.mp h), rfl⟩
  unfold needF at h0 h1
  rcases hH with ⟨e, he, hH⟩ | ⟨hq, hH⟩
  ·rw [hH] at h1
   dsimp only at h1
   rw [if_pos (.inl he)] at h1
   exact he h1
  ·rw [hH] at h0
   dsimp only at h0
   rw [if_neg (by omega)] at h0
   dsimp only at h0
   omega
 subst hx
 have := numR_short _ _ _ (by omega) (show numR (xs.drop 0) 0 0 = (p, q, 4) from hN)
 rw [List.drop_zero] at this
 omega
theorem take_ok {s : Sm} (h : s.ok) (hw : s.why = 0) {c : Int} (h0 : 0 ≤ c) (h1 : c < 256) : (takeS s c).1.ok := by
 have hb : Byt (s.rest ++ [c]) := h.byt.append (Byt.one h0 h1)
 have hl : (s.rest ++ [c]).length = s.rest.length + 1 := by simp
 have hlen := h.len
 obtain ⟨n, e, hN⟩ : ∃ n e, needS s.most (s.rest ++ [c]) = (n, e) := ⟨_, _, rfl⟩
 unfold takeS
 rw [hN]
 dsimp only
 split
 ·next he => exact ⟨hb, by show (s.rest ++ [c]).length ≤ s.came + 1; omega, h.one, h.two, fun e' => absurd e' he⟩
 ·next he =>
  have he := Classical.not_not.mp he
  subst he
  split
  ·next hn =>
   refine ⟨hb, by show (s.rest ++ [c]).length ≤ s.came + 1; omega, h.one, h.two, fun _ => ⟨(h.low hw).1, by show (needS s.most (s.rest ++ [c])).2 = 0; rw [hN], fun hne => ?_, fun hz => ?_⟩⟩
   ·show (s.rest ++ [c]).length < (needS s.most (s.rest ++ [c])).1
    have hne' : (needS s.most (s.rest ++ [c])).1 ≠ 0 := hne
    rw [hN] at hne' ⊢
    rcases hn with hn | hn
    ·exact absurd hn hne'
    ·exact hn
   ·show (s.rest ++ [c]).length ≤ 10
    have hz' : (needS s.most (s.rest ++ [c])).1 = 0 := hz
    obtain ⟨p, q, x, hNF⟩ : ∃ p q x, needF (s.rest ++ [c]) = (p, q, x) := ⟨_, _, _, rfl⟩
    unfold needS at hN hz'
    rw [hNF] at hN hz'
    dsimp only at hN hz'
    split at hN
    ·next hx => cases hN; exact absurd rfl hx
    ·next hx =>
     split at hN
     ·exact absurd (congrArg Prod.snd hN) (by show ¬ (3 : Int) = 0; decide)
     ·next hx2 =>
      rw [if_neg hx, if_neg hx2] at hz'
      have := need_short (xs := s.rest ++ [c]) (by rw [hNF]; exact hz') (by rw [hNF]; exact Classical.not_not.mp hx)
      omega
  ·next hn =>
   split
   ·next hd => exact ⟨hb, by show (s.rest ++ [c]).length ≤ s.came + 1; omega, h.one, h.two, fun e' => absurd e' hd⟩
   ·refine ⟨Byt.nil, Nat.zero_le _, h.one, h.two, fun _ => ⟨(h.low hw).1, ?_, fun hne => ?_, fun _ => Nat.zero_le _⟩⟩
    ·rfl
    ·exact absurd rfl hne
theorem new_ok {most : Nat} (h1 : 1 ≤ most) (h2 : most ≤ 2097152) : (Sm.new most).ok := ⟨Byt.nil, Nat.zero_le _, h1, h2, fun _ => ⟨rfl, rfl, fun h => absurd rfl h, fun _ => Nat.zero_le _⟩⟩
end Go.Proofs.YtpjpgcjhdbiepaaGreat
end
section
namespace Go.Proofs.YtpjpgcjhdbiepaaGreat
open Go.RowKit Go.Kit CrcM Go.Proofs.YtpjpgcjhdbiepaaGreatW.PrintWords
def sentS (l : List Fr) : List Int := (l.map encF).flatten
theorem sent_append (l m : List Fr) : sentS (l ++ m) = sentS l ++ sentS m := by simp [sentS]
def Told (f : Fr) : Prop := chkF f = 0 ∧ ReadOk f
theorem take_sent {s : Sm} (h : s.ok) {c : Int} (h0 : 0 ≤ c) (h1 : c < 256) : sentS (takeS s c).2 ++ (takeS s c).1.rest = s.rest ++ [c] ∧ ∀ f ∈ (takeS s c).2, Told f := by
 have hb : Byt (s.rest ++ [c]) := h.byt.append (Byt.one h0 h1)
 unfold takeS
 split
 ·exact ⟨rfl, by simp⟩
 split
 ·exact ⟨rfl, by simp⟩
 split
 ·exact ⟨rfl, by simp⟩
 ·next hd =>
  have hd := Classical.not_not.mp hd
  obtain ⟨f, e, y, hD⟩ : ∃ f e y, decF (s.rest ++ [c]) = (f, e, y) := ⟨_, _, _, rfl⟩
  rw [hD] at hd
  dsimp only at hd
  subst hd
  obtain ⟨a, b, r⟩ := dec_form hb hD
  rw [hD]
  refine ⟨?_, fun g hg => ?_⟩
  ·show (encF f ++ []) ++ [] = _
   rw [List.append_nil, List.append_nil, b]
  ·simp at hg; subst hg; exact ⟨a, r⟩
theorem feed_sent : ∀ (xs : List Int) {s : Sm}, s.ok → Byt xs → ∃ ys, (∃ zs, xs = ys ++ zs) ∧ ((feedS xs s).1.why = 0 → ys = xs) ∧ sentS (feedS xs s).2 ++ (feedS xs s).1.rest = s.rest ++ ys ∧ ∀ f ∈ (feedS xs s).2, Told f
 | [], s, h, _ => ⟨[], ⟨[], rfl⟩, fun _ => rfl, by simp [feedS, sentS], by simp [feedS]⟩
 | c :: r, s, h, hb => by
  have hc := hb c List.mem_cons_self
  by_cases hw : s.why = 0
  ·obtain ⟨t, l, ht⟩ : ∃ t l, takeS s c = (t, l) := ⟨_, _, rfl⟩
   have h2 := take_ok h hw hc.1 hc.2
   obtain ⟨h3, h4⟩ := take_sent h hc.1 hc.2
   rw [ht] at h2 h3 h4
   dsimp only at h2 h3 h4
   obtain ⟨ys, ⟨zs, hz⟩, g1, g2, g3⟩ := feed_sent r h2 (fun x hx => hb x (List.mem_cons_of_mem _ hx))
   rw [feed_cons r hw ht]
   refine ⟨c :: ys, ⟨zs, by rw [hz]; rfl⟩, fun e => by rw [g1 e], ?_, ?_⟩
   ·show sentS (l ++ _) ++ _ = _
    rw [sent_append, List.append_assoc, g2, ← List.append_assoc, h3, List.append_assoc]
    rfl
   ·intro f hf
    rcases List.mem_append.1 hf with hf | hf
    ·exact h4 f hf
    ·exact g3 f hf
  ·rw [feed_bad hw]
   exact ⟨[], ⟨c :: r, rfl⟩, fun e => absurd e hw, by simp [sentS], by simp⟩
theorem take_rest {s : Sm} (h : s.ok) (hw : s.why = 0) (c : Int) : (takeS s c).1.rest.length ≤ s.most + 14 := by
 obtain ⟨_, _, l3, l4⟩ := h.low hw
 have hf := (needS_facts (most := s.most) h.byt).1
 have hl : (s.rest ++ [c]).length ≤ s.most + 14 := by
  rw [List.length_append, List.length_singleton]
  have := h.one
  by_cases hz : (needS s.most s.rest).1 = 0
  ·have := l4 hz; omega
  ·have := l3 hz; omega
 unfold takeS
 split
 ·exact hl
 split
 ·exact hl
 split
 ·exact hl
 ·exact Nat.zero_le _
theorem need_cut {f : Fr} (hc : chkF f = 0) (j : Nat) : (needF ((encF f).take j)).2.2 = 0 ∧ ((needF ((encF f).take j)).1 = 0 ∨ needF ((encF f).take j) = ((encF f).length, (sh (bodyF f).length).length, 0)) := by
 obtain ⟨h1, h2, e, hl⟩ := len_enc hc
 rcases Nat.lt_or_ge j (sh (bodyF f).length).length with h | h
 ·have hnum : num ((encF f).take j) 0 = (0, 0, 4) := by
   unfold Go.Kit.num
   rw [List.drop_zero, e, show sealed (sh (bodyF f).length ++ bodyF f) = sh (bodyF f).length ++ (bodyF f ++ b4 (more 0#32 (sh (bodyF f).length ++ bodyF f))) by unfold sealed; rw [List.append_assoc], List.take_append_of_le_length (by omega)]
   exact numR_cut _ 0 0 j (by omega) (by omega) h
  have hh : headF ((encF f).take j) = (0, 0, 0) := by unfold headF; rw [hnum]; dsimp only; rw [if_pos rfl]
  have hne : needF ((encF f).take j) = (0, 0, 0) := by unfold needF; rw [hh]; dsimp only; rw [if_pos (.inr rfl)]
  rw [hne]; exact ⟨rfl, .inl rfl⟩
 ·have ht : (encF f).take j = sh (bodyF f).length ++ (bodyF f ++ b4 (more 0#32 (sh (bodyF f).length ++ bodyF f))).take (j - (sh (bodyF f).length).length) := by
   rw [e, show sealed (sh (bodyF f).length ++ bodyF f) = sh (bodyF f).length ++ (bodyF f ++ b4 (more 0#32 (sh (bodyF f).length ++ bodyF f))) by unfold sealed; rw [List.append_assoc], List.take_append, List.take_of_length_le h]
  rw [ht, need_of' _ h1 h2]
  exact ⟨rfl, .inr (by rw [hl])⟩
theorem feed_part {f : Fr} (hc : chkF f = 0) (s : Sm) (hw : s.why = 0) (hr : s.rest = []) (hm : (bodyF f).length ≤ s.most) : ∀ j, j < (encF f).length → feedS ((encF f).take j) s = ({ s with rest := (encF f).take j, came := s.came + j }, [])
 | 0, _ => by
  rw [List.take_zero, feedS]
  cases s; dsimp only at hr; subst hr; rfl
 | j + 1, hj => by
  have ih := feed_part hc s hw hr hm j (by omega)
  have hg : (encF f)[j]? = some (encF f)[j] := List.getElem?_eq_getElem (by omega)
  obtain ⟨n1, n2⟩ := need_cut hc (j + 1)
  obtain ⟨_, _, _, hl⟩ := len_enc hc
  rw [snoc hg] at n1 n2 ⊢
  rw [feed_snoc, ih]
  dsimp only
  rw [if_neg (by simp [hw])]
  have hN : needS s.most ((encF f).take j ++ [(encF f)[j]]) = ((needF ((encF f).take j ++ [(encF f)[j]])).1, 0) := by
   unfold needS
   rw [if_neg (fun h => h n1), if_neg]
   rcases n2 with n2 | n2
   ·omega
   ·rw [n2]; dsimp only; omega
  have ht : takeS { s with rest := (encF f).take j, came := s.came + j } (encF f)[j] = ({ s with rest := (encF f).take j ++ [(encF f)[j]], came := s.came + (j + 1) }, []) := by
   unfold takeS
   dsimp only
   rw [hN]
   dsimp only
   rw [if_neg (by simp), if_pos]
   ·rfl
   ·rcases n2 with n2 | n2
    ·exact .inl n2
    ·right
     rw [n2, List.length_append, List.length_take, List.length_singleton]
     dsimp only
     omega
  rw [ht]
  rfl
theorem feed_whole {f : Fr} (hw' : f.wf) (ht : f.tool.length = 32) (hc : chkF f = 0) (hlim : Lim f) (s : Sm) (hw : s.why = 0) (hr : s.rest = []) (hm : (bodyF f).length ≤ s.most) :
  feedS (encF f) s = ({ s with rest := [], came := s.came + (encF f).length, whole := s.whole + 1 }, [f.core]) := by
 obtain ⟨h1, h2, e, hl⟩ := len_enc hc
 obtain ⟨n, hn⟩ : ∃ n, (encF f).length = n + 1 := ⟨(encF f).length - 1, by omega⟩
 have hg : (encF f)[n]? = some (encF f)[n] := List.getElem?_eq_getElem (by omega)
 have hall : (encF f).take n ++ [(encF f)[n]] = encF f := by rw [← snoc hg, List.take_of_length_le (by omega)]
 have ih := feed_part hc s hw hr hm n (by omega)
 have hsn := feed_snoc (s := s) (xs := (encF f).take n) (c := (encF f)[n])
 rw [hall, ih] at hsn
 dsimp only at hsn
 rw [if_neg (by simp [hw])] at hsn
 have hne := need_enc hc []
 rw [List.append_nil] at hne
 have hN : needS s.most (encF f) = ((encF f).length, 0) := by
  unfold needS
  rw [hne, if_neg (by simp), if_neg]
  dsimp only; omega
 have hd := dec_enc hw' ht hc hlim
 have htk : takeS { s with rest := (encF f).take n, came := s.came + n } (encF f)[n] = ({ s with rest := [], came := s.came + (n + 1), whole := s.whole + 1 }, [f.core]) := by
  unfold takeS
  dsimp only
  rw [hall, hN]
  dsimp only
  rw [if_neg (by simp), if_neg (by omega), hd, if_neg (by simp)]
  rfl
 rw [hsn, htk, hn]
 rfl
end Go.Proofs.YtpjpgcjhdbiepaaGreat
end
section
namespace Go.Proofs.YtpjpgcjhdbiepaaGreat
open Go.RowKit Go.Kit CrcM Go.Proofs.YtpjpgcjhdbiepaaGreatW.PrintWords
def headsN (xs : List Int) : Nat := (xs.takeWhile fun x => decide (128 ≤ x)).length + 1
theorem heads_le (xs : List Int) : headsN xs ≤ xs.length + 1 := by
 unfold headsN
 have := (List.takeWhile_prefix (l := xs) (fun x => decide (128 ≤ x))).length_le
 omega
theorem heads_cons_big {c : Int} (l : List Int) (h : 128 ≤ c) : headsN (c :: l) = headsN l + 1 := by
 unfold headsN; rw [List.takeWhile_cons_of_pos (by simpa using h), List.length_cons]
theorem heads_cons_small {c : Int} (l : List Int) (h : ¬ 128 ≤ c) : headsN (c :: l) = 1 := by
 unfold headsN; rw [List.takeWhile_cons_of_neg (by simpa using h)]; rfl
theorem heads_take {xs : List Int} {n : Nat} (h : ∀ j, j < n → ∃ x, xs[j]? = some x ∧ 128 ≤ x) (he : n = xs.length ∨ ∃ x, xs[n]? = some x ∧ x < 128) : headsN xs = n + 1 := by
 induction xs generalizing n with
 | nil =>
  cases n with
  | zero => rfl
  | succ n => obtain ⟨x, hx, _⟩ := h 0 (by omega); simp at hx
 | cons c l ih =>
  cases n with
  | zero =>
   rcases he with he | ⟨x, hx, h1⟩
   ·simp at he
   ·simp at hx; subst hx; exact heads_cons_small l (by omega)
  | succ n =>
   obtain ⟨x, hx, h1⟩ := h 0 (by omega)
   simp at hx; subst hx
   rw [heads_cons_big l h1, ih (n := n) (fun j hj => by
    obtain ⟨x, hx, h2⟩ := h (j + 1) (by omega)
    exact ⟨x, by simpa using hx, h2⟩) (he.elim (fun e => .inl (by simpa using e)) (fun ⟨x, hx, h2⟩ => .inr ⟨x, by simpa using hx, h2⟩))]
theorem numR_heads : ∀ (l : List Int) (k acc : Nat) {m j : Nat}, numR l k acc = (m, j, 0) → j = k + headsN l
 | [], k, acc, m, j, h => by rw [numR] at h; cases h
 | c :: l, k, acc, m, j, h => by
  rw [numR] at h
  split at h
  ·cases h
  split at h
  ·next h2 =>
   split at h
   ·cases h
   ·cases h; rw [heads_cons_small l (by omega)]
  ·next h2 =>
   have := numR_heads l _ _ h
   rw [heads_cons_big l (by omega)]
   omega
theorem need_heads {xs : List Int} {n k : Nat} (h : needF xs = (n, k, 0)) (hn : n ≠ 0) : k = headsN xs := by
 obtain ⟨m0, hh, _⟩ := need_head h hn
 have hk := need_k h hn
 obtain ⟨h1, _, _⟩ := head_num hh (.inl hk)
 have := numR_heads _ _ _ (show numR (xs.drop 0) 0 0 = (m0, k, 0) from h1)
 rw [List.drop_zero] at this
 omega
theorem needS_prog (most : Nat) (xs : List Int) {n k : Nat} {e : Int} (h : needF xs = (n, k, e)) :
  needS most xs = if e ≠ 0 then (0, e) else if 0 < n ∧ (most : Int) < (n : Int) - 4 - (headsN xs : Int) then (0, 3) else (n, 0) := by
 unfold needS
 rw [h]
 dsimp only
 by_cases he : e = 0
 ·subst he
  simp only [ne_eq, not_true_eq_false, if_false]
  by_cases hn : n = 0
  ·rw [if_neg (by omega), if_neg (by omega)]
  ·have hk := need_heads h hn
   by_cases hc : most + k + 4 < n
   ·rw [if_pos hc, if_pos (by omega)]
   ·rw [if_neg hc, if_neg (by omega)]
 ·rw [if_pos he, if_pos he]
theorem needF_eleven (xs : List Int) {t : Nat} (h : t = min xs.length 11) : needF (xs.take t) = needF xs := by
 have e : num (xs.take t) 0 = num xs 0 := by
  have h1 := num_ten (xs.take t) (t := min (xs.take t).length 10) rfl
  have h2 := num_ten xs (t := min xs.length 10) rfl
  rw [← h1, ← h2]
  congr 1
  rw [List.take_take, List.length_take]
  congr 1
  omega
 unfold needF headF
 rw [e]
theorem feed_came : ∀ (xs : List Int) (s : Sm), (feedS xs s).1.came ≤ s.came + xs.length ∧ s.came ≤ (feedS xs s).1.came ∧ (feedS xs s).1.most = s.most ∧ (feedS xs s).1.whole ≤ s.whole + xs.length ∧ (feedS xs s).2.length ≤ xs.length
 | [], s => ⟨by simp [feedS], Nat.le_refl _, rfl, by simp [feedS], by simp [feedS]⟩
 | c :: r, s => by
  by_cases hw : s.why = 0
  ·obtain ⟨t, l, ht⟩ : ∃ t l, takeS s c = (t, l) := ⟨_, _, rfl⟩
   have h1 := take_came s c
   have h2 := take_most s c
   have h3 := take_len s c
   have h4 : (takeS s c).1.whole ≤ s.whole + 1 := by
    unfold takeS
    split
    ·exact Nat.le_succ _
    split
    ·exact Nat.le_succ _
    split
    ·exact Nat.le_succ _
    ·exact Nat.le_refl _
   rw [ht] at h1 h2 h3 h4
   dsimp only at h1 h2 h3 h4
   rw [feed_cons r hw ht]
   obtain ⟨g1, g2, g3, g4, g5⟩ := feed_came r t
   refine ⟨?_, ?_, g3.trans h2, ?_, ?_⟩
   all_goals simp only [List.length_cons, List.length_append]; omega
  ·rw [feed_bad hw]
   refine ⟨Nat.le_add_right _ _, Nat.le_refl _, rfl, Nat.le_add_right _ _, Nat.zero_le _⟩
end Go.Proofs.YtpjpgcjhdbiepaaGreat
end
section
namespace Go.Proofs.YtpjpgcjhdbiepaaGreat
open Go.RowKit Go.Kit Go.Proofs.YtpjpgcjhdbiepaaGreatW.PrintWords
theorem one_new (W : World) : (kF 0).at_ 48 (W.alloc (.cells #[.int .i64 0, .int .u64 0, .int .i64 0, .int .i64 0, .int .u8 0, .int .u8 0, .int .u8 0, .int .u8 0, .int .u8 0, .int .u8 0, .int .u8 0, .int .u8 0, .int .u8 0, .int .u8 0, .int .u8 0, .int .u8 0, .int .u8 0, .int .u8 0, .int .u8 0, .int .u8 0, .int .u8 0, .int .u8 0, .int .u8 0, .int .u8 0, .int .u8 0, .int .u8 0, .int .u8 0, .int .u8 0, .int .u8 0, .int .u8 0, .int .u8 0, .int .u8 0, .int .u8 0, .int .u8 0, .int .u8 0, .int .u8 0, .int .i64 0, .int .i64 0, .int .i64 0, .int .i64 0, .slice none 0 0, .string ⟨#[]⟩] 48)) W.heap.size ∧ Below W.heap.size W (W.alloc (.cells #[.int .i64 0, .int .u64 0, .int .i64 0, .int .i64 0, .int .u8 0, .int .u8 0, .int .u8 0, .int .u8 0, .int .u8 0, .int .u8 0, .int .u8 0, .int .u8 0, .int .u8 0, .int .u8 0, .int .u8 0, .int .u8 0, .int .u8 0, .int .u8 0, .int .u8 0, .int .u8 0, .int .u8 0, .int .u8 0, .int .u8 0, .int .u8 0, .int .u8 0, .int .u8 0, .int .u8 0, .int .u8 0, .int .u8 0, .int .u8 0, .int .u8 0, .int .u8 0, .int .u8 0, .int .u8 0, .int .u8 0, .int .u8 0, .int .i64 0, .int .i64 0, .int .i64 0, .int .i64 0, .slice none 0 0, .string ⟨#[]⟩] 48)) := ⟨⟨heap_alloc_new W _, rfl⟩, below_alloc (Below.refl _ W) _⟩
theorem frame_put (W : World) (F : Fr) (hT : F.tool.length = 32) : ∃ W1 W2 : World, W.alloc (.cells #[.int .i64 0, .int .u64 0, .int .i64 0, .int .i64 0, .int .u8 0, .int .u8 0, .int .u8 0, .int .u8 0, .int .u8 0, .int .u8 0, .int .u8 0, .int .u8 0, .int .u8 0, .int .u8 0, .int .u8 0, .int .u8 0, .int .u8 0, .int .u8 0, .int .u8 0, .int .u8 0, .int .u8 0, .int .u8 0, .int .u8 0, .int .u8 0, .int .u8 0, .int .u8 0, .int .u8 0, .int .u8 0, .int .u8 0, .int .u8 0, .int .u8 0, .int .u8 0, .int .u8 0, .int .u8 0, .int .u8 0, .int .u8 0, .int .i64 0, .int .i64 0, .int .i64 0, .int .i64 0, .slice none 0 0, .string ⟨#[]⟩] 48) = W1 ∧
  (Instr.storeAt 48 (.pointer (some ⟨W.heap.size, 0, none⟩)) (.agg F.arr)).run Tryz.prog W1 = .ok () W2 ∧ F.at_ 48 W2 W.heap.size ∧ Below W.heap.size W W2 := by
 obtain ⟨hF, hb⟩ := one_new W
 exact ⟨_, _, rfl, put_frame F hT hF, put_at F hT hF, below_setRow hb (Nat.le_refl _) _⟩
theorem frame_new (W : World) : ∃ W1 : World, W.alloc (.cells #[.int .i64 0, .int .u64 0, .int .i64 0, .int .i64 0, .int .u8 0, .int .u8 0, .int .u8 0, .int .u8 0, .int .u8 0, .int .u8 0, .int .u8 0, .int .u8 0, .int .u8 0, .int .u8 0, .int .u8 0, .int .u8 0, .int .u8 0, .int .u8 0, .int .u8 0, .int .u8 0, .int .u8 0, .int .u8 0, .int .u8 0, .int .u8 0, .int .u8 0, .int .u8 0, .int .u8 0, .int .u8 0, .int .u8 0, .int .u8 0, .int .u8 0, .int .u8 0, .int .u8 0, .int .u8 0, .int .u8 0, .int .u8 0, .int .i64 0, .int .i64 0, .int .i64 0, .int .i64 0, .slice none 0 0, .string ⟨#[]⟩] 48) = W1 ∧ (kF 0).at_ 48 W1 W.heap.size ∧ Below W.heap.size W W1 := by
 obtain ⟨hF, hb⟩ := one_new W
 exact ⟨_, rfl, hF, hb⟩
theorem build_kind (k : Int) (W : World) : (Instr.build 48 #[(0, .int .i64 k)]).run Tryz.prog W = .ok (.agg (kF k).arr) W := by kernel_rfl
theorem _root_.Go.Kit.OB.reads_from {e : TypeId} {w : World} {base : Nat} {v : Value} {xs : List Int} (h : OB e w base v xs) : ∃ A c, v = .slice A xs.length c ∧ RB w A xs.length xs ∧ xs.length ≤ c ∧ ∀ a, A = some a → base ≤ a.block := by
 obtain ⟨A, c, hv, hr, hc⟩ := h.reads'
 refine ⟨A, c, hv, hr, hc, fun a e => ?_⟩
 rcases h.own.2 with ⟨h1, h2⟩ | ⟨g, cap, cur, h1, h2, _⟩
 ·rw [hv] at h1
  injection h1 with h3
  rw [h3] at e; cases e
 ·rw [hv] at h1
  injection h1 with h3
  rw [h3] at e; cases e; exact h2
theorem put_cell_u8 (y : Int) (W : World) (a : Addr) (u : Value) (hc : W.cell? a = some u) (hf : W.frozen? a = false) : (Instr.storeAt 5 (.pointer (some a)) (.int .u8 y)).run Tryz.prog W = .ok () (W.setCell a (.int .u8 y)) := by go_simp
theorem load_cell_u8 {W : World} {a : Addr} {v : Value} (h : W.cell? a = some v) : (Instr.loadAt 5 (.pointer (some a))).run Tryz.prog W = .ok v W := by go_simp
theorem put_cell_int (y : Int) (W : World) (a : Addr) (u : Value) (hc : W.cell? a = some u) (hf : W.frozen? a = false) : (Instr.storeAt 3 (.pointer (some a)) (.int .i64 y)).run Tryz.prog W = .ok () (W.setCell a (.int .i64 y)) := by go_simp
theorem put_cell_u64 (y : Int) (W : World) (a : Addr) (u : Value) (hc : W.cell? a = some u) (hf : W.frozen? a = false) : (Instr.storeAt 41 (.pointer (some a)) (.int .u64 y)).run Tryz.prog W = .ok () (W.setCell a (.int .u64 y)) := by go_simp
theorem put_cell_str (y : ByteArray) (W : World) (a : Addr) (u : Value) (hc : W.cell? a = some u) (hf : W.frozen? a = false) : (Instr.storeAt 9 (.pointer (some a)) (.string y)).run Tryz.prog W = .ok () (W.setCell a (.string y)) := by go_simp
theorem put_cell_strs (A : Option Addr) (n c : Nat) (W : World) (a : Addr) (u : Value) (hc : W.cell? a = some u) (hf : W.frozen? a = false) : (Instr.storeAt 46 (.pointer (some a)) (.slice A n c)).run Tryz.prog W = .ok () (W.setCell a (.slice A n c)) := by go_simp
theorem load_cell_int {W : World} {a : Addr} {v : Value} (h : W.cell? a = some v) : (Instr.loadAt 3 (.pointer (some a))).run Tryz.prog W = .ok v W := by go_simp
end Go.Proofs.YtpjpgcjhdbiepaaGreat
end
section
namespace Go.Proofs.YtpjpgcjhdbiepaaGreat
open Go.RowKit Go.Kit CrcM Go.Proofs.YtpjpgcjhdbiepaaGreatW.PrintWords
theorem own_not {w : World} {b : Nat} {e : TypeId} {z n k : Nat} {v : Value} {xs : List Value} {cs : Array Value} {t : TypeId} {fr : Nat × Nat} (h : w.ownsRow b e z v n xs) (hk : w.heap[k]? = some (.cells cs t fr)) (ht : t ≠ e) : ¬ rf v k := fun hr => by
 rcases h.2 with ⟨rfl, _⟩ | ⟨g, cap, cur, rfl, _, hh, _⟩
 ·cases hr
 ·have : g = k := by simpa [rf, Value.ownBlock] using hr
  subst this
  rw [hk] at hh
  injection hh with h1
  injection h1 with _ h2
  exact ht h2
theorem own_typed {w : World} {b : Nat} {e : TypeId} {z n k : Nat} {v : Value} {xs : List Value} (h : w.ownsRow b e z v n xs) (hr : rf v k) : ∃ cs, w.heap[k]? = some (.cells cs e (0, 0)) := by
 rcases h.2 with ⟨rfl, _⟩ | ⟨g, cap, cur, rfl, _, hh, _⟩
 ·cases hr
 ·have : g = k := by simpa [rf, Value.ownBlock] using hr
  subst this
  exact ⟨_, hh⟩
theorem own_only {w w1 : World} {b : Nat} {e : TypeId} {z n : Nat} {v : Value} {xs : List Value} {S : Nat → Prop} (h : w.ownsRow b e z v n xs) (ho : Only w w1 S) (hs : Sep (rf v) S) : w1.ownsRow b e z v n xs := by
 obtain ⟨h1, h2⟩ := h
 refine ⟨h1, ?_⟩
 rcases h2 with h2 | ⟨g, cap, cur, h3, hg, hh, r⟩
 ·exact .inl h2
 ·exact .inr ⟨g, cap, cur, h3, hg, ho.kept hh (hs g (by rw [h3]; rfl)), r⟩
theorem own_new {w : World} {b : Nat} {e : TypeId} {z n : Nat} {v : Value} {xs : List Value} (h : w.ownsRow b e z v n xs) : ∀ k, rf v k → b ≤ k ∧ k < w.heap.size := fun k hk => World.ownsRow.lt h k hk
section
variable {P : Program} {ops : Array Oper} {rest : List Oper} {o : Oper} {a : Act} {Q : Exit → Act → World → Prop}
theorem push_cells {w0 W : World} (base : Nat) (hgd : o.guard = none) (s x : Operand) (t e : TypeId) (z : Value) (size bytes : Nat)
  (ho : o.op = .call { callee := .builtin .append, args := #[s, x], argTypes := #[t, t] })
  (ht : P.underlying t = some (.slice e)) (hinfo : (P.info? e).map (fun i => (i.zero, i.size, i.bytes)) = some (some z, size, bytes)) (hz : z.cells.size = size) (hs0 : 0 < size) (hb0 : 0 < bytes)
  (v v2 : Value) (n m : Nat) (xs ys : List Value) (hs : a.eval s = v) (hx : a.eval x = v2) (h1 : ∀ u ∈ ys, u.oneCell' = true) {b2 : Nat}
  (HO : W.ownsRow base e size v n xs) (HR : W.ownsRow b2 e size v2 m ys) (HB : Below base w0 W) (hbase : base ≤ W.heap.size) (hl : (n + m) * bytes ≤ 140737488355328)
  (h : ∀ v1 w1, w1.ownsRow base e size v1 (n + m) (xs ++ ys) → Below base w0 w1 → W.grownBy w1 v.ownBlock → (v1.ownBlock = v.ownBlock ∨ ∃ b, v1.ownBlock = some b ∧ W.heap.size ≤ b) → wpList P ops Q rest (a.put o.dst v1) w1) :
  wpList P ops Q (o :: rest) a W := by
 obtain ⟨i0, hi, hzz⟩ := Option.map_eq_some_iff.1 hinfo
 simp only [Prod.mk.injEq] at hzz
 obtain ⟨hz0, hz1, hz2⟩ := hzz
 have hlen : n + m ≤ 140737488355328 := Nat.le_trans (Nat.le_mul_of_pos_right _ hb0) hl
 have hrun : ∃ v1 w1, (Builtin.append_ #[t, t] o.type #[v, v2]).run P W = .ok v1 w1 ∧ w1.ownsRow base e size v1 (n + m) (xs ++ ys) ∧ W.grownBy w1 v.ownBlock ∧ (v1.ownBlock = v.ownBlock ∨ v1.ownBlock = some W.heap.size) := by
  rcases HR.2 with ⟨rfl, hm⟩ | ⟨g, cap, cur, rfl, _, hh, hnc, hcm, hsz, htk⟩
  ·subst hm
   obtain rfl : ys = [] := List.eq_nil_of_length_eq_zero (by rw [HR.1]; simp)
   refine ⟨v, W, ?_, by simpa using HO, World.grownBy.refl W _, .inl rfl⟩
   rcases HO.2 with ⟨rfl, hn⟩ | ⟨g, cap, cur, rfl, _, _, hnc, _⟩
   ·simp [Builtin.append_, run_underlying ht, sizeOf, typeInfo, hi, Builtin.lenOf, Builtin.firstCells]
   ·simp [Builtin.append_, run_underlying ht, sizeOf, typeInfo, hi, Builtin.lenOf, Builtin.firstCells, hnc, storeCells]
  ·obtain ⟨v1, w1, hr, h2, h3, _, h5⟩ := run_append_own_at (P := P) W base t o.type e i0 z size bytes ht hi hz0 hz1 hz2 hz hs0 v n xs HO ⟨g, 0, none⟩ m cap ys HR.1 (World.ownsRow.cells HR rfl) h1 (by simp only [maxLen]; omega) hl hbase
   exact ⟨v1, w1, hr, h2, h3, h5⟩
 obtain ⟨v1, w1, hr, hown, hg, hat⟩ := hrun
 refine wpList_plain hgd fun K hK => ?_
 unfold Oper.wp execOp
 simp only [ho, resolve, invoke, builtin, Sem.run_bind, Sem.run_pure, Result.andThen_ok, List.map_toArray, List.map_cons, List.map_nil, hs, hx, hr]
 refine hK _ _ (h v1 w1 hown (HB.grown hg hbase (own_base HO)) hg ?_)
 rcases hat with hat | hat
 ·exact .inl hat
 ·exact .inr ⟨_, hat, Nat.le_refl _⟩
end
def fcells (L : List Fr) : List Value := L.flatMap Fr.cells
theorem fcells_append (L M : List Fr) : fcells (L ++ M) = fcells L ++ fcells M := by simp [fcells]
theorem fcells_one (L : List Fr) : ∀ u ∈ fcells L, u.oneCell' = true := fun u hu => by
 obtain ⟨f, _, hf⟩ := List.mem_flatMap.1 hu
 exact (Array.all_eq_true_iff_forall_mem.1 (arr_one f)) u (by simpa [Fr.arr] using hf)
theorem cells_len {f : Fr} (h : f.tool.length = 32) : f.cells.length = 42 := by have := Fr.arr_size f h; simpa [Fr.arr] using this
theorem frame_info : (Tryz.prog.info? 48).map (fun i => (i.zero, i.size, i.bytes)) = some (some (.agg (kF 0).arr), 42, 136) := by kernel_rfl
structure OFs (w : World) (base : Nat) (v : Value) (L : List Fr) : Prop where
 row : w.ownsRow base 48 42 v L.length (fcells L)
 each : ∀ f ∈ L, f.tool.length = 32 ∧ OwnA w base f
theorem OwnA.ok {w : World} {base : Nat} {F : Fr} (h : OwnA w base F) (hT : F.tool.length = 32) : F.ok w := by
 obtain ⟨A, c, hv, hr, _, _⟩ := OT.open_ h
 injection hv with h1 h2 h3
 exact ⟨hT, by rw [h1, h2]; exact hr⟩
section
variable {w w1 : World} {base : Nat} {v : Value} {L : List Fr} {F : Fr} {S : Nat → Prop}
theorem OwnA.kept (h : OwnA w base F) {row : Option Nat} (hg : w.grownBy w1 row) (hne : ∀ k, row = some k → ∃ cs t, w.heap[k]? = some (.cells cs t (0, 0)) ∧ t ≠ 9) : OwnA w1 base F := by
 unfold OwnA at h ⊢
 refine OT.kept h hg ?_
 cases hr : (Value.slice F.A F.n F.c).ownBlock with
 | none => exact .inl rfl
 | some k =>
  right
  intro e
  obtain ⟨cs, t, hk, ht⟩ := hne k e.symm
  exact own_not h hk ht hr
theorem OwnA.typed (h : OwnA w base F) (ho : Only w w1 S) (hS : ∀ k, S k → ∃ cs t, w.heap[k]? = some (.cells cs t (0, 0)) ∧ t ≠ 9) : OwnA w1 base F :=
 ot_only h ho (fun k hk hs => by
  obtain ⟨cs, t, hc, ht⟩ := hS k hs
  exact own_not h hc ht hk)
theorem OFs.nil (w : World) (base : Nat) : OFs w base (.slice none 0 0) [] := ⟨World.ownsRow_nil _ _ _ _, by simp⟩
theorem OFs.below (h : OFs w base v L) (hb : Below w.heap.size w w1) : OFs w1 base v L := ⟨pw_own_below h.row hb, fun f hf => ⟨(h.each f hf).1, (h.each f hf).2.below hb⟩⟩
theorem OFs.less (h : OFs w base v L) {b : Nat} (hle : b ≤ base) : OFs w b v L := ⟨own_weaken h.row hle, fun f hf => ⟨(h.each f hf).1, (h.each f hf).2.less hle⟩⟩
theorem OFs.only (h : OFs w base v L) (ho : Only w w1 S) (hS : ∀ k, S k → ∃ cs t, w.heap[k]? = some (.cells cs t (0, 0)) ∧ t ≠ 48 ∧ t ≠ 9) : OFs w1 base v L :=
 ⟨own_only h.row ho (fun k hk hs => by obtain ⟨cs, t, hc, ht, _⟩ := hS k hs; exact own_not h.row hc ht hk), fun f hf => ⟨(h.each f hf).1, (h.each f hf).2.typed ho (fun k hk => by obtain ⟨cs, t, hc, _, ht⟩ := hS k hk; exact ⟨cs, t, hc, ht⟩)⟩⟩
theorem OFs.form (h : OFs w base v L) : ∃ A c, v = .slice A L.length c := by
 rcases h.row.2 with ⟨h1, h2⟩ | ⟨g, cap, cur, h1, _⟩
 ·exact ⟨none, 0, by rw [h1, h2]⟩
 ·exact ⟨_, _, h1⟩
theorem fcells_at : ∀ (L : List Fr) (i : Nat) (f : Fr) (j : Nat) (u : Value), (∀ f ∈ L, f.tool.length = 32) → L[i]? = some f → f.cells[j]? = some u → (fcells L)[i * 42 + j]? = some u
 | [], i, f, j, u, _, h, _ => by simp at h
 | g :: r, 0, f, j, u, hT, h, hj => by
  simp at h
  subst h
  have hl := cells_len (hT g List.mem_cons_self)
  have hlt : j < g.cells.length := by
   rcases Nat.lt_or_ge j g.cells.length with h | h
   ·exact h
   ·rw [List.getElem?_eq_none h] at hj; cases hj
  show (g.cells ++ fcells r)[0 * 42 + j]? = some u
  rw [Nat.zero_mul, Nat.zero_add, List.getElem?_append_left hlt]; exact hj
 | g :: r, i + 1, f, j, u, hT, h, hj => by
  have hl := cells_len (hT g List.mem_cons_self)
  show (g.cells ++ fcells r)[(i + 1) * 42 + j]? = some u
  rw [List.getElem?_append_right (by omega), hl, show (i + 1) * 42 + j - 42 = i * 42 + j by omega]
  exact fcells_at r i f j u (fun f hf => hT f (List.mem_cons_of_mem _ hf)) (by simpa using h) hj
theorem OFs.at_ {A : Option Addr} {n c : Nat} (h : OFs w base (.slice A n c) L) (hn : n = L.length) (i : Nat) (hi : i < n) : ∃ g f, A = some ⟨g, 0, none⟩ ∧ L[i]? = some f ∧ f.tool.length = 32 ∧ OwnA w base f ∧ base ≤ g ∧ g < w.heap.size ∧ ∀ j u, f.cells[j]? = some u → w.cell? ⟨g, i * 42 + j, none⟩ = some u := by
 subst hn
 obtain ⟨g, cap, hv, hb, hl⟩ := World.ownsRow.form h.row (by omega)
 injection hv with h1 h2 h3
 subst h1
 have hf : L[i]? = some L[i] := List.getElem?_eq_getElem hi
 have he := h.each L[i] (List.getElem_mem hi)
 refine ⟨g, L[i], rfl, hf, he.1, he.2, hb, hl, fun j u hj => ?_⟩
 have := World.ownsRow.cells h.row (g := g) rfl (i * 42 + j) u (fcells_at L i L[i] j u (fun f hf => (h.each f hf).1) hf hj)
 rwa [add_plain] at this
end
section
variable {ops : Array Oper} {rest : List Oper} {o : Oper} {a : Act} {Q : Exit → Act → World → Prop} {w0 W : World} {v v2 : Value} {L M : List Fr}
theorem push_frame (base : Nat) (hgd : o.guard = none) (s x : Operand) (F : Fr) (hT : F.tool.length = 32)
  (ho : o.op = .call { callee := .builtin .append, args := #[s, x], argTypes := #[34, 34] }) (hs : a.eval s = v) (hx : a.eval x = .slice (some ⟨W.heap.size, 0, none⟩) 1 1)
  (HO : OFs W base v L) (HF : OwnA W base F) (HB : Below base w0 W) (hbase : base ≤ W.heap.size) (hl : (L.length + 1) * 136 ≤ 140737488355328)
  (h : ∀ v1 w1, OFs w1 base v1 (L ++ [F]) → Below base w0 w1 → W.grownBy w1 v.ownBlock → (v1.ownBlock = v.ownBlock ∨ ∃ b, v1.ownBlock = some b ∧ W.heap.size ≤ b) → wpList Tryz.prog ops Q rest (a.put o.dst v1) w1) :
  wpList Tryz.prog ops Q (o :: rest) a (W.alloc (.cells F.arr 48)) := by
 refine print_append_cells (ys := F.cells) base hgd s x 34 48 (.agg (kF 0).arr) 42 136 ho Tryz.underlying34 frame_info (by rfl) (by decide) (by decide) v L.length (fcells L) hs hx (cells_len hT) (fun u hu => (Array.all_eq_true_iff_forall_mem.1 (arr_one F)) u (by simpa [Fr.arr] using hu)) HO.row HB hbase hl (fun v1 w1 hown hB hg hat => ?_)
 have hk : ∀ k, v.ownBlock = some k → ∃ cs t, W.heap[k]? = some (.cells cs t (0, 0)) ∧ t ≠ 9 := fun k hk => by
  obtain ⟨cs, hc⟩ := own_typed HO.row hk
  exact ⟨cs, _, hc, by decide⟩
 refine h v1 w1 ⟨by simpa [fcells] using hown, fun f hf => ?_⟩ hB hg hat
 rcases List.mem_append.1 hf with hf | hf
 ·exact ⟨(HO.each f hf).1, (HO.each f hf).2.kept hg hk⟩
 ·simp at hf; subst hf; exact ⟨hT, HF.kept hg hk⟩
theorem push_frames (base : Nat) (hgd : o.guard = none) (s x : Operand)
  (ho : o.op = .call { callee := .builtin .append, args := #[s, x], argTypes := #[34, 34] }) (hs : a.eval s = v) (hx : a.eval x = v2)
  (HO : OFs W base v L) (HF : OFs W base v2 M) (HB : Below base w0 W) (hbase : base ≤ W.heap.size) (hl : (L.length + M.length) * 136 ≤ 140737488355328)
  (h : ∀ v1 w1, OFs w1 base v1 (L ++ M) → Below base w0 w1 → W.grownBy w1 v.ownBlock → (v1.ownBlock = v.ownBlock ∨ ∃ b, v1.ownBlock = some b ∧ W.heap.size ≤ b) → wpList Tryz.prog ops Q rest (a.put o.dst v1) w1) :
  wpList Tryz.prog ops Q (o :: rest) a W := by
 refine push_cells base hgd s x 34 48 (.agg (kF 0).arr) 42 136 ho Tryz.underlying34 frame_info (by rfl) (by decide) (by decide) v v2 L.length M.length (fcells L) (fcells M) hs hx (fcells_one M) HO.row HF.row HB hbase hl (fun v1 w1 hown hB hg hat => ?_)
 have hk : ∀ k, v.ownBlock = some k → ∃ cs t, W.heap[k]? = some (.cells cs t (0, 0)) ∧ t ≠ 9 := fun k hk => by
  obtain ⟨cs, hc⟩ := own_typed HO.row hk
  exact ⟨cs, _, hc, by decide⟩
 refine h v1 w1 ⟨by rw [List.length_append, fcells_append]; exact hown, fun f hf => ?_⟩ hB hg hat
 rcases List.mem_append.1 hf with hf | hf
 ·exact ⟨(HO.each f hf).1, (HO.each f hf).2.kept hg hk⟩
 ·exact ⟨(HF.each f hf).1, (HF.each f hf).2.kept hg hk⟩
end
end Go.Proofs.YtpjpgcjhdbiepaaGreat
end
section
namespace Go.Kit
open Go.RowKit Go.Proofs.YtpjpgcjhdbiepaaGreatW.PrintWords
namespace Fr
theorem lim_splice (T : List Value) (hT : T.length = 32) (a b c d e x y z u v w : Value) (R : List Value) : ([a, b, c, d] ++ (T ++ ([e] ++ ([x, y, z] ++ R)))).take 37 ++ [u, v, w] ++ ([a, b, c, d] ++ (T ++ ([e] ++ ([x, y, z] ++ R)))).drop (37 + 3) = [a, b, c, d] ++ (T ++ ([e] ++ ([u, v, w] ++ R))) := by
 have h0 : ∀ l : List Value, [a, b, c, d] ++ (T ++ ([e] ++ l)) = ([a, b, c, d] ++ (T ++ [e])) ++ l := fun l => by simp
 have h1 : ([a, b, c, d] ++ (T ++ [e])).length = 37 := by simp; omega
 rw [h0, h0, List.take_append_of_le_length (by omega), List.take_of_length_le (by omega)]
 rw [show (37 + 3 : Nat) = ([a, b, c, d] ++ (T ++ [e])).length + 3 by rw [h1]]
 rw [List.drop_append]
 simp [h1]
end Fr
end Go.Kit
namespace Go.Proofs.YtpjpgcjhdbiepaaGreat
open Go.RowKit Go.Kit Go.Proofs.YtpjpgcjhdbiepaaGreatW.PrintWords
theorem storeAt_part {P : Program} (W : World) (g o : Nat) (ty t : TypeId) (cells cur : Array Value) (hg : W.heap[g]? = some (.cells cur t (0, 0))) (hfit : o + cells.size ≤ cur.size) (hi : (P.info? ty).map (·.size) = some cells.size) (h1 : cells.all (·.oneCell') = true) :
  (Instr.storeAt ty (.pointer (some ⟨g, o, none⟩)) (.agg cells)).run P W = .ok () (W.setRow g (cur.toList.take o ++ cells.toList ++ cur.toList.drop (o + cells.size)).toArray) := by
 have hst := run_storeCells_at (P := P) g o t cells.toList 0 cur W hg (by simpa using hfit) (fun v hv => (Array.all_eq_true_iff_forall_mem.1 h1) v (by simpa using hv))
 simp only [Instr.storeAt, Instr.sureAddr, Sem.run_bind, Sem.run_pure, Result.andThen_ok]
 cases hq : P.info? ty with
 | none => simp [hq] at hi
 | some i =>
  have hs : cells.size = i.size := by simp [hq] at hi; omega
  simp only [Nat.add_zero] at hst
  simp [storeVar, sizeOf, typeInfo, hq, Value.cells, hs, hst]
theorem store_int (x : Int) (W : World) (a : Addr) (u : Value) (hc : W.cell? a = some u) (hf : W.frozen? a = false) : (Instr.storeAt 3 (.pointer (some a)) (.int .i64 x)).run Tryz.prog W = .ok () (W.setCell a (.int .i64 x)) := by go_simp
theorem store_u64 (x : Int) (W : World) (a : Addr) (u : Value) (hc : W.cell? a = some u) (hf : W.frozen? a = false) : (Instr.storeAt 41 (.pointer (some a)) (.int .u64 x)).run Tryz.prog W = .ok () (W.setCell a (.int .u64 x)) := by go_simp
theorem store_txts (A : Option Addr) (n c : Nat) (W : World) (a : Addr) (u : Value) (hc : W.cell? a = some u) (hf : W.frozen? a = false) : (Instr.storeAt 46 (.pointer (some a)) (.slice A n c)).run Tryz.prog W = .ok () (W.setCell a (.slice A n c)) := by go_simp
theorem store_str (s : ByteArray) (W : World) (a : Addr) (u : Value) (hc : W.cell? a = some u) (hf : W.frozen? a = false) : (Instr.storeAt 9 (.pointer (some a)) (.string s)).run Tryz.prog W = .ok () (W.setCell a (.string s)) := by go_simp
theorem store_tool {W : World} {g : Nat} {f : Fr} (h : f.at_ 48 W g) (ts : List Int) (hl : ts.length = 32) : ∃ W' : World, (Instr.storeAt 43 (.pointer (some ⟨g, 4, none⟩)) (.agg (nums .u8 ts).toArray)).run Tryz.prog W = .ok () W' ∧ ({ f with tool := ts } : Fr).at_ 48 W' g ∧ Only W W' (fun k => k = g) := by
 have h2 : (nums .u8 ts).toArray.size = 32 := by simp [nums, hl]
 refine ⟨_, storeAt_part W g 4 43 48 _ f.arr h.blk (by rw [h2, Fr.arr_size f h.tool]; omega) ?_ ?_, ?_, Fr.only_row _ _ _⟩
 ·rw [h2]; kernel_rfl
 ·exact all_oneCell_toArray (nums_one _ _)
 ·have := h.tooled ts hl
  simpa [List.append_assoc] using this
theorem store_lim {W : World} {g : Nat} {f : Fr} (h : f.at_ 48 W g) (k : Fr) : ∃ W' : World, (Instr.storeAt 45 (.pointer (some ⟨g, 37, none⟩)) (.agg k.lim.toArray)).run Tryz.prog W = .ok () W' ∧ ({ f with mo := k.mo, fu := k.fu, di := k.di } : Fr).at_ 48 W' g ∧ Only W W' (fun k => k = g) := by
 refine ⟨_, storeAt_part W g 37 45 48 _ f.arr h.blk (by rw [Fr.arr_size f h.tool]; show 37 + 3 ≤ 42; omega) (by show _ = some 3; kernel_rfl) (by simp [Fr.lim, Value.oneCell']), ?_, Fr.only_row _ _ _⟩
 refine ⟨?_, h.tool⟩
 rw [setRow_heap W g _ _ _ _ h.blk]
 exact congrArg (fun l : List Value => some (Obj.cells l.toArray 48 (0, 0))) (Fr.lim_splice (nums .u8 f.tool) (Fr.len32 h) _ _ _ _ _ _ _ _ _ _ _ _)
theorem kF_built (k : Int) (W : World) : (Instr.build 48 #[(0, .int .i64 k)]).run Tryz.prog W = .ok (.agg (kF k).arr) W := built_of (by show _ = _; kernel_rfl)
theorem load_u64 {W : World} {a : Addr} {v : Value} (h : W.cell? a = some v) : (Instr.loadAt 41 (.pointer (some a))).run Tryz.prog W = .ok v W := by go_simp
theorem load_txts {W : World} {a : Addr} {v : Value} (h : W.cell? a = some v) : (Instr.loadAt 46 (.pointer (some a))).run Tryz.prog W = .ok v W := by go_simp
theorem own_tool {f : Fr} (hf : f.tool.length = 32) : (ownG f).tool.length = 32 := by
 unfold ownG onlyG
 dsimp only
 split
 ·exact hf
 split
 ·rfl
 split
 ·rfl
 split
 ·rfl
 split <;> rfl
theorem own_is1 {f : Fr} (h : f.k = 1) : ({ kF f.k with v := f.v, s := f.s, tool := f.tool } : Fr) = ownG f := by unfold ownG onlyG; simp [h, only1, kF]
theorem own_is2 {f : Fr} (h : f.k = 2) : ({ kF f.k with id := f.id, mo := f.mo, fu := f.fu, di := f.di, A := f.A, n := f.n, c := f.c, args := f.args, body := f.body } : Fr) = ownG f := by unfold ownG onlyG; simp [h, only2, kF]
theorem own_is3 {f : Fr} (h : f.k = 3) : ({ kF f.k with id := f.id, st := f.st, body := f.body } : Fr) = ownG f := by unfold ownG onlyG; simp [h, only3, kF]
theorem own_is4 {f : Fr} (h : f.k = 4) : ({ kF f.k with id := f.id } : Fr) = ownG f := by unfold ownG onlyG; simp [h, only4, kF]
theorem own_is6 {f : Fr} (h : f.k = 6) : ({ kF f.k with body := f.body } : Fr) = ownG f := by unfold ownG onlyG; simp [h, only6, kF]
theorem own_is5 {f : Fr} (h : f.k ≠ 1 ∧ f.k ≠ 2 ∧ f.k ≠ 3 ∧ f.k ≠ 4 ∧ f.k ≠ 6) (h5 : f.k = 5) : kF f.k = ownG f := by unfold ownG onlyG; simp [h5, kF, noF]
structure Two (w W : World) (g g2 g3 : Nat) (f h : Fr) : Prop where
 bel : Below w.heap.size w W
 f : f.at_ 48 W g
 h : h.at_ 48 W g3
 z : ∃ Z : Array Value, Z.size = 42 ∧ W.heap[g2]? = some (.cells Z 48 (0, 0))
 n1 : ¬ g = g3
 n2 : ¬ g2 = g3
 base : w.heap.size ≤ g3
theorem Two.drew {w W : World} {g g2 g3 : Nat} {f h : Fr} (t : Two w W g g2 g3 f h) : Two w W.drew g g2 g3 f h := by
 have hb : Below W.heap.size W W.drew := below_drew (Below.refl _ _)
 obtain ⟨Z, hz, hk⟩ := t.z
 exact ⟨below_step t.bel hb, t.f.below hb, t.h.below hb, ⟨Z, hz, (hb.block _ (lt_of_block hk)).trans hk⟩, t.n1, t.n2, t.base⟩
theorem Two.step {w W W1 : World} {g g2 g3 : Nat} {f h h1 : Fr} (t : Two w W g g2 g3 f h) (ho : Only W W1 (fun k => k = g3)) (hh : h1.at_ 48 W1 g3) : Two w W1 g g2 g3 f h1 := by
 obtain ⟨Z, hz, hk⟩ := t.z
 exact ⟨Below.only t.bel ho t.bel.size (fun k e => by rw [e]; exact t.base), t.f.only ho t.n1, hh, ⟨Z, hz, ho.kept hk t.n2⟩, t.n1, t.n2, t.base⟩
attribute [-go_sem] Instr.build Instr.loadAt Instr.storeAt
set_option maxHeartbeats 8000000 in
set_option maxRecDepth 100000 in
theorem ronly_any (f : Fr) (hf : f.tool.length = 32) (hk5 : f.k ≠ 1 → f.k ≠ 2 → f.k ≠ 3 → f.k ≠ 4 → f.k ≠ 6 → f.k = 5) (w : World) : Calls Tryz.prog 47 #[f.val] w fun e w' => e = .returned (.agg (ownG f).arr) ∧ Below w.heap.size w w' := by
 have hszK := size_of (kF f.k) rfl
 have honeK := arr_one (kF f.k)
 have hasK := Fr.arr_size (kF f.k) rfl
 have hbl := kF_built f.k
 have hb := below_alloc (Below.refl w.heap.size w) (.cells f.arr 48)
 have hF := boxed hf w
 show Calls Tryz.prog _ #[.agg f.arr] w _
 go_enter Tryz.func47, Tryz.ntmps47
 go_upto_region 1 with (fail)
 have hbz := below_alloc hb (.cells #[.int .i64 0, .int .u64 0, .int .i64 0, .int .i64 0, .int .u8 0, .int .u8 0, .int .u8 0, .int .u8 0, .int .u8 0, .int .u8 0, .int .u8 0, .int .u8 0, .int .u8 0, .int .u8 0, .int .u8 0, .int .u8 0, .int .u8 0, .int .u8 0, .int .u8 0, .int .u8 0, .int .u8 0, .int .u8 0, .int .u8 0, .int .u8 0, .int .u8 0, .int .u8 0, .int .u8 0, .int .u8 0, .int .u8 0, .int .u8 0, .int .u8 0, .int .u8 0, .int .u8 0, .int .u8 0, .int .u8 0, .int .u8 0, .int .i64 0, .int .i64 0, .int .i64 0, .int .i64 0, .slice none 0 0, .string ⟨#[]⟩] 48)
 have hblz : ((w.alloc (.cells f.arr 48)).alloc (.cells #[.int .i64 0, .int .u64 0, .int .i64 0, .int .i64 0, .int .u8 0, .int .u8 0, .int .u8 0, .int .u8 0, .int .u8 0, .int .u8 0, .int .u8 0, .int .u8 0, .int .u8 0, .int .u8 0, .int .u8 0, .int .u8 0, .int .u8 0, .int .u8 0, .int .u8 0, .int .u8 0, .int .u8 0, .int .u8 0, .int .u8 0, .int .u8 0, .int .u8 0, .int .u8 0, .int .u8 0, .int .u8 0, .int .u8 0, .int .u8 0, .int .u8 0, .int .u8 0, .int .u8 0, .int .u8 0, .int .u8 0, .int .u8 0, .int .i64 0, .int .i64 0, .int .i64 0, .int .i64 0, .slice none 0 0, .string ⟨#[]⟩] 48)).heap[w.heap.size + 1]? = some (.cells #[.int .i64 0, .int .u64 0, .int .i64 0, .int .i64 0, .int .u8 0, .int .u8 0, .int .u8 0, .int .u8 0, .int .u8 0, .int .u8 0, .int .u8 0, .int .u8 0, .int .u8 0, .int .u8 0, .int .u8 0, .int .u8 0, .int .u8 0, .int .u8 0, .int .u8 0, .int .u8 0, .int .u8 0, .int .u8 0, .int .u8 0, .int .u8 0, .int .u8 0, .int .u8 0, .int .u8 0, .int .u8 0, .int .u8 0, .int .u8 0, .int .u8 0, .int .u8 0, .int .u8 0, .int .u8 0, .int .u8 0, .int .u8 0, .int .i64 0, .int .i64 0, .int .i64 0, .int .i64 0, .slice none 0 0, .string ⟨#[]⟩] 48 (0, 0)) := heap_alloc2_new w _ _
 have hF2 := hF.below (below_alloc (Below.refl _ _) (.cells #[.int .i64 0, .int .u64 0, .int .i64 0, .int .i64 0, .int .u8 0, .int .u8 0, .int .u8 0, .int .u8 0, .int .u8 0, .int .u8 0, .int .u8 0, .int .u8 0, .int .u8 0, .int .u8 0, .int .u8 0, .int .u8 0, .int .u8 0, .int .u8 0, .int .u8 0, .int .u8 0, .int .u8 0, .int .u8 0, .int .u8 0, .int .u8 0, .int .u8 0, .int .u8 0, .int .u8 0, .int .u8 0, .int .u8 0, .int .u8 0, .int .u8 0, .int .u8 0, .int .u8 0, .int .u8 0, .int .u8 0, .int .u8 0, .int .i64 0, .int .i64 0, .int .i64 0, .int .i64 0, .slice none 0 0, .string ⟨#[]⟩] 48))
 clear hb hF
 generalize (w.alloc (.cells f.arr 48)).alloc (.cells #[.int .i64 0, .int .u64 0, .int .i64 0, .int .i64 0, .int .u8 0, .int .u8 0, .int .u8 0, .int .u8 0, .int .u8 0, .int .u8 0, .int .u8 0, .int .u8 0, .int .u8 0, .int .u8 0, .int .u8 0, .int .u8 0, .int .u8 0, .int .u8 0, .int .u8 0, .int .u8 0, .int .u8 0, .int .u8 0, .int .u8 0, .int .u8 0, .int .u8 0, .int .u8 0, .int .u8 0, .int .u8 0, .int .u8 0, .int .u8 0, .int .u8 0, .int .u8 0, .int .u8 0, .int .u8 0, .int .u8 0, .int .u8 0, .int .i64 0, .int .i64 0, .int .i64 0, .int .i64 0, .slice none 0 0, .string ⟨#[]⟩] 48) = w1 at *
 obtain ⟨g2, hg2⟩ : ∃ g2, w.heap.size + 1 = g2 := ⟨_, rfl⟩
 have hg2b : w.heap.size ≤ g2 := by omega
 obtain ⟨g, hg⟩ : ∃ g, w.heap.size = g := ⟨_, rfl⟩
 rw [hg2] at hblz ⊢
 rw [hg] at hF2 ⊢
 clear hg hg2
 have hbz3 := below_alloc (Below.refl w1.heap.size w1) (.cells #[.int .i64 0, .int .u64 0, .int .i64 0, .int .i64 0, .int .u8 0, .int .u8 0, .int .u8 0, .int .u8 0, .int .u8 0, .int .u8 0, .int .u8 0, .int .u8 0, .int .u8 0, .int .u8 0, .int .u8 0, .int .u8 0, .int .u8 0, .int .u8 0, .int .u8 0, .int .u8 0, .int .u8 0, .int .u8 0, .int .u8 0, .int .u8 0, .int .u8 0, .int .u8 0, .int .u8 0, .int .u8 0, .int .u8 0, .int .u8 0, .int .u8 0, .int .u8 0, .int .u8 0, .int .u8 0, .int .u8 0, .int .u8 0, .int .i64 0, .int .i64 0, .int .i64 0, .int .i64 0, .slice none 0 0, .string ⟨#[]⟩] 48)
 have hblk := heap_alloc_new w1 (.cells #[.int .i64 0, .int .u64 0, .int .i64 0, .int .i64 0, .int .u8 0, .int .u8 0, .int .u8 0, .int .u8 0, .int .u8 0, .int .u8 0, .int .u8 0, .int .u8 0, .int .u8 0, .int .u8 0, .int .u8 0, .int .u8 0, .int .u8 0, .int .u8 0, .int .u8 0, .int .u8 0, .int .u8 0, .int .u8 0, .int .u8 0, .int .u8 0, .int .u8 0, .int .u8 0, .int .u8 0, .int .u8 0, .int .u8 0, .int .u8 0, .int .u8 0, .int .u8 0, .int .u8 0, .int .u8 0, .int .u8 0, .int .u8 0, .int .i64 0, .int .i64 0, .int .i64 0, .int .i64 0, .slice none 0 0, .string ⟨#[]⟩] 48)
 have h42 : (#[.int .i64 0, .int .u64 0, .int .i64 0, .int .i64 0, .int .u8 0, .int .u8 0, .int .u8 0, .int .u8 0, .int .u8 0, .int .u8 0, .int .u8 0, .int .u8 0, .int .u8 0, .int .u8 0, .int .u8 0, .int .u8 0, .int .u8 0, .int .u8 0, .int .u8 0, .int .u8 0, .int .u8 0, .int .u8 0, .int .u8 0, .int .u8 0, .int .u8 0, .int .u8 0, .int .u8 0, .int .u8 0, .int .u8 0, .int .u8 0, .int .u8 0, .int .u8 0, .int .u8 0, .int .u8 0, .int .u8 0, .int .u8 0, .int .i64 0, .int .i64 0, .int .i64 0, .int .i64 0, .slice none 0 0, .string ⟨#[]⟩] : Array Value).size = (kF f.k).arr.size := by rw [hasK]; rfl
 have e0 := load_int hF2.c0
 go_upto_region 2 with ((with_reducible show wpList _ _ _ (Oper.mk none _ _ _ _ _ :: _) _ _); refine wpList_store_row rfl 48 (.tmp 3) (.tmp 6) rfl w1.heap.size (kF f.k).arr rfl rfl 48 _ hblk hszK h42 honeK ?_)
 have hge := hbz.size
 have hF3 := (hF2.below hbz3).only (Fr.only_row _ w1.heap.size (kF f.k).arr) (fun e => by have := hF2.lt; omega)
 have hZ3 := (Fr.only_row _ w1.heap.size (kF f.k).arr).kept ((hbz3.block _ (lt_of_block hblz)).trans hblz) (fun e => by have := lt_of_block hblz; omega)
 have hK3 : (kF f.k).at_ 48 _ w1.heap.size := ⟨setRow_heap _ w1.heap.size _ (kF f.k).arr _ _ hblk, rfl⟩
 have hb3 := below_setRow (below_step hbz hbz3) hge (kF f.k).arr
 have hn1 : ¬ g = w1.heap.size := fun e => by have := hF2.lt; omega
 have hn2 : ¬ g2 = w1.heap.size := fun e => by have := lt_of_block hblz; omega
 clear hbz hbz3 hblk h42 e0 hF2 hblz hszK honeK hasK hbl
 generalize (w1.alloc (.cells #[.int .i64 0, .int .u64 0, .int .i64 0, .int .i64 0, .int .u8 0, .int .u8 0, .int .u8 0, .int .u8 0, .int .u8 0, .int .u8 0, .int .u8 0, .int .u8 0, .int .u8 0, .int .u8 0, .int .u8 0, .int .u8 0, .int .u8 0, .int .u8 0, .int .u8 0, .int .u8 0, .int .u8 0, .int .u8 0, .int .u8 0, .int .u8 0, .int .u8 0, .int .u8 0, .int .u8 0, .int .u8 0, .int .u8 0, .int .u8 0, .int .u8 0, .int .u8 0, .int .u8 0, .int .u8 0, .int .u8 0, .int .u8 0, .int .i64 0, .int .i64 0, .int .i64 0, .int .i64 0, .slice none 0 0, .string ⟨#[]⟩] 48)).setRow w1.heap.size (kF f.k).arr = w3 at *
 generalize w1.heap.size = g3 at *
 have T : Two w w3 g g2 g3 f (kF f.k) := ⟨hb3, hF3, hK3, ⟨_, rfl, hZ3⟩, hn1, hn2, hge⟩
 clear hb3 hF3 hK3 hZ3 hn1 hn2 hge
 have e0 := load_int T.f.c0
 have hif : (Tryz.prog.info? 48).map (·.size) = some (ownG f).cells.length := by
  rw [frame_size]
  have hO : (ownG f).tool.length = 32 := own_tool hf
  have := Fr.arr_size (ownG f) hO; simp [Fr.arr] at this; rw [this]
 have hszO := size_of (ownG f) (own_tool hf)
 have honeO := arr_one (ownG f)
 have hasO := Fr.arr_size (ownG f) (own_tool hf)
 by_cases k1 : f.k = 1
 ·have b1 : (f.k == 1) = true := by rw [beq_iff_eq]; exact k1
  have S0 := T.drew.f
  have l1 : ∀ W, f.at_ 48 W g → (Instr.loadAt 3 (.pointer (some ⟨g, 2, none⟩))).run Tryz.prog W = .ok (.int .i64 f.v) W := fun W h => load_int h.c2
  have l2 : ∀ W, f.at_ 48 W g → (Instr.loadAt 3 (.pointer (some ⟨g, 3, none⟩))).run Tryz.prog W = .ok (.int .i64 f.s) W := fun W h => load_int h.c3
  have l3 : ∀ W, f.at_ 48 W g → (Instr.loadAt 43 (.pointer (some ⟨g, 4, none⟩))).run Tryz.prog W = .ok (.agg (nums .u8 f.tool).toArray) W := fun W h => tool_at h
  have s1 := store_int f.v
  have q1 := T.h.c2
  have f1 := T.h.fz 2
  have T1 := T.step (Fr.only_at _ g3 2 (.int .i64 f.v)) (T.h.set2 f.v)
  have ST1 := T1.drew.f
  have ST1x := T1.f
  have s2 := store_int f.s
  have q2 := T1.h.c3
  have f2 := T1.h.fz 3
  have T2 := T1.step (Fr.only_at _ g3 3 (.int .i64 f.s)) (T1.h.set3 f.s)
  have ST2 := T2.drew.f
  have ST2x := T2.f
  have T3d := T2.drew
  have ST3d := T3d.f
  obtain ⟨W3, hst3, hA3, ho3⟩ := store_tool T3d.h f.tool hf
  have T3 := T3d.step ho3 hA3
  have ST3 := T3.drew.f
  have ST3x := T3.f
  have HE : Hid (_ = ownG f) := Lib.hid (own_is1 k1)
  have hl := load_frame (ownG f) hif _ g3 (HE.out ▸ T3.h)
  obtain ⟨Z, hZ, hblk⟩ := T3.z
  have hbel := T3.bel
  have hZs : Z.size = (ownG f).arr.size := by rw [hZ, hasO]
  clear hif HE hf T
  go_upto_region 4 with (fail)
  refine wp_region_held_drew (S := fun W => f.at_ 48 W g) (by kernel_rfl) (S0) (fun hHeld => ?_)
  refine Go.Kit.tk 0 (.pointer (some ⟨g, 2, none⟩)) rfl ?_
  refine Go.Kit.tk 1 (.int .i64 f.v) rfl ?_
  refine Go.Kit.tk 2 (.pointer (some ⟨g, 3, none⟩)) rfl ?_
  refine Go.Kit.tk 3 (.int .i64 f.s) rfl ?_
  refine Go.Kit.tk 4 (.pointer (some ⟨g, 4, none⟩)) rfl ?_
  refine Go.Kit.tk 5 (.agg (nums .u8 f.tool).toArray) rfl ?_
  refine Go.Kit.tk 6 (.pointer (some ⟨g3, 2, none⟩)) rfl ?_
  refine wpAnyH_ready (rs := [7]) (by kernel_rfl) (by decide) (AllReadyH.cons (o := ⟨_, _, _, _, _, _⟩) rfl (fun K hK => ?_) AllReadyH.nil)
  rw [if_pos (by kernel_rfl)]
  go_simp
  refine hK.out _ _ (ST1) (fun hHeld => ?_)
  clear hK K
  try simp only [Act.put, List.setIfInBounds_toArray, List.set_cons_zero, List.set_cons_succ]
  refine Go.Kit.tk 8 (.pointer (some ⟨g3, 3, none⟩)) rfl ?_
  refine wpAnyH_ready (rs := [9]) (by kernel_rfl) (by decide) (AllReadyH.cons (o := ⟨_, _, _, _, _, _⟩) rfl (fun K hK => ?_) AllReadyH.nil)
  rw [if_pos (by kernel_rfl)]
  go_simp
  refine hK.out _ _ (ST2) (fun hHeld => ?_)
  clear hK K
  try simp only [Act.put, List.setIfInBounds_toArray, List.set_cons_zero, List.set_cons_succ]
  refine Go.Kit.tk 10 (.pointer (some ⟨g3, 4, none⟩)) rfl ?_
  refine wpAnyH_ready (rs := [11]) (by kernel_rfl) (by decide) (AllReadyH.cons (o := ⟨_, _, _, _, _, _⟩) rfl (fun K hK => ?_) AllReadyH.nil)
  rw [if_pos (by kernel_rfl)]
  go_simp
  refine hK.out _ _ (ST3x) (fun hHeld => ?_)
  clear hK K
  try simp only [Act.put, List.setIfInBounds_toArray, List.set_cons_zero, List.set_cons_succ]
  refine wpAnyH_done (by kernel_rfl) ?_ _
  try simp only [Act.put, List.setIfInBounds_toArray, List.set_cons_zero, List.set_cons_succ]
  go_wp2_with ((with_reducible show wpList _ _ _ (Oper.mk none _ _ _ _ _ :: _) _ _); refine wpList_store_row rfl 48 (.tmp 2) (.tmp 55) rfl g2 (ownG f).arr rfl rfl 48 Z hblk hszO hZs honeO ?_)
  exact bodyPost_ret (v := .agg (ownG f).arr) (results_cell_row rfl _ _ g2 48 (ownG f).arr (0, 0) _ rfl (setRow_heap _ _ _ _ _ _ hblk) Tryz.underlying48 rfl hszO) rfl ⟨rfl, below_setRow hbel hg2b _⟩
 have b1 : (f.k == 1) = false := by rw [beq_eq_false_iff_ne]; exact k1
 by_cases k2 : f.k = 2
 ·have b2 : (f.k == 2) = true := by rw [beq_iff_eq]; exact k2
  have S0 := T.drew.f
  have l1 : ∀ W, f.at_ 48 W g → (Instr.loadAt 41 (.pointer (some ⟨g, 1, none⟩))).run Tryz.prog W = .ok (.int .u64 f.id) W := fun W h => load_u64 h.c1
  have l2 : ∀ W, f.at_ 48 W g → (Instr.loadAt 45 (.pointer (some ⟨g, 37, none⟩))).run Tryz.prog W = .ok (.agg f.lim.toArray) W := fun W h => lim_at h
  have l3 : ∀ W, f.at_ 48 W g → (Instr.loadAt 46 (.pointer (some ⟨g, 40, none⟩))).run Tryz.prog W = .ok (.slice f.A f.n f.c) W := fun W h => load_txts h.c40
  have l4 : ∀ W, f.at_ 48 W g → (Instr.loadAt 9 (.pointer (some ⟨g, 41, none⟩))).run Tryz.prog W = .ok (.string f.body) W := fun W h => load_str h.c41
  have s1 := store_u64 f.id
  have q1 := T.h.c1
  have f1 := T.h.fz 1
  have T1 := T.step (Fr.only_at _ g3 1 (.int .u64 f.id)) (T.h.set1 f.id)
  have ST1 := T1.drew.f
  have ST1x := T1.f
  have T2d := T1.drew
  have ST2d := T2d.f
  obtain ⟨W2, hst2, hA2, ho2⟩ := store_lim T2d.h f
  have T2 := T2d.step ho2 hA2
  have ST2 := T2.drew.f
  have ST2x := T2.f
  have s3 := store_txts f.A f.n f.c
  have q3 := T2.h.c40
  have f3 := T2.h.fz 40
  have T3 := T2.step (Fr.only_at _ g3 40 (.slice f.A f.n f.c)) (T2.h.set40 f.A f.n f.c f.args)
  have ST3 := T3.drew.f
  have ST3x := T3.f
  have s4 := store_str f.body
  have q4 := T3.h.c41
  have f4 := T3.h.fz 41
  have T4 := T3.step (Fr.only_at _ g3 41 (.string f.body)) (T3.h.set41 f.body)
  have ST4 := T4.drew.f
  have ST4x := T4.f
  have HE : Hid (_ = ownG f) := Lib.hid (own_is2 k2)
  have hl := load_frame (ownG f) hif _ g3 (HE.out ▸ T4.h)
  obtain ⟨Z, hZ, hblk⟩ := T4.z
  have hbel := T4.bel
  have hZs : Z.size = (ownG f).arr.size := by rw [hZ, hasO]
  clear hif HE hf T
  go_upto_region 6 with (fail)
  refine wp_region_held_drew (S := fun W => f.at_ 48 W g) (by kernel_rfl) (S0) (fun hHeld => ?_)
  refine Go.Kit.tk 0 (.pointer (some ⟨g, 1, none⟩)) rfl ?_
  refine Go.Kit.tk 1 (.int .u64 f.id) rfl ?_
  refine Go.Kit.tk 2 (.pointer (some ⟨g, 37, none⟩)) rfl ?_
  refine Go.Kit.tk 3 (.agg f.lim.toArray) rfl ?_
  refine Go.Kit.tk 4 (.pointer (some ⟨g, 40, none⟩)) rfl ?_
  refine Go.Kit.tk 5 (.slice f.A f.n f.c) rfl ?_
  refine Go.Kit.tk 6 (.pointer (some ⟨g, 41, none⟩)) rfl ?_
  refine Go.Kit.tk 7 (.string f.body) rfl ?_
  refine Go.Kit.tk 8 (.pointer (some ⟨g3, 1, none⟩)) rfl ?_
  refine wpAnyH_ready (rs := [9]) (by kernel_rfl) (by decide) (AllReadyH.cons (o := ⟨_, _, _, _, _, _⟩) rfl (fun K hK => ?_) AllReadyH.nil)
  rw [if_pos (by kernel_rfl)]
  go_simp
  refine hK.out _ _ (ST1) (fun hHeld => ?_)
  clear hK K
  try simp only [Act.put, List.setIfInBounds_toArray, List.set_cons_zero, List.set_cons_succ]
  refine Go.Kit.tk 10 (.pointer (some ⟨g3, 37, none⟩)) rfl ?_
  refine wpAnyH_ready (rs := [11]) (by kernel_rfl) (by decide) (AllReadyH.cons (o := ⟨_, _, _, _, _, _⟩) rfl (fun K hK => ?_) AllReadyH.nil)
  rw [if_pos (by kernel_rfl)]
  go_simp
  refine hK.out _ _ (ST2x) (fun hHeld => ?_)
  clear hK K
  try simp only [Act.put, List.setIfInBounds_toArray, List.set_cons_zero, List.set_cons_succ]
  refine Go.Kit.tk 12 (.pointer (some ⟨g3, 40, none⟩)) rfl ?_
  refine wpAnyH_ready (rs := [13]) (by kernel_rfl) (by decide) (AllReadyH.cons (o := ⟨_, _, _, _, _, _⟩) rfl (fun K hK => ?_) AllReadyH.nil)
  rw [if_pos (by kernel_rfl)]
  go_simp
  refine hK.out _ _ (ST3x) (fun hHeld => ?_)
  clear hK K
  try simp only [Act.put, List.setIfInBounds_toArray, List.set_cons_zero, List.set_cons_succ]
  refine Go.Kit.tk 14 (.pointer (some ⟨g3, 41, none⟩)) rfl ?_
  refine wpAnyH_ready (rs := [15]) (by kernel_rfl) (by decide) (AllReadyH.cons (o := ⟨_, _, _, _, _, _⟩) rfl (fun K hK => ?_) AllReadyH.nil)
  rw [if_pos (by kernel_rfl)]
  go_simp
  refine hK.out _ _ (ST4x) (fun hHeld => ?_)
  clear hK K
  try simp only [Act.put, List.setIfInBounds_toArray, List.set_cons_zero, List.set_cons_succ]
  refine wpAnyH_done (by kernel_rfl) ?_ _
  try simp only [Act.put, List.setIfInBounds_toArray, List.set_cons_zero, List.set_cons_succ]
  go_wp2_with ((with_reducible show wpList _ _ _ (Oper.mk none _ _ _ _ _ :: _) _ _); refine wpList_store_row rfl 48 (.tmp 2) (.tmp 55) rfl g2 (ownG f).arr rfl rfl 48 Z hblk hszO hZs honeO ?_)
  exact bodyPost_ret (v := .agg (ownG f).arr) (results_cell_row rfl _ _ g2 48 (ownG f).arr (0, 0) _ rfl (setRow_heap _ _ _ _ _ _ hblk) Tryz.underlying48 rfl hszO) rfl ⟨rfl, below_setRow hbel hg2b _⟩
 have b2 : (f.k == 2) = false := by rw [beq_eq_false_iff_ne]; exact k2
 by_cases k3 : f.k = 3
 ·have b3 : (f.k == 3) = true := by rw [beq_iff_eq]; exact k3
  have S0 := T.drew.f
  have l1 : ∀ W, f.at_ 48 W g → (Instr.loadAt 41 (.pointer (some ⟨g, 1, none⟩))).run Tryz.prog W = .ok (.int .u64 f.id) W := fun W h => load_u64 h.c1
  have l2 : ∀ W, f.at_ 48 W g → (Instr.loadAt 3 (.pointer (some ⟨g, 36, none⟩))).run Tryz.prog W = .ok (.int .i64 f.st) W := fun W h => load_int h.c36
  have l3 : ∀ W, f.at_ 48 W g → (Instr.loadAt 9 (.pointer (some ⟨g, 41, none⟩))).run Tryz.prog W = .ok (.string f.body) W := fun W h => load_str h.c41
  have s1 := store_u64 f.id
  have q1 := T.h.c1
  have f1 := T.h.fz 1
  have T1 := T.step (Fr.only_at _ g3 1 (.int .u64 f.id)) (T.h.set1 f.id)
  have ST1 := T1.drew.f
  have ST1x := T1.f
  have s2 := store_int f.st
  have q2 := T1.h.c36
  have f2 := T1.h.fz 36
  have T2 := T1.step (Fr.only_at _ g3 36 (.int .i64 f.st)) (T1.h.set36 f.st)
  have ST2 := T2.drew.f
  have ST2x := T2.f
  have s3 := store_str f.body
  have q3 := T2.h.c41
  have f3 := T2.h.fz 41
  have T3 := T2.step (Fr.only_at _ g3 41 (.string f.body)) (T2.h.set41 f.body)
  have ST3 := T3.drew.f
  have ST3x := T3.f
  have T9 := T3.drew
  have ST9 := T9.f
  have HE : Hid (_ = ownG f) := Lib.hid (own_is3 k3)
  have hl := load_frame (ownG f) hif _ g3 (HE.out ▸ T9.h)
  obtain ⟨Z, hZ, hblk⟩ := T9.z
  have hbel := T9.bel
  have hZs : Z.size = (ownG f).arr.size := by rw [hZ, hasO]
  clear hif HE hf T
  go_upto_region 8 with (fail)
  go_region_held3 (fun W => f.at_ 48 W g) (assumption) (fail)
  all_goals
   go_wp2_with ((with_reducible show wpList _ _ _ (Oper.mk none _ _ _ _ _ :: _) _ _); refine wpList_store_row rfl 48 (.tmp 2) (.tmp 55) rfl g2 (ownG f).arr rfl rfl 48 Z hblk hszO hZs honeO ?_)
   exact bodyPost_ret (v := .agg (ownG f).arr) (results_cell_row rfl _ _ g2 48 (ownG f).arr (0, 0) _ rfl (setRow_heap _ _ _ _ _ _ hblk) Tryz.underlying48 rfl hszO) rfl ⟨rfl, below_setRow hbel hg2b _⟩
 have b3 : (f.k == 3) = false := by rw [beq_eq_false_iff_ne]; exact k3
 by_cases k4 : f.k = 4
 ·have b4 : (f.k == 4) = true := by rw [beq_iff_eq]; exact k4
  have l1 := load_u64 T.f.c1
  have s1 := store_u64 f.id
  have q1 := T.h.c1
  have f1 := T.h.fz 1
  have T1 := T.step (Fr.only_at _ g3 1 (.int .u64 f.id)) (T.h.set1 f.id)
  have HE : Hid (_ = ownG f) := Lib.hid (own_is4 k4)
  have hl := load_frame (ownG f) hif _ g3 (HE.out ▸ T1.h)
  obtain ⟨Z, hZ, hblk⟩ := T1.z
  have hbel := T1.bel
  have hZs : Z.size = (ownG f).arr.size := by rw [hZ, hasO]
  clear hif HE hf T
  go_wp2_with ((with_reducible show wpList _ _ _ (Oper.mk none _ _ _ _ _ :: _) _ _); refine wpList_store_row rfl 48 (.tmp 2) (.tmp 55) rfl g2 (ownG f).arr rfl rfl 48 Z hblk hszO hZs honeO ?_)
  exact bodyPost_ret (v := .agg (ownG f).arr) (results_cell_row rfl _ _ g2 48 (ownG f).arr (0, 0) _ rfl (setRow_heap _ _ _ _ _ _ hblk) Tryz.underlying48 rfl hszO) rfl ⟨rfl, below_setRow hbel hg2b _⟩
 have b4 : (f.k == 4) = false := by rw [beq_eq_false_iff_ne]; exact k4
 by_cases k6 : f.k = 6
 ·have b6 : (f.k == 6) = true := by rw [beq_iff_eq]; exact k6
  have l1 := load_str T.f.c41
  have s1 := store_str f.body
  have q1 := T.h.c41
  have f1 := T.h.fz 41
  have T1 := T.step (Fr.only_at _ g3 41 (.string f.body)) (T.h.set41 f.body)
  have HE : Hid (_ = ownG f) := Lib.hid (own_is6 k6)
  have hl := load_frame (ownG f) hif _ g3 (HE.out ▸ T1.h)
  obtain ⟨Z, hZ, hblk⟩ := T1.z
  have hbel := T1.bel
  have hZs : Z.size = (ownG f).arr.size := by rw [hZ, hasO]
  clear hif HE hf T
  go_wp2_with ((with_reducible show wpList _ _ _ (Oper.mk none _ _ _ _ _ :: _) _ _); refine wpList_store_row rfl 48 (.tmp 2) (.tmp 55) rfl g2 (ownG f).arr rfl rfl 48 Z hblk hszO hZs honeO ?_)
  exact bodyPost_ret (v := .agg (ownG f).arr) (results_cell_row rfl _ _ g2 48 (ownG f).arr (0, 0) _ rfl (setRow_heap _ _ _ _ _ _ hblk) Tryz.underlying48 rfl hszO) rfl ⟨rfl, below_setRow hbel hg2b _⟩
 have b6 : (f.k == 6) = false := by rw [beq_eq_false_iff_ne]; exact k6
 have k5 := And.intro k1 (And.intro k2 (And.intro k3 (And.intro k4 k6)))
 have HE : Hid (_ = ownG f) := Lib.hid (own_is5 k5 (hk5 k1 k2 k3 k4 k6))
 have hl := load_frame (ownG f) hif _ g3 (HE.out ▸ T.h)
 obtain ⟨Z, hZ, hblk⟩ := T.z
 have hbel := T.bel
 have hZs : Z.size = (ownG f).arr.size := by rw [hZ, hasO]
 clear hif HE hf T
 go_wp2_with ((with_reducible show wpList _ _ _ (Oper.mk none _ _ _ _ _ :: _) _ _); refine wpList_store_row rfl 48 (.tmp 2) (.tmp 55) rfl g2 (ownG f).arr rfl rfl 48 Z hblk hszO hZs honeO ?_)
 exact bodyPost_ret (v := .agg (ownG f).arr) (results_cell_row rfl _ _ g2 48 (ownG f).arr (0, 0) _ rfl (setRow_heap _ _ _ _ _ _ hblk) Tryz.underlying48 rfl hszO) rfl ⟨rfl, below_setRow hbel hg2b _⟩
end Go.Proofs.YtpjpgcjhdbiepaaGreat
end
section
namespace Go.Proofs.YtpjpgcjhdbiepaaGreat
open Go.RowKit Go.Kit Go.Proofs.YtpjpgcjhdbiepaaGreatW.PrintWords
theorem rUint_of (u : Int) (h0 : 0 ≤ u) (h1 : u ≤ 18446744073709551615) (w : World) : Calls Tryz.prog 40 #[.int .u64 u] w (Laid w (sh u.toNat)) := by
 have h := rUint_any u.toNat w (by omega)
 rw [Int.toNat_of_nonneg h0] at h
 exact h
theorem keepG {W w1 : World} {g base : Nat} {f : Fr} {v : Value} {xs : List Int} (hF : f.at_ 48 W g) (hO : OB 5 W base v xs) (hg : W.grownBy w1 v.ownBlock) : f.at_ 48 w1 g :=
 hF.only ((Only.refl W (rf v)).grown hg (fun k e => .inl e)) (hO.not_block hF.blk (by decide))
theorem lst_len (f : Fr) (h : (0 ≤ f.mo ∧ 0 ≤ f.fu ∧ 0 ≤ f.di) ∧ f.n ≤ 8 ∧ ∀ s ∈ f.args, s.size ≤ 4096) (hn : f.args.length = f.n) : (lst f.args).length ≤ 32858 := by
 have h1 := txts_length f.args 4096 (by omega) h.2.2
 have h2 := sh_ten (n := f.args.length) (by omega)
 have h4 : f.args.length * (10 + 4096) ≤ 8 * (10 + 4096) := Nat.mul_le_mul_right _ (by omega)
 unfold lst
 rw [List.length_append]
 omega
section
variable {f : Fr} {w : World}
set_option maxHeartbeats 16000000 in
set_option maxRecDepth 100000 in
theorem rbody_any (h1 : 1 ≤ f.k) (h6 : f.k ≤ 6) (hf : f.ok w) (hw : f.wf) (hL : LayOk f) : Calls Tryz.prog 39 #[f.val] w (Laid w (bodyF f)) := by
 have hb := below_alloc (Below.refl _ w) (.cells f.arr 48)
 have hF := boxed hf.tool w
 have hwk := u64_nn (x := f.k) (by omega) (by omega)
 have HWF := Lib.hid hw
 have HK := Lib.hid (And.intro h1 h6)
 have HL := Lib.hid hL
 have HT := Lib.hid hf.tool
 have HA := Lib.hid hf.args
 have HLK := Lib.hid (sh_ten (n := f.k.toNat) (by omega))
 clear hw hL hf h1 h6
 show Calls Tryz.prog _ #[.agg f.arr] w _
 go_enter Tryz.func39, Tryz.ntmps39
 go_upto_region 1 with (fail)
 generalize w.alloc (.cells f.arr 48) = w1 at *
 obtain ⟨g, hg⟩ : ∃ g, w.heap.size = g := ⟨_, rfl⟩
 rw [hg] at hF ⊢
 clear hg
 have q := hF.c0
 go_wp2_with fail
 refine (rUint_of f.k (by have := HK.out; omega) (by have := HK.out; omega) _).mono ?_
 rintro e w2 ⟨v2, rfl, hO2, hb2⟩
 have hF2 := hF.below hb2
 replace hb2 := below_step hb hb2
 replace hO2 := hO2.less hb.size
 clear hb hF q hwk
 have q := hF2.c0
 obtain ⟨a2, ha2⟩ : ∃ q, sh f.k.toNat = q := ⟨_, rfl⟩
 rw [ha2] at hO2
 have HA2 : Hid (a2 = sh f.k.toNat) := Lib.hid ha2.symm
 have HB2 : Hid (a2.length ≤ 10) := Lib.hid (by rw [← ha2]; exact HLK.out)
 clear ha2
 by_cases k1 : f.k = 1
 ·have b1 : (f.k == 1) = true := by rw [beq_iff_eq]; exact k1
  have HKK := Lib.hid k1
  clear k1
  have q3 := hF2.c2
  have hwrv := u64_nn (x := f.v) ((HL.out.hello (HKK.out)).1) HWF.out.v.2
  go_wp2_with fail
  refine (rUint_of f.v ((HL.out.hello (HKK.out)).1) (by have := HWF.out.v.2; omega) _).mono ?_
  rintro e w3 ⟨v3, rfl, hP3, hc3⟩
  have hF3 := hF2.below hc3
  have hO3 := hO2.below hc3
  have hb3 := below_step hb2 hc3
  obtain ⟨A3, c3, rfl, hR3, _⟩ := hP3.reads'
  obtain ⟨y3, hy3⟩ : ∃ q, sh f.v.toNat = q := ⟨_, rfl⟩
  rw [hy3] at hR3 ⊢
  obtain ⟨n3, hn3⟩ : ∃ q, y3.length = q := ⟨_, rfl⟩
  rw [hn3] at hR3 ⊢
  have HN3 : Hid (n3 ≤ 10) := Lib.hid (by rw [← hn3, ← hy3]; exact sh_ten (by have := HWF.out.v.2; omega))
  have HLN3 : Hid (a2.length + n3 ≤ 140737488355328) := Lib.hid (by have := HN3.out; have := HB2.out; omega)
  have HY3 := Lib.hid hy3
  have HE3 := Lib.hid hn3
  clear hb2 hF2 hO2 hc3 hP3 q3 hy3 hn3
  go_wp2_with (at_builtin; refine push_row (w0 := w) w.heap.size rfl (.tmp 13) (.tmp 17) 22 y3 A3 n3 c3 rfl Tryz.underlying22 u8_info rfl rfl hO3 hR3 hb3 hb3.size HLN3.out ?_)
  intro v4 w4 hO4 hb4 hg4 _
  have hF4 := keepG hF3 hO3 hg4
  obtain ⟨a4, ha4⟩ : ∃ q, a2 ++ y3 = q := ⟨_, rfl⟩
  rw [ha4] at hO4
  have HB4 : Hid (a4.length ≤ 20) := Lib.hid (by rw [← ha4, List.length_append, HE3.out]; have := HN3.out; have := HB2.out; omega)
  have HA4 : Hid (a4 = a2 ++ sh f.v.toNat) := Lib.hid (by rw [← ha4, HY3.out])
  clear hF3 hO3 hb3 hR3 hg4 HLN3 ha4
  have q5 := hF4.c3
  have hwrs := u64_nn (x := f.s) ((HL.out.hello (HKK.out)).2) HWF.out.s.2
  go_wp2_with fail
  refine (rUint_of f.s ((HL.out.hello (HKK.out)).2) (by have := HWF.out.s.2; omega) _).mono ?_
  rintro e w5 ⟨v5, rfl, hP5, hc5⟩
  have hF5 := hF4.below hc5
  have hO5 := hO4.below hc5
  have hb5 := below_step hb4 hc5
  obtain ⟨A5, c5, rfl, hR5, _⟩ := hP5.reads'
  obtain ⟨y5, hy5⟩ : ∃ q, sh f.s.toNat = q := ⟨_, rfl⟩
  rw [hy5] at hR5 ⊢
  obtain ⟨n5, hn5⟩ : ∃ q, y5.length = q := ⟨_, rfl⟩
  rw [hn5] at hR5 ⊢
  have HN5 : Hid (n5 ≤ 10) := Lib.hid (by rw [← hn5, ← hy5]; exact sh_ten (by have := HWF.out.s.2; omega))
  have HLN5 : Hid (a4.length + n5 ≤ 140737488355328) := Lib.hid (by have := HN5.out; have := HB4.out; omega)
  have HY5 := Lib.hid hy5
  have HE5 := Lib.hid hn5
  clear hb4 hF4 hO4 hc5 hP5 q5 hy5 hn5
  go_wp2_with (at_builtin; refine push_row (w0 := w) w.heap.size rfl (.tmp 19) (.tmp 23) 22 y5 A5 n5 c5 rfl Tryz.underlying22 u8_info rfl rfl hO5 hR5 hb5 hb5.size HLN5.out ?_)
  intro v6 w6 hO6 hb6 hg6 _
  have hF6 := keepG hF5 hO5 hg6
  obtain ⟨a6, ha6⟩ : ∃ q, a4 ++ y5 = q := ⟨_, rfl⟩
  rw [ha6] at hO6
  have HB6 : Hid (a6.length ≤ 30) := Lib.hid (by rw [← ha6, List.length_append, HE5.out]; have := HN5.out; have := HB4.out; omega)
  have HA6 : Hid (a6 = a4 ++ sh f.s.toNat) := Lib.hid (by rw [← ha6, HY5.out])
  clear hF5 hO5 hb5 hR5 hg6 HLN5 ha6
  go_wp2_with fail
  go_loopg [3, 4] 32 (fun gk v3 v4 w' => ∃ k : Nat, v4 = .int .i64 (k : Int) ∧ OB 5 w' w.heap.size v3 (a6 ++ f.tool.take k) ∧ f.at_ 48 w' g ∧ Below w.heap.size w w' ∧ Hid (k + gk = 32))
  case atStart => exact ⟨0, rfl, by simpa using hO6, hF6, hb6, Lib.hid rfl⟩
  case round =>
   clear hO6 hF6 hb6
   obtain ⟨k, rfl, hO, hF, hb, HG⟩ := hrel
   by_cases hk : k < 32
   ·have hk2 : (k : Int) < 32 := by omega
    obtain ⟨x, HX⟩ : ∃ x, Hid (f.tool[k]? = some x) := ⟨_, Lib.hid (List.getElem?_eq_getElem (by rw [HT.out]; exact hk))⟩
    have hx := HWF.out.byt x (List.mem_of_getElem? HX.out)
    have hcell : wr.cell? ⟨g, 4 + k, none⟩ = some (.int .u8 x) := hF.r4 k (.int .u8 x) (by simp [nums, HX.out])
    have hba := below_alloc (Below.refl wr.heap.size wr) (.cells #[.int .u8 x] 5)
    have hF2 := hF.below hba
    have hLL : Hid ((a6 ++ f.tool.take k).length + 1 ≤ 140737488355328) := Lib.hid (by
     have h1 : (f.tool.take k).length ≤ 32 := by rw [List.length_take]; omega
     have := HB6.out; rw [List.length_append]; omega)
    have hbs := hb.size
    go_wp2_with (at_builtin; refine push_byte (w0 := w) w.heap.size rfl (.tmp 29) (.tmp 34) 22 x rfl Tryz.underlying22 u8_info rfl rfl hO hb hbs hLL.out hx.1 hx.2 ?_)
    intro v5 w5 hO5 hb5 hg5 _
    have hF5 := keepG hF hO hg5
    go_wp2_with fail
    go_roundg (gk - 1)
    case measure => have := HG.out; omega
    case rel =>
     refine ⟨k + 1, by simp, ?_, hF5, hb5, Lib.hid (by have := HG.out; omega)⟩
     rw [snoc HX.out]
     first | exact hO5 | (rw [← List.append_assoc]; exact hO5)
   ·have hk2 : ¬ (k : Int) < 32 := by omega
    have HE : Hid (a6 ++ f.tool.take k = bodyF f) := Lib.hid (by
     rw [List.take_of_length_le (by rw [HT.out]; omega)]
     rw [HA6.out, HA4.out, HA2.out]; unfold bodyF layF; rw [if_pos HKK.out]; simp only [List.append_assoc])
    rw [HE.out] at hO
    clear hk
    go_wp2_with fail
    go_ret
    exact ⟨_, rfl, hO, hb⟩
 have b1 : (f.k == 1) = false := by rw [beq_eq_false_iff_ne]; exact k1
 by_cases k2 : f.k = 2
 ·have b2 : (f.k == 2) = true := by rw [beq_iff_eq]; exact k2
  have HKK := Lib.hid k2
  clear k2
  have q3 := hF2.c1
  go_wp2_with fail
  refine (rUint_of f.id (HWF.out.id0) (HWF.out.id1) _).mono ?_
  rintro e w3 ⟨v3, rfl, hP3, hc3⟩
  have hF3 := hF2.below hc3
  have hO3 := hO2.below hc3
  have hb3 := below_step hb2 hc3
  obtain ⟨A3, c3, rfl, hR3, _⟩ := hP3.reads'
  obtain ⟨y3, hy3⟩ : ∃ q, sh f.id.toNat = q := ⟨_, rfl⟩
  rw [hy3] at hR3 ⊢
  obtain ⟨n3, hn3⟩ : ∃ q, y3.length = q := ⟨_, rfl⟩
  rw [hn3] at hR3 ⊢
  have HN3 : Hid (n3 ≤ 10) := Lib.hid (by rw [← hn3, ← hy3]; exact sh_ten (by have := HWF.out.id1; omega))
  have HLN3 : Hid (a2.length + n3 ≤ 140737488355328) := Lib.hid (by have := HN3.out; have := HB2.out; omega)
  have HY3 := Lib.hid hy3
  have HE3 := Lib.hid hn3
  clear hb2 hF2 hO2 hc3 hP3 q3 hy3 hn3
  go_wp2_with (at_builtin; refine push_row (w0 := w) w.heap.size rfl (.tmp 38) (.tmp 41) 22 y3 A3 n3 c3 rfl Tryz.underlying22 u8_info rfl rfl hO3 hR3 hb3 hb3.size HLN3.out ?_)
  intro v4 w4 hO4 hb4 hg4 _
  have hF4 := keepG hF3 hO3 hg4
  obtain ⟨a4, ha4⟩ : ∃ q, a2 ++ y3 = q := ⟨_, rfl⟩
  rw [ha4] at hO4
  have HB4 : Hid (a4.length ≤ 20) := Lib.hid (by rw [← ha4, List.length_append, HE3.out]; have := HN3.out; have := HB2.out; omega)
  have HA4 : Hid (a4 = a2 ++ sh f.id.toNat) := Lib.hid (by rw [← ha4, HY3.out])
  clear hF3 hO3 hb3 hR3 hg4 HLN3 ha4
  have q5 := hF4.c37
  have hwrmo := u64_nn (x := f.mo) ((HL.out.req (HKK.out)).1.1) HWF.out.mo.2
  go_wp2_with fail
  refine (rUint_of f.mo ((HL.out.req (HKK.out)).1.1) (by have := HWF.out.mo.2; omega) _).mono ?_
  rintro e w5 ⟨v5, rfl, hP5, hc5⟩
  have hF5 := hF4.below hc5
  have hO5 := hO4.below hc5
  have hb5 := below_step hb4 hc5
  obtain ⟨A5, c5, rfl, hR5, _⟩ := hP5.reads'
  obtain ⟨y5, hy5⟩ : ∃ q, sh f.mo.toNat = q := ⟨_, rfl⟩
  rw [hy5] at hR5 ⊢
  obtain ⟨n5, hn5⟩ : ∃ q, y5.length = q := ⟨_, rfl⟩
  rw [hn5] at hR5 ⊢
  have HN5 : Hid (n5 ≤ 10) := Lib.hid (by rw [← hn5, ← hy5]; exact sh_ten (by have := HWF.out.mo.2; omega))
  have HLN5 : Hid (a4.length + n5 ≤ 140737488355328) := Lib.hid (by have := HN5.out; have := HB4.out; omega)
  have HY5 := Lib.hid hy5
  have HE5 := Lib.hid hn5
  clear hb4 hF4 hO4 hc5 hP5 q5 hy5 hn5
  go_wp2_with (at_builtin; refine push_row (w0 := w) w.heap.size rfl (.tmp 43) (.tmp 48) 22 y5 A5 n5 c5 rfl Tryz.underlying22 u8_info rfl rfl hO5 hR5 hb5 hb5.size HLN5.out ?_)
  intro v6 w6 hO6 hb6 hg6 _
  have hF6 := keepG hF5 hO5 hg6
  obtain ⟨a6, ha6⟩ : ∃ q, a4 ++ y5 = q := ⟨_, rfl⟩
  rw [ha6] at hO6
  have HB6 : Hid (a6.length ≤ 30) := Lib.hid (by rw [← ha6, List.length_append, HE5.out]; have := HN5.out; have := HB4.out; omega)
  have HA6 : Hid (a6 = a4 ++ sh f.mo.toNat) := Lib.hid (by rw [← ha6, HY5.out])
  clear hF5 hO5 hb5 hR5 hg6 HLN5 ha6
  have q7 := hF6.c38
  have hwrfu := u64_nn (x := f.fu) ((HL.out.req (HKK.out)).1.2.1) HWF.out.fu.2
  go_wp2_with fail
  refine (rUint_of f.fu ((HL.out.req (HKK.out)).1.2.1) (by have := HWF.out.fu.2; omega) _).mono ?_
  rintro e w7 ⟨v7, rfl, hP7, hc7⟩
  have hF7 := hF6.below hc7
  have hO7 := hO6.below hc7
  have hb7 := below_step hb6 hc7
  obtain ⟨A7, c7, rfl, hR7, _⟩ := hP7.reads'
  obtain ⟨y7, hy7⟩ : ∃ q, sh f.fu.toNat = q := ⟨_, rfl⟩
  rw [hy7] at hR7 ⊢
  obtain ⟨n7, hn7⟩ : ∃ q, y7.length = q := ⟨_, rfl⟩
  rw [hn7] at hR7 ⊢
  have HN7 : Hid (n7 ≤ 10) := Lib.hid (by rw [← hn7, ← hy7]; exact sh_ten (by have := HWF.out.fu.2; omega))
  have HLN7 : Hid (a6.length + n7 ≤ 140737488355328) := Lib.hid (by have := HN7.out; have := HB6.out; omega)
  have HY7 := Lib.hid hy7
  have HE7 := Lib.hid hn7
  clear hb6 hF6 hO6 hc7 hP7 q7 hy7 hn7
  go_wp2_with (at_builtin; refine push_row (w0 := w) w.heap.size rfl (.tmp 50) (.tmp 55) 22 y7 A7 n7 c7 rfl Tryz.underlying22 u8_info rfl rfl hO7 hR7 hb7 hb7.size HLN7.out ?_)
  intro v8 w8 hO8 hb8 hg8 _
  have hF8 := keepG hF7 hO7 hg8
  obtain ⟨a8, ha8⟩ : ∃ q, a6 ++ y7 = q := ⟨_, rfl⟩
  rw [ha8] at hO8
  have HB8 : Hid (a8.length ≤ 40) := Lib.hid (by rw [← ha8, List.length_append, HE7.out]; have := HN7.out; have := HB6.out; omega)
  have HA8 : Hid (a8 = a6 ++ sh f.fu.toNat) := Lib.hid (by rw [← ha8, HY7.out])
  clear hF7 hO7 hb7 hR7 hg8 HLN7 ha8
  have q9 := hF8.c39
  have hwrdi := u64_nn (x := f.di) ((HL.out.req (HKK.out)).1.2.2) HWF.out.di.2
  go_wp2_with fail
  refine (rUint_of f.di ((HL.out.req (HKK.out)).1.2.2) (by have := HWF.out.di.2; omega) _).mono ?_
  rintro e w9 ⟨v9, rfl, hP9, hc9⟩
  have hF9 := hF8.below hc9
  have hO9 := hO8.below hc9
  have hb9 := below_step hb8 hc9
  obtain ⟨A9, c9, rfl, hR9, _⟩ := hP9.reads'
  obtain ⟨y9, hy9⟩ : ∃ q, sh f.di.toNat = q := ⟨_, rfl⟩
  rw [hy9] at hR9 ⊢
  obtain ⟨n9, hn9⟩ : ∃ q, y9.length = q := ⟨_, rfl⟩
  rw [hn9] at hR9 ⊢
  have HN9 : Hid (n9 ≤ 10) := Lib.hid (by rw [← hn9, ← hy9]; exact sh_ten (by have := HWF.out.di.2; omega))
  have HLN9 : Hid (a8.length + n9 ≤ 140737488355328) := Lib.hid (by have := HN9.out; have := HB8.out; omega)
  have HY9 := Lib.hid hy9
  have HE9 := Lib.hid hn9
  clear hb8 hF8 hO8 hc9 hP9 q9 hy9 hn9
  go_wp2_with (at_builtin; refine push_row (w0 := w) w.heap.size rfl (.tmp 57) (.tmp 62) 22 y9 A9 n9 c9 rfl Tryz.underlying22 u8_info rfl rfl hO9 hR9 hb9 hb9.size HLN9.out ?_)
  intro v10 w10 hO10 hb10 hg10 _
  have hF10 := keepG hF9 hO9 hg10
  obtain ⟨a10, ha10⟩ : ∃ q, a8 ++ y9 = q := ⟨_, rfl⟩
  rw [ha10] at hO10
  have HB10 : Hid (a10.length ≤ 50) := Lib.hid (by rw [← ha10, List.length_append, HE9.out]; have := HN9.out; have := HB8.out; omega)
  have HA10 : Hid (a10 = a8 ++ sh f.di.toNat) := Lib.hid (by rw [← ha10, HY9.out])
  clear hF9 hO9 hb9 hR9 hg10 HLN9 ha10
  have q11 := hF10.c40
  go_wp2_with fail
  refine (rList_any (c := f.c) (HA.out.below hb10) 4096 (by omega) (HL.out.req (HKK.out)).2.2 (by have := (HL.out.req (HKK.out)).2.1; omega)).mono ?_
  rintro e w11 ⟨v11, rfl, hP11, hc11⟩
  have hF11 := hF10.below hc11
  have hO11 := hO10.below hc11
  have hb11 := below_step hb10 hc11
  obtain ⟨A11, c11, rfl, hR11, _⟩ := hP11.reads'
  obtain ⟨y11, hy11⟩ : ∃ q, lst f.args = q := ⟨_, rfl⟩
  rw [hy11] at hR11 ⊢
  obtain ⟨n11, hn11⟩ : ∃ q, y11.length = q := ⟨_, rfl⟩
  rw [hn11] at hR11 ⊢
  have HN11 : Hid (n11 ≤ 32858) := Lib.hid (by rw [← hn11, ← hy11]; exact lst_len f (HL.out.req (HKK.out)) HA.out.len)
  have HLN11 : Hid (a10.length + n11 ≤ 140737488355328) := Lib.hid (by have := HN11.out; have := HB10.out; omega)
  have HY11 := Lib.hid hy11
  have HE11 := Lib.hid hn11
  clear hb10 hF10 hO10 hc11 hP11 q11 hy11 hn11
  go_wp2_with (at_builtin; refine push_row (w0 := w) w.heap.size rfl (.tmp 64) (.tmp 67) 22 y11 A11 n11 c11 rfl Tryz.underlying22 u8_info rfl rfl hO11 hR11 hb11 hb11.size HLN11.out ?_)
  intro v12 w12 hO12 hb12 hg12 _
  have hF12 := keepG hF11 hO11 hg12
  obtain ⟨a12, ha12⟩ : ∃ q, a10 ++ y11 = q := ⟨_, rfl⟩
  rw [ha12] at hO12
  have HB12 : Hid (a12.length ≤ 32908) := Lib.hid (by rw [← ha12, List.length_append, HE11.out]; have := HN11.out; have := HB10.out; omega)
  have HA12 : Hid (a12 = a10 ++ lst f.args) := Lib.hid (by rw [← ha12, HY11.out])
  clear hF11 hO11 hb11 hR11 hg12 HLN11 ha12
  have q13 := hF12.c41
  go_wp2_with fail
  refine (rText_any f.body (by have := HL.out.body; omega)).mono ?_
  rintro e w13 ⟨v13, rfl, hP13, hc13⟩
  have hF13 := hF12.below hc13
  have hO13 := hO12.below hc13
  have hb13 := below_step hb12 hc13
  obtain ⟨A13, c13, rfl, hR13, _⟩ := hP13.reads'
  obtain ⟨y13, hy13⟩ : ∃ q, txt f.body = q := ⟨_, rfl⟩
  rw [hy13] at hR13 ⊢
  obtain ⟨n13, hn13⟩ : ∃ q, y13.length = q := ⟨_, rfl⟩
  rw [hn13] at hR13 ⊢
  have HN13 : Hid (n13 ≤ 2097162) := Lib.hid (by rw [← hn13, ← hy13]; exact Nat.le_trans (txt_length (by have := HL.out.body; omega)) (by have := HL.out.body; omega))
  have HLN13 : Hid (a12.length + n13 ≤ 140737488355328) := Lib.hid (by have := HN13.out; have := HB12.out; omega)
  have HY13 := Lib.hid hy13
  have HE13 := Lib.hid hn13
  clear hb12 hF12 hO12 hc13 hP13 q13 hy13 hn13
  go_wp2_with (at_builtin; refine push_row (w0 := w) w.heap.size rfl (.tmp 69) (.tmp 72) 22 y13 A13 n13 c13 rfl Tryz.underlying22 u8_info rfl rfl hO13 hR13 hb13 hb13.size HLN13.out ?_)
  intro v14 w14 hO14 hb14 hg14 _
  have hF14 := keepG hF13 hO13 hg14
  obtain ⟨a14, ha14⟩ : ∃ q, a12 ++ y13 = q := ⟨_, rfl⟩
  rw [ha14] at hO14
  have HB14 : Hid (a14.length ≤ 2130070) := Lib.hid (by rw [← ha14, List.length_append, HE13.out]; have := HN13.out; have := HB12.out; omega)
  have HA14 : Hid (a14 = a12 ++ txt f.body) := Lib.hid (by rw [← ha14, HY13.out])
  clear hF13 hO13 hb13 hR13 hg14 HLN13 ha14
  have HE : Hid (a14 = bodyF f) := Lib.hid (by rw [HA14.out, HA12.out, HA10.out, HA8.out, HA6.out, HA4.out, HA2.out]; unfold bodyF layF; rw [if_neg (by rw [HKK.out]; decide), if_pos HKK.out]; simp only [List.append_assoc])
  rw [HE.out] at hO14
  go_wp2_with fail
  go_ret
  exact ⟨_, rfl, hO14, hb14⟩
 have b2 : (f.k == 2) = false := by rw [beq_eq_false_iff_ne]; exact k2
 by_cases k3 : f.k = 3
 ·have b3 : (f.k == 3) = true := by rw [beq_iff_eq]; exact k3
  have HKK := Lib.hid k3
  clear k3
  have q3 := hF2.c1
  go_wp2_with fail
  refine (rUint_of f.id (HWF.out.id0) (HWF.out.id1) _).mono ?_
  rintro e w3 ⟨v3, rfl, hP3, hc3⟩
  have hF3 := hF2.below hc3
  have hO3 := hO2.below hc3
  have hb3 := below_step hb2 hc3
  obtain ⟨A3, c3, rfl, hR3, _⟩ := hP3.reads'
  obtain ⟨y3, hy3⟩ : ∃ q, sh f.id.toNat = q := ⟨_, rfl⟩
  rw [hy3] at hR3 ⊢
  obtain ⟨n3, hn3⟩ : ∃ q, y3.length = q := ⟨_, rfl⟩
  rw [hn3] at hR3 ⊢
  have HN3 : Hid (n3 ≤ 10) := Lib.hid (by rw [← hn3, ← hy3]; exact sh_ten (by have := HWF.out.id1; omega))
  have HLN3 : Hid (a2.length + n3 ≤ 140737488355328) := Lib.hid (by have := HN3.out; have := HB2.out; omega)
  have HY3 := Lib.hid hy3
  have HE3 := Lib.hid hn3
  clear hb2 hF2 hO2 hc3 hP3 q3 hy3 hn3
  go_wp2_with (at_builtin; refine push_row (w0 := w) w.heap.size rfl (.tmp 76) (.tmp 79) 22 y3 A3 n3 c3 rfl Tryz.underlying22 u8_info rfl rfl hO3 hR3 hb3 hb3.size HLN3.out ?_)
  intro v4 w4 hO4 hb4 hg4 _
  have hF4 := keepG hF3 hO3 hg4
  obtain ⟨a4, ha4⟩ : ∃ q, a2 ++ y3 = q := ⟨_, rfl⟩
  rw [ha4] at hO4
  have HB4 : Hid (a4.length ≤ 20) := Lib.hid (by rw [← ha4, List.length_append, HE3.out]; have := HN3.out; have := HB2.out; omega)
  have HA4 : Hid (a4 = a2 ++ sh f.id.toNat) := Lib.hid (by rw [← ha4, HY3.out])
  clear hF3 hO3 hb3 hR3 hg4 HLN3 ha4
  have q5 := hF4.c36
  have hwrst := u64_nn (x := f.st) (HL.out.resp (HKK.out)) HWF.out.st.2
  go_wp2_with fail
  refine (rUint_of f.st (HL.out.resp (HKK.out)) (by have := HWF.out.st.2; omega) _).mono ?_
  rintro e w5 ⟨v5, rfl, hP5, hc5⟩
  have hF5 := hF4.below hc5
  have hO5 := hO4.below hc5
  have hb5 := below_step hb4 hc5
  obtain ⟨A5, c5, rfl, hR5, _⟩ := hP5.reads'
  obtain ⟨y5, hy5⟩ : ∃ q, sh f.st.toNat = q := ⟨_, rfl⟩
  rw [hy5] at hR5 ⊢
  obtain ⟨n5, hn5⟩ : ∃ q, y5.length = q := ⟨_, rfl⟩
  rw [hn5] at hR5 ⊢
  have HN5 : Hid (n5 ≤ 10) := Lib.hid (by rw [← hn5, ← hy5]; exact sh_ten (by have := HWF.out.st.2; omega))
  have HLN5 : Hid (a4.length + n5 ≤ 140737488355328) := Lib.hid (by have := HN5.out; have := HB4.out; omega)
  have HY5 := Lib.hid hy5
  have HE5 := Lib.hid hn5
  clear hb4 hF4 hO4 hc5 hP5 q5 hy5 hn5
  go_wp2_with (at_builtin; refine push_row (w0 := w) w.heap.size rfl (.tmp 81) (.tmp 85) 22 y5 A5 n5 c5 rfl Tryz.underlying22 u8_info rfl rfl hO5 hR5 hb5 hb5.size HLN5.out ?_)
  intro v6 w6 hO6 hb6 hg6 _
  have hF6 := keepG hF5 hO5 hg6
  obtain ⟨a6, ha6⟩ : ∃ q, a4 ++ y5 = q := ⟨_, rfl⟩
  rw [ha6] at hO6
  have HB6 : Hid (a6.length ≤ 30) := Lib.hid (by rw [← ha6, List.length_append, HE5.out]; have := HN5.out; have := HB4.out; omega)
  have HA6 : Hid (a6 = a4 ++ sh f.st.toNat) := Lib.hid (by rw [← ha6, HY5.out])
  clear hF5 hO5 hb5 hR5 hg6 HLN5 ha6
  have q7 := hF6.c41
  go_wp2_with fail
  refine (rText_any f.body (by have := HL.out.body; omega)).mono ?_
  rintro e w7 ⟨v7, rfl, hP7, hc7⟩
  have hF7 := hF6.below hc7
  have hO7 := hO6.below hc7
  have hb7 := below_step hb6 hc7
  obtain ⟨A7, c7, rfl, hR7, _⟩ := hP7.reads'
  obtain ⟨y7, hy7⟩ : ∃ q, txt f.body = q := ⟨_, rfl⟩
  rw [hy7] at hR7 ⊢
  obtain ⟨n7, hn7⟩ : ∃ q, y7.length = q := ⟨_, rfl⟩
  rw [hn7] at hR7 ⊢
  have HN7 : Hid (n7 ≤ 2097162) := Lib.hid (by rw [← hn7, ← hy7]; exact Nat.le_trans (txt_length (by have := HL.out.body; omega)) (by have := HL.out.body; omega))
  have HLN7 : Hid (a6.length + n7 ≤ 140737488355328) := Lib.hid (by have := HN7.out; have := HB6.out; omega)
  have HY7 := Lib.hid hy7
  have HE7 := Lib.hid hn7
  clear hb6 hF6 hO6 hc7 hP7 q7 hy7 hn7
  go_wp2_with (at_builtin; refine push_row (w0 := w) w.heap.size rfl (.tmp 87) (.tmp 90) 22 y7 A7 n7 c7 rfl Tryz.underlying22 u8_info rfl rfl hO7 hR7 hb7 hb7.size HLN7.out ?_)
  intro v8 w8 hO8 hb8 hg8 _
  have hF8 := keepG hF7 hO7 hg8
  obtain ⟨a8, ha8⟩ : ∃ q, a6 ++ y7 = q := ⟨_, rfl⟩
  rw [ha8] at hO8
  have HB8 : Hid (a8.length ≤ 2097192) := Lib.hid (by rw [← ha8, List.length_append, HE7.out]; have := HN7.out; have := HB6.out; omega)
  have HA8 : Hid (a8 = a6 ++ txt f.body) := Lib.hid (by rw [← ha8, HY7.out])
  clear hF7 hO7 hb7 hR7 hg8 HLN7 ha8
  have HE : Hid (a8 = bodyF f) := Lib.hid (by rw [HA8.out, HA6.out, HA4.out, HA2.out]; unfold bodyF layF; rw [if_neg (by rw [HKK.out]; decide), if_neg (by rw [HKK.out]; decide), if_pos HKK.out]; simp only [List.append_assoc])
  rw [HE.out] at hO8
  go_wp2_with fail
  go_ret
  exact ⟨_, rfl, hO8, hb8⟩
 have b3 : (f.k == 3) = false := by rw [beq_eq_false_iff_ne]; exact k3
 by_cases k4 : f.k = 4
 ·have b4 : (f.k == 4) = true := by rw [beq_iff_eq]; exact k4
  have HKK := Lib.hid k4
  clear k4
  have q3 := hF2.c1
  go_wp2_with fail
  refine (rUint_of f.id (HWF.out.id0) (HWF.out.id1) _).mono ?_
  rintro e w3 ⟨v3, rfl, hP3, hc3⟩
  have hF3 := hF2.below hc3
  have hO3 := hO2.below hc3
  have hb3 := below_step hb2 hc3
  obtain ⟨A3, c3, rfl, hR3, _⟩ := hP3.reads'
  obtain ⟨y3, hy3⟩ : ∃ q, sh f.id.toNat = q := ⟨_, rfl⟩
  rw [hy3] at hR3 ⊢
  obtain ⟨n3, hn3⟩ : ∃ q, y3.length = q := ⟨_, rfl⟩
  rw [hn3] at hR3 ⊢
  have HN3 : Hid (n3 ≤ 10) := Lib.hid (by rw [← hn3, ← hy3]; exact sh_ten (by have := HWF.out.id1; omega))
  have HLN3 : Hid (a2.length + n3 ≤ 140737488355328) := Lib.hid (by have := HN3.out; have := HB2.out; omega)
  have HY3 := Lib.hid hy3
  have HE3 := Lib.hid hn3
  clear hb2 hF2 hO2 hc3 hP3 q3 hy3 hn3
  go_wp2_with (at_builtin; refine push_row (w0 := w) w.heap.size rfl (.tmp 94) (.tmp 97) 22 y3 A3 n3 c3 rfl Tryz.underlying22 u8_info rfl rfl hO3 hR3 hb3 hb3.size HLN3.out ?_)
  intro v4 w4 hO4 hb4 hg4 _
  have hF4 := keepG hF3 hO3 hg4
  obtain ⟨a4, ha4⟩ : ∃ q, a2 ++ y3 = q := ⟨_, rfl⟩
  rw [ha4] at hO4
  have HB4 : Hid (a4.length ≤ 20) := Lib.hid (by rw [← ha4, List.length_append, HE3.out]; have := HN3.out; have := HB2.out; omega)
  have HA4 : Hid (a4 = a2 ++ sh f.id.toNat) := Lib.hid (by rw [← ha4, HY3.out])
  clear hF3 hO3 hb3 hR3 hg4 HLN3 ha4
  have HE : Hid (a4 = bodyF f) := Lib.hid (by rw [HA4.out, HA2.out]; unfold bodyF layF; rw [if_neg (by rw [HKK.out]; decide), if_neg (by rw [HKK.out]; decide), if_neg (by rw [HKK.out]; decide), if_pos HKK.out])
  rw [HE.out] at hO4
  go_wp2_with fail
  go_ret
  exact ⟨_, rfl, hO4, hb4⟩
 have b4 : (f.k == 4) = false := by rw [beq_eq_false_iff_ne]; exact k4
 by_cases k6 : f.k = 6
 ·have b6 : (f.k == 6) = true := by rw [beq_iff_eq]; exact k6
  have HKK := Lib.hid k6
  clear k6
  have q3 := hF2.c41
  go_wp2_with fail
  refine (rText_any f.body (by have := HL.out.body; omega)).mono ?_
  rintro e w3 ⟨v3, rfl, hP3, hc3⟩
  have hF3 := hF2.below hc3
  have hO3 := hO2.below hc3
  have hb3 := below_step hb2 hc3
  obtain ⟨A3, c3, rfl, hR3, _⟩ := hP3.reads'
  obtain ⟨y3, hy3⟩ : ∃ q, txt f.body = q := ⟨_, rfl⟩
  rw [hy3] at hR3 ⊢
  obtain ⟨n3, hn3⟩ : ∃ q, y3.length = q := ⟨_, rfl⟩
  rw [hn3] at hR3 ⊢
  have HN3 : Hid (n3 ≤ 2097162) := Lib.hid (by rw [← hn3, ← hy3]; exact Nat.le_trans (txt_length (by have := HL.out.body; omega)) (by have := HL.out.body; omega))
  have HLN3 : Hid (a2.length + n3 ≤ 140737488355328) := Lib.hid (by have := HN3.out; have := HB2.out; omega)
  have HY3 := Lib.hid hy3
  have HE3 := Lib.hid hn3
  clear hb2 hF2 hO2 hc3 hP3 q3 hy3 hn3
  go_wp2_with (at_builtin; refine push_row (w0 := w) w.heap.size rfl (.tmp 101) (.tmp 104) 22 y3 A3 n3 c3 rfl Tryz.underlying22 u8_info rfl rfl hO3 hR3 hb3 hb3.size HLN3.out ?_)
  intro v4 w4 hO4 hb4 hg4 _
  have hF4 := keepG hF3 hO3 hg4
  obtain ⟨a4, ha4⟩ : ∃ q, a2 ++ y3 = q := ⟨_, rfl⟩
  rw [ha4] at hO4
  have HB4 : Hid (a4.length ≤ 2097172) := Lib.hid (by rw [← ha4, List.length_append, HE3.out]; have := HN3.out; have := HB2.out; omega)
  have HA4 : Hid (a4 = a2 ++ txt f.body) := Lib.hid (by rw [← ha4, HY3.out])
  clear hF3 hO3 hb3 hR3 hg4 HLN3 ha4
  have HE : Hid (a4 = bodyF f) := Lib.hid (by rw [HA4.out, HA2.out]; unfold bodyF layF; rw [if_neg (by rw [HKK.out]; decide), if_neg (by rw [HKK.out]; decide), if_neg (by rw [HKK.out]; decide), if_neg (by rw [HKK.out]; decide), if_pos HKK.out])
  rw [HE.out] at hO4
  go_wp2_with fail
  go_ret
  exact ⟨_, rfl, hO4, hb4⟩
 have b6 : (f.k == 6) = false := by rw [beq_eq_false_iff_ne]; exact k6
 have HE : Hid (a2 = bodyF f) := Lib.hid (by rw [HA2.out]; unfold bodyF layF; rw [if_neg k1, if_neg k2, if_neg k3, if_neg k4, if_neg k6, List.append_nil])
 rw [HE.out] at hO2
 clear k1 k2 k3 k4 k6
 go_wp2_with fail
 go_ret
 exact ⟨_, rfl, hO2, hb2⟩
end
end Go.Proofs.YtpjpgcjhdbiepaaGreat
end
