/- Contracts of functions that the law reaches (texts laid together, part 6): each says of its call what it answers and what it leaves of memory; the conditions stand in each statement. -/
import Derived.Test.YtpjpgcjhdbiepaaGreatMpStreamSplits5
import Derived.Test.YtpjpgcjhdbiepaaGreatWWords
import Derived.WalkKit
import Derived.Lib.Hide
import Derived.Laws.BitsAllLaws
import Derived.Deep.WholeRow
import Derived.Deep.CutBlock
import Derived.Deep.Cut
import Derived.Deep.LoopGhost
import Derived.Laws.CopyOwn
import Derived.Lib.SlBytesConst
import Derived.ChangeKeysEq
import Derived.Laws.StructEq
import Derived.Test.YtpjpgcjhdbiepaaGreatWMore
import Derived.Laws.Bits64b
import Derived.IntWalk
import Derived.Test.YtpjpgcjhdbiepaaGreatProg
import Derived.Test.YtpjpgcjhdbiepaaGreatWGuard
import Derived.Deep.MidRow
import Derived.Deep.RegionHeld3
import Derived.Deep.RegionLaw
import Derived.Deep.DeepMust
import Derived.Laws.Cover3
import Derived.Test.YtpjpgcjhdbiepaaGreatWEqStruct
import Derived.StillTailTactics
import Derived.Recover
import Derived.WalkLawsBesides
import Derived.Deep.RegionWith
import Derived.Laws.CopyRow
import Derived.Deep.QuietTactic
import Derived.BigQuiet
import Derived.RegionTactic
import Derived.BigRegion
import Derived.Great.BuildSlice
set_option linter.unusedVariables false
set_option linter.unusedSimpArgs false
set_option linter.unusedSectionVars false
set_option linter.unnecessarySimpa false
section
namespace Go.Proofs.YtpjpgcjhdbiepaaGreat
open Go.RowKit Go.Kit CrcM Go.Proofs.YtpjpgcjhdbiepaaGreatW.PrintWords
section
variable {w w2 : World} {d : Nat} {v v2 : Value} {want : Int} {s : Sm}
theorem Db.put (h : Db w d v want s) {s1 : Sm} {v1 : Value} {want1 : Int} (j : Nat) (x : Value) (he : (dV s want v).setIfInBounds j x = dV s1 want1 v1) (hr : OB 5 (w.setCell ⟨d, j, none⟩ x) 0 v1 s1.rest) : Db (w.setCell ⟨d, j, none⟩ x) d v1 want1 s1 :=
 ⟨by rw [heap_set_same w d j _ _ x h.blk, he], hr⟩
theorem Db.row_set (h : Db w d v want s) (j : Nat) (x : Value) : OB 5 (w.setCell ⟨d, j, none⟩ x) 0 v s.rest := h.row.only (Fr.only_at w d j x) (fun k hk e => h.apart (e ▸ hk))
theorem Db.more (h : Db w d v want s) (c : Int) (hO : OB 5 w2 0 v2 (s.rest ++ [c])) (hg : w.grownBy w2 v.ownBlock) (hat : v2.ownBlock = v.ownBlock ∨ ∃ b, v2.ownBlock = some b ∧ w.heap.size ≤ b) :
  w2.cell? ⟨d, 2, none⟩ = some v ∧ w2.frozen? ⟨d, 2, none⟩ = false ∧ (w2.setCell ⟨d, 2, none⟩ v2).cell? ⟨d, 3, none⟩ = some (.int .i64 (s.came : Int)) ∧ (w2.setCell ⟨d, 2, none⟩ v2).frozen? ⟨d, 3, none⟩ = false ∧
  Db ((w2.setCell ⟨d, 2, none⟩ v2).setCell ⟨d, 3, none⟩ (.int .i64 ((s.came : Int) + 1))) d v2 want (s.put c) ∧ Only w ((w2.setCell ⟨d, 2, none⟩ v2).setCell ⟨d, 3, none⟩ (.int .i64 ((s.came : Int) + 1))) (dfp d v) ∧ Onto w (dfp d v) (dfp d v2) := by
 have hb2 : w2.heap[d]? = some (.cells (dV s want v) 76 (0, 0)) := (hg.block d (lt_of_block h.blk) (fun e => h.apart e.symm)).trans h.blk
 have ho : Only w w2 (dfp d v) := (Only.refl w _).grown hg (fun k e => .inl (.inr e))
 have hnd : ¬ rf v2 d := own_not hO.own hb2 (by decide)
 have hO3 : OB 5 (w2.setCell ⟨d, 2, none⟩ v2) 0 v2 (s.rest ++ [c]) := hO.only (Fr.only_at w2 d 2 v2) (fun k hk e => hnd (e ▸ hk))
 have hb3 := heap_set_same w2 d 2 _ _ v2 hb2
 have h3 : Db (w2.setCell ⟨d, 2, none⟩ v2) d v2 want { s with rest := s.rest ++ [c] } := ⟨hb3, hO3⟩
 refine ⟨by rw [cell_of_row w2 d 2 _ _ _ hb2]; rfl, frozen_of_row w2 d 2 _ _ hb2, h3.c3, h3.fz 3, h3.put 3 _ rfl (h3.row_set 3 _), ?_, ?_⟩
 ·exact (ho.set d 2 v2 (.inl (.inl rfl))).set d 3 _ (.inl (.inl rfl))
 ·intro k hk
  rcases hk with rfl | hk
  ·exact .inl (.inl rfl)
  ·rcases hat with hat | ⟨b, hb, hle⟩
   ·exact .inl (.inr (hat.symm.trans hk))
   ·have : b = k := by have e := hb.symm.trans hk; injection e
    exact .inr (by omega)
end
theorem need_le {xs : List Int} (hb : Byt xs) {m k : Nat} {e : Int} (h : needF xs = (m, k, e)) : m ≤ 2097166 := by
 obtain ⟨p, q, x, hH⟩ : ∃ p q x, headF xs = (p, q, x) := ⟨_, _, _, rfl⟩
 have := headF_facts hb hH
 unfold needF at h
 rw [hH] at h
 dsimp only at h
 split at h
 ·cases h; omega
 ·cases h; omega
def TakePost (w : World) (d : Nat) (v : Value) (s : Sm) (c : Int) (e : Ending) (w' : World) : Prop :=
 ∃ (v' : Value) (want' : Int) (F : Fr) (ok : Bool), e = .returned (.tuple #[.agg F.arr, .bool ok]) ∧ Hid ((takeS s c).2 = if ok = true then [F.core] else []) ∧ Dc w' d v' want' (takeS s c).1 ∧ F.tool.length = 32 ∧ OwnA w' w.heap.size F ∧ Only w w' (dfp d v) ∧ Onto w (dfp d v) (dfp d v')
theorem take_ret {W : World} {g : Nat} {tmps : Array Value} {F : Fr} {b : Value} (hp : tmps.getD 4 undef = .pointer (some ⟨g, 0, none⟩)) (hF : F.at_ 48 W g) (hb : tmps.getD 5 undef = b) :
  (results Tryz.f43 tmps).run Tryz.prog W = .ok (.tuple #[.agg F.arr, b]) W :=
 results_cell_row_tmp (P := Tryz.prog) (fn := Tryz.f43) (p := 4) (u := 5) rfl tmps W g 48 F.arr (0, 0) _ hp hF.blk Tryz.underlying48 rfl (by rw [Fr.arr_size F hF.tool]; kernel_rfl) b hb
theorem take_none {w W : World} {d g : Nat} {v v' : Value} {want' : Int} {s t : Sm} {c : Int} (hs : s.ok) (hw0 : s.why = 0) (hc0 : 0 ≤ c) (hc1 : c < 256) (ht : takeS s c = (t, [])) (hd : Db W d v' want' t) (hw : t.why = 0 → want' = ((needS t.most t.rest).1 : Int)) (ho : Only w W (dfp d v)) (hon : Onto w (dfp d v) (dfp d v'))
  (hg : w.heap.size ≤ g) (hdg : ¬ d = g) (hvg : ¬ rf v' g) : TakePost w d v s c (.returned (.tuple #[.agg (kF 0).arr, .bool false])) (W.setRow g (kF 0).arr) := by
 have ho1 := Fr.only_row W g (kF 0).arr
 have h1 := take_ok hs hw0 hc0 hc1
 have h2 := take_rest hs hw0 c
 have h3 := take_most s c
 rw [ht] at h1 h2 h3
 dsimp only at h1 h2 h3
 refine ⟨v', want', kF 0, false, rfl, Lib.hid (by rw [ht]; rfl), ?_, rfl, OwnA.none _ _ ⟨rfl, rfl, rfl, rfl⟩, ho.then_ ho1 (fun k e => .inr (by omega)), hon⟩
 rw [ht]
 exact ⟨hd.only ho1 (fun k hk e => by
  subst e
  rcases hk with rfl | hk
  ·exact hdg rfl
  ·exact hvg hk), h1, hw, by rw [h3]; exact h2⟩
theorem take_one {w W : World} {d g : Nat} {v v' : Value} {want' : Int} {s t : Sm} {c : Int} {F : Fr} (hs : s.ok) (hw0 : s.why = 0) (hc0 : 0 ≤ c) (hc1 : c < 256) (ht : takeS s c = (t, [F.core])) (hd : Db W d v' want' t) (hw : t.why = 0 → want' = ((needS t.most t.rest).1 : Int)) (ho : Only w W (dfp d v)) (hon : Onto w (dfp d v) (dfp d v'))
  (hg : w.heap.size ≤ g) (hdg : ¬ d = g) (hvg : ¬ rf v' g) (hT : F.tool.length = 32) (hA : OwnA W w.heap.size F) (hZ : (kF 0).at_ 48 W g) : TakePost w d v s c (.returned (.tuple #[.agg F.arr, .bool true])) (W.setRow g F.arr) := by
 have ho1 := Fr.only_row W g F.arr
 have h1 := take_ok hs hw0 hc0 hc1
 have h2 := take_rest hs hw0 c
 have h3 := take_most s c
 rw [ht] at h1 h2 h3
 dsimp only at h1 h2 h3
 refine ⟨v', want', F, true, rfl, Lib.hid (by rw [ht]; rfl), ?_, hT, hA.typed ho1 (fun k e => by subst e; exact ⟨_, _, hZ.blk, by decide⟩), ho.then_ ho1 (fun k e => .inr (by omega)), hon⟩
 rw [ht]
 exact ⟨hd.only ho1 (fun k hk e => by
  subst e
  rcases hk with rfl | hk
  ·exact hdg rfl
  ·exact hvg hk), h1, hw, by rw [h3]; exact h2⟩
theorem load_at' {W : World} {g : Nat} {a b : Int} (h : W.heap[g]? = some (.cells (fv a b) 28 (0, 0))) : (Instr.loadAt 3 (.pointer (some ⟨g, 1, none⟩))).run Tryz.prog W = .ok (.int .i64 b) W := load_cell_int (by rw [cell_of_row W g 1 _ _ _ h]; rfl)
attribute [-go_sem] Instr.loadAt Instr.storeAt Instr.build
section
variable {w : World} {d : Nat} {v : Value} {want : Int} {s : Sm}
set_option maxHeartbeats 16000000 in
set_option maxRecDepth 100000 in
theorem take_any (h : Dc w d v want s) (hw : s.why = 0) (c : Int) (hc0 : 0 ≤ c) (hc1 : c < 256) (hcm : s.came ≤ 576460752303423488) (hwh : s.whole ≤ 576460752303423488) :
  Calls Tryz.prog 43 #[.pointer (some ⟨d, 0, none⟩), .int .u8 c] w (TakePost w d v s c) := by
 obtain ⟨w1, s0, hZ1, hb1⟩ := frame_new w
 have HB1 := Lib.hid hb1
 have HZ1 := Lib.hid hZ1
 have h1 := h.toDb.below hb1
 have HOK := Lib.hid h.ok
 have HWN := Lib.hid (h.wnt hw)
 have HMN := Lib.hid h.many
 have HW := Lib.hid hw
 have hlen : s.rest.length ≤ 2097166 := by have := h.many; have := h.ok.two; omega
 have HTO := Lib.hid (take_ok h.ok hw hc0 hc1)
 have HTR := Lib.hid (take_rest h.ok hw c)
 have hmo : s.most ≤ 2097152 := h.ok.two
 have HOLD := Lib.hid h.toDb.old
 clear h hw hb1 hZ1
 go_enter Tryz.func43, Tryz.ntmps43
 go_upto_region 1 with (fail)
 clear s0
 obtain ⟨gr, hgr⟩ : ∃ gr, w.heap.size = gr := ⟨_, rfl⟩
 have hZ1 := HZ1.out
 rw [hgr] at hZ1 ⊢
 have HGR := Lib.hid hgr
 clear hgr HZ1
 have e2 := load_bytes_cell h1.c2
 go_wp2_with (at_builtin; refine push_byte (w0 := w1) 0 rfl (.tmp 14) (.tmp 16) 22 c rfl Tryz.underlying22 u8_info rfl rfl h1.row (Below.refl 0 w1) (Nat.zero_le _) (by omega) hc0 hc1 ?_)
 intro v2 w2 hO2 _ hg2 hat2
 obtain ⟨q0, q1, q2, q3, h4, ho4, hon4⟩ := h1.more c hO2 hg2 hat2
 obtain ⟨A2, c2, rfl, _, _⟩ := hO2.reads'
 obtain ⟨n2, hn2⟩ : ∃ n2, (s.rest ++ [c]).length = n2 := ⟨_, rfl⟩
 have HN2' := Lib.hid hn2
 have hn2l : n2 ≤ 2097167 := by rw [← hn2, List.length_append, List.length_singleton]; omega
 rw [hn2] at q2 q3 h4 ho4 hon4
 rw [hn2]
 clear hn2
 have p2 := put_bytes_cell A2 n2 c2 w2 ⟨d, 2, none⟩ _ q0 q1
 have l3 := load_cell_int q2
 have p3 := put_cell_int ((s.came : Int) + 1) _ ⟨d, 3, none⟩ _ q2 q3
 have HZ4 : Hid ((kF 0).at_ 48 ((w2.setCell ⟨d, 2, none⟩ (.slice A2 n2 c2)).setCell ⟨d, 3, none⟩ (.int .i64 ((s.came : Int) + 1))) gr) := Lib.hid (hZ1.only ho4 (fun e => by
  obtain ⟨cs, t, hc, ht, _⟩ := h1.typed gr e
  rw [hZ1.blk] at hc
  injection hc with hc
  injection hc with _ hc
  exact ht hc.symm))
 have HO4 : Hid (Only w ((w2.setCell ⟨d, 2, none⟩ (.slice A2 n2 c2)).setCell ⟨d, 3, none⟩ (.int .i64 ((s.came : Int) + 1))) (dfp d v)) := Lib.hid ((Only.of_below HB1.out _).same ho4)
 have HON : Hid (Onto w (dfp d v) (dfp d (.slice A2 n2 c2))) := Lib.hid ((Onto.refl w _).trans hon4 HB1.out.size)
 have HDB := Lib.hid h4
 clear e2 q0 q1 q2 q3 h4 ho4 hon4 hO2 hg2 hat2 h1 hZ1 HB1
 go_upto_region 3 with (fail)
 clear p2 p3 l3
 generalize (w2.setCell ⟨d, 2, none⟩ (.slice A2 n2 c2)).setCell ⟨d, 3, none⟩ (.int .i64 ((s.came : Int) + 1)) = w4 at *
 obtain ⟨xs, hxs⟩ : ∃ xs, s.rest ++ [c] = xs := ⟨_, rfl⟩
 have HXS := Lib.hid hxs
 have HN2 : Hid (xs.length = n2) := Lib.hid (by rw [← hxs]; exact HN2'.out)
 have h4 := HDB.out
 have hZ4 := HZ4.out
 have hdg : ¬ d = gr := fun e => by have := HOLD.out d (.inl rfl); have := HGR.out; omega
 have HDG := Lib.hid hdg
 have hvg : ¬ rf (.slice A2 n2 c2) gr := own_not h4.row.own hZ4.blk (by decide)
 have HVG := Lib.hid hvg
 have HR4 : Hid (RB w4 A2 n2 xs ∧ n2 ≤ c2) := Lib.hid (by
  obtain ⟨A', c', hv, hr, hcc⟩ := h4.row.reads'
  injection hv with e1 e2 e3
  have e4 : (s.put c).rest = xs := hxs
  rw [e4, HN2.out] at hr hcc
  rw [e1, e3]
  exact ⟨hr, hcc⟩)
 clear hxs HDB HZ4 hdg hvg hlen
 have e1 := load_cell_int h4.c1
 have hzf := zero_frame
 obtain ⟨n0, k0, e0, hN⟩ : ∃ n0 k0 e0, needF xs = (n0, k0, e0) := ⟨_, _, _, rfl⟩
 have HNF := Lib.hid hN
 have HSP : Hid (needS s.most xs = if e0 ≠ 0 then (0, e0) else if 0 < n0 ∧ (s.most : Int) < (n0 : Int) - 4 - (headsN xs : Int) then (0, 3) else (n0, 0)) := Lib.hid (needS_prog s.most xs hN)
 have HTK : Hid (takeS s c = if (needS s.most xs).2 ≠ 0 then ((s.put c).bad (needS s.most xs).2 0, []) else if (needS s.most xs).1 = 0 ∨ n2 < (needS s.most xs).1 then (s.put c, []) else if (decF xs).2.1 ≠ 0 then ((s.put c).bad (decF xs).2.1 (decF xs).2.2, []) else ((s.put c).done, [(decF xs).1])) := Lib.hid (by rw [← HN2.out, ← HXS.out]; rfl)
 clear hN
 by_cases hwz : want = 0
 ·have bz : (want == 0) = true := by rw [hwz]; rfl
  have e2 := load_bytes_cell h4.c2
  clear hwz
  go_wp2_with fail
  refine (Need_any A2 n2 c2 xs w4 HR4.out.1 HR4.out.2).mono ?_
  rintro e w5 ⟨m', k', x', rfl, HM', hb5⟩
  obtain ⟨rfl, rfl⟩ : m' = n0 ∧ x' = e0 := by
   have h := HM'.out.symm.trans HNF.out
   cases h; exact ⟨rfl, rfl⟩
  have h5 := h4.below hb5
  have hZ5 := hZ4.below hb5
  have HO5 : Hid (Only w w5 (dfp d v)) := Lib.hid (HO4.out.below hb5)
  have HR5 : Hid (RB w5 A2 n2 xs) := Lib.hid (HR4.out.1.below hb5)
  clear HM' e1 e2 h4 hZ4 hb5
  by_cases he : x' = 0
  ·subst he
   by_cases hm0 : m' = 0
   ·subst hm0
    have HS0 : Hid (needS s.most xs = (0, 0)) := Lib.hid (by rw [HSP.out, if_neg (by simp), if_neg (by omega)])
    have HT : Hid (takeS s c = (s.put c, [])) := Lib.hid (by rw [HTK.out, HS0.out, if_neg (by simp), if_pos (.inl rfl)])
    have HWN2 : Hid (s.why = 0 → (0 : Int) = ((needS s.most (s.rest ++ [c])).1 : Int)) := Lib.hid (fun _ => by rw [HXS.out, HS0.out]; rfl)
    have k1 : IntKind.i64.wrap (0 - 4) = -4 := by decide
    have e2 := fun j => load_bytes_cell (W := w5.drewN j) h5.c2
    go_wp2_with fail
    go_quiet (fail)
    have hdr := pw_below_drewN (Below.refl w5.heap.size w5) nq
    generalize w5.drewN nq = w6 at *
    have h6 := h5.below hdr
    have hZ6 := hZ5.below hdr
    have HO6 : Hid (Only w w6 (dfp d v)) := Lib.hid (HO5.out.below hdr)
    clear hdr h5 hZ5 e2 k1
    have p1 := put_cell_int 0 _ ⟨d, 1, none⟩ _ h6.c1 (h6.fz 1)
    have h7 : Db (w6.setCell ⟨d, 1, none⟩ (.int .i64 0)) d (.slice A2 n2 c2) 0 (s.put c) := h6.put 1 _ rfl (h6.row_set 1 _)
    have ho7 := Fr.only_at w6 d 1 (.int .i64 0)
    have HO7 : Hid (Only w (w6.setCell ⟨d, 1, none⟩ (.int .i64 0)) (dfp d v)) := Lib.hid (HO6.out.set d 1 _ (.inl (.inl rfl)))
    have hZ7 := hZ6.only ho7 (fun e => HDG.out e.symm)
    clear h6 hZ6 ho7
    go_upto_region 11 with (fail)
    clear p1
    generalize w6.setCell ⟨d, 1, none⟩ (.int .i64 0) = w7 at *

    have e1 := fun j => load_cell_int (W := w7.drewN j) h7.c1
    have e2 := fun j => load_bytes_cell (W := w7.drewN j) h7.c2
    go_wp2_with fail
    go_quiet (fail)
    have hdr := pw_below_drewN (Below.refl w7.heap.size w7) nq
    generalize w7.drewN nq = wt5 at *
    have hdt := h7.below hdr
    have hZt := hZ7.below hdr
    have HOt : Hid (Only w wt5 (dfp d v)) := Lib.hid (HO7.out.below hdr)
    clear hdr h7 hZ7 e1 e2

    have hZe := put_at (kF 0) rfl hZt
    have eP := put_frame (kF 0) rfl hZt
    have HP : Hid (TakePost w d v s c (.returned (.tuple #[.agg (kF 0).arr, .bool false])) (wt5.setRow gr (kF 0).arr)) := Lib.hid (take_none HOK.out HW.out hc0 hc1 HT.out hdt HWN2.out HOt.out HON.out (by have := HGR.out; omega) HDG.out HVG.out)
    clear hdt hZt HOt
    go_wp2_with fail
    exact bodyPost_ret (take_ret rfl hZe rfl) rfl HP.out
   ·by_cases hlg : (s.most : Int) < (m' : Int) - 4 - (headsN xs : Int)
    ·have HS3 : Hid (needS s.most xs = (0, 3)) := Lib.hid (by rw [HSP.out, if_neg (by simp), if_pos ⟨by omega, hlg⟩])
     have HT : Hid (takeS s c = ((s.put c).bad 3 0, [])) := Lib.hid (by rw [HTK.out, HS3.out, if_pos (by show ¬ (3 : Int) = 0; decide)])
     have hb8 : Hid (1 ≤ headsN xs ∧ headsN xs ≤ n2 + 1) := Lib.hid ⟨by unfold headsN; omega, by have := heads_le xs; have := HN2.out; omega⟩
     have hm14 : Hid (m' ≤ 2097166) := Lib.hid (need_le HR5.out.byt HNF.out)
     obtain ⟨hh, hhe⟩ : ∃ hh, headsN xs = hh := ⟨_, rfl⟩
     rw [hhe] at hb8 hlg
     have k1 : IntKind.i64.wrap ((m' : Int) - 4) = (m' : Int) - 4 := by have := hm14.out; rw [IntKind.wrap_i64]; omega
     have k2 : IntKind.i64.wrap ((m' : Int) - 4 - (hh : Int)) = (m' : Int) - 4 - (hh : Int) := by have := hm14.out; have := hb8.out; rw [IntKind.wrap_i64]; omega
     have k3 : decide ((0 : Int) < (m' : Int)) = true := by simp; omega
     have k4 : decide (0 < m') = true := by simp; omega
     have cH : ∀ j, Calls Tryz.prog 54 #[.slice A2 n2 c2] (w5.drewN j) fun e w' => e = .returned (.int .i64 (hh : Int)) ∧ w' = w5.drewN j := fun j => by rw [← hhe]; exact dhead_any A2 n2 c2 xs _ (HR5.out.drewN j) (by omega)
     have e0 : ∀ j, (Instr.loadAt 3 (.pointer (some ⟨d, 0, none⟩))).run Tryz.prog (w5.drewN j) = .ok (.int .i64 (s.most : Int)) (w5.drewN j) := fun j => load_cell_int h5.c0
     have e2 := fun j => load_bytes_cell (W := w5.drewN j) h5.c2
     have HHE := Lib.hid hhe
     clear hhe
     go_wp2_with fail
     go_quiet ((go_at_call 54; exact (cH _).mono fun e w' ⟨he, hw⟩ => ⟨he, _, hw⟩))
     have hdr := pw_below_drewN (Below.refl w5.heap.size w5) nq
     generalize w5.drewN nq = w6 at *
     have h6 := h5.below hdr
     have hZ6 := hZ5.below hdr
     have HO6 : Hid (Only w w6 (dfp d v)) := Lib.hid (HO5.out.below hdr)
     clear hdr h5 hZ5 e0 e2 k1 k2 k3 k4 cH
     go_wp2_with fail
     refine (spoil_any h6 (by have := HOK.out.len; show (s.rest ++ [c]).length ≤ s.came + 1; rw [List.length_append, List.length_singleton]; omega) (by show s.came + 1 ≤ _; omega) 3 0 (by omega) (by omega)).mono ?_
     rintro e ws ⟨rfl, hds, hos⟩
     have hZs := hZ6.only hos (fun e => HDG.out e.symm)
     have HOS : Hid (Only w ws (dfp d v)) := Lib.hid (HO6.out.same (hos.mono (fun k e => .inl e)))
     have hZe := put_at (kF 0) rfl hZs
     have eP := put_frame (kF 0) rfl hZs
     have HP : Hid (TakePost w d v s c (.returned (.tuple #[.agg (kF 0).arr, .bool false])) (ws.setRow gr (kF 0).arr)) := Lib.hid (take_none HOK.out HW.out hc0 hc1 HT.out hds (fun e => absurd e (by show ¬ (3 : Int) = 0; decide)) HOS.out HON.out (by have := HGR.out; omega) HDG.out HVG.out)
     clear hds hos h6 hZ6
     go_wp2_with fail
     exact bodyPost_ret (take_ret rfl hZe rfl) rfl HP.out
    ·have HS0 : Hid (needS s.most xs = (m', 0)) := Lib.hid (by rw [HSP.out, if_neg (by simp), if_neg (fun e => hlg e.2)])
     have hb8 : Hid (1 ≤ headsN xs ∧ headsN xs ≤ n2 + 1) := Lib.hid ⟨by unfold headsN; omega, by have := heads_le xs; have := HN2.out; omega⟩
     have hm14 : Hid (m' ≤ 2097166) := Lib.hid (need_le HR5.out.byt HNF.out)
     obtain ⟨hh, hhe⟩ : ∃ hh, headsN xs = hh := ⟨_, rfl⟩
     rw [hhe] at hb8 hlg
     have k1 : IntKind.i64.wrap ((m' : Int) - 4) = (m' : Int) - 4 := by have := hm14.out; rw [IntKind.wrap_i64]; omega
     have k2 : IntKind.i64.wrap ((m' : Int) - 4 - (hh : Int)) = (m' : Int) - 4 - (hh : Int) := by have := hm14.out; have := hb8.out; rw [IntKind.wrap_i64]; omega
     have k3 : decide ((0 : Int) < (m' : Int)) = true := by simp; omega
     have k4 : decide (0 < m') = true := by simp; omega
     have cH : ∀ j, Calls Tryz.prog 54 #[.slice A2 n2 c2] (w5.drewN j) fun e w' => e = .returned (.int .i64 (hh : Int)) ∧ w' = w5.drewN j := fun j => by rw [← hhe]; exact dhead_any A2 n2 c2 xs _ (HR5.out.drewN j) (by omega)
     have e0 : ∀ j, (Instr.loadAt 3 (.pointer (some ⟨d, 0, none⟩))).run Tryz.prog (w5.drewN j) = .ok (.int .i64 (s.most : Int)) (w5.drewN j) := fun j => load_cell_int h5.c0
     have e2 := fun j => load_bytes_cell (W := w5.drewN j) h5.c2
     have HHE := Lib.hid hhe
     clear hhe
     go_wp2_with fail
     go_quiet ((go_at_call 54; exact (cH _).mono fun e w' ⟨he, hw⟩ => ⟨he, _, hw⟩))
     have hdr := pw_below_drewN (Below.refl w5.heap.size w5) nq
     generalize w5.drewN nq = w6 at *
     have h6 := h5.below hdr
     have hZ6 := hZ5.below hdr
     have HO6 : Hid (Only w w6 (dfp d v)) := Lib.hid (HO5.out.below hdr)
     clear hdr h5 hZ5 e0 e2 k1 k2 k3 k4 cH
     have p1 := put_cell_int (m' : Int) _ ⟨d, 1, none⟩ _ h6.c1 (h6.fz 1)
     have h7 : Db (w6.setCell ⟨d, 1, none⟩ (.int .i64 (m' : Int))) d (.slice A2 n2 c2) (m' : Int) (s.put c) := h6.put 1 _ rfl (h6.row_set 1 _)
     have ho7 := Fr.only_at w6 d 1 (.int .i64 (m' : Int))
     have HO7 : Hid (Only w (w6.setCell ⟨d, 1, none⟩ (.int .i64 (m' : Int))) (dfp d v)) := Lib.hid (HO6.out.set d 1 _ (.inl (.inl rfl)))
     have hZ7 := hZ6.only ho7 (fun e => HDG.out e.symm)
     clear h6 hZ6 ho7
     go_upto_region 11 with (fail)
     clear p1
     generalize w6.setCell ⟨d, 1, none⟩ (.int .i64 (m' : Int)) = w7 at *
     clear hlg
     obtain ⟨wt, hwt⟩ : ∃ wt : Int, wt = (m' : Int) := ⟨_, rfl⟩
     have bz : (wt == 0) = false := by rw [beq_eq_false_iff_ne]; omega
     have HWT : Hid (wt = ((needS s.most xs).1 : Int) ∧ needS s.most xs = ((needS s.most xs).1, 0) ∧ (needS s.most xs).1 ≠ 0) := Lib.hid (by rw [HS0.out]; exact ⟨hwt, rfl, hm0⟩)
     rw [← hwt] at h7 ⊢
     clear hwt hm0
     have HR7 : Hid (RB w7 A2 n2 xs) := Lib.hid (by
      obtain ⟨A', c', hv, hr, _⟩ := h7.row.reads'
      injection hv with e1 e2 e3
      have e4 : (s.put c).rest = xs := HXS.out
      rw [e4, HN2.out] at hr
      rw [e1]
      exact hr)
     by_cases hlt : (n2 : Int) < wt
     ·have HT : Hid (takeS s c = (s.put c, [])) := Lib.hid (by rw [HTK.out, HWT.out.2.1, if_neg (by simp), if_pos (.inr (by have := HWT.out.1; omega))])
      have HWN2 : Hid (s.why = 0 → wt = ((needS s.most (s.rest ++ [c])).1 : Int)) := Lib.hid (fun _ => by rw [HXS.out, HWT.out.2.1]; exact HWT.out.1)
      have e1 := fun j => load_cell_int (W := w7.drewN j) h7.c1
      have e2 := fun j => load_bytes_cell (W := w7.drewN j) h7.c2
      go_wp2_with fail
      go_quiet (fail)
      have hdr := pw_below_drewN (Below.refl w7.heap.size w7) nq
      generalize w7.drewN nq = wt5 at *
      have hdt := h7.below hdr
      have hZt := hZ7.below hdr
      have HOt : Hid (Only w wt5 (dfp d v)) := Lib.hid (HO7.out.below hdr)
      clear hdr h7 hZ7 e1 e2 hlt
      have hZe := put_at (kF 0) rfl hZt
      have eP := put_frame (kF 0) rfl hZt
      have HP : Hid (TakePost w d v s c (.returned (.tuple #[.agg (kF 0).arr, .bool false])) (wt5.setRow gr (kF 0).arr)) := Lib.hid (take_none HOK.out HW.out hc0 hc1 HT.out hdt HWN2.out HOt.out HON.out (by have := HGR.out; omega) HDG.out HVG.out)
      clear hdt hZt HOt
      go_wp2_with fail
      exact bodyPost_ret (take_ret rfl hZe rfl) rfl HP.out
     ·have HT1 : Hid (takeS s c = if (decF xs).2.1 ≠ 0 then ((s.put c).bad (decF xs).2.1 (decF xs).2.2, []) else ((s.put c).done, [(decF xs).1])) := Lib.hid (by rw [HTK.out, HWT.out.2.1, if_neg (by simp), if_neg (by have := HWT.out.1; have := HWT.out.2.2; omega)])
      have e1 := fun j => load_cell_int (W := w7.drewN j) h7.c1
      have e2 := fun j => load_bytes_cell (W := w7.drewN j) h7.c2
      go_wp2_with fail
      go_quiet (fail)
      have hdr := pw_below_drewN (Below.refl w7.heap.size w7) nq
      generalize w7.drewN nq = wt5 at *
      have hdt := h7.below hdr
      have hZt := hZ7.below hdr
      have HOt : Hid (Only w wt5 (dfp d v)) := Lib.hid (HO7.out.below hdr)
      have HRt : Hid (RB wt5 A2 n2 xs) := Lib.hid (HR7.out.below hdr)
      clear hdr h7 hZ7 e1 e2
      have e2 := load_bytes_cell hdt.c2
      go_wp2_with fail
      refine (Decode_any HRt.out HR4.out.2).mono ?_
      rintro e w7 ⟨F, x7, y7, rfl, HD, hok, hown, hb7⟩
      obtain ⟨w8, w9, wa, s0, s1, s2, hF, hX, hbb⟩ := two_put w7 F hok.tool x7 y7
      have HF := Lib.hid hF
      have HX := Lib.hid hX
      have HBA := Lib.hid (below_step hb7 hbb)
      have HOW : Hid (OwnA wa w.heap.size F) := Lib.hid ((hown.below hbb).less (HOt.out.size))
      have HTOOL := Lib.hid hok.tool
      have HLF : Hid (wt5.heap.size ≤ w7.heap.size) := Lib.hid hb7.size
      clear hF hX hbb hok hown hb7 e2 hlt
      go_upto_region 14 with (fail)
      clear s0 s1 s2
      have hda := hdt.below HBA.out
      have hZa := hZt.below HBA.out
      have HOa : Hid (Only w wa (dfp d v)) := Lib.hid (HOt.out.below HBA.out)
      have hFa := HF.out
      have hXa := HX.out
      obtain ⟨gf, hgf⟩ : ∃ gf, w7.heap.size = gf := ⟨_, rfl⟩
      obtain ⟨gx, hgx⟩ : ∃ gx, w7.heap.size + 1 = gx := ⟨_, rfl⟩
      have HGX : Hid (¬ d = gf ∧ ¬ d = gx ∧ ¬ gr = gf ∧ w.heap.size ≤ gf) := Lib.hid (by
       have h1 := HLF.out; have h2 := HOLD.out d (.inl rfl); have h3 := HOt.out.size; have h4 := hZt.lt
       refine ⟨?_, ?_, ?_, ?_⟩ <;> omega)
      have HVF : Hid (¬ rf (.slice A2 n2 c2) gf) := Lib.hid (own_not hda.row.own (by rw [← hgf]; exact hFa.blk) (by decide))
      rw [hgx] at hXa
      rw [hgf] at hFa
      rw [hgx, hgf]
      clear hgf hgx HF HX HLF hZt hdt HRt HOt
      have eX := get_fault hXa
      have hb0 := build_fault0
      have HXY := HD.out.1
      by_cases hx7 : x7 = 0
      ·obtain rfl : y7 = 0 := by
        have h := dec_zero2 (xs := xs)
        rw [HXY] at h
        exact h hx7
       subst hx7
       have hne := neq_fault 0 0 true rfl
       have HT : Hid (takeS s c = ((s.put c).done, [F.core])) := Lib.hid (by rw [HT1.out, HXY, if_neg (by simp), HD.out.2])
       clear HXY
       have hds1 : Db (wa.setCell ⟨d, 2, none⟩ (.slice none 0 0)) d (.slice none 0 0) wt { s.put c with rest := [] } := hda.put 2 _ rfl (OB.nil _ _ _)
       have ho1 := Fr.only_at wa d 2 (.slice none 0 0)
       have hds2 : Db ((wa.setCell ⟨d, 2, none⟩ (.slice none 0 0)).setCell ⟨d, 1, none⟩ (.int .i64 0)) d (.slice none 0 0) 0 { s.put c with rest := [] } := hds1.put 1 _ rfl (hds1.row_set 1 _)
       have ho2 := Fr.only_at (wa.setCell ⟨d, 2, none⟩ (.slice none 0 0)) d 1 (.int .i64 0)
       have hds3 : Db (((wa.setCell ⟨d, 2, none⟩ (.slice none 0 0)).setCell ⟨d, 1, none⟩ (.int .i64 0)).setCell ⟨d, 4, none⟩ (.int .i64 ((s.whole : Int) + 1))) d (.slice none 0 0) 0 ((s.put c).done) := hds2.put 4 _ rfl (hds2.row_set 4 _)
       have ho3 := Fr.only_at ((wa.setCell ⟨d, 2, none⟩ (.slice none 0 0)).setCell ⟨d, 1, none⟩ (.int .i64 0)) d 4 (.int .i64 ((s.whole : Int) + 1))
       have p1 := put_bytes_cell none 0 0 wa ⟨d, 2, none⟩ _ hda.c2 (hda.fz 2)
       have p2 := put_cell_int 0 _ ⟨d, 1, none⟩ _ hds1.c1 (hds1.fz 1)
       have l4 : (Instr.loadAt 3 (.pointer (some ⟨d, 4, none⟩))).run Tryz.prog ((wa.setCell ⟨d, 2, none⟩ (.slice none 0 0)).setCell ⟨d, 1, none⟩ (.int .i64 0)) = .ok (.int .i64 (s.whole : Int)) ((wa.setCell ⟨d, 2, none⟩ (.slice none 0 0)).setCell ⟨d, 1, none⟩ (.int .i64 0)) := load_cell_int hds2.c4
       have p4 := put_cell_int ((s.whole : Int) + 1) _ ⟨d, 4, none⟩ _ hds2.c4 (hds2.fz 4)
       have HOd := Lib.hid ((ho1.same ho2).same ho3)
       have hkw : IntKind.i64.wrap ((s.whole : Int) + 1) = (s.whole : Int) + 1 := by rw [IntKind.wrap_i64]; omega
       have HW3 : Hid (OwnA (((wa.setCell ⟨d, 2, none⟩ (.slice none 0 0)).setCell ⟨d, 1, none⟩ (.int .i64 0)).setCell ⟨d, 4, none⟩ (.int .i64 ((s.whole : Int) + 1))) w.heap.size F) := Lib.hid (HOW.out.typed HOd.out (fun k e => by subst e; exact ⟨_, _, hda.blk, by decide⟩))
       have HO3 : Hid (Only w (((wa.setCell ⟨d, 2, none⟩ (.slice none 0 0)).setCell ⟨d, 1, none⟩ (.int .i64 0)).setCell ⟨d, 4, none⟩ (.int .i64 ((s.whole : Int) + 1))) (dfp d v)) := Lib.hid (HOa.out.same (HOd.out.mono (fun k e => .inl e)))
       have hZd := hZa.only HOd.out (fun e => HDG.out e.symm)
       have hFd := hFa.only HOd.out (fun e => HGX.out.1 e.symm)
       have HDS := Lib.hid hds3
       clear hds1 hds2 hds3 ho1 ho2 ho3 hda hZa hFa HOd
       go_upto_region 19 with (fail)
       clear p1 p2 l4 p4 hkw eX hne hb0
       generalize ((wa.setCell ⟨d, 2, none⟩ (.slice none 0 0)).setCell ⟨d, 1, none⟩ (.int .i64 0)).setCell ⟨d, 4, none⟩ (.int .i64 ((s.whole : Int) + 1)) = wd at *
       have l8 := get_frame hFd
       have s4 := put_frame F HTOOL.out hZd
       have hZe := put_at F HTOOL.out hZd
       have HP : Hid (TakePost w d v s c (.returned (.tuple #[.agg F.arr, .bool true])) (wd.setRow gr F.arr)) := Lib.hid (take_one HOK.out HW.out hc0 hc1 HT.out HDS.out (fun _ => rfl) HO3.out (fun k hk => .inl (hk.elim .inl (fun e => by cases e))) (by have := HGR.out; omega) HDG.out (fun e => by cases e) HTOOL.out HW3.out hZd)
       clear hFd hZd HDS
       go_wp2_with fail
       exact bodyPost_ret (v := .tuple #[.agg F.arr, .bool true]) (take_ret rfl hZe rfl) rfl HP.out
      ·have hne := neq_fault x7 y7 false (by simp [hx7])
       have HT : Hid (takeS s c = ((s.put c).bad x7 y7, [])) := Lib.hid (by rw [HT1.out, HXY]; exact if_pos hx7)
       have HYB : Hid (0 ≤ y7 ∧ y7 ≤ n2) := Lib.hid (by
        have h := dec_at (xs := xs) HR4.out.1.byt
        rw [HXY, HN2.out] at h
        exact h)
       have eW := load_why hXa
       have eY := load_at' hXa
       have HE := Lib.hid hx7
       clear hx7 HXY
       go_wp2_with fail
       refine (spoil_any hda (by have := HOK.out.len; show (s.rest ++ [c]).length ≤ s.came + 1; rw [List.length_append, List.length_singleton]; omega) (by show s.came + 1 ≤ _; omega) x7 y7 HYB.out.1 (by have := HYB.out.2; omega)).mono ?_
       rintro e ws ⟨rfl, hds, hos⟩
       have hZs := hZa.only hos (fun e => HDG.out e.symm)
       have HOS : Hid (Only w ws (dfp d v)) := Lib.hid (HOa.out.same (hos.mono (fun k e => .inl e)))
       have hZe := put_at (kF 0) rfl hZs
       have eP := put_frame (kF 0) rfl hZs
       have HP : Hid (TakePost w d v s c (.returned (.tuple #[.agg (kF 0).arr, .bool false])) (ws.setRow gr (kF 0).arr)) := Lib.hid (take_none HOK.out HW.out hc0 hc1 HT.out hds (fun e => absurd e HE.out) HOS.out HON.out (by have := HGR.out; omega) HDG.out HVG.out)
       clear hds hos hda hZa
       go_wp2_with fail
       exact bodyPost_ret (take_ret rfl hZe rfl) rfl HP.out
  ·have be : (x' == 0) = false := by rw [beq_eq_false_iff_ne]; exact he
   have bn : (x' != 0) = true := by simpa using he
   have HT : Hid (takeS s c = ((s.put c).bad x' 0, [])) := Lib.hid (by rw [HTK.out, HSP.out, if_pos he, if_pos he])
   have HE := Lib.hid he
   clear he
   go_wp2_with fail
   go_quiet (fail)
   have hdr := pw_below_drewN (Below.refl w5.heap.size w5) nq
   generalize w5.drewN nq = w6 at *
   have h6 := h5.below hdr
   have hZ6 := hZ5.below hdr
   have HO6 : Hid (Only w w6 (dfp d v)) := Lib.hid (HO5.out.below hdr)
   clear hdr h5 hZ5
   go_wp2_with fail
   refine (spoil_any h6 (by have := HOK.out.len; show (s.rest ++ [c]).length ≤ s.came + 1; rw [List.length_append, List.length_singleton]; omega) (by show s.came + 1 ≤ _; omega) x' 0 (by omega) (by omega)).mono ?_
   rintro e ws ⟨rfl, hds, hos⟩
   have hZs := hZ6.only hos (fun e => HDG.out e.symm)
   have HOS : Hid (Only w ws (dfp d v)) := Lib.hid (HO6.out.same (hos.mono (fun k e => .inl e)))
   have hZe := put_at (kF 0) rfl hZs
   have eP := put_frame (kF 0) rfl hZs
   have HP : Hid (TakePost w d v s c (.returned (.tuple #[.agg (kF 0).arr, .bool false])) (ws.setRow gr (kF 0).arr)) := Lib.hid (take_none HOK.out HW.out hc0 hc1 HT.out hds (fun e => absurd e HE.out) HOS.out HON.out (by have := HGR.out; omega) HDG.out HVG.out)
   clear hds hos h6 hZ6
   go_wp2_with fail
   exact bodyPost_ret (take_ret rfl hZe rfl) rfl HP.out
 ·obtain ⟨wt, rfl⟩ : ∃ wt, wt = want := ⟨_, rfl⟩
  have bz : (wt == 0) = false := by rw [beq_eq_false_iff_ne]; exact hwz
  have HWT : Hid (wt = ((needS s.most xs).1 : Int) ∧ needS s.most xs = ((needS s.most xs).1, 0) ∧ (needS s.most xs).1 ≠ 0) := Lib.hid (by
   have h1 := HWN.out
   have h2 := (HOK.out.low HW.out).2.1
   have h3 : needS s.most (s.rest ++ [c]) = needS s.most s.rest := needS_more [c] (m := (needS s.most s.rest).1) (e := (needS s.most s.rest).2) rfl (.inr (by omega))
   rw [HXS.out] at h3
   rw [h3]
   exact ⟨h1, Prod.ext rfl h2, by omega⟩)
  clear hwz
  have HR5 : Hid (RB w4 A2 n2 xs) := Lib.hid HR4.out.1
  by_cases hlt : (n2 : Int) < wt
  ·have HT : Hid (takeS s c = (s.put c, [])) := Lib.hid (by rw [HTK.out, HWT.out.2.1, if_neg (by simp), if_pos (.inr (by have := HWT.out.1; omega))])
   have HWN2 : Hid (s.why = 0 → wt = ((needS s.most (s.rest ++ [c])).1 : Int)) := Lib.hid (fun _ => by rw [HXS.out, HWT.out.2.1]; exact HWT.out.1)
   have e1 := fun j => load_cell_int (W := w4.drewN j) h4.c1
   have e2 := fun j => load_bytes_cell (W := w4.drewN j) h4.c2
   go_wp2_with fail
   go_quiet (fail)
   have hdr := pw_below_drewN (Below.refl w4.heap.size w4) nq
   generalize w4.drewN nq = wt5 at *
   have hdt := h4.below hdr
   have hZt := hZ4.below hdr
   have HOt : Hid (Only w wt5 (dfp d v)) := Lib.hid (HO4.out.below hdr)
   clear hdr h4 hZ4 e1 e2 hlt
   have hZe := put_at (kF 0) rfl hZt
   have eP := put_frame (kF 0) rfl hZt
   have HP : Hid (TakePost w d v s c (.returned (.tuple #[.agg (kF 0).arr, .bool false])) (wt5.setRow gr (kF 0).arr)) := Lib.hid (take_none HOK.out HW.out hc0 hc1 HT.out hdt HWN2.out HOt.out HON.out (by have := HGR.out; omega) HDG.out HVG.out)
   clear hdt hZt HOt
   go_wp2_with fail
   exact bodyPost_ret (take_ret rfl hZe rfl) rfl HP.out
  ·have HT1 : Hid (takeS s c = if (decF xs).2.1 ≠ 0 then ((s.put c).bad (decF xs).2.1 (decF xs).2.2, []) else ((s.put c).done, [(decF xs).1])) := Lib.hid (by rw [HTK.out, HWT.out.2.1, if_neg (by simp), if_neg (by have := HWT.out.1; have := HWT.out.2.2; omega)])
   have e1 := fun j => load_cell_int (W := w4.drewN j) h4.c1
   have e2 := fun j => load_bytes_cell (W := w4.drewN j) h4.c2
   go_wp2_with fail
   go_quiet (fail)
   have hdr := pw_below_drewN (Below.refl w4.heap.size w4) nq
   generalize w4.drewN nq = wt5 at *
   have hdt := h4.below hdr
   have hZt := hZ4.below hdr
   have HOt : Hid (Only w wt5 (dfp d v)) := Lib.hid (HO4.out.below hdr)
   have HRt : Hid (RB wt5 A2 n2 xs) := Lib.hid (HR5.out.below hdr)
   clear hdr h4 hZ4 e1 e2
   have e2 := load_bytes_cell hdt.c2
   go_wp2_with fail
   refine (Decode_any HRt.out HR4.out.2).mono ?_
   rintro e w7 ⟨F, x7, y7, rfl, HD, hok, hown, hb7⟩
   obtain ⟨w8, w9, wa, s0, s1, s2, hF, hX, hbb⟩ := two_put w7 F hok.tool x7 y7
   have HF := Lib.hid hF
   have HX := Lib.hid hX
   have HBA := Lib.hid (below_step hb7 hbb)
   have HOW : Hid (OwnA wa w.heap.size F) := Lib.hid ((hown.below hbb).less (HOt.out.size))
   have HTOOL := Lib.hid hok.tool
   have HLF : Hid (wt5.heap.size ≤ w7.heap.size) := Lib.hid hb7.size
   clear hF hX hbb hok hown hb7 e2 hlt
   go_upto_region 14 with (fail)
   clear s0 s1 s2
   have hda := hdt.below HBA.out
   have hZa := hZt.below HBA.out
   have HOa : Hid (Only w wa (dfp d v)) := Lib.hid (HOt.out.below HBA.out)
   have hFa := HF.out
   have hXa := HX.out
   obtain ⟨gf, hgf⟩ : ∃ gf, w7.heap.size = gf := ⟨_, rfl⟩
   obtain ⟨gx, hgx⟩ : ∃ gx, w7.heap.size + 1 = gx := ⟨_, rfl⟩
   have HGX : Hid (¬ d = gf ∧ ¬ d = gx ∧ ¬ gr = gf ∧ w.heap.size ≤ gf) := Lib.hid (by
    have h1 := HLF.out; have h2 := HOLD.out d (.inl rfl); have h3 := HOt.out.size; have h4 := hZt.lt
    refine ⟨?_, ?_, ?_, ?_⟩ <;> omega)
   have HVF : Hid (¬ rf (.slice A2 n2 c2) gf) := Lib.hid (own_not hda.row.own (by rw [← hgf]; exact hFa.blk) (by decide))
   rw [hgx] at hXa
   rw [hgf] at hFa
   rw [hgx, hgf]
   clear hgf hgx HF HX HLF hZt hdt HRt HOt
   have eX := get_fault hXa
   have hb0 := build_fault0
   have HXY := HD.out.1
   by_cases hx7 : x7 = 0
   ·obtain rfl : y7 = 0 := by
     have h := dec_zero2 (xs := xs)
     rw [HXY] at h
     exact h hx7
    subst hx7
    have hne := neq_fault 0 0 true rfl
    have HT : Hid (takeS s c = ((s.put c).done, [F.core])) := Lib.hid (by rw [HT1.out, HXY, if_neg (by simp), HD.out.2])
    clear HXY
    have hds1 : Db (wa.setCell ⟨d, 2, none⟩ (.slice none 0 0)) d (.slice none 0 0) wt { s.put c with rest := [] } := hda.put 2 _ rfl (OB.nil _ _ _)
    have ho1 := Fr.only_at wa d 2 (.slice none 0 0)
    have hds2 : Db ((wa.setCell ⟨d, 2, none⟩ (.slice none 0 0)).setCell ⟨d, 1, none⟩ (.int .i64 0)) d (.slice none 0 0) 0 { s.put c with rest := [] } := hds1.put 1 _ rfl (hds1.row_set 1 _)
    have ho2 := Fr.only_at (wa.setCell ⟨d, 2, none⟩ (.slice none 0 0)) d 1 (.int .i64 0)
    have hds3 : Db (((wa.setCell ⟨d, 2, none⟩ (.slice none 0 0)).setCell ⟨d, 1, none⟩ (.int .i64 0)).setCell ⟨d, 4, none⟩ (.int .i64 ((s.whole : Int) + 1))) d (.slice none 0 0) 0 ((s.put c).done) := hds2.put 4 _ rfl (hds2.row_set 4 _)
    have ho3 := Fr.only_at ((wa.setCell ⟨d, 2, none⟩ (.slice none 0 0)).setCell ⟨d, 1, none⟩ (.int .i64 0)) d 4 (.int .i64 ((s.whole : Int) + 1))
    have p1 := put_bytes_cell none 0 0 wa ⟨d, 2, none⟩ _ hda.c2 (hda.fz 2)
    have p2 := put_cell_int 0 _ ⟨d, 1, none⟩ _ hds1.c1 (hds1.fz 1)
    have l4 : (Instr.loadAt 3 (.pointer (some ⟨d, 4, none⟩))).run Tryz.prog ((wa.setCell ⟨d, 2, none⟩ (.slice none 0 0)).setCell ⟨d, 1, none⟩ (.int .i64 0)) = .ok (.int .i64 (s.whole : Int)) ((wa.setCell ⟨d, 2, none⟩ (.slice none 0 0)).setCell ⟨d, 1, none⟩ (.int .i64 0)) := load_cell_int hds2.c4
    have p4 := put_cell_int ((s.whole : Int) + 1) _ ⟨d, 4, none⟩ _ hds2.c4 (hds2.fz 4)
    have HOd := Lib.hid ((ho1.same ho2).same ho3)
    have hkw : IntKind.i64.wrap ((s.whole : Int) + 1) = (s.whole : Int) + 1 := by rw [IntKind.wrap_i64]; omega
    have HW3 : Hid (OwnA (((wa.setCell ⟨d, 2, none⟩ (.slice none 0 0)).setCell ⟨d, 1, none⟩ (.int .i64 0)).setCell ⟨d, 4, none⟩ (.int .i64 ((s.whole : Int) + 1))) w.heap.size F) := Lib.hid (HOW.out.typed HOd.out (fun k e => by subst e; exact ⟨_, _, hda.blk, by decide⟩))
    have HO3 : Hid (Only w (((wa.setCell ⟨d, 2, none⟩ (.slice none 0 0)).setCell ⟨d, 1, none⟩ (.int .i64 0)).setCell ⟨d, 4, none⟩ (.int .i64 ((s.whole : Int) + 1))) (dfp d v)) := Lib.hid (HOa.out.same (HOd.out.mono (fun k e => .inl e)))
    have hZd := hZa.only HOd.out (fun e => HDG.out e.symm)
    have hFd := hFa.only HOd.out (fun e => HGX.out.1 e.symm)
    have HDS := Lib.hid hds3
    clear hds1 hds2 hds3 ho1 ho2 ho3 hda hZa hFa HOd
    go_upto_region 19 with (fail)
    clear p1 p2 l4 p4 hkw eX hne hb0
    generalize ((wa.setCell ⟨d, 2, none⟩ (.slice none 0 0)).setCell ⟨d, 1, none⟩ (.int .i64 0)).setCell ⟨d, 4, none⟩ (.int .i64 ((s.whole : Int) + 1)) = wd at *
    have l8 := get_frame hFd
    have s4 := put_frame F HTOOL.out hZd
    have hZe := put_at F HTOOL.out hZd
    have HP : Hid (TakePost w d v s c (.returned (.tuple #[.agg F.arr, .bool true])) (wd.setRow gr F.arr)) := Lib.hid (take_one HOK.out HW.out hc0 hc1 HT.out HDS.out (fun _ => rfl) HO3.out (fun k hk => .inl (hk.elim .inl (fun e => by cases e))) (by have := HGR.out; omega) HDG.out (fun e => by cases e) HTOOL.out HW3.out hZd)
    clear hFd hZd HDS
    go_wp2_with fail
    exact bodyPost_ret (v := .tuple #[.agg F.arr, .bool true]) (take_ret rfl hZe rfl) rfl HP.out
   ·have hne := neq_fault x7 y7 false (by simp [hx7])
    have HT : Hid (takeS s c = ((s.put c).bad x7 y7, [])) := Lib.hid (by rw [HT1.out, HXY]; exact if_pos hx7)
    have HYB : Hid (0 ≤ y7 ∧ y7 ≤ n2) := Lib.hid (by
     have h := dec_at (xs := xs) HR4.out.1.byt
     rw [HXY, HN2.out] at h
     exact h)
    have eW := load_why hXa
    have eY := load_at' hXa
    have HE := Lib.hid hx7
    clear hx7 HXY
    go_wp2_with fail
    refine (spoil_any hda (by have := HOK.out.len; show (s.rest ++ [c]).length ≤ s.came + 1; rw [List.length_append, List.length_singleton]; omega) (by show s.came + 1 ≤ _; omega) x7 y7 HYB.out.1 (by have := HYB.out.2; omega)).mono ?_
    rintro e ws ⟨rfl, hds, hos⟩
    have hZs := hZa.only hos (fun e => HDG.out e.symm)
    have HOS : Hid (Only w ws (dfp d v)) := Lib.hid (HOa.out.same (hos.mono (fun k e => .inl e)))
    have hZe := put_at (kF 0) rfl hZs
    have eP := put_frame (kF 0) rfl hZs
    have HP : Hid (TakePost w d v s c (.returned (.tuple #[.agg (kF 0).arr, .bool false])) (ws.setRow gr (kF 0).arr)) := Lib.hid (take_none HOK.out HW.out hc0 hc1 HT.out hds (fun e => absurd e HE.out) HOS.out HON.out (by have := HGR.out; omega) HDG.out HVG.out)
    clear hds hos hda hZa
    go_wp2_with fail
    exact bodyPost_ret (take_ret rfl hZe rfl) rfl HP.out
end
end Go.Proofs.YtpjpgcjhdbiepaaGreat
end
section
namespace Go.Proofs.YtpjpgcjhdbiepaaGreat
open Go.RowKit Go.Kit CrcM Go.Proofs.YtpjpgcjhdbiepaaGreatW.PrintWords
theorem rb_far {w w1 : World} {A : Option Addr} {n : Nat} {xs : List Int} {S : Nat → Prop} (h : RB w A n xs) (ho : Only w w1 S) (hs : ∀ a, A = some a → 0 < n → ¬ S a.block) : RB w1 A n xs := by
 refine ⟨⟨h.rd.1, h.rd.2.1, fun hp => ?_⟩, h.byt⟩
 obtain ⟨a, e, hc⟩ := h.rd.2.2 hp
 exact ⟨a, e, fun j hj => ho.cell (hc j hj) (by rw [Go.Kit.add_block]; exact hs a e hp)⟩
theorem rb_lt {w : World} {A : Option Addr} {n : Nat} {xs : List Int} (h : RB w A n xs) : ∀ a, A = some a → 0 < n → a.block < w.heap.size := fun a e hp => by
 obtain ⟨b, e2, hc⟩ := h.rd.2.2 hp
 rw [e] at e2; cases e2
 have := hc 0 hp
 rcases Nat.lt_or_ge a.block w.heap.size with h1 | h1
 ·exact h1
 ·have hb : (a.add 0).block = a.block := Go.Kit.add_block a 0
  simp [World.cell?, hb, Array.getElem?_eq_none h1] at this
theorem fold_set : ∀ (l : List Value) (k : Nat) (pre suf : List Value), pre.length = k → suf.length = l.length → (l.zipIdx k).foldl (fun cs (x : Value × Nat) => cs.setIfInBounds (0 + x.2) x.1) (pre ++ suf).toArray = (pre ++ l).toArray
 | [], k, pre, suf, _, h => by
  obtain rfl : suf = [] := List.eq_nil_of_length_eq_zero h
  rfl
 | x :: l, k, pre, suf, hp, h => by
  cases suf with
  | nil => simp at h
  | cons y s =>
   have ih := fold_set l (k + 1) (pre ++ [x]) s (by simp [hp]) (by simpa using h)
   rw [List.zipIdx_cons, List.foldl_cons]
   have e : (pre ++ y :: s).toArray.setIfInBounds (0 + k) x = ((pre ++ [x]) ++ s).toArray := by
    rw [List.setIfInBounds_toArray, Nat.zero_add, ← hp, List.set_append_right _ _ (Nat.le_refl _)]
    simp
   dsimp only
   rw [e, ih]
   simp
theorem build_frames (F : Fr) (hT : F.tool.length = 32) (W : World) : (Instr.buildSlice 34 1 #[(0, .agg F.arr)]).run Tryz.prog W = .ok (.slice (some ⟨W.heap.size, 0, none⟩) 1 1) (W.alloc (.cells F.arr 48)) := by
 obtain ⟨i0, hi, hz⟩ := Option.map_eq_some_iff.1 frame_info
 simp only [Prod.mk.injEq] at hz
 obtain ⟨hz0, hz1, _⟩ := hz
 refine run_buildSlice W 34 48 1 #[(0, .agg F.arr)] F.arr i0 (.agg (kF 0).arr) Tryz.underlying34 hi hz0 (by rw [hz1]; decide) (by rw [hz1]; decide) ?_
 rw [hz1]
 have hs := Fr.arr_size F hT
 have hc : (Value.agg F.arr).cells = F.arr := rfl
 have hl : F.arr.toList.length = 42 := by simpa using hs
 unfold Instr.fill
 dsimp only
 rw [hc, if_neg (by simp [hs])]
 unfold Instr.fill
 have hf := fold_set F.arr.toList 0 [] ((Array.range (1 * 42)).map ((Value.agg (kF 0).arr).cells[· % (Value.agg (kF 0).arr).cells.size]!)).toList rfl (by simp [hl])
 simp only [List.nil_append, Array.toArray_toList] at hf
 rw [← Array.foldl_toList, Array.toList_zipIdx]
 exact congrArg some hf
theorem take_whole (s : Sm) (c : Int) : (takeS s c).1.whole ≤ s.whole + 1 := by
 unfold takeS
 split
 ·exact Nat.le_succ _
 split
 ·exact Nat.le_succ _
 split
 ·exact Nat.le_succ _
 ·exact Nat.le_refl _
theorem some_stop {n : Int} {xs : List Int} {s : Sm} {k : Nat} (h : n ≤ (k : Int) ∨ s.why ≠ 0) : someR n xs s k = (s, [], 0) := by
 cases xs with
 | nil => rfl
 | cons c r => rw [someR, if_pos h]
theorem some_step {n : Int} {c : Int} {r : List Int} {s t : Sm} {l : List Fr} {k : Nat} (h : ¬ n ≤ (k : Int)) (hw : s.why = 0) (ht : takeS s c = (t, l)) :
  someR n (c :: r) s k = ((someR n r t (k + l.length)).1, l ++ (someR n r t (k + l.length)).2.1, (someR n r t (k + l.length)).2.2 + 1) := by
 rw [someR, if_neg (fun e => e.elim h (fun e => e hw)), ht]
def SomePost (w : World) (d : Nat) (v : Value) (s : Sm) (n : Int) (xs : List Int) (e : Ending) (w' : World) : Prop :=
 ∃ (v' vl : Value) (want' : Int) (t : Sm) (Fs : List Fr) (k : Nat), e = .returned (.tuple #[vl, .int .i64 (k : Int)]) ∧ Hid (someR n xs s 0 = (t, Fs.map Fr.core, k)) ∧ Dc w' d v' want' t ∧ OFs w' w.heap.size vl Fs ∧ Only w w' (dfp d v) ∧ Onto w (dfp d v) (dfp d v')
def SomeRel (w : World) (d : Nat) (v : Value) (s : Sm) (n : Int) (A : Option Addr) (nn : Nat) (xs : List Int) (g : Nat) (v8 v15 : Value) (W : World) : Prop :=
 ∃ (i : Nat) (v' : Value) (want' : Int) (t : Sm) (Fs : List Fr), v15 = .int .i64 (i : Int) ∧ Dc W d v' want' t ∧ OFs W w.heap.size v8 Fs ∧ Only w W (dfp d v) ∧ Onto w (dfp d v) (dfp d v') ∧ RB W A nn xs ∧ i + g = nn ∧ Fs.length ≤ i ∧ t.came ≤ s.came + i ∧ t.whole ≤ s.whole + i ∧
  Hid (someR n xs s 0 = ((someR n (xs.drop i) t Fs.length).1, Fs.map Fr.core ++ (someR n (xs.drop i) t Fs.length).2.1, i + (someR n (xs.drop i) t Fs.length).2.2))
attribute [-go_sem] Instr.loadAt Instr.storeAt Instr.build Instr.buildSlice
section
variable {w : World} {d : Nat} {v : Value} {want : Int} {s : Sm}
set_option maxHeartbeats 16000000 in
set_option maxRecDepth 100000 in
theorem some_any (h : Dc w d v want s) (n : Int) (A : Option Addr) (nn c : Nat) (xs : List Int) (hx : RB w A nn xs) (hfar : ∀ a, A = some a → 0 < nn → ¬ dfp d v a.block) (hl : nn * 136 ≤ 140737488355328) (hcm : s.came + nn ≤ 576460752303423488) (hwh : s.whole + nn ≤ 576460752303423488) :
  Calls Tryz.prog 23 #[.pointer (some ⟨d, 0, none⟩), .int .i64 n, .slice A nn c] w (SomePost w d v s n xs) := by
 have HXL := Lib.hid hx.len
 have HLT := Lib.hid (rb_lt hx)
 have HFAR := Lib.hid hfar
 have HCM := Lib.hid hcm
 have HWH := Lib.hid hwh
 have HL := Lib.hid hl
 have h0 : SomeRel w d v s n A nn xs nn (.slice none 0 0) (.int .i64 0) w := ⟨0, v, want, s, [], rfl, h, OFs.nil _ _, Only.refl _ _, Onto.refl _ _, hx, by omega, Nat.le_refl _, by omega, by omega, Lib.hid (by simp)⟩
 have HZ := Lib.hid h0
 clear h0 h hx hfar hcm hwh hl
 go_enter Tryz.func23, Tryz.ntmps23
 go_wp2_with fail
 go_loopg [8, 15] nn (fun gk v8 v15 w' => SomeRel w d v s n A nn xs gk v8 v15 w')
 case atStart => exact HZ.out
 case round =>
  obtain ⟨i, v', want', t, Fs, rfl, hD, hO, ho, hon, hx, hig, hfi, hca, hwo, HS⟩ := hrel
  clear HZ
  have HIG := Lib.hid hig
  have HFI := Lib.hid hfi
  have HCA := Lib.hid hca
  have HWO := Lib.hid hwo
  have HO := Lib.hid ho
  have HON := Lib.hid hon
  clear hig hfi hca hwo ho hon
  obtain ⟨A8, c8, rfl⟩ := hO.form
  by_cases hi : i < nn
  ·obtain ⟨ad, x, hA, hc, hx0, hx1, HXi⟩ := hx.at_ i hi
   have hi2 : (i : Int) < (nn : Int) := by omega
   obtain ⟨m, hm⟩ : ∃ m, Fs.length = m := ⟨_, rfl⟩
   have HM := Lib.hid hm
   rw [hm]
   clear hm
   have HDR : Hid (xs.drop i = x :: xs.drop (i + 1)) := Lib.hid (by
    have hl : i < xs.length := by have := HXL.out; omega
    have e := HXi.out
    rw [List.getElem?_eq_getElem hl] at e
    injection e with e
    rw [List.drop_eq_getElem_cons hl, e])
   have e1 := load_cell_u8 hc
   have hb0 := build_fault0
   have eP := hD.toDb.poison
   subst hA
   by_cases hk : n ≤ (m : Int)
   ·have HE : Hid (SomePost w d v s n xs (.returned (.tuple #[.slice A8 m c8, .int .i64 (i : Int)])) wr) := Lib.hid ⟨v', _, want', t, Fs, i, rfl, Lib.hid (by rw [HS.out, some_stop (.inl (by rw [HM.out]; exact hk))]; simp), hD, by have := hO; rw [HM.out] at this; exact this, HO.out, HON.out⟩
    clear hD hO hx
    go_wp2_with fail
    go_ret2
    exact HE.out
   ·by_cases hp : t.why = 0
    ·have hwat := (hD.ok.low hp).1
     have hne := neq_fault t.why t.wat true (by rw [hp, hwat]; rfl)
     rw [hp, hwat] at hne eP
     have HP := Lib.hid hp
     have hca3 : t.came ≤ 576460752303423488 := by have := HCA.out; have := HCM.out; omega
     have hwo3 : t.whole ≤ 576460752303423488 := by have := HWO.out; have := HWH.out; omega
     clear hp hwat
     go_wp2_with fail
     refine (take_any hD HP.out x hx0 hx1 hca3 hwo3).mono ?_
     rintro e w3 ⟨v3, want3, F, ok, rfl, HT, hD3, hF3, hOA3, ho3, hon3⟩
     obtain ⟨wa, w4, s0, s1, hF, hb4⟩ := frame_put w3 F hF3
     have HF := Lib.hid hF
     have HB4 := Lib.hid hb4
     have HTY := Lib.hid hD.toDb.typed
     have HW3 : Hid (w.heap.size ≤ wr.heap.size) := Lib.hid HO.out.size
     have HAF : Hid (∀ a, some ad = some a → 0 < nn → ¬ dfp d v' a.block) := Lib.hid (fun a e hp hd => by
      have h1 := HLT.out a e hp
      rcases HON.out _ hd with h2 | h2
      ·exact HFAR.out a e hp h2
      ·omega)
     clear hF hb4
     go_upto_region 8 with (fail)
     clear s0 s1
     have hD4 := hD3.below HB4.out
     have hO4 : OFs w4 w.heap.size (.slice A8 m c8) Fs := by
      have := (hO.only ho3 HTY.out).below HB4.out
      rw [HM.out] at this; exact this
     have hx4 : RB w4 (some ad) nn xs := (rb_far hx ho3 HAF.out).below HB4.out
     have hA4 : OwnA w4 w.heap.size F := (hOA3.below HB4.out).less HW3.out
     have HO4 : Hid (Only w w4 (dfp d v)) := Lib.hid ((HO.out.then_ ho3 HON.out).below HB4.out)
     have HON4 : Hid (Onto w (dfp d v) (dfp d v3)) := Lib.hid (HON.out.trans hon3 HO.out.size)
     have hF4 := HF.out
     have HTL := Lib.hid hF3
     obtain ⟨g4, hg4⟩ : ∃ g4, w3.heap.size = g4 := ⟨_, rfl⟩
     rw [hg4] at hF4
     rw [hg4]
     clear hg4 hD3 hO hx hOA3 ho3 hon3 HF hF3 e1 eP hD
     have hi1 : IntKind.i64.wrap ((i : Int) + 1) = (i : Int) + 1 := by rw [IntKind.wrap_i64]; have := HL.out; omega
     obtain ⟨t2, l2, ht2⟩ : ∃ t2 l2, takeS t x = (t2, l2) := ⟨_, _, rfl⟩
     have HC2 : Hid (t2.came = t.came + 1 ∧ t2.whole ≤ t.whole + 1) := Lib.hid (by have h1 := take_came t x; have h2 := take_whole t x; rw [ht2] at h1 h2; exact ⟨h1, h2⟩)
     have HT2 : Hid (l2 = if ok = true then [F.core] else []) := Lib.hid (by have := HT.out; rw [ht2] at this; exact this)
     have HS2 : Hid (someR n xs s 0 = ((someR n (xs.drop (i + 1)) t2 (m + l2.length)).1, (Fs.map Fr.core ++ l2) ++ (someR n (xs.drop (i + 1)) t2 (m + l2.length)).2.1, (i + 1) + (someR n (xs.drop (i + 1)) t2 (m + l2.length)).2.2)) := Lib.hid (by
      rw [HS.out, HDR.out, HM.out, some_step (by omega) HP.out ht2]
      simp only [List.append_assoc, Prod.mk.injEq, true_and]
      omega)
     rw [ht2] at hD4
     clear ht2 HT hk
     cases ok with
     | true =>
      have e8 := get_frame hF4
      have hbs := build_frames F HTL.out
      go_wp2_with (at_builtin; refine push_frame (w0 := w4) w.heap.size rfl (.tmp 41) (.tmp 43) F HTL.out rfl rfl rfl hO4 hA4 (Below.refl _ _) (HO4.out.size) (by have := HL.out; have := HFI.out; have := HM.out; omega) ?_)
      intro v5 w5 hO5 _ hg5 _
      have ho5 : Only w4 w5 (rf (.slice A8 m c8)) := (Only.refl _ _).grown hg5 (fun k e => .inl e)
      have HE : Hid (SomeRel w d v s n (some ad) nn xs (gk - 1) v5 (.int .i64 ((i : Int) + 1)) w5) := Lib.hid (by
       refine ⟨i + 1, v3, want3, t2, Fs ++ [F], by simp, hD4.only ho5 (fun k hk e => ?_), hO5, HO4.out.then_ ho5 (fun k e => .inr (own_new hO4.row k e).1), HON4.out, rb_far hx4 ho5 (fun a e hp hr => ?_), by have := HIG.out; omega, ?_, ?_, ?_, Lib.hid ?_⟩
       ·obtain ⟨cs, t, hc, ht, _⟩ := hD4.toDb.typed k hk
        obtain ⟨cs', hc'⟩ := own_typed hO4.row e
        rw [hc] at hc'
        injection hc' with hc'
        injection hc' with _ hc'
        exact ht hc'
       ·have h1 := HLT.out a e hp
        have h2 := (own_new hO4.row _ hr).1
        omega
       ·rw [List.length_append, List.length_singleton]; have := HFI.out; omega
       ·have := HC2.out; have := HCA.out; omega
       ·have := HC2.out; have := HWO.out; omega
       ·have h := HS2.out
        have h2 : l2 = [F.core] := by have := HT2.out; simpa using this
        rw [h2] at h
        have h3 : (Fs ++ [F]).length = m + 1 := by rw [List.length_append, List.length_singleton, HM.out]
        rw [h3, h, List.map_append]
        rfl)
      clear hD4 hO4 hx4 hA4 hF4 e8 hO5 hg5 ho5
      go_wp2_with fail
      go_roundg (gk - 1)
      case measure => have := HIG.out; omega
      case rel => exact HE.out
     | false =>
      have HE : Hid (SomeRel w d v s n (some ad) nn xs (gk - 1) (.slice A8 m c8) (.int .i64 ((i : Int) + 1)) w4) := Lib.hid (by
       refine ⟨i + 1, v3, want3, t2, Fs, by simp, hD4, hO4, HO4.out, HON4.out, hx4, by have := HIG.out; omega, ?_, ?_, ?_, Lib.hid ?_⟩
       ·have := HFI.out; omega
       ·have := HC2.out; have := HCA.out; omega
       ·have := HC2.out; have := HWO.out; omega
       ·have h := HS2.out
        have h2 : l2 = [] := by have := HT2.out; simpa using this
        rw [h2] at h
        rw [h, HM.out]
        simp)
      clear hD4 hO4 hx4 hA4 hF4
      go_wp2_with fail
      go_roundg (gk - 1)
      case measure => have := HIG.out; omega
      case rel => exact HE.out
    ·have hne := neq_fault t.why t.wat false (by simp [hp])
     have HE : Hid (SomePost w d v s n xs (.returned (.tuple #[.slice A8 m c8, .int .i64 (i : Int)])) wr) := Lib.hid ⟨v', _, want', t, Fs, i, rfl, Lib.hid (by rw [HS.out, some_stop (.inr hp)]; simp), hD, by have := hO; rw [HM.out] at this; exact this, HO.out, HON.out⟩
     clear hD hO hx hp
     go_wp2_with fail
     go_ret2
     exact HE.out
  ·have hi2 : ¬ (i : Int) < (nn : Int) := by omega
   obtain rfl : i = nn := by have := HIG.out; omega
   have HE : Hid (SomePost w d v s n xs (.returned (.tuple #[.slice A8 Fs.length c8, .int .i64 (i : Int)])) wr) := Lib.hid ⟨v', _, want', t, Fs, i, rfl, Lib.hid (by rw [HS.out, List.drop_of_length_le (by have := HXL.out; omega), someR]; simp), hD, hO, HO.out, HON.out⟩
   clear hD hO hx hi
   go_wp2_with fail
   go_ret2
   exact HE.out
end
end Go.Proofs.YtpjpgcjhdbiepaaGreat
end
section
namespace Go.Proofs.YtpjpgcjhdbiepaaGreat
open Go.RowKit Go.Kit CrcM Go.Proofs.YtpjpgcjhdbiepaaGreatW.PrintWords
theorem fault_ret {fn : Func} {p : Tmp} (h : fn.results = #[.cell p 28]) {tmps : Array Value} {W : World} {g : Nat} {x y : Int} (hp : tmps.getD p undef = .pointer (some ⟨g, 0, none⟩)) (hX : W.heap[g]? = some (.cells (fv x y) 28 (0, 0))) :
  (results fn tmps).run Tryz.prog W = .ok (.agg (fv x y)) W :=
 results_cell_row (P := Tryz.prog) h tmps W g 28 (fv x y) (0, 0) _ hp hX Tryz.underlying28 rfl (fv_size x y)
theorem results_tmp_cell {P : Program} {fn : Func} {p u : Tmp} {ty : TypeId} (h : fn.results = #[.tmp u, .cell p ty]) (tmps : Array Value) (w : World) (g : Nat) (t : TypeId) (cs : Array Value) (fr : Nat × Nat) (d : TypeDesc)
  (hp : tmps.getD p undef = .pointer (some ⟨g, 0, none⟩)) (hg : w.heap[g]? = some (.cells cs t fr))
  (hu : P.underlying ty = some d) (hd : (match d with | .struct _ | .array _ _ => true | _ => false) = true) (hi : (P.info? ty).map (·.size) = some cs.size) (v : Value) (hv : tmps.getD u undef = v) :
  (results fn tmps).run P w = .ok (.tuple #[v, .agg cs]) w := by
 subst hv
 have hp' : tmps[p]?.getD undef = .pointer (some ⟨g, 0, none⟩) := by simpa using hp
 simp [results, h, hp', asAddr, run_loadVar_row w g t ty cs fr d hg hu hd hi]
theorem fault_new (W : World) : ∃ W1, W.alloc (.cells #[.int .i64 0, .int .i64 0] 28) = W1 ∧ W1.heap[W.heap.size]? = some (.cells (fv 0 0) 28 (0, 0)) ∧ Below W.heap.size W W1 := ⟨_, rfl, heap_alloc_new W _, below_alloc (Below.refl _ W) _⟩
theorem fault_keep {W W1 : World} {g : Nat} {x y : Int} (hX : W.heap[g]? = some (.cells (fv x y) 28 (0, 0))) (hb : Below W.heap.size W W1) : W1.heap[g]? = some (.cells (fv x y) 28 (0, 0)) := (hb.block _ (lt_of_block hX)).trans hX
theorem fault_put (W : World) (x y : Int) : ∃ W1 W2, W.alloc (.cells #[.int .i64 0, .int .i64 0] 28) = W1 ∧ (Instr.storeAt 28 (.pointer (some ⟨W.heap.size, 0, none⟩)) (.agg (fv x y))).run Tryz.prog W1 = .ok () W2 ∧ W2.heap[W.heap.size]? = some (.cells (fv x y) 28 (0, 0)) ∧ Below W.heap.size W W2 := by
 obtain ⟨W1, s0, hX, hb⟩ := fault_new W
 exact ⟨W1, W1.setRow W.heap.size (fv x y), s0, put_fault x y hX, set_fault x y hX, below_setRow hb (Nat.le_refl _) _⟩
attribute [-go_sem] Instr.loadAt Instr.storeAt Instr.build
section
variable {w : World} {d : Nat} {v : Value} {want : Int} {s : Sm}
set_option maxHeartbeats 4000000 in
theorem closed_any (h : Dc w d v want s) (x y : Int) (hx : (x, y) = if s.why ≠ 0 then (80, (s.came : Int)) else (0, 0)) :
  Calls Tryz.prog 22 #[.pointer (some ⟨d, 0, none⟩)] w fun e w' => e = .returned (.agg (fv x y)) ∧ Below w.heap.size w w' := by
 obtain ⟨w1, s0, hX, hb⟩ := fault_new w
 have h1 := h.below hb
 have hb0 := build_fault0
 have hbf := build_fault
 have HB := Lib.hid hb
 have HH := Lib.hid hx
 clear h hx hb
 go_enter Tryz.func22, Tryz.ntmps22
 go_upto_region 1 with (fail)
 clear s0
 obtain ⟨g, hg⟩ : ∃ g, w.heap.size = g := ⟨_, rfl⟩
 rw [hg] at hX ⊢
 have HG := Lib.hid hg
 clear hg
 go_wp2_with fail
 refine (dmade_any h1).mono ?_
 rintro e wz ⟨rfl, rfl⟩
 have eP := h1.toDb.poison
 by_cases hp : s.why = 0
 ·have hwat := (h1.ok.low hp).1
  have hne := neq_fault s.why s.wat true (by rw [hp, hwat]; rfl)
  obtain ⟨rfl, rfl⟩ : x = 0 ∧ y = 0 := by have e := HH.out; rw [if_neg (by simp [hp])] at e; cases e; exact ⟨rfl, rfl⟩
  have sX := put_fault 0 0 hX
  have hX2 := set_fault 0 0 hX
  have HB2 : Hid (Below w.heap.size w (wz.setRow g (fv 0 0))) := Lib.hid (below_setRow HB.out (Nat.le_of_eq HG.out) _)
  clear hp hwat h1 HH hX
  go_wp2_with fail
  exact bodyPost_ret (v := .agg (fv 0 0)) (fault_ret rfl rfl hX2) rfl ⟨rfl, HB2.out⟩
 ·have hne := neq_fault s.why s.wat false (by simp [hp])
  obtain ⟨rfl, rfl⟩ : x = 80 ∧ y = s.came := by have e := HH.out; rw [if_pos hp] at e; cases e; exact ⟨rfl, rfl⟩
  have e3 := load_cell_int h1.toDb.c3
  have sX := put_fault 80 (s.came : Int) hX
  have hX2 := set_fault 80 (s.came : Int) hX
  have HB2 : Hid (Below w.heap.size w (wz.setRow g (fv 80 (s.came : Int)))) := Lib.hid (below_setRow HB.out (Nat.le_of_eq HG.out) _)
  clear hp h1 HH hX
  go_wp2_with fail
  exact bodyPost_ret (v := .agg (fv 80 (s.came : Int))) (fault_ret rfl rfl hX2) rfl ⟨rfl, HB2.out⟩
def endSm (s : Sm) : Int × Int := if s.why ≠ 0 then (s.why, s.wat) else if s.rest = [] then (0, 0) else (4, (s.came : Int))
set_option maxHeartbeats 4000000 in
theorem dEnd_any (h : Dc w d v want s) (x y : Int) (hx : (x, y) = endSm s) :
  Calls Tryz.prog 31 #[.pointer (some ⟨d, 0, none⟩)] w fun e w' => e = .returned (.agg (fv x y)) ∧ Below w.heap.size w w' := by
 obtain ⟨w1, s0, hX, hb⟩ := fault_new w
 have h1 := h.below hb
 have hb0 := build_fault0
 have hbf := build_fault
 have HB := Lib.hid hb
 have HH := Lib.hid hx
 obtain ⟨A, c, rfl, _, _⟩ := h.row.reads'
 clear h hx hb
 go_enter Tryz.func31, Tryz.ntmps31
 go_upto_region 1 with (fail)
 clear s0
 obtain ⟨g, hg⟩ : ∃ g, w.heap.size = g := ⟨_, rfl⟩
 rw [hg] at hX ⊢
 have HG := Lib.hid hg
 clear hg
 go_wp2_with fail
 refine (dmade_any h1).mono ?_
 rintro e wz ⟨rfl, rfl⟩
 have eP := h1.toDb.poison
 have e2 := load_bytes_cell h1.toDb.c2
 have e3 := load_cell_int h1.toDb.c3
 have fin : ∀ x y : Int, Hid (Below w.heap.size w (wz.setRow g (fv x y))) := fun x y => Lib.hid (below_setRow HB.out (Nat.le_of_eq HG.out) _)
 by_cases hp : s.why = 0
 ·have hwat := (h1.ok.low hp).1
  have hne := neq_fault s.why s.wat true (by rw [hp, hwat]; rfl)
  by_cases hr : s.rest.length = 0
  ·obtain ⟨rfl, rfl⟩ : x = 0 ∧ y = 0 := by have e := HH.out; unfold endSm at e; rw [if_neg (by simp [hp]), if_pos (List.eq_nil_of_length_eq_zero hr)] at e; cases e; exact ⟨rfl, rfl⟩
   rw [hr] at e2
   have sX := put_fault 0 0 hX
   have hX2 := set_fault 0 0 hX
   clear hp hwat h1 HH hX hr
   go_wp2_with fail
   exact bodyPost_ret (v := .agg (fv 0 0)) (fault_ret rfl rfl hX2) rfl ⟨rfl, (fin 0 0).out⟩
  ·obtain ⟨rfl, rfl⟩ : x = 4 ∧ y = s.came := by have e := HH.out; unfold endSm at e; rw [if_neg (by simp [hp]), if_neg (fun e => hr (by rw [e]; rfl))] at e; cases e; exact ⟨rfl, rfl⟩
   obtain ⟨n, hn⟩ : ∃ n, s.rest.length = n := ⟨_, rfl⟩
   rw [hn] at e2 hr
   have hr2 : (0 : Int) < (n : Int) := by omega
   have hr3 : 0 < n := by omega
   have sX := put_fault 4 (s.came : Int) hX
   have hX2 := set_fault 4 (s.came : Int) hX
   clear hp hwat h1 HH hX hr hn
   go_wp2_with fail
   exact bodyPost_ret (v := .agg (fv 4 (s.came : Int))) (fault_ret rfl rfl hX2) rfl ⟨rfl, (fin 4 (s.came : Int)).out⟩
 ·have hne := neq_fault s.why s.wat false (by simp [hp])
  obtain ⟨rfl, rfl⟩ : x = s.why ∧ y = s.wat := by have e := HH.out; unfold endSm at e; rw [if_pos hp] at e; cases e; exact ⟨rfl, rfl⟩
  have sX := put_fault s.why s.wat hX
  have hX2 := set_fault s.why s.wat hX
  clear hp h1 HH hX
  go_wp2_with fail
  exact bodyPost_ret (v := .agg (fv s.why s.wat)) (fault_ret rfl rfl hX2) rfl ⟨rfl, (fin s.why s.wat).out⟩
end
end Go.Proofs.YtpjpgcjhdbiepaaGreat
end
section
namespace Go.Proofs.YtpjpgcjhdbiepaaGreat
open Go.RowKit Go.Kit CrcM Go.Proofs.YtpjpgcjhdbiepaaGreatW.PrintWords
attribute [-go_sem] Instr.loadAt Instr.storeAt Instr.build
section
variable {w : World} {d : Nat} {v : Value} {want : Int} {s : Sm}
theorem build_rest (m : Int) (W : World) : (Instr.build 74 #[(0, .int .i64 m)]).run Tryz.prog W = .ok (.agg #[.int .i64 m, .int .i64 0, .slice none 0 0, .int .i64 0, .int .i64 0, .int .i64 0, .int .i64 0]) W := by kernel_rfl
theorem build_dec (m : Int) (W : World) : (Instr.build 76 #[(0, .agg #[.int .i64 m, .int .i64 0, .slice none 0 0, .int .i64 0, .int .i64 0, .int .i64 0, .int .i64 0])]).run Tryz.prog W = .ok (.agg #[.int .i64 m, .int .i64 0, .slice none 0 0, .int .i64 0, .int .i64 0, .int .i64 0, .int .i64 0]) W := by kernel_rfl
set_option maxHeartbeats 4000000 in
theorem dNew_any (m : Nat) (h1 : 1 ≤ m) (h2 : m ≤ 2097152) (w : World) : Calls Tryz.prog 7 #[.int .i64 (m : Int)] w fun e w' => e = .returned (.tuple #[.pointer (some ⟨w.heap.size, 0, none⟩), .int .i64 0]) ∧ Dc w' w.heap.size (.slice none 0 0) 0 (Sm.new m) ∧ Below w.heap.size w w' := by
 have hb1 := build_rest (m : Int)
 have hb2 := build_dec (m : Int)
 have h3 : ¬ (m : Int) < 1 := by omega
 have h4 : ¬ (2097152 : Int) < (m : Int) := by omega
 have HOK := Lib.hid (new_ok h1 h2)
 clear h1 h2
 go_enter Tryz.func7, Tryz.ntmps7
 go_wp2_with fail
 go_ret2
 exact ⟨rfl, ⟨⟨heap_alloc_new w _, OB.nil _ _ _⟩, HOK.out, fun _ => rfl, Nat.zero_le _⟩, below_alloc (Below.refl _ w) _⟩
end
end Go.Proofs.YtpjpgcjhdbiepaaGreat
end
section
namespace Go.Proofs.YtpjpgcjhdbiepaaGreat
open Go.RowKit Go.Kit CrcM Go.Proofs.YtpjpgcjhdbiepaaGreatW.PrintWords
theorem cell_lt {w : World} {a : Addr} {u : Value} (h : w.cell? a = some u) : a.block < w.heap.size := by
 rcases Nat.lt_or_ge a.block w.heap.size with h1 | h1
 ·exact h1
 ·simp [World.cell?, Array.getElem?_eq_none h1] at h
structure PB (w : World) (A : Option Addr) (n : Nat) (L : List (List Int)) (F : Nat → Prop) : Prop where
 len : L.length = n
 max : n ≤ 9223372036854775807
 at0 : ∀ i, i < n → ∃ ad Ai ci xs, A = some ad ∧ w.cell? (ad.add i) = some (.slice Ai xs.length ci) ∧ L[i]? = some xs ∧ RB w Ai xs.length xs ∧ ¬ F ad.block ∧ ∀ a, Ai = some a → 0 < xs.length → ¬ F a.block
theorem PB.only {w w1 : World} {A : Option Addr} {n : Nat} {L : List (List Int)} {F G : Nat → Prop} (h : PB w A n L F) (ho : Only w w1 F) (hG : Onto w F G) : PB w1 A n L G :=
 ⟨h.len, h.max, fun i hi => by
  obtain ⟨ad, Ai, ci, xs, e, hc, hx, hr, h1, h2⟩ := h.at0 i hi
  refine ⟨ad, Ai, ci, xs, e, ho.cell hc (by rw [Go.Kit.add_block]; exact h1), hx, rb_far hr ho h2, fun hg => ?_, fun a ea hp hg => ?_⟩
  ·rcases hG _ hg with hg | hg
   ·exact h1 hg
   ·have := cell_lt hc
    rw [Go.Kit.add_block] at this
    omega
  ·rcases hG _ hg with hg | hg
   ·exact h2 a ea hp hg
   ·have := rb_lt hr a ea hp
    omega⟩
theorem PB.below {w w1 : World} {A : Option Addr} {n : Nat} {L : List (List Int)} {F : Nat → Prop} (h : PB w A n L F) (hb : Below w.heap.size w w1) : PB w1 A n L F := h.only (Only.of_below hb F) (Onto.refl _ _)
theorem PB.one {w : World} {A : Option Addr} {n cap : Nat} {xs : List Int} {F : Nat → Prop} (t : TypeId) (h : RB w A n xs) (hF : ∀ a, A = some a → 0 < n → ¬ F a.block) (hO : Old w F) : PB (w.alloc (.cells #[.slice A n cap] t)) (some ⟨w.heap.size, 0, none⟩) 1 [xs] F := by
 refine ⟨rfl, by omega, fun i hi => ?_⟩
 obtain rfl : i = 0 := by omega
 refine ⟨_, A, cap, xs, rfl, ?_, rfl, ?_, fun hf => ?_, ?_⟩
 ·rw [h.len, show (⟨w.heap.size, 0, none⟩ : Addr).add 0 = ⟨w.heap.size, 0, none⟩ from rfl]; exact World.cell?_alloc_new (w := w) _ t 0
 ·rw [h.len]; exact h.alloc _
 ·have := hO _ hf; exact absurd this (Nat.lt_irrefl _)
 ·rw [h.len]; exact hF
theorem PB.two {w : World} {A B : Option Addr} {n m cap cap2 : Nat} {xs ys : List Int} {F : Nat → Prop} (t : TypeId) (h : RB w A n xs) (k : RB w B m ys) (hF : ∀ a, A = some a → 0 < n → ¬ F a.block) (hG : ∀ a, B = some a → 0 < m → ¬ F a.block) (hO : Old w F) : PB (w.alloc (.cells #[.slice A n cap, .slice B m cap2] t)) (some ⟨w.heap.size, 0, none⟩) 2 [xs, ys] F := by
 refine ⟨rfl, by omega, fun i hi => ?_⟩
 obtain rfl | rfl : i = 0 ∨ i = 1 := by omega
 ·refine ⟨_, A, cap, xs, rfl, ?_, rfl, ?_, fun hf => ?_, ?_⟩
  ·rw [h.len, show (⟨w.heap.size, 0, none⟩ : Addr).add 0 = ⟨w.heap.size, 0, none⟩ from rfl]; exact World.cell?_alloc_new (w := w) _ t 0
  ·rw [h.len]; exact h.alloc _
  ·have := hO _ hf; exact absurd this (Nat.lt_irrefl _)
  ·rw [h.len]; exact hF
 ·refine ⟨_, B, cap2, ys, rfl, ?_, rfl, ?_, fun hf => ?_, ?_⟩
  ·rw [k.len, add_plain]; exact World.cell?_alloc_new (w := w) _ t 1
  ·rw [k.len]; exact k.alloc _
  ·have := hO _ hf; exact absurd this (Nat.lt_irrefl _)
  ·rw [k.len]; exact hG
theorem take_flat (L : List (List Int)) (i : Nat) : (L.take i).flatten.length ≤ L.flatten.length := by
 conv => rhs; rw [← List.take_append_drop i L, List.flatten_append, List.length_append]
 exact Nat.le_add_right _ _
def FeedPost (w : World) (d : Nat) (v : Value) (s : Sm) (xs : List Int) (e : Ending) (w' : World) : Prop :=
 ∃ (v' vl : Value) (want' : Int) (t : Sm) (Fs : List Fr), e = .returned (.tuple #[vl, .agg (fv t.why t.wat)]) ∧ Hid (feedS xs s = (t, Fs.map Fr.core)) ∧ Dc w' d v' want' t ∧ OFs w' w.heap.size vl Fs ∧ Only w w' (dfp d v) ∧ Onto w (dfp d v) (dfp d v')
def FeedRel (w : World) (d : Nat) (v : Value) (s : Sm) (n : Nat) (L : List (List Int)) (g5 : Nat) (g : Nat) (v7 v20 : Value) (W : World) : Prop :=
 ∃ (i : Nat) (v' : Value) (want' : Int) (t : Sm) (Fs : List Fr), v20 = .int .i64 (i : Int) ∧ Dc W d v' want' t ∧ OFs W w.heap.size v7 Fs ∧ Only w W (dfp d v) ∧ Onto w (dfp d v) (dfp d v') ∧ W.heap[g5]? = some (.cells (fv 0 0) 28 (0, 0)) ∧ i + g = n ∧ Hid (feedS (L.take i).flatten s = (t, Fs.map Fr.core))
theorem fault_only {W W1 : World} {g : Nat} {x y : Int} {S : Nat → Prop} (hX : W.heap[g]? = some (.cells (fv x y) 28 (0, 0))) (ho : Only W W1 S) (hS : ¬ S g) : W1.heap[g]? = some (.cells (fv x y) 28 (0, 0)) := ho.kept hX hS
theorem feed_ret {W : World} {tmps : Array Value} {g : Nat} {x y : Int} {vl : Value} (hp : tmps.getD 5 undef = .pointer (some ⟨g, 0, none⟩)) (hX : W.heap[g]? = some (.cells (fv x y) 28 (0, 0))) (hv : tmps.getD 4 undef = vl) :
  (results Tryz.f10 tmps).run Tryz.prog W = .ok (.tuple #[vl, .agg (fv x y)]) W :=
 results_tmp_cell (P := Tryz.prog) (fn := Tryz.f10) (p := 5) (u := 4) rfl tmps W g 28 (fv x y) (0, 0) _ hp hX Tryz.underlying28 rfl (fv_size x y) vl hv
theorem two_faults (w w1 W : World) (x y : Int) (hX : w1.heap[w.heap.size]? = some (.cells (fv 0 0) 28 (0, 0))) (hb : Below w.heap.size w w1) (hb2 : Below w1.heap.size w1 W) : ∃ W1 W2, W.alloc (.cells #[.int .i64 0, .int .i64 0] 28) = W1 ∧ (Instr.storeAt 28 (.pointer (some ⟨W.heap.size, 0, none⟩)) (.agg (fv x y))).run Tryz.prog W1 = .ok () W2 ∧ W2.heap[W.heap.size]? = some (.cells (fv x y) 28 (0, 0)) ∧ W2.heap[w.heap.size]? = some (.cells (fv 0 0) 28 (0, 0)) ∧ Below w.heap.size w W2 ∧ w.heap.size < W.heap.size := by
 obtain ⟨W1, W2, s0, s1, hY, hb3⟩ := fault_put W x y
 have hlt := lt_of_block hX
 refine ⟨W1, W2, s0, s1, hY, ?_, below_step (below_step hb hb2) hb3, by have := hb2.size; omega⟩
 exact (hb3.block _ (by have := hb2.size; omega)).trans ((hb2.block _ hlt).trans hX)
attribute [-go_sem] Instr.loadAt Instr.storeAt Instr.build
section
variable {w : World} {d : Nat} {v : Value} {want : Int} {s : Sm}
set_option maxHeartbeats 8000000 in
set_option maxRecDepth 100000 in
theorem feed_any (h : Dc w d v want s) (hw : s.why = 0) (A : Option Addr) (n c : Nat) (L : List (List Int)) (hP : PB w A n L (dfp d v)) (hl : L.flatten.length * 136 ≤ 140737488355328) (hcm : s.came + L.flatten.length ≤ 576460752303423488) (hwh : s.whole + L.flatten.length ≤ 576460752303423488) :
  Calls Tryz.prog 10 #[.pointer (some ⟨d, 0, none⟩), .slice A n c] w (FeedPost w d v s L.flatten) := by
 obtain ⟨w1, s0, hX, hb⟩ := fault_new w
 have hb0 := build_fault0
 have hne := neq_fault 0 0 true rfl
 have HB := Lib.hid hb
 have HX := Lib.hid hX
 have HH := Lib.hid h
 have HW := Lib.hid hw
 have HP := Lib.hid hP
 have HL := Lib.hid hl
 have HCM := Lib.hid hcm
 have HWH := Lib.hid hwh
 clear hb hX h hw hP hl hcm hwh
 go_enter Tryz.func10, Tryz.ntmps10
 go_upto_region 1 with (fail)
 clear s0
 go_wp2_with fail
 refine (closed_any (HH.out.below HB.out) 0 0 (by rw [if_neg (by simp [HW.out])])).mono ?_
 rintro e w2 ⟨rfl, hb2⟩
 obtain ⟨wa, w3, s0, s1, hY, hX3, hb3, hlt⟩ := two_faults w w1 w2 0 0 HX.out HB.out hb2
 clear HB HX hb2
 go_upto_region 2 with (fail)
 clear s0 s1
 have HB3 := Lib.hid hb3
 have HZ : Hid (FeedRel w d v s n L w.heap.size n (.slice none 0 0) (.int .i64 0) w3) := Lib.hid ⟨0, v, want, s, [], rfl, HH.out.below hb3, OFs.nil _ _, Only.of_below hb3 _, Onto.refl _ _, hX3, by omega, Lib.hid rfl⟩
 obtain ⟨g, hg⟩ : ∃ g, w.heap.size = g := ⟨_, rfl⟩
 obtain ⟨g2, hg2⟩ : ∃ g, w2.heap.size = g := ⟨_, rfl⟩
 rw [hg] at hX3 ⊢
 rw [hg2] at hY ⊢
 have HG : Hid (w.heap.size = g) := Lib.hid hg
 rw [hg] at HZ
 have HPM := Lib.hid HP.out.len
 clear hg hg2 hb3 hlt hX3
 have eY := get_fault hY
 clear hY
 go_wp2_with fail
 clear eY
 go_loopg [7, 20] n (fun gk v7 v20 w' => FeedRel w d v s n L g gk v7 v20 w')
 case atStart => exact HZ.out
 case round =>
  obtain ⟨i, v', want', t, Fs, rfl, hD, hO, ho, hon, hX5, hig, HS⟩ := hrel
  clear HZ
  have HIG := Lib.hid hig
  have HO := Lib.hid ho
  have HON := Lib.hid hon
  clear hig ho hon
  have HFC : Hid (t.came ≤ s.came + (L.take i).flatten.length ∧ t.whole ≤ s.whole + (L.take i).flatten.length ∧ Fs.length ≤ (L.take i).flatten.length) := Lib.hid (by
   have h1 := feed_came (L.take i).flatten s
   rw [HS.out, List.length_map] at h1
   exact ⟨h1.1, h1.2.2.2.1, h1.2.2.2.2⟩)
  by_cases hi : i < n
  ·have hP := HP.out.only HO.out HON.out
   obtain ⟨ad, Ai, ci, xs, hA, hc, hXi, hR, hf1, hf2⟩ := hP.at0 i hi
   have hi2 : (i : Int) < (n : Int) := by omega
   have hi1 : IntKind.i64.wrap ((i : Int) + 1) = (i : Int) + 1 := by rw [IntKind.wrap_i64]; have := hP.max; omega
   have HXI := Lib.hid hXi
   have HTF : Hid ((L.take i).flatten.length + xs.length ≤ L.flatten.length) := Lib.hid (by
    have h1 := take_flat L (i + 1)
    rw [flat_snoc hXi, List.length_append] at h1
    exact h1)
   obtain ⟨m, hm⟩ : ∃ m, xs.length = m := ⟨_, rfl⟩
   have HM := Lib.hid hm
   rw [hm] at hc hR hf2
   have e9 := load_bytes_cell hc
   subst hA
   clear hXi hP hm hc hf1
   go_wp2_with fail
   refine (some_any hD (m : Int) Ai m ci xs hR hf2 (by have := HTF.out; have := HL.out; have := HM.out; omega) (by have := HTF.out; have := HCM.out; have := HM.out; have := HFC.out; omega) (by have := HTF.out; have := HWH.out; have := HM.out; have := HFC.out; omega)).mono ?_
   rintro e w4 ⟨v4, vl, want4, t4, Gs, k, rfl, HT, hD4, hG4, ho4, hon4⟩
   have HTY := Lib.hid hD.toDb.typed
   have hO4 := hO.only ho4 HTY.out
   have hG5 : OFs w4 w.heap.size vl Gs := hG4.less HO.out.size
   have HO4 : Hid (Only w w4 (dfp d v)) := Lib.hid (HO.out.then_ ho4 HON.out)
   have HON4 : Hid (Onto w (dfp d v) (dfp d v4)) := Lib.hid (HON.out.trans hon4 HO.out.size)
   have HX4 : Hid (w4.heap[g]? = some (.cells (fv 0 0) 28 (0, 0))) := Lib.hid (fault_only hX5 ho4 (fun e => by
    rcases e with e | e
    ·rw [e, hD.toDb.blk] at hX5
     injection hX5 with hX5
     injection hX5 with _ hX5
     exact absurd hX5 (by decide)
    ·exact own_not hD.toDb.row.own hX5 (by decide) e))
   have HS4 : Hid (feedS (L.take (i + 1)).flatten s = (t4, (Fs ++ Gs).map Fr.core)) := Lib.hid (by
    have h1 := some_feed (m : Int) xs t 0 (by rw [HM.out]; omega)
    rw [HT.out] at h1
    rw [flat_snoc HXI.out, feed_append, HS.out]
    dsimp only at h1 ⊢
    rw [← h1.1, ← h1.2, List.map_append])
   have HLN : Hid ((Fs.length + Gs.length) * 136 ≤ 140737488355328) := Lib.hid (by
    have h1 := feed_came (L.take (i + 1)).flatten s
    rw [HS4.out] at h1
    have h2 := h1.2.2.2.2
    have h3 := take_flat L (i + 1)
    rw [List.length_map, List.length_append] at h2
    have := HL.out
    omega)
   clear hD hO hX5 hG4 ho4 hon4 hR hf2 e9
   go_wp2_with (at_builtin; refine push_frames (w0 := w4) w.heap.size rfl (.tmp 34) (.tmp 35) rfl rfl rfl hO4 hG5 (Below.refl _ _) HO4.out.size HLN.out ?_)
   intro v5 w5 hO5 _ hg5 _
   have ho5 : Only w4 w5 (rf u7) := (Only.refl _ _).grown hg5 (fun k e => .inl e)
   have HE : Hid (FeedRel w d v s n L g (gk - 1) v5 (.int .i64 ((i : Int) + 1)) w5) := Lib.hid (by
    have hty : ∀ k, dfp d v4 k → ¬ rf u7 k := fun k hk e => by
     obtain ⟨cs, t, hc, ht, _⟩ := hD4.toDb.typed k hk
     obtain ⟨cs', hc'⟩ := own_typed hO4.row e
     rw [hc] at hc'
     injection hc' with hc'
     injection hc' with _ hc'
     exact ht hc'
    refine ⟨i + 1, v4, want4, t4, Fs ++ Gs, by simp, hD4.only ho5 hty, hO5, HO4.out.then_ ho5 (fun k e => .inr (own_new hO4.row k e).1), HON4.out, fault_only HX4.out ho5 (own_not hO4.row HX4.out (by decide)), by have := HIG.out; omega, HS4⟩)
   clear hD4 hO4 hG5 hO5 hg5 ho5
   go_wp2_with fail
   go_roundg (gk - 1)
   case measure => have := HIG.out; omega
   case rel => exact HE.out
  ·have hi2 : ¬ (i : Int) < (n : Int) := by omega
   obtain rfl : i = n := by have := HIG.out; omega
   have hdr := below_drew (Below.refl wr.heap.size wr)
   have hD6 := hD.below hdr
   have hO6 := hO.below hdr
   have eP := hD6.toDb.poison
   have hX6 := fault_keep hX5 hdr
   have sX := put_fault t.why t.wat hX6
   have hXe := set_fault t.why t.wat hX6
   have HE : Hid (FeedPost w d v s L.flatten (.returned (.tuple #[u7, .agg (fv t.why t.wat)])) (wr.drew.setRow g (fv t.why t.wat))) := Lib.hid (by
    have hor := Fr.only_row wr.drew g (fv t.why t.wat)
    refine ⟨v', u7, want', t, Fs, rfl, Lib.hid ?_, hD6.only hor (fun k hk e => ?_), hO6.only hor (fun k e => by subst e; exact ⟨fv 0 0, 28, hX6, by decide, by decide⟩), (HO.out.below hdr).then_ hor (fun k e => .inr (by rw [e]; exact Nat.le_of_eq HG.out)), HON.out⟩
    ·have h := HS.out
     rw [List.take_of_length_le (by rw [HPM.out]; exact Nat.le_refl _)] at h
     exact h
    ·subst e
     rcases hk with e | e
     ·rw [e, hD6.toDb.blk] at hX6
      injection hX6 with hX6
      injection hX6 with _ hX6
      exact absurd hX6 (by decide)
     ·exact own_not hD6.toDb.row.own hX6 (by decide) e)
   clear hdr hD hO hX5 hD6 hO6 hX6 hi
   go_wp2_with fail
   go_region_law (fail)
   all_goals
    go_wp2_with fail
    exact bodyPost_ret (v := .tuple #[u7, .agg (fv t.why t.wat)]) (feed_ret rfl hXe rfl) rfl HE.out
end
end Go.Proofs.YtpjpgcjhdbiepaaGreat
end
section
namespace Go.Proofs.YtpjpgcjhdbiepaaGreat
open Go.RowKit Go.Kit CrcM Go.Proofs.YtpjpgcjhdbiepaaGreatW.PrintWords
theorem mid_cut (A : Option Addr) (n c m : Nat) (hm : m ≤ n) (hc : n ≤ c) : ∃ A' : Option Addr, (∀ W : World, (Instr.slice 22 (.slice A n c) (some (.int .i64 (m : Int))) none none).run Tryz.prog W = .ok (.slice A' (n - m) (c - m)) W) ∧
  (∀ (w : World) (xs : List Int), RB w A n xs → RB w A' (n - m) (xs.drop m)) ∧ ∀ a', A' = some a' → ∃ a, A = some a ∧ a.block = a'.block := by
 obtain ⟨i0, hi0, hz0, hz1, hz2⟩ := info_parts u8_info
 refine ⟨if c = m then A else A.map (·.add m), fun W => ?_, fun w xs h => ⟨h.rd.drop_ m hm hc, h.byt.drop m⟩, fun a' ha => ?_⟩
 ·have hel : Tryz.prog.elem 22 = 5 := by simp [Program.elem, Tryz.underlying22]
  have hu : Tryz.prog.underlying 22 = some (.slice (Tryz.prog.elem 22)) := by rw [hel]; exact Tryz.underlying22
  rw [run_slice_l W 22 A n c hu .i64 (m : Int) (Int.natCast_nonneg _) (by omega), hel]
  simp [sizeOf, typeInfo, hi0, hz1, sliced, Result.andThen]
 ·by_cases hcl : c = m
  ·rw [if_pos hcl] at ha; exact ⟨a', ha, rfl⟩
  ·rw [if_neg hcl] at ha
   cases A with
   | none => cases ha
   | some a => cases ha; exact ⟨a, rfl, (Go.Kit.add_block a m).symm⟩
theorem eql_fault (x y a b : Int) (c : Bool) (hc : ((x == a) && (y == b)) = c) (W : World) : (binOp .eql 28 (.agg #[.int .i64 x, .int .i64 y]) (.agg #[.int .i64 a, .int .i64 b])).run Tryz.prog W = .ok (.bool c) W := by
 have he : (Op.equalIn 10000 28 (.agg #[.int .i64 x, .int .i64 y]) (.agg #[.int .i64 a, .int .i64 b])).run Tryz.prog W = .ok c W := by
  subst hc
  by_cases h1 : x = a <;> by_cases h2 : y = b <;> go_simp
 simp [run_eql_struct W 28 _ _, he]
theorem bye_feed (s : Sm) (hw : s.why = 0) (hr : s.rest = []) (hm : 1 ≤ s.most) : feedS (encF byeF) s = ({ s with rest := [], came := s.came + 6, whole := s.whole + 1 }, [byeF.core]) := by
 have h := feed_whole bye_wf rfl bye_chk ⟨by decide, by decide, by decide⟩ s hw hr (by rw [bye_body]; exact hm)
 rw [bye_len] at h
 exact h
attribute [-go_sem] Instr.build
set_option maxHeartbeats 1000000 in
set_option maxRecDepth 100000 in
theorem lbye_any (w : World) : Calls Tryz.prog 33 #[] w fun e w' => ∃ v, e = .returned v ∧ OB 5 w' w.heap.size v (encF byeF) ∧ Below w.heap.size w w' := by
 have hbl := build_kind 5
 have cR := fun W => rEncode_any (f := byeF) (w := W) (bye_ok W) bye_wf (fun s hs => by cases hs)
 rw [bye_chk] at cR
 unfold Fr.val at cR
 rw [show (kF 5).arr = byeF.arr from rfl] at hbl
 generalize byeF.arr = FA at *
 go_enter Tryz.func33, Tryz.ntmps33
 go_wp2_with fail
 refine (cR _).mono ?_
 rintro e w1 ⟨v, rfl, hO, hb⟩
 go_wp2_with fail
 go_ret
 exact ⟨_, rfl, hO, hb⟩
theorem dfp_fault {W : World} {d g : Nat} {v : Value} {want : Int} {s : Sm} {x y : Int} (h : Db W d v want s) (hX : W.heap[g]? = some (.cells (fv x y) 28 (0, 0))) : ¬ dfp d v g := fun hk => by
 rcases hk with e | e
 ·rw [e, h.blk] at hX
  injection hX with hX
  injection hX with _ hX
  exact absurd hX (by decide)
 ·exact own_not h.row.own hX (by decide) e
def S1 : Sm := ⟨9, [], 6, 1, 0, 0⟩
def S2 : Sm := ⟨9, [128, 0], 8, 1, 5, 6⟩
theorem S1_is {xs : List Int} (h : encF byeF = xs) : feedS [xs.take 2, xs.drop 2].flatten (Sm.new 9) = (S1, [byeF.core]) := by
 rw [show [xs.take 2, xs.drop 2].flatten = xs by simp, ← h, bye_feed (Sm.new 9) rfl rfl (by decide)]
 rfl
theorem S2_is : feedS [[128, 0]].flatten S1 = (S2, []) := by kernel_rfl
attribute [-go_sem] Instr.loadAt Instr.storeAt run_slice_lh run_slice_any
set_option maxHeartbeats 16000000 in
set_option maxRecDepth 100000 in
theorem lawake_any (w : World) : Calls Tryz.prog 14 #[] w fun e w' => e = .returned (.bool true) ∧ Below w.heap.size w w' := by
 have cN : Calls Tryz.prog 7 #[.int .i64 9] w fun e w' => e = .returned (.tuple #[.pointer (some ⟨w.heap.size, 0, none⟩), .int .i64 0]) ∧ Dc w' w.heap.size (.slice none 0 0) 0 (Sm.new 9) ∧ Below w.heap.size w w' := dNew_any 9 (by decide) (by decide) w
 have cB := lbye_any
 obtain ⟨xs, hxs⟩ : ∃ xs, encF byeF = xs := ⟨_, rfl⟩
 rw [hxs] at cB
 obtain ⟨N, hN⟩ : ∃ N, xs.length = N := ⟨_, rfl⟩
 have HN6 : Hid (N = 6) := Lib.hid (by rw [← hN, ← hxs]; exact bye_len)
 have HFEED := Lib.hid (S1_is hxs)
 have HFL : Hid ([xs.take 2, xs.drop 2].flatten.length = 6) := Lib.hid (by rw [show [xs.take 2, xs.drop 2].flatten = xs by simp, hN]; exact HN6.out)
 have HN := Lib.hid hN
 clear hxs hN
 go_enter Tryz.func14, Tryz.ntmps14
 go_wp2_with fail
 refine cN.mono ?_
 rintro e w1 ⟨rfl, hD, hb⟩
 obtain ⟨d, hd⟩ : ∃ d, w.heap.size = d := ⟨_, rfl⟩
 have HDS : Hid (w.heap.size = d) := Lib.hid hd
 rw [hd] at hD ⊢
 clear cN hd
 have hN := HN.out
 go_upto_region 4 with (fail)
 have hdr := below_drew (Below.refl w1.heap.size w1)
 have hDw := hD.below hdr
 have hB := below_step hb hdr
 have hszwm0 : d + 1 ≤ w1.drew.heap.size := lt_of_block hDw.toDb.blk
 clear hdr hD hb
 refine wp_region_held_drew (S := fun _ => True) (by kernel_rfl) (trivial) (fun hHeld => ?_)
 generalize w1.drew = wm0 at *
 refine Go.Kit.tk 0 (.pointer (some ⟨d, 0, none⟩)) rfl ?_
 refine wpAnyH_ready (rs := [1, 10]) (by kernel_rfl) (by decide) (AllReadyH.cons (o := ⟨_, _, _, _, _, _⟩) rfl (fun K hK => ?_) (AllReadyH.cons (o := ⟨_, _, _, _, _, _⟩) rfl (fun K hK => ?_) AllReadyH.nil))
 ·skip
  rw [if_pos (by kernel_rfl)]
  go_simp
  refine (cB wm0).mono ?_
  rintro e wm1 ⟨v1, rfl, hOb, hbx⟩
  obtain ⟨A1, c1, rfl, hR1, hc1, hfr1⟩ := hOb.reads_from
  rw [hN] at hR1 hc1 ⊢
  replace hB := below_step hB hbx
  replace hDw := hDw.below hbx
  have hs1 : ∀ W : World, (Instr.slice 22 (.slice A1 N c1) none (some (.int .i64 2)) none).run Tryz.prog W = .ok (.slice A1 2 c1) W := fun W => head_bytes A1 N c1 2 (by have := HN6.out; omega) W
  have hl1 : ∀ a, A1 = some a → 0 < N → ¬ dfp d (.slice none 0 0) a.block := fun a e _ hk => by
   have h1 := hfr1 a e
   rcases hk with hk | hk
   ·have h2 := HDS.out; have h3 := hszwm0; rw [hk] at h1; omega
   ·cases hk
  have hszwm1 := Nat.le_trans hszwm0 hbx.size
  clear hOb hbx hfr1
  go_wp2_with fail
  refine hK.out _ _ (trivial) (fun hHeld => ?_)
  clear hK K
  try simp only [Act.put, List.setIfInBounds_toArray, List.set_cons_zero, List.set_cons_succ]
  refine Go.Kit.tk 2 (.slice A1 2 c1) rfl ?_
  refine wpAnyH_ready (rs := [3, 10]) (by kernel_rfl) (by decide) (AllReadyH.cons (o := ⟨_, _, _, _, _, _⟩) rfl (fun K hK => ?_) (AllReadyH.cons (o := ⟨_, _, _, _, _, _⟩) rfl (fun K hK => ?_) AllReadyH.nil))
  ·skip
   rw [if_pos (by kernel_rfl)]
   go_simp
   refine (cB wm1).mono ?_
   rintro e wm2 ⟨v3, rfl, hOb, hbx⟩
   obtain ⟨A3, c3, rfl, hR3, hc3, hfr3⟩ := hOb.reads_from
   rw [hN] at hR3 hc3 ⊢
   replace hB := below_step hB hbx
   replace hDw := hDw.below hbx
   replace hR1 := hR1.below hbx
   obtain ⟨A4, hs3a, hr3⟩ := mid_cut A3 N c3 2 (by have := HN6.out; omega) hc3
   have hs3 : ∀ W : World, (Instr.slice 22 (.slice A3 N c3) (some (.int .i64 2)) none none).run Tryz.prog W = .ok (.slice A4 (N - 2) (c3 - 2)) W := hs3a
   clear hs3a
   have hl3 : ∀ a, A3 = some a → 0 < N → ¬ dfp d (.slice none 0 0) a.block := fun a e _ hk => by
    have h1 := hfr3 a e
    rcases hk with hk | hk
    ·have h2 := HDS.out; have h3 := hszwm1; rw [hk] at h1; omega
    ·cases hk
   have hszwm2 := Nat.le_trans hszwm1 hbx.size
   clear hOb hbx hfr3
   go_wp2_with fail
   refine hK.out _ _ (trivial) (fun hHeld => ?_)
   clear hK K
   try simp only [Act.put, List.setIfInBounds_toArray, List.set_cons_zero, List.set_cons_succ]
   refine Go.Kit.tk 4 (.slice A4 (N - 2) (c3 - 2)) rfl ?_
   refine wpAnyH_ready (rs := [5, 10]) (by kernel_rfl) (by decide) (AllReadyH.cons (o := ⟨_, _, _, _, _, _⟩) rfl (fun K hK => ?_) (AllReadyH.cons (o := ⟨_, _, _, _, _, _⟩) rfl (fun K hK => ?_) AllReadyH.nil))
   ·skip
    rw [if_pos (by kernel_rfl)]
    go_simp
    have hP := PB.two (cap := c1) (cap2 := c3 - 2) 22 (RB.take_ hR1 2 (by have := HN6.out; omega)) (hr3.1 _ _ hR3) (fun a e _ => hl1 a e (by have := HN6.out; omega)) (fun a e _ => by obtain ⟨a0, e0, hb0⟩ := hr3.2 a e; rw [← hb0]; exact hl3 a0 e0 (by have := HN6.out; omega)) hDw.toDb.old
    have hbx := below_alloc (Below.refl _ wm2) (.cells #[.slice A1 2 c1, .slice A4 (N - 2) (c3 - 2)] 22)
    obtain ⟨gl, hgl⟩ : ∃ gl, wm2.heap.size = gl := ⟨_, rfl⟩
    rw [hgl] at hP ⊢
    replace hB := below_step hB hbx
    replace hDw := hDw.below hbx
    replace hR1 := hR1.below hbx
    replace hR3 := hR3.below hbx
    have hszwm3 := Nat.le_trans hszwm2 hbx.size
    generalize wm2.alloc (.cells #[.slice A1 2 c1, .slice A4 (N - 2) (c3 - 2)] 22) = wm3 at *
    clear hbx hgl
    refine hK.out _ _ (trivial) (fun hHeld => ?_)
    clear hK K
    try simp only [Act.put, List.setIfInBounds_toArray, List.set_cons_zero, List.set_cons_succ]
    refine wpAnyH_ready (rs := [6, 10]) (by kernel_rfl) (by decide) (AllReadyH.cons (o := ⟨_, _, _, _, _, _⟩) rfl (fun K hK => ?_) (AllReadyH.cons (o := ⟨_, _, _, _, _, _⟩) rfl (fun K hK => ?_) AllReadyH.nil))
    ·skip
     rw [if_pos (by kernel_rfl)]
     go_simp
     refine (feed_any hDw rfl (some ⟨gl, 0, none⟩) 2 2 [xs.take 2, xs.drop 2] hP (by have := HFL.out; omega) (by have := HFL.out; show 0 + _ ≤ _; omega) (by have := HFL.out; show 0 + _ ≤ _; omega)).mono ?_
     rintro e wm4 ⟨v7, vl, want7, t7, Fs, rfl, HF7, hD7, hO7, ho7, hon7⟩
     have hO7 := hO7.less hszwm3
     replace hB := Below.only hB ho7 hB.size (fun k hk => hk.elim (fun e => by rw [e]; exact Nat.le_of_eq HDS.out) (fun e => by cases e))
     have HE7 := HFEED.out.symm.trans HF7.out
     have ht7 : S1 = t7 := congrArg Prod.fst HE7
     have hf7 : [byeF.core] = Fs.map Fr.core := congrArg Prod.snd HE7
     subst ht7
     rw [show Value.agg (fv S1.why S1.wat) = .agg #[.int .i64 0, .int .i64 0] from rfl]
     obtain ⟨A7, c7, rfl⟩ := hO7.form
     obtain ⟨F, rfl⟩ : ∃ F, Fs = [F] := by
      cases Fs with
      | nil => simp at hf7
      | cons F r => cases r with
       | nil => exact ⟨F, rfl⟩
       | cons G r => simp at hf7
     have hszwm4 := Nat.le_trans hszwm3 ho7.size
     have HFK : Hid (F.k = 5) := Lib.hid (by have := congrArg (fun l : List Fr => l.map Fr.k) hf7; simp [Fr.core] at this; exact this.symm)
     have hd7 : ∀ k, dfp d v7 k → w.heap.size ≤ k := fun k hk => (hon7 k hk).elim (fun e => e.elim (fun e => by rw [e]; exact Nat.le_of_eq HDS.out) (fun e => by cases e)) (fun e => by have := hszwm3; have := HDS.out; omega)
     clear HF7 HE7 hf7 ho7 hon7 hDw hP hR1 hR3
     go_wp2_with fail
     refine hK.out _ _ (trivial) (fun hHeld => ?_)
     clear hK K
     try simp only [Act.put, List.setIfInBounds_toArray, List.set_cons_zero, List.set_cons_succ]
     refine Go.Kit.tk 7 (.tuple #[.slice A7 1 c7, .agg #[.int .i64 0, .int .i64 0]]) rfl ?_
     refine Go.Kit.tk 8 (.slice A7 1 c7) rfl ?_
     refine Go.Kit.tk 9 (.agg #[.int .i64 0, .int .i64 0]) rfl ?_
     refine wpAnyH_ready (rs := [10]) (by kernel_rfl) (by decide) (AllReadyH.cons (o := ⟨_, _, _, _, _, _⟩) rfl (fun K hK => ?_) AllReadyH.nil)
     rw [if_pos (by kernel_rfl)]
     go_simp
     obtain ⟨wm5, s0, hX4, hbx⟩ := fault_new wm4
     rw [s0]
     obtain ⟨g4, hg4⟩ : ∃ g4, wm4.heap.size = g4 := ⟨_, rfl⟩
     have hg4l : w.heap.size ≤ g4 := by have := hszwm4; have := HDS.out; omega
     rw [hg4] at hX4 ⊢
     replace hB := below_step hB hbx
     replace hD7 := hD7.below hbx
     replace hO7 := hO7.below hbx
     have hszwm5 := Nat.le_trans hszwm4 hbx.size
     clear hbx hg4 s0
     refine hK.out _ _ (trivial) (fun hHeld => ?_)
     clear hK K
     try simp only [Act.put, List.setIfInBounds_toArray, List.set_cons_zero, List.set_cons_succ]
     refine Go.Kit.tk 11 (.slice A7 1 c7) rfl ?_
     refine wpAnyH_ready (rs := [12]) (by kernel_rfl) (by decide) (AllReadyH.cons (o := ⟨_, _, _, _, _, _⟩) rfl (fun K hK => ?_) AllReadyH.nil)
     have s4 := put_fault 0 0 hX4
     have hX5 := set_fault 0 0 hX4
     rw [if_pos (by kernel_rfl)]
     go_simp
     refine hK.out _ _ (trivial) (fun hHeld => ?_)
     clear hK K
     try simp only [Act.put, List.setIfInBounds_toArray, List.set_cons_zero, List.set_cons_succ]
     refine wpAnyH_done (by kernel_rfl) ?_ _
     have hor := Fr.only_row wm5 g4 (fv 0 0)
     have hD8 := hD7.only hor (fun k hk e => dfp_fault hD7.toDb hX4 (e ▸ hk))
     have hO8 := hO7.only hor (fun k e => by subst e; exact ⟨fv 0 0, 28, hX4, by decide, by decide⟩)
     have hB8 := Below.only hB hor hB.size (fun k e => by rw [e]; exact hg4l)
     clear hor hX4 hD7 hO7 hB
     generalize wm5.setRow g4 (fv 0 0) = w8 at *
     have hb9 := below_alloc (below_alloc (Below.refl _ w8) (.cells #[.int .u8 128, .int .u8 0] 5)) (.cells #[.slice (some ⟨w8.heap.size, 0, none⟩) 2 2] 22)
     have hP9 : PB ((w8.alloc (.cells #[.int .u8 128, .int .u8 0] 5)).alloc (.cells #[.slice (some ⟨w8.heap.size, 0, none⟩) 2 2] 22)) (some ⟨w8.heap.size + 1, 0, none⟩) 1 [[128, 0]] (dfp d v7) := by
      have h1 : RB (w8.alloc (.cells #[.int .u8 128, .int .u8 0] 5)) (some ⟨w8.heap.size, 0, none⟩) 2 [128, 0] := RB.lit w8 [128, 0] (fun x hx => by simp at hx; omega) (by decide) _ _
      have h2 := PB.one (cap := 2) (F := dfp d v7) 22 h1 (fun a e _ hk => by cases e; have := hD8.toDb.old _ hk; exact absurd this (Nat.lt_irrefl _)) (hD8.toDb.old.later (by simp))
      simpa using h2
     have hD9 := hD8.below hb9
     have hO9 := hO8.below hb9
     have hB9 := below_step hB8 hb9
     have hX9 := fault_keep hX5 hb9
     clear hD8 hO8 hB8 hX5 hb9
     go_wp2_with fail
     refine (feed_any hD9 rfl _ 1 1 [[128, 0]] hP9 (by decide) (by decide) (by decide)).mono ?_
     rintro e wf ⟨vf, vlf, wantf, tf, Gs, rfl, HFf, hDf, hOf, hof, honf⟩
     have htf : S2 = tf := congrArg Prod.fst (S2_is.symm.trans HFf.out)
     subst htf
     rw [show Value.agg (fv S2.why S2.wat) = .agg (fv 5 6) from rfl]
     have hO10 := hO9.only hof hD9.toDb.typed
     have hB10 := Below.only hB9 hof hB9.size (fun k hk => hd7 k hk)
     have hX10 := fault_only hX9 hof (dfp_fault hD9.toDb hX9)
     obtain ⟨g7, F2, hA7, hF2, _, _, _, _, hcells⟩ := hO10.at_ rfl 0 Nat.one_pos
     have hF2e : F = F2 := by simpa using hF2
     subst hF2e
     have hc7 : wf.cell? ⟨g7, 0, none⟩ = some (.int .i64 5) := by have := hcells 0 (.int .i64 F.k) rfl; rw [HFK.out] at this; exact this
     subst hA7
     obtain ⟨wg, wh, s0, s1, hX11, hb11⟩ := fault_put wf 5 6
     have HX11 := Lib.hid hX11
     have HB11 := Lib.hid (below_step hB10 hb11)
     have hX12 := fault_keep hX10 hb11
     have hc12 := pw_cell_below hb11 hc7
     clear hD9 hO9 hB9 hX9 HFf hDf hOf hof honf hO10 hB10 hX10 hF2 hcells hc7 hP9 hb11 hX11
     go_upto_region 6 with (fail)
     clear s0 s1
     have eX := get_fault hX12
     have eY := get_fault HX11.out
     have e7 := load_cell_int hc12
     have hb0 := build_fault0
     have hbf := build_fault
     have q1 := eql_fault 0 0 0 0 true rfl
     have q2 := eql_fault 5 6 5 6 true rfl
     clear hX12 hc12
     go_wp2_with fail
     go_ret
     exact ⟨rfl, HB11.out⟩
    ·skip
     rw [if_pos (by kernel_rfl)]
     go_simp
     obtain ⟨wm4, s0, hX4, hbx⟩ := fault_new wm3
     rw [s0]
     obtain ⟨g4, hg4⟩ : ∃ g4, wm3.heap.size = g4 := ⟨_, rfl⟩
     have hg4l : w.heap.size ≤ g4 := by have := hszwm3; have := HDS.out; omega
     rw [hg4] at hX4 ⊢
     replace hB := below_step hB hbx
     replace hDw := hDw.below hbx
     replace hR1 := hR1.below hbx
     replace hR3 := hR3.below hbx
     replace hP := hP.below hbx
     have hszwm4 := Nat.le_trans hszwm3 hbx.size
     clear hbx hg4 s0
     refine hK.out _ _ (trivial) (fun hHeld => ?_)
     clear hK K
     try simp only [Act.put, List.setIfInBounds_toArray, List.set_cons_zero, List.set_cons_succ]
     refine wpAnyH_ready (rs := [6]) (by kernel_rfl) (by decide) (AllReadyH.cons (o := ⟨_, _, _, _, _, _⟩) rfl (fun K hK => ?_) AllReadyH.nil)
     rw [if_pos (by kernel_rfl)]
     go_simp
     refine (feed_any hDw rfl (some ⟨gl, 0, none⟩) 2 2 [xs.take 2, xs.drop 2] hP (by have := HFL.out; omega) (by have := HFL.out; show 0 + _ ≤ _; omega) (by have := HFL.out; show 0 + _ ≤ _; omega)).mono ?_
     rintro e wm5 ⟨v7, vl, want7, t7, Fs, rfl, HF7, hD7, hO7, ho7, hon7⟩
     have hO7 := hO7.less hszwm4
     replace hB := Below.only hB ho7 hB.size (fun k hk => hk.elim (fun e => by rw [e]; exact Nat.le_of_eq HDS.out) (fun e => by cases e))
     replace hX4 := fault_only hX4 ho7 (dfp_fault hDw.toDb hX4)
     have HE7 := HFEED.out.symm.trans HF7.out
     have ht7 : S1 = t7 := congrArg Prod.fst HE7
     have hf7 : [byeF.core] = Fs.map Fr.core := congrArg Prod.snd HE7
     subst ht7
     rw [show Value.agg (fv S1.why S1.wat) = .agg #[.int .i64 0, .int .i64 0] from rfl]
     obtain ⟨A7, c7, rfl⟩ := hO7.form
     obtain ⟨F, rfl⟩ : ∃ F, Fs = [F] := by
      cases Fs with
      | nil => simp at hf7
      | cons F r => cases r with
       | nil => exact ⟨F, rfl⟩
       | cons G r => simp at hf7
     have hszwm5 := Nat.le_trans hszwm4 ho7.size
     have HFK : Hid (F.k = 5) := Lib.hid (by have := congrArg (fun l : List Fr => l.map Fr.k) hf7; simp [Fr.core] at this; exact this.symm)
     have hd7 : ∀ k, dfp d v7 k → w.heap.size ≤ k := fun k hk => (hon7 k hk).elim (fun e => e.elim (fun e => by rw [e]; exact Nat.le_of_eq HDS.out) (fun e => by cases e)) (fun e => by have := hszwm4; have := HDS.out; omega)
     clear HF7 HE7 hf7 ho7 hon7 hDw hP hR1 hR3
     go_wp2_with fail
     refine hK.out _ _ (trivial) (fun hHeld => ?_)
     clear hK K
     try simp only [Act.put, List.setIfInBounds_toArray, List.set_cons_zero, List.set_cons_succ]
     refine Go.Kit.tk 7 (.tuple #[.slice A7 1 c7, .agg #[.int .i64 0, .int .i64 0]]) rfl ?_
     refine Go.Kit.tk 8 (.slice A7 1 c7) rfl ?_
     refine Go.Kit.tk 9 (.agg #[.int .i64 0, .int .i64 0]) rfl ?_
     refine Go.Kit.tk 11 (.slice A7 1 c7) rfl ?_
     refine wpAnyH_ready (rs := [12]) (by kernel_rfl) (by decide) (AllReadyH.cons (o := ⟨_, _, _, _, _, _⟩) rfl (fun K hK => ?_) AllReadyH.nil)
     have s4 := put_fault 0 0 hX4
     have hX5 := set_fault 0 0 hX4
     rw [if_pos (by kernel_rfl)]
     go_simp
     refine hK.out _ _ (trivial) (fun hHeld => ?_)
     clear hK K
     try simp only [Act.put, List.setIfInBounds_toArray, List.set_cons_zero, List.set_cons_succ]
     refine wpAnyH_done (by kernel_rfl) ?_ _
     have hor := Fr.only_row wm5 g4 (fv 0 0)
     have hD8 := hD7.only hor (fun k hk e => dfp_fault hD7.toDb hX4 (e ▸ hk))
     have hO8 := hO7.only hor (fun k e => by subst e; exact ⟨fv 0 0, 28, hX4, by decide, by decide⟩)
     have hB8 := Below.only hB hor hB.size (fun k e => by rw [e]; exact hg4l)
     clear hor hX4 hD7 hO7 hB
     generalize wm5.setRow g4 (fv 0 0) = w8 at *
     have hb9 := below_alloc (below_alloc (Below.refl _ w8) (.cells #[.int .u8 128, .int .u8 0] 5)) (.cells #[.slice (some ⟨w8.heap.size, 0, none⟩) 2 2] 22)
     have hP9 : PB ((w8.alloc (.cells #[.int .u8 128, .int .u8 0] 5)).alloc (.cells #[.slice (some ⟨w8.heap.size, 0, none⟩) 2 2] 22)) (some ⟨w8.heap.size + 1, 0, none⟩) 1 [[128, 0]] (dfp d v7) := by
      have h1 : RB (w8.alloc (.cells #[.int .u8 128, .int .u8 0] 5)) (some ⟨w8.heap.size, 0, none⟩) 2 [128, 0] := RB.lit w8 [128, 0] (fun x hx => by simp at hx; omega) (by decide) _ _
      have h2 := PB.one (cap := 2) (F := dfp d v7) 22 h1 (fun a e _ hk => by cases e; have := hD8.toDb.old _ hk; exact absurd this (Nat.lt_irrefl _)) (hD8.toDb.old.later (by simp))
      simpa using h2
     have hD9 := hD8.below hb9
     have hO9 := hO8.below hb9
     have hB9 := below_step hB8 hb9
     have hX9 := fault_keep hX5 hb9
     clear hD8 hO8 hB8 hX5 hb9
     go_wp2_with fail
     refine (feed_any hD9 rfl _ 1 1 [[128, 0]] hP9 (by decide) (by decide) (by decide)).mono ?_
     rintro e wf ⟨vf, vlf, wantf, tf, Gs, rfl, HFf, hDf, hOf, hof, honf⟩
     have htf : S2 = tf := congrArg Prod.fst (S2_is.symm.trans HFf.out)
     subst htf
     rw [show Value.agg (fv S2.why S2.wat) = .agg (fv 5 6) from rfl]
     have hO10 := hO9.only hof hD9.toDb.typed
     have hB10 := Below.only hB9 hof hB9.size (fun k hk => hd7 k hk)
     have hX10 := fault_only hX9 hof (dfp_fault hD9.toDb hX9)
     obtain ⟨g7, F2, hA7, hF2, _, _, _, _, hcells⟩ := hO10.at_ rfl 0 Nat.one_pos
     have hF2e : F = F2 := by simpa using hF2
     subst hF2e
     have hc7 : wf.cell? ⟨g7, 0, none⟩ = some (.int .i64 5) := by have := hcells 0 (.int .i64 F.k) rfl; rw [HFK.out] at this; exact this
     subst hA7
     obtain ⟨wg, wh, s0, s1, hX11, hb11⟩ := fault_put wf 5 6
     have HX11 := Lib.hid hX11
     have HB11 := Lib.hid (below_step hB10 hb11)
     have hX12 := fault_keep hX10 hb11
     have hc12 := pw_cell_below hb11 hc7
     clear hD9 hO9 hB9 hX9 HFf hDf hOf hof honf hO10 hB10 hX10 hF2 hcells hc7 hP9 hb11 hX11
     go_upto_region 6 with (fail)
     clear s0 s1
     have eX := get_fault hX12
     have eY := get_fault HX11.out
     have e7 := load_cell_int hc12
     have hb0 := build_fault0
     have hbf := build_fault
     have q1 := eql_fault 0 0 0 0 true rfl
     have q2 := eql_fault 5 6 5 6 true rfl
     clear hX12 hc12
     go_wp2_with fail
     go_ret
     exact ⟨rfl, HB11.out⟩
   ·skip
    rw [if_pos (by kernel_rfl)]
    go_simp
    obtain ⟨wm3, s0, hX4, hbx⟩ := fault_new wm2
    rw [s0]
    obtain ⟨g4, hg4⟩ : ∃ g4, wm2.heap.size = g4 := ⟨_, rfl⟩
    have hg4l : w.heap.size ≤ g4 := by have := hszwm2; have := HDS.out; omega
    rw [hg4] at hX4 ⊢
    replace hB := below_step hB hbx
    replace hDw := hDw.below hbx
    replace hR1 := hR1.below hbx
    replace hR3 := hR3.below hbx
    have hszwm3 := Nat.le_trans hszwm2 hbx.size
    clear hbx hg4 s0
    refine hK.out _ _ (trivial) (fun hHeld => ?_)
    clear hK K
    try simp only [Act.put, List.setIfInBounds_toArray, List.set_cons_zero, List.set_cons_succ]
    refine wpAnyH_ready (rs := [5]) (by kernel_rfl) (by decide) (AllReadyH.cons (o := ⟨_, _, _, _, _, _⟩) rfl (fun K hK => ?_) AllReadyH.nil)
    rw [if_pos (by kernel_rfl)]
    go_simp
    have hP := PB.two (cap := c1) (cap2 := c3 - 2) 22 (RB.take_ hR1 2 (by have := HN6.out; omega)) (hr3.1 _ _ hR3) (fun a e _ => hl1 a e (by have := HN6.out; omega)) (fun a e _ => by obtain ⟨a0, e0, hb0⟩ := hr3.2 a e; rw [← hb0]; exact hl3 a0 e0 (by have := HN6.out; omega)) hDw.toDb.old
    have hbx := below_alloc (Below.refl _ wm3) (.cells #[.slice A1 2 c1, .slice A4 (N - 2) (c3 - 2)] 22)
    obtain ⟨gl, hgl⟩ : ∃ gl, wm3.heap.size = gl := ⟨_, rfl⟩
    rw [hgl] at hP ⊢
    replace hB := below_step hB hbx
    replace hDw := hDw.below hbx
    replace hR1 := hR1.below hbx
    replace hR3 := hR3.below hbx
    replace hX4 := fault_keep hX4 hbx
    have hszwm4 := Nat.le_trans hszwm3 hbx.size
    generalize wm3.alloc (.cells #[.slice A1 2 c1, .slice A4 (N - 2) (c3 - 2)] 22) = wm4 at *
    clear hbx hgl
    refine hK.out _ _ (trivial) (fun hHeld => ?_)
    clear hK K
    try simp only [Act.put, List.setIfInBounds_toArray, List.set_cons_zero, List.set_cons_succ]
    refine wpAnyH_ready (rs := [6]) (by kernel_rfl) (by decide) (AllReadyH.cons (o := ⟨_, _, _, _, _, _⟩) rfl (fun K hK => ?_) AllReadyH.nil)
    rw [if_pos (by kernel_rfl)]
    go_simp
    refine (feed_any hDw rfl (some ⟨gl, 0, none⟩) 2 2 [xs.take 2, xs.drop 2] hP (by have := HFL.out; omega) (by have := HFL.out; show 0 + _ ≤ _; omega) (by have := HFL.out; show 0 + _ ≤ _; omega)).mono ?_
    rintro e wm5 ⟨v7, vl, want7, t7, Fs, rfl, HF7, hD7, hO7, ho7, hon7⟩
    have hO7 := hO7.less hszwm4
    replace hB := Below.only hB ho7 hB.size (fun k hk => hk.elim (fun e => by rw [e]; exact Nat.le_of_eq HDS.out) (fun e => by cases e))
    replace hX4 := fault_only hX4 ho7 (dfp_fault hDw.toDb hX4)
    have HE7 := HFEED.out.symm.trans HF7.out
    have ht7 : S1 = t7 := congrArg Prod.fst HE7
    have hf7 : [byeF.core] = Fs.map Fr.core := congrArg Prod.snd HE7
    subst ht7
    rw [show Value.agg (fv S1.why S1.wat) = .agg #[.int .i64 0, .int .i64 0] from rfl]
    obtain ⟨A7, c7, rfl⟩ := hO7.form
    obtain ⟨F, rfl⟩ : ∃ F, Fs = [F] := by
     cases Fs with
     | nil => simp at hf7
     | cons F r => cases r with
      | nil => exact ⟨F, rfl⟩
      | cons G r => simp at hf7
    have hszwm5 := Nat.le_trans hszwm4 ho7.size
    have HFK : Hid (F.k = 5) := Lib.hid (by have := congrArg (fun l : List Fr => l.map Fr.k) hf7; simp [Fr.core] at this; exact this.symm)
    have hd7 : ∀ k, dfp d v7 k → w.heap.size ≤ k := fun k hk => (hon7 k hk).elim (fun e => e.elim (fun e => by rw [e]; exact Nat.le_of_eq HDS.out) (fun e => by cases e)) (fun e => by have := hszwm4; have := HDS.out; omega)
    clear HF7 HE7 hf7 ho7 hon7 hDw hP hR1 hR3
    go_wp2_with fail
    refine hK.out _ _ (trivial) (fun hHeld => ?_)
    clear hK K
    try simp only [Act.put, List.setIfInBounds_toArray, List.set_cons_zero, List.set_cons_succ]
    refine Go.Kit.tk 7 (.tuple #[.slice A7 1 c7, .agg #[.int .i64 0, .int .i64 0]]) rfl ?_
    refine Go.Kit.tk 8 (.slice A7 1 c7) rfl ?_
    refine Go.Kit.tk 9 (.agg #[.int .i64 0, .int .i64 0]) rfl ?_
    refine Go.Kit.tk 11 (.slice A7 1 c7) rfl ?_
    refine wpAnyH_ready (rs := [12]) (by kernel_rfl) (by decide) (AllReadyH.cons (o := ⟨_, _, _, _, _, _⟩) rfl (fun K hK => ?_) AllReadyH.nil)
    have s4 := put_fault 0 0 hX4
    have hX5 := set_fault 0 0 hX4
    rw [if_pos (by kernel_rfl)]
    go_simp
    refine hK.out _ _ (trivial) (fun hHeld => ?_)
    clear hK K
    try simp only [Act.put, List.setIfInBounds_toArray, List.set_cons_zero, List.set_cons_succ]
    refine wpAnyH_done (by kernel_rfl) ?_ _
    have hor := Fr.only_row wm5 g4 (fv 0 0)
    have hD8 := hD7.only hor (fun k hk e => dfp_fault hD7.toDb hX4 (e ▸ hk))
    have hO8 := hO7.only hor (fun k e => by subst e; exact ⟨fv 0 0, 28, hX4, by decide, by decide⟩)
    have hB8 := Below.only hB hor hB.size (fun k e => by rw [e]; exact hg4l)
    clear hor hX4 hD7 hO7 hB
    generalize wm5.setRow g4 (fv 0 0) = w8 at *
    have hb9 := below_alloc (below_alloc (Below.refl _ w8) (.cells #[.int .u8 128, .int .u8 0] 5)) (.cells #[.slice (some ⟨w8.heap.size, 0, none⟩) 2 2] 22)
    have hP9 : PB ((w8.alloc (.cells #[.int .u8 128, .int .u8 0] 5)).alloc (.cells #[.slice (some ⟨w8.heap.size, 0, none⟩) 2 2] 22)) (some ⟨w8.heap.size + 1, 0, none⟩) 1 [[128, 0]] (dfp d v7) := by
     have h1 : RB (w8.alloc (.cells #[.int .u8 128, .int .u8 0] 5)) (some ⟨w8.heap.size, 0, none⟩) 2 [128, 0] := RB.lit w8 [128, 0] (fun x hx => by simp at hx; omega) (by decide) _ _
     have h2 := PB.one (cap := 2) (F := dfp d v7) 22 h1 (fun a e _ hk => by cases e; have := hD8.toDb.old _ hk; exact absurd this (Nat.lt_irrefl _)) (hD8.toDb.old.later (by simp))
     simpa using h2
    have hD9 := hD8.below hb9
    have hO9 := hO8.below hb9
    have hB9 := below_step hB8 hb9
    have hX9 := fault_keep hX5 hb9
    clear hD8 hO8 hB8 hX5 hb9
    go_wp2_with fail
    refine (feed_any hD9 rfl _ 1 1 [[128, 0]] hP9 (by decide) (by decide) (by decide)).mono ?_
    rintro e wf ⟨vf, vlf, wantf, tf, Gs, rfl, HFf, hDf, hOf, hof, honf⟩
    have htf : S2 = tf := congrArg Prod.fst (S2_is.symm.trans HFf.out)
    subst htf
    rw [show Value.agg (fv S2.why S2.wat) = .agg (fv 5 6) from rfl]
    have hO10 := hO9.only hof hD9.toDb.typed
    have hB10 := Below.only hB9 hof hB9.size (fun k hk => hd7 k hk)
    have hX10 := fault_only hX9 hof (dfp_fault hD9.toDb hX9)
    obtain ⟨g7, F2, hA7, hF2, _, _, _, _, hcells⟩ := hO10.at_ rfl 0 Nat.one_pos
    have hF2e : F = F2 := by simpa using hF2
    subst hF2e
    have hc7 : wf.cell? ⟨g7, 0, none⟩ = some (.int .i64 5) := by have := hcells 0 (.int .i64 F.k) rfl; rw [HFK.out] at this; exact this
    subst hA7
    obtain ⟨wg, wh, s0, s1, hX11, hb11⟩ := fault_put wf 5 6
    have HX11 := Lib.hid hX11
    have HB11 := Lib.hid (below_step hB10 hb11)
    have hX12 := fault_keep hX10 hb11
    have hc12 := pw_cell_below hb11 hc7
    clear hD9 hO9 hB9 hX9 HFf hDf hOf hof honf hO10 hB10 hX10 hF2 hcells hc7 hP9 hb11 hX11
    go_upto_region 6 with (fail)
    clear s0 s1
    have eX := get_fault hX12
    have eY := get_fault HX11.out
    have e7 := load_cell_int hc12
    have hb0 := build_fault0
    have hbf := build_fault
    have q1 := eql_fault 0 0 0 0 true rfl
    have q2 := eql_fault 5 6 5 6 true rfl
    clear hX12 hc12
    go_wp2_with fail
    go_ret
    exact ⟨rfl, HB11.out⟩
  ·skip
   rw [if_pos (by kernel_rfl)]
   go_simp
   obtain ⟨wm2, s0, hX4, hbx⟩ := fault_new wm1
   rw [s0]
   obtain ⟨g4, hg4⟩ : ∃ g4, wm1.heap.size = g4 := ⟨_, rfl⟩
   have hg4l : w.heap.size ≤ g4 := by have := hszwm1; have := HDS.out; omega
   rw [hg4] at hX4 ⊢
   replace hB := below_step hB hbx
   replace hDw := hDw.below hbx
   replace hR1 := hR1.below hbx
   have hszwm2 := Nat.le_trans hszwm1 hbx.size
   clear hbx hg4 s0
   refine hK.out _ _ (trivial) (fun hHeld => ?_)
   clear hK K
   try simp only [Act.put, List.setIfInBounds_toArray, List.set_cons_zero, List.set_cons_succ]
   refine wpAnyH_ready (rs := [3]) (by kernel_rfl) (by decide) (AllReadyH.cons (o := ⟨_, _, _, _, _, _⟩) rfl (fun K hK => ?_) AllReadyH.nil)
   rw [if_pos (by kernel_rfl)]
   go_simp
   refine (cB wm2).mono ?_
   rintro e wm3 ⟨v3, rfl, hOb, hbx⟩
   obtain ⟨A3, c3, rfl, hR3, hc3, hfr3⟩ := hOb.reads_from
   rw [hN] at hR3 hc3 ⊢
   replace hB := below_step hB hbx
   replace hDw := hDw.below hbx
   replace hR1 := hR1.below hbx
   replace hX4 := fault_keep hX4 hbx
   obtain ⟨A4, hs3a, hr3⟩ := mid_cut A3 N c3 2 (by have := HN6.out; omega) hc3
   have hs3 : ∀ W : World, (Instr.slice 22 (.slice A3 N c3) (some (.int .i64 2)) none none).run Tryz.prog W = .ok (.slice A4 (N - 2) (c3 - 2)) W := hs3a
   clear hs3a
   have hl3 : ∀ a, A3 = some a → 0 < N → ¬ dfp d (.slice none 0 0) a.block := fun a e _ hk => by
    have h1 := hfr3 a e
    rcases hk with hk | hk
    ·have h2 := HDS.out; have h3 := hszwm2; rw [hk] at h1; omega
    ·cases hk
   have hszwm3 := Nat.le_trans hszwm2 hbx.size
   clear hOb hbx hfr3
   go_wp2_with fail
   refine hK.out _ _ (trivial) (fun hHeld => ?_)
   clear hK K
   try simp only [Act.put, List.setIfInBounds_toArray, List.set_cons_zero, List.set_cons_succ]
   refine Go.Kit.tk 4 (.slice A4 (N - 2) (c3 - 2)) rfl ?_
   refine wpAnyH_ready (rs := [5]) (by kernel_rfl) (by decide) (AllReadyH.cons (o := ⟨_, _, _, _, _, _⟩) rfl (fun K hK => ?_) AllReadyH.nil)
   rw [if_pos (by kernel_rfl)]
   go_simp
   have hP := PB.two (cap := c1) (cap2 := c3 - 2) 22 (RB.take_ hR1 2 (by have := HN6.out; omega)) (hr3.1 _ _ hR3) (fun a e _ => hl1 a e (by have := HN6.out; omega)) (fun a e _ => by obtain ⟨a0, e0, hb0⟩ := hr3.2 a e; rw [← hb0]; exact hl3 a0 e0 (by have := HN6.out; omega)) hDw.toDb.old
   have hbx := below_alloc (Below.refl _ wm3) (.cells #[.slice A1 2 c1, .slice A4 (N - 2) (c3 - 2)] 22)
   obtain ⟨gl, hgl⟩ : ∃ gl, wm3.heap.size = gl := ⟨_, rfl⟩
   rw [hgl] at hP ⊢
   replace hB := below_step hB hbx
   replace hDw := hDw.below hbx
   replace hR1 := hR1.below hbx
   replace hR3 := hR3.below hbx
   replace hX4 := fault_keep hX4 hbx
   have hszwm4 := Nat.le_trans hszwm3 hbx.size
   generalize wm3.alloc (.cells #[.slice A1 2 c1, .slice A4 (N - 2) (c3 - 2)] 22) = wm4 at *
   clear hbx hgl
   refine hK.out _ _ (trivial) (fun hHeld => ?_)
   clear hK K
   try simp only [Act.put, List.setIfInBounds_toArray, List.set_cons_zero, List.set_cons_succ]
   refine wpAnyH_ready (rs := [6]) (by kernel_rfl) (by decide) (AllReadyH.cons (o := ⟨_, _, _, _, _, _⟩) rfl (fun K hK => ?_) AllReadyH.nil)
   rw [if_pos (by kernel_rfl)]
   go_simp
   refine (feed_any hDw rfl (some ⟨gl, 0, none⟩) 2 2 [xs.take 2, xs.drop 2] hP (by have := HFL.out; omega) (by have := HFL.out; show 0 + _ ≤ _; omega) (by have := HFL.out; show 0 + _ ≤ _; omega)).mono ?_
   rintro e wm5 ⟨v7, vl, want7, t7, Fs, rfl, HF7, hD7, hO7, ho7, hon7⟩
   have hO7 := hO7.less hszwm4
   replace hB := Below.only hB ho7 hB.size (fun k hk => hk.elim (fun e => by rw [e]; exact Nat.le_of_eq HDS.out) (fun e => by cases e))
   replace hX4 := fault_only hX4 ho7 (dfp_fault hDw.toDb hX4)
   have HE7 := HFEED.out.symm.trans HF7.out
   have ht7 : S1 = t7 := congrArg Prod.fst HE7
   have hf7 : [byeF.core] = Fs.map Fr.core := congrArg Prod.snd HE7
   subst ht7
   rw [show Value.agg (fv S1.why S1.wat) = .agg #[.int .i64 0, .int .i64 0] from rfl]
   obtain ⟨A7, c7, rfl⟩ := hO7.form
   obtain ⟨F, rfl⟩ : ∃ F, Fs = [F] := by
    cases Fs with
    | nil => simp at hf7
    | cons F r => cases r with
     | nil => exact ⟨F, rfl⟩
     | cons G r => simp at hf7
   have hszwm5 := Nat.le_trans hszwm4 ho7.size
   have HFK : Hid (F.k = 5) := Lib.hid (by have := congrArg (fun l : List Fr => l.map Fr.k) hf7; simp [Fr.core] at this; exact this.symm)
   have hd7 : ∀ k, dfp d v7 k → w.heap.size ≤ k := fun k hk => (hon7 k hk).elim (fun e => e.elim (fun e => by rw [e]; exact Nat.le_of_eq HDS.out) (fun e => by cases e)) (fun e => by have := hszwm4; have := HDS.out; omega)
   clear HF7 HE7 hf7 ho7 hon7 hDw hP hR1 hR3
   go_wp2_with fail
   refine hK.out _ _ (trivial) (fun hHeld => ?_)
   clear hK K
   try simp only [Act.put, List.setIfInBounds_toArray, List.set_cons_zero, List.set_cons_succ]
   refine Go.Kit.tk 7 (.tuple #[.slice A7 1 c7, .agg #[.int .i64 0, .int .i64 0]]) rfl ?_
   refine Go.Kit.tk 8 (.slice A7 1 c7) rfl ?_
   refine Go.Kit.tk 9 (.agg #[.int .i64 0, .int .i64 0]) rfl ?_
   refine Go.Kit.tk 11 (.slice A7 1 c7) rfl ?_
   refine wpAnyH_ready (rs := [12]) (by kernel_rfl) (by decide) (AllReadyH.cons (o := ⟨_, _, _, _, _, _⟩) rfl (fun K hK => ?_) AllReadyH.nil)
   have s4 := put_fault 0 0 hX4
   have hX5 := set_fault 0 0 hX4
   rw [if_pos (by kernel_rfl)]
   go_simp
   refine hK.out _ _ (trivial) (fun hHeld => ?_)
   clear hK K
   try simp only [Act.put, List.setIfInBounds_toArray, List.set_cons_zero, List.set_cons_succ]
   refine wpAnyH_done (by kernel_rfl) ?_ _
   have hor := Fr.only_row wm5 g4 (fv 0 0)
   have hD8 := hD7.only hor (fun k hk e => dfp_fault hD7.toDb hX4 (e ▸ hk))
   have hO8 := hO7.only hor (fun k e => by subst e; exact ⟨fv 0 0, 28, hX4, by decide, by decide⟩)
   have hB8 := Below.only hB hor hB.size (fun k e => by rw [e]; exact hg4l)
   clear hor hX4 hD7 hO7 hB
   generalize wm5.setRow g4 (fv 0 0) = w8 at *
   have hb9 := below_alloc (below_alloc (Below.refl _ w8) (.cells #[.int .u8 128, .int .u8 0] 5)) (.cells #[.slice (some ⟨w8.heap.size, 0, none⟩) 2 2] 22)
   have hP9 : PB ((w8.alloc (.cells #[.int .u8 128, .int .u8 0] 5)).alloc (.cells #[.slice (some ⟨w8.heap.size, 0, none⟩) 2 2] 22)) (some ⟨w8.heap.size + 1, 0, none⟩) 1 [[128, 0]] (dfp d v7) := by
    have h1 : RB (w8.alloc (.cells #[.int .u8 128, .int .u8 0] 5)) (some ⟨w8.heap.size, 0, none⟩) 2 [128, 0] := RB.lit w8 [128, 0] (fun x hx => by simp at hx; omega) (by decide) _ _
    have h2 := PB.one (cap := 2) (F := dfp d v7) 22 h1 (fun a e _ hk => by cases e; have := hD8.toDb.old _ hk; exact absurd this (Nat.lt_irrefl _)) (hD8.toDb.old.later (by simp))
    simpa using h2
   have hD9 := hD8.below hb9
   have hO9 := hO8.below hb9
   have hB9 := below_step hB8 hb9
   have hX9 := fault_keep hX5 hb9
   clear hD8 hO8 hB8 hX5 hb9
   go_wp2_with fail
   refine (feed_any hD9 rfl _ 1 1 [[128, 0]] hP9 (by decide) (by decide) (by decide)).mono ?_
   rintro e wf ⟨vf, vlf, wantf, tf, Gs, rfl, HFf, hDf, hOf, hof, honf⟩
   have htf : S2 = tf := congrArg Prod.fst (S2_is.symm.trans HFf.out)
   subst htf
   rw [show Value.agg (fv S2.why S2.wat) = .agg (fv 5 6) from rfl]
   have hO10 := hO9.only hof hD9.toDb.typed
   have hB10 := Below.only hB9 hof hB9.size (fun k hk => hd7 k hk)
   have hX10 := fault_only hX9 hof (dfp_fault hD9.toDb hX9)
   obtain ⟨g7, F2, hA7, hF2, _, _, _, _, hcells⟩ := hO10.at_ rfl 0 Nat.one_pos
   have hF2e : F = F2 := by simpa using hF2
   subst hF2e
   have hc7 : wf.cell? ⟨g7, 0, none⟩ = some (.int .i64 5) := by have := hcells 0 (.int .i64 F.k) rfl; rw [HFK.out] at this; exact this
   subst hA7
   obtain ⟨wg, wh, s0, s1, hX11, hb11⟩ := fault_put wf 5 6
   have HX11 := Lib.hid hX11
   have HB11 := Lib.hid (below_step hB10 hb11)
   have hX12 := fault_keep hX10 hb11
   have hc12 := pw_cell_below hb11 hc7
   clear hD9 hO9 hB9 hX9 HFf hDf hOf hof honf hO10 hB10 hX10 hF2 hcells hc7 hP9 hb11 hX11
   go_upto_region 6 with (fail)
   clear s0 s1
   have eX := get_fault hX12
   have eY := get_fault HX11.out
   have e7 := load_cell_int hc12
   have hb0 := build_fault0
   have hbf := build_fault
   have q1 := eql_fault 0 0 0 0 true rfl
   have q2 := eql_fault 5 6 5 6 true rfl
   clear hX12 hc12
   go_wp2_with fail
   go_ret
   exact ⟨rfl, HB11.out⟩
 ·skip
  rw [if_pos (by kernel_rfl)]
  go_simp
  obtain ⟨wm1, s0, hX4, hbx⟩ := fault_new wm0
  rw [s0]
  obtain ⟨g4, hg4⟩ : ∃ g4, wm0.heap.size = g4 := ⟨_, rfl⟩
  have hg4l : w.heap.size ≤ g4 := by have := hszwm0; have := HDS.out; omega
  rw [hg4] at hX4 ⊢
  replace hB := below_step hB hbx
  replace hDw := hDw.below hbx
  have hszwm1 := Nat.le_trans hszwm0 hbx.size
  clear hbx hg4 s0
  refine hK.out _ _ (trivial) (fun hHeld => ?_)
  clear hK K
  try simp only [Act.put, List.setIfInBounds_toArray, List.set_cons_zero, List.set_cons_succ]
  refine wpAnyH_ready (rs := [1]) (by kernel_rfl) (by decide) (AllReadyH.cons (o := ⟨_, _, _, _, _, _⟩) rfl (fun K hK => ?_) AllReadyH.nil)
  rw [if_pos (by kernel_rfl)]
  go_simp
  refine (cB wm1).mono ?_
  rintro e wm2 ⟨v1, rfl, hOb, hbx⟩
  obtain ⟨A1, c1, rfl, hR1, hc1, hfr1⟩ := hOb.reads_from
  rw [hN] at hR1 hc1 ⊢
  replace hB := below_step hB hbx
  replace hDw := hDw.below hbx
  replace hX4 := fault_keep hX4 hbx
  have hs1 : ∀ W : World, (Instr.slice 22 (.slice A1 N c1) none (some (.int .i64 2)) none).run Tryz.prog W = .ok (.slice A1 2 c1) W := fun W => head_bytes A1 N c1 2 (by have := HN6.out; omega) W
  have hl1 : ∀ a, A1 = some a → 0 < N → ¬ dfp d (.slice none 0 0) a.block := fun a e _ hk => by
   have h1 := hfr1 a e
   rcases hk with hk | hk
   ·have h2 := HDS.out; have h3 := hszwm1; rw [hk] at h1; omega
   ·cases hk
  have hszwm2 := Nat.le_trans hszwm1 hbx.size
  clear hOb hbx hfr1
  go_wp2_with fail
  refine hK.out _ _ (trivial) (fun hHeld => ?_)
  clear hK K
  try simp only [Act.put, List.setIfInBounds_toArray, List.set_cons_zero, List.set_cons_succ]
  refine Go.Kit.tk 2 (.slice A1 2 c1) rfl ?_
  refine wpAnyH_ready (rs := [3]) (by kernel_rfl) (by decide) (AllReadyH.cons (o := ⟨_, _, _, _, _, _⟩) rfl (fun K hK => ?_) AllReadyH.nil)
  rw [if_pos (by kernel_rfl)]
  go_simp
  refine (cB wm2).mono ?_
  rintro e wm3 ⟨v3, rfl, hOb, hbx⟩
  obtain ⟨A3, c3, rfl, hR3, hc3, hfr3⟩ := hOb.reads_from
  rw [hN] at hR3 hc3 ⊢
  replace hB := below_step hB hbx
  replace hDw := hDw.below hbx
  replace hR1 := hR1.below hbx
  replace hX4 := fault_keep hX4 hbx
  obtain ⟨A4, hs3a, hr3⟩ := mid_cut A3 N c3 2 (by have := HN6.out; omega) hc3
  have hs3 : ∀ W : World, (Instr.slice 22 (.slice A3 N c3) (some (.int .i64 2)) none none).run Tryz.prog W = .ok (.slice A4 (N - 2) (c3 - 2)) W := hs3a
  clear hs3a
  have hl3 : ∀ a, A3 = some a → 0 < N → ¬ dfp d (.slice none 0 0) a.block := fun a e _ hk => by
   have h1 := hfr3 a e
   rcases hk with hk | hk
   ·have h2 := HDS.out; have h3 := hszwm2; rw [hk] at h1; omega
   ·cases hk
  have hszwm3 := Nat.le_trans hszwm2 hbx.size
  clear hOb hbx hfr3
  go_wp2_with fail
  refine hK.out _ _ (trivial) (fun hHeld => ?_)
  clear hK K
  try simp only [Act.put, List.setIfInBounds_toArray, List.set_cons_zero, List.set_cons_succ]
  refine Go.Kit.tk 4 (.slice A4 (N - 2) (c3 - 2)) rfl ?_
  refine wpAnyH_ready (rs := [5]) (by kernel_rfl) (by decide) (AllReadyH.cons (o := ⟨_, _, _, _, _, _⟩) rfl (fun K hK => ?_) AllReadyH.nil)
  rw [if_pos (by kernel_rfl)]
  go_simp
  have hP := PB.two (cap := c1) (cap2 := c3 - 2) 22 (RB.take_ hR1 2 (by have := HN6.out; omega)) (hr3.1 _ _ hR3) (fun a e _ => hl1 a e (by have := HN6.out; omega)) (fun a e _ => by obtain ⟨a0, e0, hb0⟩ := hr3.2 a e; rw [← hb0]; exact hl3 a0 e0 (by have := HN6.out; omega)) hDw.toDb.old
  have hbx := below_alloc (Below.refl _ wm3) (.cells #[.slice A1 2 c1, .slice A4 (N - 2) (c3 - 2)] 22)
  obtain ⟨gl, hgl⟩ : ∃ gl, wm3.heap.size = gl := ⟨_, rfl⟩
  rw [hgl] at hP ⊢
  replace hB := below_step hB hbx
  replace hDw := hDw.below hbx
  replace hR1 := hR1.below hbx
  replace hR3 := hR3.below hbx
  replace hX4 := fault_keep hX4 hbx
  have hszwm4 := Nat.le_trans hszwm3 hbx.size
  generalize wm3.alloc (.cells #[.slice A1 2 c1, .slice A4 (N - 2) (c3 - 2)] 22) = wm4 at *
  clear hbx hgl
  refine hK.out _ _ (trivial) (fun hHeld => ?_)
  clear hK K
  try simp only [Act.put, List.setIfInBounds_toArray, List.set_cons_zero, List.set_cons_succ]
  refine wpAnyH_ready (rs := [6]) (by kernel_rfl) (by decide) (AllReadyH.cons (o := ⟨_, _, _, _, _, _⟩) rfl (fun K hK => ?_) AllReadyH.nil)
  rw [if_pos (by kernel_rfl)]
  go_simp
  refine (feed_any hDw rfl (some ⟨gl, 0, none⟩) 2 2 [xs.take 2, xs.drop 2] hP (by have := HFL.out; omega) (by have := HFL.out; show 0 + _ ≤ _; omega) (by have := HFL.out; show 0 + _ ≤ _; omega)).mono ?_
  rintro e wm5 ⟨v7, vl, want7, t7, Fs, rfl, HF7, hD7, hO7, ho7, hon7⟩
  have hO7 := hO7.less hszwm4
  replace hB := Below.only hB ho7 hB.size (fun k hk => hk.elim (fun e => by rw [e]; exact Nat.le_of_eq HDS.out) (fun e => by cases e))
  replace hX4 := fault_only hX4 ho7 (dfp_fault hDw.toDb hX4)
  have HE7 := HFEED.out.symm.trans HF7.out
  have ht7 : S1 = t7 := congrArg Prod.fst HE7
  have hf7 : [byeF.core] = Fs.map Fr.core := congrArg Prod.snd HE7
  subst ht7
  rw [show Value.agg (fv S1.why S1.wat) = .agg #[.int .i64 0, .int .i64 0] from rfl]
  obtain ⟨A7, c7, rfl⟩ := hO7.form
  obtain ⟨F, rfl⟩ : ∃ F, Fs = [F] := by
   cases Fs with
   | nil => simp at hf7
   | cons F r => cases r with
    | nil => exact ⟨F, rfl⟩
    | cons G r => simp at hf7
  have hszwm5 := Nat.le_trans hszwm4 ho7.size
  have HFK : Hid (F.k = 5) := Lib.hid (by have := congrArg (fun l : List Fr => l.map Fr.k) hf7; simp [Fr.core] at this; exact this.symm)
  have hd7 : ∀ k, dfp d v7 k → w.heap.size ≤ k := fun k hk => (hon7 k hk).elim (fun e => e.elim (fun e => by rw [e]; exact Nat.le_of_eq HDS.out) (fun e => by cases e)) (fun e => by have := hszwm4; have := HDS.out; omega)
  clear HF7 HE7 hf7 ho7 hon7 hDw hP hR1 hR3
  go_wp2_with fail
  refine hK.out _ _ (trivial) (fun hHeld => ?_)
  clear hK K
  try simp only [Act.put, List.setIfInBounds_toArray, List.set_cons_zero, List.set_cons_succ]
  refine Go.Kit.tk 7 (.tuple #[.slice A7 1 c7, .agg #[.int .i64 0, .int .i64 0]]) rfl ?_
  refine Go.Kit.tk 8 (.slice A7 1 c7) rfl ?_
  refine Go.Kit.tk 9 (.agg #[.int .i64 0, .int .i64 0]) rfl ?_
  refine Go.Kit.tk 11 (.slice A7 1 c7) rfl ?_
  refine wpAnyH_ready (rs := [12]) (by kernel_rfl) (by decide) (AllReadyH.cons (o := ⟨_, _, _, _, _, _⟩) rfl (fun K hK => ?_) AllReadyH.nil)
  have s4 := put_fault 0 0 hX4
  have hX5 := set_fault 0 0 hX4
  rw [if_pos (by kernel_rfl)]
  go_simp
  refine hK.out _ _ (trivial) (fun hHeld => ?_)
  clear hK K
  try simp only [Act.put, List.setIfInBounds_toArray, List.set_cons_zero, List.set_cons_succ]
  refine wpAnyH_done (by kernel_rfl) ?_ _
  have hor := Fr.only_row wm5 g4 (fv 0 0)
  have hD8 := hD7.only hor (fun k hk e => dfp_fault hD7.toDb hX4 (e ▸ hk))
  have hO8 := hO7.only hor (fun k e => by subst e; exact ⟨fv 0 0, 28, hX4, by decide, by decide⟩)
  have hB8 := Below.only hB hor hB.size (fun k e => by rw [e]; exact hg4l)
  clear hor hX4 hD7 hO7 hB
  generalize wm5.setRow g4 (fv 0 0) = w8 at *
  have hb9 := below_alloc (below_alloc (Below.refl _ w8) (.cells #[.int .u8 128, .int .u8 0] 5)) (.cells #[.slice (some ⟨w8.heap.size, 0, none⟩) 2 2] 22)
  have hP9 : PB ((w8.alloc (.cells #[.int .u8 128, .int .u8 0] 5)).alloc (.cells #[.slice (some ⟨w8.heap.size, 0, none⟩) 2 2] 22)) (some ⟨w8.heap.size + 1, 0, none⟩) 1 [[128, 0]] (dfp d v7) := by
   have h1 : RB (w8.alloc (.cells #[.int .u8 128, .int .u8 0] 5)) (some ⟨w8.heap.size, 0, none⟩) 2 [128, 0] := RB.lit w8 [128, 0] (fun x hx => by simp at hx; omega) (by decide) _ _
   have h2 := PB.one (cap := 2) (F := dfp d v7) 22 h1 (fun a e _ hk => by cases e; have := hD8.toDb.old _ hk; exact absurd this (Nat.lt_irrefl _)) (hD8.toDb.old.later (by simp))
   simpa using h2
  have hD9 := hD8.below hb9
  have hO9 := hO8.below hb9
  have hB9 := below_step hB8 hb9
  have hX9 := fault_keep hX5 hb9
  clear hD8 hO8 hB8 hX5 hb9
  go_wp2_with fail
  refine (feed_any hD9 rfl _ 1 1 [[128, 0]] hP9 (by decide) (by decide) (by decide)).mono ?_
  rintro e wf ⟨vf, vlf, wantf, tf, Gs, rfl, HFf, hDf, hOf, hof, honf⟩
  have htf : S2 = tf := congrArg Prod.fst (S2_is.symm.trans HFf.out)
  subst htf
  rw [show Value.agg (fv S2.why S2.wat) = .agg (fv 5 6) from rfl]
  have hO10 := hO9.only hof hD9.toDb.typed
  have hB10 := Below.only hB9 hof hB9.size (fun k hk => hd7 k hk)
  have hX10 := fault_only hX9 hof (dfp_fault hD9.toDb hX9)
  obtain ⟨g7, F2, hA7, hF2, _, _, _, _, hcells⟩ := hO10.at_ rfl 0 Nat.one_pos
  have hF2e : F = F2 := by simpa using hF2
  subst hF2e
  have hc7 : wf.cell? ⟨g7, 0, none⟩ = some (.int .i64 5) := by have := hcells 0 (.int .i64 F.k) rfl; rw [HFK.out] at this; exact this
  subst hA7
  obtain ⟨wg, wh, s0, s1, hX11, hb11⟩ := fault_put wf 5 6
  have HX11 := Lib.hid hX11
  have HB11 := Lib.hid (below_step hB10 hb11)
  have hX12 := fault_keep hX10 hb11
  have hc12 := pw_cell_below hb11 hc7
  clear hD9 hO9 hB9 hX9 HFf hDf hOf hof honf hO10 hB10 hX10 hF2 hcells hc7 hP9 hb11 hX11
  go_upto_region 6 with (fail)
  clear s0 s1
  have eX := get_fault hX12
  have eY := get_fault HX11.out
  have e7 := load_cell_int hc12
  have hb0 := build_fault0
  have hbf := build_fault
  have q1 := eql_fault 0 0 0 0 true rfl
  have q2 := eql_fault 5 6 5 6 true rfl
  clear hX12 hc12
  go_wp2_with fail
  go_ret
  exact ⟨rfl, HB11.out⟩
end Go.Proofs.YtpjpgcjhdbiepaaGreat
end
section
namespace Go.Kit
open Go.RowKit Go.Proofs.YtpjpgcjhdbiepaaGreatW.PrintWords
structure RF (w : World) (A : Option Addr) (n : Nat) (L : List Fr) : Prop where
 len : L.length = n
 max : n ≤ 9223372036854775807
 at0 : ∀ i, i < n → ∃ ad f, A = some ad ∧ (∀ j v, f.cells[j]? = some v → w.cell? ((ad.add (i * 42)).add j) = some v) ∧ L[i]? = some f ∧ f.ok w ∧ f.wf ∧ (∀ s ∈ f.args, s.size ≤ 9223372036854775807)
end Go.Kit
namespace Go.Proofs.YtpjpgcjhdbiepaaGreat
open Go.RowKit Go.Kit Go.Proofs.YtpjpgcjhdbiepaaGreatW.PrintWords
theorem load_frame_at (f : Fr) (hf : f.tool.length = 32) (W : World) (a : Addr) (h : ∀ j v, f.cells[j]? = some v → W.cell? (a.add j) = some v) :
  (Instr.loadAt 48 (.pointer (some a))).run Tryz.prog W = .ok (.agg f.arr) W := by
 have hi : (Tryz.prog.info? 48).map (·.size) = some f.cells.length := by rw [frame_size]; have := Fr.arr_size f hf; simp [Fr.arr] at this; rw [this]
 have hl : (loadCells a f.cells.length).run Tryz.prog W = .ok f.cells.toArray W := run_loadCells_list (P := Tryz.prog) W a f.cells h
 simp only [Instr.loadAt, Instr.sureAddr, Sem.run_bind, Sem.run_pure, Result.andThen_ok]
 cases hq : Tryz.prog.info? 48 with
 | none => simp [hq] at hi
 | some i =>
  have hs : i.size = f.cells.length := by simpa [hq] using hi
  have hagg : (isAgg 48).run Tryz.prog W = .ok true W := by
   unfold isAgg
   rw [Sem.run_bind, run_underlying Tryz.underlying48 W]
   rfl
  simp [loadVar, Sem.run_bind, hagg, sizeOf, typeInfo, hq, hs, hl, Fr.arr]
attribute [-go_sem] Instr.loadAt Instr.storeAt
section
variable {A : Option Addr} {n c : Nat} {L : List Fr} {w : World}
end
end Go.Proofs.YtpjpgcjhdbiepaaGreat
end
section
namespace Go.Proofs.YtpjpgcjhdbiepaaGreat
open Go.RowKit Go.Kit CrcM Go.Proofs.YtpjpgcjhdbiepaaGreatW.PrintWords
theorem told_frame {F : Fr} (h : Told F.core) : chkF F = 0 ∧ F.wf ∧ ∀ s ∈ F.args, s.size ≤ 9223372036854775807 := by
 obtain ⟨a, c⟩ := h
 have hm := (chk_facts a).1
 exact ⟨a, core_wf rfl c ⟨hm.k1, hm.k6⟩, fun s hs => by have := c.each s hs; omega⟩
theorem OFs.rf {w : World} {base : Nat} {A : Option Addr} {n c : Nat} {L : List Fr} (h : OFs w base (.slice A n c) L) (hn : n = L.length) (hm : n ≤ 9223372036854775807) (hT : ∀ F ∈ L, Told F.core) : RF w A n L :=
 ⟨hn.symm, hm, fun i hi => by
  obtain ⟨g, f, hA, hf, ht, ho, _, _, hc⟩ := h.at_ hn i hi
  obtain ⟨_, h2, h3⟩ := told_frame (hT f (List.mem_of_getElem? hf))
  refine ⟨⟨g, 0, none⟩, f, hA, fun j v hj => ?_, hf, ho.ok ht, h2, h3⟩
  rw [add_plain, show (⟨g, i * 42, none⟩ : Addr).add j = ⟨g, i * 42 + j, none⟩ by simp [Addr.add]]
  exact hc j v hj⟩
theorem str_neq (a : ByteArray) (W : World) : (binOp .neq 9 (.string a) (.string a)).run Tryz.prog W = .ok (.bool false) W := by
 go_simp
end Go.Proofs.YtpjpgcjhdbiepaaGreat
end
section
namespace Go.Proofs.YtpjpgcjhdbiepaaGreat
open Go.RowKit Go.Kit CrcM Go.Proofs.YtpjpgcjhdbiepaaGreatW.PrintWords
structure FrAt (a : Addr) (f : Fr) (W : World) : Prop where
 at_ : ∀ j v, f.cells[j]? = some v → W.cell? (a.add j) = some v
 ok : f.ok W
theorem FrAt.below {a : Addr} {f : Fr} {W W1 : World} (h : FrAt a f W) (hb : Below W.heap.size W W1) : FrAt a f W1 := ⟨fun j v hj => pw_cell_below hb (h.at_ j v hj), h.ok.below hb⟩
structure RFo (w : World) (A : Option Addr) (n : Nat) (L : List Fr) : Prop where
 len : L.length = n
 max : n ≤ 9223372036854775807
 at0 : ∀ i, i < n → ∃ ad f, A = some ad ∧ FrAt (ad.add (i * 42)) f w ∧ L[i]? = some f
theorem RFo.below {w w1 : World} {A : Option Addr} {n : Nat} {L : List Fr} (h : RFo w A n L) (hb : Below w.heap.size w w1) : RFo w1 A n L :=
 ⟨h.len, h.max, fun i hi => by obtain ⟨ad, f, e, hf, hl⟩ := h.at0 i hi; exact ⟨ad, f, e, hf.below hb, hl⟩⟩
theorem OFs.rfo {w : World} {base : Nat} {A : Option Addr} {n c : Nat} {L : List Fr} (h : OFs w base (.slice A n c) L) (hn : n = L.length) (hm : n ≤ 9223372036854775807) : RFo w A n L :=
 ⟨hn.symm, hm, fun i hi => by
  obtain ⟨g, f, hA, hf, ht, ho, _, _, hc⟩ := h.at_ hn i hi
  refine ⟨⟨g, 0, none⟩, f, hA, ⟨fun j v hj => ?_, ho.ok ht⟩, hf⟩
  rw [add_plain, show (⟨g, i * 42, none⟩ : Addr).add j = ⟨g, i * 42 + j, none⟩ by simp [Addr.add]]
  exact hc j v hj⟩
theorem core_same {f g : Fr} (h : f.core = g.core) : f.same g = true := by rw [same_core, h]; exact same_self _
attribute [-go_sem] Instr.loadAt
set_option maxHeartbeats 8000000 in
set_option maxRecDepth 100000 in
theorem rSames_true {w : World} {A B : Option Addr} {n m c1 c2 : Nat} {L M : List Fr} (hL : RFo w A n L) (hM : RFo w B m M) (h : L.map Fr.core = M.map Fr.core) :
  Calls Tryz.prog 11 #[.slice A n c1, .slice B m c2] w fun e w' => e = .returned (.bool true) ∧ Below w.heap.size w w' := by
 obtain rfl : n = m := by have := congrArg List.length h; rw [List.length_map, List.length_map, hL.len, hM.len] at this; exact this
 have HL := Lib.hid hL
 have HM := Lib.hid hM
 have HH := Lib.hid h
 have hmx := hL.max
 clear hL hM h
 go_enter Tryz.func11, Tryz.ntmps11
 go_wp2_with fail
 go_loopg [5] n (fun gk v5 w' => ∃ i : Nat, v5 = .int .i64 (i : Int) ∧ Below w.heap.size w w' ∧ Hid (i + gk = n))
 case atStart => exact ⟨0, rfl, Below.refl _ _, Lib.hid (by omega)⟩
 case round =>
  obtain ⟨i, rfl, hb, HG⟩ := hrel
  by_cases hi : i < n
  ·obtain ⟨ad, f, hA, hf, hLi⟩ := (HL.out.below hb).at0 i hi
   obtain ⟨bd, g, hB, hg, hMi⟩ := (HM.out.below hb).at0 i hi
   have hi2 : (i : Int) < (n : Int) := by omega
   have hi1 : IntKind.i64.wrap ((i : Int) + 1) = (i : Int) + 1 := by rw [IntKind.wrap_i64]; omega
   have HGA : Hid (gk - 1 < gk ∧ i + 1 + (gk - 1) = n) := Lib.hid (by have h := HG.out; exact ⟨by omega, by omega⟩)
   have hs : f.same g = true := core_same (by
    have h1 := congrArg (fun l => l[i]?) HH.out
    simp only [List.getElem?_map, hLi, hMi, Option.map_some, Option.some.injEq] at h1
    exact h1)
   have cS : ∀ W, f.ok W → g.ok W → Calls Tryz.prog 24 #[.agg f.arr, .agg g.arr] W (fun e w' => e = .returned (.bool true) ∧ Below W.heap.size W w') := rSame_is f g true hs
   have l1 : ∀ W, FrAt (ad.add (i * 42)) f W → (Instr.loadAt 48 (.pointer (some (ad.add (i * 42))))).run Tryz.prog W = .ok (.agg f.arr) W := fun W h => load_frame_at f h.ok.tool W _ h.at_
   have l2 : ∀ W, FrAt (bd.add (i * 42)) g W → (Instr.loadAt 48 (.pointer (some (bd.add (i * 42))))).run Tryz.prog W = .ok (.agg g.arr) W := fun W h => load_frame_at g h.ok.tool W _ h.at_
   subst hA hB
   clear hLi hMi hs hi
   generalize f.arr = FA at *
   generalize g.arr = GA at *
   go_upto_region 6 with (fail)
   go_region_held3 (fun W => Below w.heap.size w W ∧ FrAt (ad.add (i * 42)) f W ∧ FrAt (bd.add (i * 42)) g W)
    (first
     | assumption
     | exact ⟨below_step hb (below_drew (Below.refl _ _)), hf.below (below_drew (Below.refl _ _)), hg.below (below_drew (Below.refl _ _))⟩
     | (go_split_ands; exact ⟨by assumption, by assumption, by assumption⟩)
     | (go_split_ands; exact ⟨below_step (by assumption) hby, FrAt.below (by assumption) hby, FrAt.below (by assumption) hby⟩))
    ((go_at_call 24; go_split_ands; with_reducible refine (cS _ (FrAt.ok (by assumption)) (FrAt.ok (by assumption))).mono ?_; rintro e wy ⟨rfl, hby⟩))
   all_goals
    go_split_ands
    go_wp2_with fail
    go_roundg (gk - 1)
    case measure => exact HGA.out.1
    case rel => exact ⟨i + 1, by simp, by assumption, HGA.out.2⟩
  ·have hi2 : ¬ (i : Int) < (n : Int) := by omega
   have HB := Lib.hid hb
   clear hi hb
   go_wp2_with fail
   go_ret
   exact ⟨rfl, HB.out⟩
end Go.Proofs.YtpjpgcjhdbiepaaGreat
end
section
namespace Go.Proofs.YtpjpgcjhdbiepaaGreat
open Go.RowKit Go.Kit CrcM Go.Proofs.YtpjpgcjhdbiepaaGreatW.PrintWords
def SplitPost (w : World) (xs : List Int) (e : Ending) (w' : World) : Prop :=
 ∃ (vl : Value) (Fs : List Fr) (t : Sm) (x y : Int), e = .returned (.tuple #[vl, .agg (fv x y)]) ∧ Hid (feedS xs (Sm.new 2097152) = (t, Fs.map Fr.core)) ∧ Hid ((x, y) = endSm t) ∧ OFs w' w.heap.size vl Fs ∧ Below w.heap.size w w'
theorem split_ret {W : World} {tmps : Array Value} {g : Nat} {x y : Int} {vl : Value} (hp : tmps.getD 3 undef = .pointer (some ⟨g, 0, none⟩)) (hX : W.heap[g]? = some (.cells (fv x y) 28 (0, 0))) (hv : tmps.getD 2 undef = vl) :
  (results Tryz.f17 tmps).run Tryz.prog W = .ok (.tuple #[vl, .agg (fv x y)]) W :=
 results_tmp_cell (P := Tryz.prog) (fn := Tryz.f17) (p := 3) (u := 2) rfl tmps W g 28 (fv x y) (0, 0) _ hp hX Tryz.underlying28 rfl (fv_size x y) vl hv
attribute [-go_sem] Instr.loadAt Instr.storeAt Instr.build
set_option maxHeartbeats 8000000 in
set_option maxRecDepth 100000 in
theorem Split_any {w : World} {A : Option Addr} {n c : Nat} {xs : List Int} (hx : RB w A n xs) (hl : n ≤ 1034834473200) : Calls Tryz.prog 17 #[.slice A n c] w (SplitPost w xs) := by
 obtain ⟨w0, s0, hX0, hb0⟩ := fault_new w
 have HX := Lib.hid hx
 have HXL := Lib.hid hx.len
 have HL := Lib.hid hl
 have cN : Calls Tryz.prog 7 #[.int .i64 2097152] w0 fun e w' => e = .returned (.tuple #[.pointer (some ⟨w0.heap.size, 0, none⟩), .int .i64 0]) ∧ Dc w' w0.heap.size (.slice none 0 0) 0 (Sm.new 2097152) ∧ Below w0.heap.size w0 w' := dNew_any 2097152 (by decide) (by decide) w0
 have HB0 := Lib.hid hb0
 have HX0 := Lib.hid hX0
 clear hx hl hb0 hX0
 go_enter Tryz.func17, Tryz.ntmps17
 go_upto_region 1 with (fail)
 clear s0
 go_wp2_with fail
 refine cN.mono ?_
 rintro e w1 ⟨rfl, hD, hb⟩
 obtain ⟨d, hd⟩ : ∃ d, w0.heap.size = d := ⟨_, rfl⟩
 have HDS : Hid (w0.heap.size = d ∧ w.heap.size ≤ d) := Lib.hid ⟨hd, by rw [← hd]; exact HB0.out.size⟩
 have hbx := below_alloc (Below.refl _ w1) (.cells #[.slice A n c] 22)
 have HDF : Hid (∀ k, dfp d (.slice none 0 0) k → w.heap.size ≤ k) := Lib.hid (fun k hk => hk.elim (fun e => by rw [e]; exact HDS.out.2) (fun e => by cases e))
 have hb01 := below_step HB0.out hb
 have hP := PB.one (cap := c) (F := dfp d (.slice none 0 0)) 22 (HX.out.below hb01) (fun a e hp hk => by have h1 := rb_lt HX.out a e hp; have h2 := HDF.out _ hk; omega) (by rw [← hd]; exact hD.toDb.old)
 have HDa := Lib.hid (hD.below hbx)
 have HBa := Lib.hid (below_step hb01 hbx)
 have HXa := Lib.hid (fault_keep (fault_keep HX0.out hb) hbx)
 rw [hd] at HDa ⊢
 clear cN hd hD hb hbx hb01 HX0
 go_wp2_with fail
 refine (feed_any HDa.out rfl _ 1 1 [xs] hP (by simp; have := HXL.out; have := HL.out; omega) (by simp [Sm.new]; have := HXL.out; have := HL.out; omega) (by simp [Sm.new]; have := HXL.out; have := HL.out; omega)).mono ?_
 rintro e w3 ⟨v3, vl, want3, t, Fs, rfl, HF, hD3, hO3, ho3, hon3⟩
 obtain ⟨wa, w4, s0, s1, hY, hb4⟩ := fault_put w3 t.why t.wat
 have hX3 := fault_only HXa.out ho3 (dfp_fault HDa.out.toDb HXa.out)
 have HG : Hid (w.heap.size < w3.heap.size) := Lib.hid (by have := lt_of_block hX3; have := hX3; omega)
 have hbw : Below w.heap.size w w3 := Below.only HBa.out ho3 HBa.out.size (fun k hk => HDF.out k hk)
 have HO4 : Hid (OFs w4 w.heap.size vl Fs) := Lib.hid ((hO3.less HBa.out.size).below hb4)
 have HF2 : Hid (feedS xs (Sm.new 2097152) = (t, Fs.map Fr.core)) := Lib.hid (by have h := HF.out; rw [show [xs].flatten = xs by simp] at h; exact h)
 have hD4 := hD3.below hb4
 have hX4 := fault_keep hX3 hb4
 have HB4 := Lib.hid (below_step hbw hb4)
 have HY := Lib.hid hY
 clear hP HF hD3 hO3 ho3 hon3 hbw hb4 hY HDa HBa HXa hX3
 go_upto_region 3 with (fail)
 clear s0 s1
 have hY4 := HY.out
 obtain ⟨g7, hg7⟩ : ∃ g, w3.heap.size = g := ⟨_, rfl⟩
 obtain ⟨g3, hg3⟩ : ∃ g, w.heap.size = g := ⟨_, rfl⟩
 have HG2 : Hid (g3 < g7 ∧ w.heap.size = g3) := Lib.hid ⟨by rw [← hg7, ← hg3]; exact HG.out, hg3⟩
 rw [hg7] at hY4 ⊢
 rw [hg3] at hX4 ⊢
 clear hg7 hg3 HY HG
 obtain ⟨x, y, hxy⟩ : ∃ x y, (x, y) = endSm t := ⟨_, _, rfl⟩
 have HXY := Lib.hid hxy
 have eY := get_fault hY4
 have hbf := build_fault0
 /- what both ways end in -/
 have fin : ∀ W : World, Below w.heap.size w W → W.heap[g7]? = some (.cells (fv x y) 28 (0, 0)) → W.heap[g3]? = some (.cells (fv 0 0) 28 (0, 0)) → OFs W w.heap.size vl Fs →
   SplitPost w xs (.returned (.tuple #[vl, .agg (fv x y)])) (W.setRow g3 (fv x y)) ∧ (W.setRow g3 (fv x y)).heap[g3]? = some (.cells (fv x y) 28 (0, 0)) := fun W hb h7 h3 hO => by
  have hor := Fr.only_row W g3 (fv x y)
  exact ⟨⟨vl, Fs, t, x, y, rfl, HF2, HXY, hO.only hor (fun k e => by subst e; exact ⟨fv 0 0, 28, h3, by decide, by decide⟩), Below.only hb hor hb.size (fun k e => by rw [e]; exact Nat.le_of_eq HG2.out.2)⟩, set_fault x y h3⟩
 by_cases hw : t.why = 0
 ·have hne := eql_fault t.why t.wat 0 0 true (by rw [hw, (hD4.ok.low hw).1]; rfl)
  clear hw hxy
  go_wp2_with fail
  refine (dEnd_any hD4 x y HXY.out).mono ?_
  rintro e w5 ⟨rfl, hb5⟩
  have hY5 := fault_keep hY4 hb5
  have hX5 := fault_keep hX4 hb5
  have p7 : (Instr.storeAt 28 (.pointer (some ⟨g7, 0, none⟩)) (.agg (fv x y))).run Tryz.prog w5 = .ok () (w5.setRow g7 (fv x y)) := put_fault x y hY5
  have hY6 := set_fault x y hY5
  have hor := Fr.only_row w5 g7 (fv x y)
  have hX6 := fault_only hX5 hor (fun e => by have := HG2.out.1; omega)
  have HO6 : Hid (OFs (w5.setRow g7 (fv x y)) w.heap.size vl Fs) := Lib.hid ((HO4.out.below hb5).only hor (fun k e => by subst e; exact ⟨fv t.why t.wat, 28, hY5, by decide, by decide⟩))
  have HB6 : Hid (Below w.heap.size w (w5.setRow g7 (fv x y))) := Lib.hid (below_setRow (below_step HB4.out hb5) (by have := HG2.out; omega) _)
  clear hD4 hY4 hX4 hb5 hY5 hX5 hor eY hne
  go_upto_region 5 with (fail)
  clear p7
  generalize w5.setRow g7 (fv x y) = w6 at *
  have hdr := below_drew (Below.refl w6.heap.size w6)
  have hY7 := fault_keep hY6 hdr
  have hX7 := fault_keep hX6 hdr
  have eY7 := get_fault hY7
  have p3 := put_fault x y hX7
  obtain ⟨q1, q2⟩ := fin w6.drew (below_step HB6.out hdr) hY7 hX7 (HO6.out.below hdr)
  have HQ := Lib.hid q1
  clear hdr hY6 hX6 hY7 hX7 HO6 HB6 fin q1
  go_wp2_with fail
  go_region_law (fail)
  all_goals
   go_wp2_with fail
   exact bodyPost_ret (v := .tuple #[vl, .agg (fv x y)]) (split_ret rfl q2 rfl) rfl HQ.out
 ·have hne := eql_fault t.why t.wat 0 0 false (by simp [hw])
  obtain ⟨rfl, rfl⟩ : x = t.why ∧ y = t.wat := by
   unfold endSm at hxy
   rw [if_pos hw] at hxy
   cases hxy; exact ⟨rfl, rfl⟩
  clear hw hD4 hxy
  go_upto_region 5 with (fail)
  clear eY hne
  have hdr := below_drew (Below.refl w4.heap.size w4)
  have hY7 := fault_keep hY4 hdr
  have hX7 := fault_keep hX4 hdr
  have eY7 := get_fault hY7
  have p3 := put_fault t.why t.wat hX7
  obtain ⟨q1, q2⟩ := fin w4.drew (below_step HB4.out hdr) hY7 hX7 (HO4.out.below hdr)
  have HQ := Lib.hid q1
  clear hdr hY4 hX4 hY7 hX7 fin q1
  go_wp2_with fail
  go_region_law (fail)
  all_goals
   go_wp2_with fail
   exact bodyPost_ret (v := .tuple #[vl, .agg (fv t.why t.wat)]) (split_ret rfl q2 rfl) rfl HQ.out
end Go.Proofs.YtpjpgcjhdbiepaaGreat
end
