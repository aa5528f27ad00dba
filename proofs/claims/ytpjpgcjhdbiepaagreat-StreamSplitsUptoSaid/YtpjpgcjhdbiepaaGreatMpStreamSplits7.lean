/- Contracts of functions that the law reaches (texts laid together, part 7): each says of its call what it answers and what it leaves of memory; the conditions stand in each statement. -/
import Derived.Test.YtpjpgcjhdbiepaaGreatMpStreamSplits6
import Derived.Test.YtpjpgcjhdbiepaaGreatWWords
import Derived.WalkKit
import Derived.Lib.Hide
import Derived.Laws.BitsAllLaws
import Derived.Deep.WholeRow
import Derived.Deep.CutBlock
import Derived.Deep.Cut
import Derived.Deep.LoopGhost
import Derived.Laws.CopyOwn
import Derived.Lib.SlBytesConst
import Derived.ChangeKeysEq
import Derived.Laws.StructEq
import Derived.Test.YtpjpgcjhdbiepaaGreatWMore
import Derived.Laws.Bits64b
import Derived.IntWalk
import Derived.Test.YtpjpgcjhdbiepaaGreatProg
import Derived.Test.YtpjpgcjhdbiepaaGreatWGuard
import Derived.Deep.MidRow
import Derived.Deep.RegionHeld3
import Derived.Deep.RegionLaw
import Derived.Deep.DeepMust
import Derived.Laws.Cover3
import Derived.Test.YtpjpgcjhdbiepaaGreatWEqStruct
import Derived.StillTailTactics
import Derived.Recover
import Derived.WalkLawsBesides
import Derived.Deep.RegionWith
import Derived.Laws.CopyRow
import Derived.Deep.QuietTactic
import Derived.BigQuiet
import Derived.RegionTactic
import Derived.BigRegion
import Derived.Great.BuildSlice
set_option linter.unusedVariables false
set_option linter.unusedSimpArgs false
set_option linter.unusedSectionVars false
set_option linter.unnecessarySimpa false
section
namespace Go.Proofs.YtpjpgcjhdbiepaaGreat
open Go.RowKit Go.Kit CrcM Go.Proofs.YtpjpgcjhdbiepaaGreatW.PrintWords
def OI (w : World) (base : Nat) (v : Value) (xs : List Int) : Prop := w.ownsRow base 3 1 v xs.length (nums .i64 xs)
theorem OI.nil (w : World) (base : Nat) : OI w base (.slice none 0 0) [] := own_nil w base 3 1
theorem OI.below {w w1 : World} {base : Nat} {v : Value} {xs : List Int} (h : OI w base v xs) (hb : Below w.heap.size w w1) : OI w1 base v xs := pw_own_below h hb
theorem OI.reads {w : World} {base : Nat} {v : Value} {xs : List Int} (h : OI w base v xs) : ∃ A c, v = .slice A xs.length c ∧ ReadsInt w .i64 A xs.length xs := own_reads h
theorem int_info : (Tryz.prog.info? 3).map (fun i => (i.zero, i.size, i.bytes)) = some (some (.int .i64 0), 1, 8) := by kernel_rfl
def sizesS (L : List Fr) : List Int := L.map fun F => ((encF F).length : Int)
theorem sizes_snoc {L : List Fr} {k : Nat} {f : Fr} (h : L[k]? = some f) : sizesS (L.take (k + 1)) = sizesS (L.take k) ++ [((encF f).length : Int)] := by
 unfold sizesS; rw [snoc h, List.map_append]; rfl
def SizesPost (w : World) (xs : List Int) (e : Ending) (w' : World) : Prop :=
 ∃ (vs : Value) (Fs : List Fr) (t : Sm) (x y : Int), e = .returned (.tuple #[vs, .agg (fv x y)]) ∧ Hid (feedS xs (Sm.new 2097152) = (t, Fs.map Fr.core)) ∧ Hid ((x, y) = endSm t) ∧ OI w' w.heap.size vs (sizesS Fs) ∧ Below w.heap.size w w'
theorem sizes_ret {W : World} {tmps : Array Value} {g : Nat} {x y : Int} {vl : Value} (hp : tmps.getD 3 undef = .pointer (some ⟨g, 0, none⟩)) (hX : W.heap[g]? = some (.cells (fv x y) 28 (0, 0))) (hv : tmps.getD 2 undef = vl) :
  (results Tryz.f18 tmps).run Tryz.prog W = .ok (.tuple #[vl, .agg (fv x y)]) W :=
 results_tmp_cell (P := Tryz.prog) (fn := Tryz.f18) (p := 3) (u := 2) rfl tmps W g 28 (fv x y) (0, 0) _ hp hX Tryz.underlying28 rfl (fv_size x y) vl hv
structure Sz (w : World) (v4 v6 : Value) (Fs : List Fr) (zs : List Int) (g3 g5 : Nat) (x y : Int) (W : World) : Prop where
 b : Below w.heap.size w W
 frames : OFs W w.heap.size v4 Fs
 row : OI W w.heap.size v6 zs
 h3 : W.heap[g3]? = some (.cells (fv 0 0) 28 (0, 0))
 h5 : W.heap[g5]? = some (.cells (fv x y) 28 (0, 0))
theorem Sz.below {w W W1 : World} {v4 v6 : Value} {Fs : List Fr} {zs : List Int} {g3 g5 : Nat} {x y : Int} (h : Sz w v4 v6 Fs zs g3 g5 x y W) (hb : Below W.heap.size W W1) : Sz w v4 v6 Fs zs g3 g5 x y W1 := ⟨below_step h.b hb, h.frames.below hb, h.row.below hb, fault_keep h.h3 hb, fault_keep h.h5 hb⟩
theorem Sz.pushed {w W W1 : World} {v4 v6 v7 : Value} {Fs : List Fr} {zs ws : List Int} {g3 g5 : Nat} {x y : Int} (h : Sz w v4 v6 Fs zs g3 g5 x y W) (hg : W.grownBy W1 v6.ownBlock) (hO : OI W1 w.heap.size v7 ws) : Sz w v4 v7 Fs ws g3 g5 x y W1 := by
 have ho : Only W W1 (rf v6) := (Only.refl _ _).grown hg (fun k e => .inl e)
 refine ⟨Below.only h.b ho h.b.size (fun k e => (own_new h.row k e).1), h.frames.only ho (fun k e => ?_), hO, fault_only h.h3 ho (own_not h.row h.h3 (by decide)), fault_only h.h5 ho (own_not h.row h.h5 (by decide))⟩
 obtain ⟨cs, hc⟩ := own_typed h.row e
 exact ⟨cs, _, hc, by decide, by decide⟩
def SzRel (w : World) (v4 : Value) (Fs : List Fr) (g3 g5 : Nat) (x y : Int) (g : Nat) (v6 v18 : Value) (W : World) : Prop :=
 ∃ k : Nat, v18 = .int .i64 (k : Int) ∧ Hid (Sz w v4 v6 Fs (sizesS (Fs.take k)) g3 g5 x y W) ∧ Hid (k + g = Fs.length)
theorem told_all {xs : List Int} {t : Sm} {Fs : List Fr} (hb : Byt xs) (h : feedS xs (Sm.new 2097152) = (t, Fs.map Fr.core)) : ∀ F ∈ Fs, Told F.core := by
 obtain ⟨_, _, _, _, h4⟩ := feed_sent xs (new_ok (most := 2097152) (by decide) (by decide)) hb
 rw [h] at h4
 exact fun F hF => h4 _ (List.mem_map_of_mem hF)
attribute [-go_sem] Instr.loadAt Instr.storeAt Instr.build
set_option maxHeartbeats 8000000 in
set_option maxRecDepth 100000 in
theorem Sizes_any {w : World} {A : Option Addr} {n c : Nat} {xs : List Int} (hx : RB w A n xs) (hl : n ≤ 1034834473200) : Calls Tryz.prog 18 #[.slice A n c] w (SizesPost w xs) := by
 obtain ⟨w0, s0, hX0, hb0⟩ := fault_new w
 have HX := Lib.hid hx
 have HXL := Lib.hid hx.len
 have HL := Lib.hid hl
 have HB0 := Lib.hid hb0
 have HX0 := Lib.hid hX0
 clear hx hl hb0 hX0
 go_enter Tryz.func18, Tryz.ntmps18
 go_upto_region 1 with (fail)
 clear s0
 go_wp2_with fail
 refine (Split_any (HX.out.below HB0.out) HL.out).mono ?_
 rintro e w1 ⟨vl, Fs, t, x, y, rfl, HF, HXY, hO, hb1⟩
 obtain ⟨wa, w2, s0, s1, hY, hb2⟩ := fault_put w1 x y
 have hb12 := below_step hb1 hb2
 have hg : w.heap.size < w1.heap.size := by have := lt_of_block HX0.out; have := hb1.size; omega
 have HFL : Hid (Fs.length ≤ n) := Lib.hid (by
  have h := (feed_came xs (Sm.new 2097152)).2.2.2.2
  rw [HF.out, List.length_map] at h
  have := HXL.out; omega)
 have HTD := Lib.hid (told_all HX.out.byt HF.out)
 have HS0 : Hid (Sz w vl (.slice none 0 0) Fs [] w.heap.size w1.heap.size x y w2) := Lib.hid ⟨below_step (below_step HB0.out hb1) hb2, (hO.less HB0.out.size).below hb2, OI.nil _ _, fault_keep (fault_keep HX0.out hb1) hb2, hY⟩
 clear hO hb1 hb2 hb12 hY HX0
 go_upto_region 2 with (fail)
 clear s0 s1
 obtain ⟨g3, hg3⟩ : ∃ g, w.heap.size = g := ⟨_, rfl⟩
 obtain ⟨g5, hg5⟩ : ∃ g, w1.heap.size = g := ⟨_, rfl⟩
 have HG3 := Lib.hid hg3
 rw [hg3, hg5] at HS0 ⊢
 clear hg hg3 hg5
 obtain ⟨A4, c4, rfl⟩ := HS0.out.frames.form
 obtain ⟨nf, hnf⟩ : ∃ nf, Fs.length = nf := ⟨_, rfl⟩
 have HNF := Lib.hid hnf
 rw [hnf] at HS0 ⊢
 have HZ : Hid (SzRel w (.slice A4 nf c4) Fs g3 g5 x y nf (.slice none 0 0) (.int .i64 0) w2) := Lib.hid ⟨0, rfl, HS0, Lib.hid (by omega)⟩
 clear HS0 hnf
 go_wp2_with fail
 go_loopg [6, 18] nf (fun gk v6 v18 w' => SzRel w (.slice A4 nf c4) Fs g3 g5 x y gk v6 v18 w')
 case atStart => exact HZ.out
 case round =>
  clear HZ
  obtain ⟨k, rfl, HS, HG⟩ := hrel
  by_cases hk : k < nf
  ·have hrf := OFs.rf HS.out.frames HNF.out.symm (by have := HFL.out; have := HL.out; have := HNF.out; omega) HTD.out
   obtain ⟨ad, f, hA, hcl, hfk, hok, hwf, hag⟩ := hrf.at0 k hk
   have hk2 : (k : Int) < (nf : Int) := by omega
   have hk1 : IntKind.i64.wrap ((k : Int) + 1) = (k : Int) + 1 := by rw [IntKind.wrap_i64]; have := HFL.out; have := HL.out; have := HNF.out; omega
   have HGA : Hid (gk - 1 < gk ∧ k + 1 + (gk - 1) = Fs.length) := Lib.hid (by have h := HG.out; have := HNF.out; exact ⟨by omega, by omega⟩)
   have e21 := load_frame_at f hok.tool _ _ hcl
   have HFK := Lib.hid hfk
   obtain ⟨wb, w3, s0, s1, hF, hb3⟩ := frame_put wr f hok.tool
   have HF3 := Lib.hid hF
   have HS3 := Lib.hid (HS.out.below hb3)
   have HOK := Lib.hid (hok.below hb3)
   have HWF : Hid (f.wf ∧ ∀ s ∈ f.args, s.size ≤ 9223372036854775807) := Lib.hid ⟨hwf, hag⟩
   subst hA
   clear hrf hcl hfk hok hwf hag hk hF hb3 HS
   go_upto_region 6 with (fail)
   clear s0 s1 e21
   have e23 := get_frame HF3.out
   go_wp2_with fail
   refine (fSize_any HOK.out HWF.out.1 HWF.out.2).mono ?_
   rintro e w4 ⟨rfl, hb4⟩
   have HS4 := Lib.hid (HS3.out.below hb4)
   obtain ⟨z, hz⟩ : ∃ z : Int, ((encF f).length : Int) = z := ⟨_, rfl⟩
   have HZZ := Lib.hid hz
   rw [hz]
   have hrow := HS4.out.row
   have HLN : Hid (((sizesS (Fs.take k)).length + 1) * 8 ≤ 140737488355328) := Lib.hid (by unfold sizesS; rw [List.length_map, List.length_take]; have := HFL.out; have := HL.out; omega)
   clear hz hb4 e23 HS3
   go_wp2_with (at_builtin; refine print_append_num (w0 := w4) w.heap.size rfl (.tmp 27) (.tmp 29) 29 3 .i64 8 rfl Tryz.underlying29 int_info (by decide) _ _ z rfl rfl hrow (Below.refl _ _) HS4.out.b.size HLN.out ?_)
   intro v7 w5 hO7 _ hg7 _
   have HS5 : Hid (Sz w (.slice (some ad) nf c4) v7 Fs (sizesS (Fs.take (k + 1))) g3 g5 x y w5) := Lib.hid (HS4.out.pushed hg7 (by unfold OI; rw [sizes_snoc HFK.out, HZZ.out, List.length_append, List.length_singleton]; exact hO7))
   clear hrow hO7 hg7 HS4
   go_wp2_with fail
   go_roundg (gk - 1)
   case measure => exact HGA.out.1
   case rel => exact ⟨k + 1, by simp, HS5, HGA.out.2⟩
  ·have hk2 : ¬ (k : Int) < (nf : Int) := by omega
   have hall : Fs.take k = Fs := List.take_of_length_le (by have := HNF.out; omega)
   rw [hall] at HS
   clear hk hall
   go_upto_region 9 with (fail)
   have hS := HS.out
   have hdr := below_drew (Below.refl wr.heap.size wr)
   have hS2 := hS.below hdr
   have e33 := get_fault hS2.h5
   have p3 := put_fault x y hS2.h3
   have q2 := set_fault x y hS2.h3
   have hor := Fr.only_row wr.drew g3 (fv x y)
   have HQ : Hid (SizesPost w xs (.returned (.tuple #[u6, .agg (fv x y)])) (wr.drew.setRow g3 (fv x y))) := Lib.hid ⟨u6, Fs, t, x, y, rfl, HF, HXY, own_only hS2.row hor (fun k hk e => by subst e; exact own_not hS2.row hS2.h3 (by decide) hk), Below.only hS2.b hor hS2.b.size (fun k e => by rw [e]; exact Nat.le_of_eq HG3.out)⟩
   clear hS hdr hS2 hor HS
   go_wp2_with fail
   go_region_law (fail)
   all_goals
    go_wp2_with fail
    exact bodyPost_ret (v := .tuple #[u6, .agg (fv x y)]) (sizes_ret rfl q2 rfl) rfl HQ.out
end Go.Proofs.YtpjpgcjhdbiepaaGreat
end
section
namespace Go.Proofs.YtpjpgcjhdbiepaaGreat
open Go.RowKit Go.Kit Go.Proofs.YtpjpgcjhdbiepaaGreatW.PrintWords
section
variable {w w1 : World} {q n c : Nat} {A : Option Addr} {D : Rd} {S : Nat → Prop}
set_option maxHeartbeats 4000000 in
set_option maxRecDepth 100000 in
theorem rRText_any (h : QR w q A n c D) (most : Int) (hmo : most ≤ 9223372036854775807) : Calls Tryz.prog 82 #[.pointer (some ⟨q, 0, none⟩), .int .i64 most] w fun e w' => ∃ D1 s, e = .returned (.string s) ∧ Hid (textS D most = (D1, s)) ∧ QR w' q A n c D1 ∧ Only w w' (fun k => k = q) := by
 have h1 := h.q1
 have h2 := h.q2
 have hm := h.max
 have hlo := h.low
 by_cases hw : D.why = 0
 ·have HW := Lib.hid hw
  have hwb : (D.why == 0) = true := by simp [hw]
  have hwc : (D.why != 0) = false := by simp [hw]
  clear hw
  go_enter Tryz.func82, Tryz.ntmps82
  by_cases hneg : most < 0
  ·have HF : Hid (textS D most = (D.fail 1 D.at_, ByteArray.empty)) := Lib.hid (by
    unfold textS
    rw [if_neg (by rw [HW.out]; simp), if_pos hneg])
   go_wp2_with fail
   refine (rfail_any h 1 D.at_ (by decide)).mono ?_
   rintro e w2 ⟨rfl, hs, ho⟩
   go_wp2_with fail
   refine (rRUint_any hs).mono ?_
   rintro e w3 ⟨D1, v, rfl, HU, hs2, ho2⟩
   have hU := HU.out
   rw [uintS_bad (by simp [Rd.fail])] at hU
   cases hU
   have e2 : w3.cell? ⟨q, 2, none⟩ = some (.int .i64 1) := hs2.q2
   replace ho := ho.same ho2
   go_wp2_with fail
   go_ret
   exact ⟨_, _, rfl, HF, hs2, ho⟩
  ·have hneg2 : ¬ most < 0 := hneg
   have hwm : IntKind.u64.wrap most = most := IntWalk.u64_in _ ⟨by omega, by omega⟩
   have hok := h.ok
   have HL := Lib.hid h.row.len
   go_wp2_with fail
   refine (rRUint_any h).mono ?_
   rintro e w3 ⟨D1, v, rfl, HU, hs, ho⟩
   rcases uintS_cases hok HW.out with ⟨m, k, hN, hU, hmb, hk1, hk2⟩ | ⟨m, k, x, hx, hN, hU⟩
   ·rw [HU.out] at hU
    cases hU
    rw [HL.out] at hk1
    have e2 : w3.cell? ⟨q, 2, none⟩ = some (.int .i64 D.why) := hs.q2
    have e1 : w3.cell? ⟨q, 1, none⟩ = some (.int .i64 ((D.at_ + k : Nat) : Int)) := hs.q1
    have e0 := hs.q0
    have f1 := hs.fq 1
    by_cases hmm : most < (v : Int)
    ·have HF : Hid (textS D most = (D.fail 3 D.at_, ByteArray.empty)) := Lib.hid (by rw [textS_of HW.out (by omega) (textAt_long hN hmm), if_pos (by decide)])
     clear hN hmb hk2
     go_wp2_with fail
     refine (rfail_any hs 3 D.at_ (by decide)).mono ?_
     rintro e w4 ⟨rfl, hs4, ho4⟩
     have hs5 := hs4.set1 (D.at_ : Int) D.at_ rfl hlo
     have ho5 := (ho.same ho4).set q 1 (.int .i64 (D.at_ : Int)) (.inl rfl)
     have g2 : w4.cell? ⟨q, 2, none⟩ = some (.int .i64 3) := hs4.q2
     have g1 := hs4.q1
     have gf := hs4.fq 1
     go_wp2_with fail
     go_ret
     exact ⟨_, _, rfl, HF, hs5, ho5⟩
    ·have hw1 : IntKind.i64.wrap ((n : Int) - ((D.at_ + k : Nat) : Int)) = (n : Int) - ((D.at_ + k : Nat) : Int) := IntWalk.i64_in _ ⟨by omega, by omega⟩
     have hw2 : IntKind.u64.wrap ((n : Int) - ((D.at_ + k : Nat) : Int)) = (n : Int) - ((D.at_ + k : Nat) : Int) := IntWalk.u64_in _ ⟨by omega, by omega⟩
     obtain ⟨ak, hak⟩ : ∃ ak, ak = D.at_ + k := ⟨_, rfl⟩
     rw [← hak] at e1 hw1 hw2 hk1 hs HU
     by_cases hfit : n < ak + v
     ·have HF : Hid (textS D most = (D.fail 4 D.at_, ByteArray.empty)) := Lib.hid (by rw [textS_of HW.out (by omega) (textAt_short hN hmm (by rw [HL.out]; omega)), if_pos (by decide)])
      have hf2 : (n : Int) - (ak : Int) < (v : Int) := by omega
      clear hN hmb hk2 hak
      go_wp2_with fail
      go_quiet (fail)
      replace hs := hs.drewN nq
      replace ho := ho.drewN nq
      go_wp2_with fail
      refine (rfail_any hs 4 D.at_ (by decide)).mono ?_
      rintro e w4 ⟨rfl, hs4, ho4⟩
      have hs5 := hs4.set1 (D.at_ : Int) D.at_ rfl hlo
      have ho5 := (ho.same ho4).set q 1 (.int .i64 (D.at_ : Int)) (.inl rfl)
      have g2 : w4.cell? ⟨q, 2, none⟩ = some (.int .i64 4) := hs4.q2
      have g1 := hs4.q1
      have gf := hs4.fq 1
      go_wp2_with fail
      go_ret
      exact ⟨_, _, rfl, HF, hs5, ho5⟩
     ·have HF : Hid (textS D most = (D.to (ak + v), strOfNums ((D.bs.drop ak).take v))) := Lib.hid (by rw [textS_of HW.out (by omega) (textAt_ok hN hmm (by rw [HL.out]; omega)), if_neg (by decide), hak])
      have hf2 : (v : Int) ≤ (n : Int) - (ak : Int) := by omega
      have hv2 : (v : Int) ≤ 9223372036854775807 := by omega
      have hv3 : wrap64 (v : Int) = (v : Int) := by unfold wrap64; omega
      clear hN hmb hk2 hak
      go_wp2_with fail
      go_quiet (fail)
      replace hs := hs.drewN nq
      replace ho := ho.drewN nq
      have g2 : (w3.drewN nq).cell? ⟨q, 2, none⟩ = some (.int .i64 D.why) := hs.q2
      go_wp2_with fail
      refine (rRaw_any hs (v : Int) hv2).mono ?_
      rintro e w4 ⟨D2, vv, xs, rfl, HR, hO, hs4, ho4⟩
      obtain ⟨A', c', rfl, hR, _⟩ := hO.reads'
      have hraw : D2 = D.to (ak + v) ∧ xs = (D.bs.drop ak).take v := by
       have := HR.out
       unfold rawS at this
       rw [if_neg (by show ¬ D.why ≠ 0; rw [HW.out]; simp), if_neg (by omega), if_neg (by show ¬ ((D.bs.length : Int) - (ak : Int) < (v : Int)); rw [HL.out]; omega)] at this
       cases this
       exact ⟨rfl, rfl⟩
      obtain ⟨rfl, rfl⟩ := hraw
      have hlen : ((D.bs.drop ak).take v).length = v := by rw [List.length_take, List.length_drop, HL.out]; omega
      rw [hlen] at hR ⊢
      clear hlen
      have ka := string_of_reads (P := Tryz.prog) (c := c') Tryz.underlying22 Tryz.underlying5 Tryz.underlying9 hR.rd
      have ho5 := ho.same ho4
      clear hO hR hv3
      go_wp2_with fail
      go_ret
      exact ⟨_, _, rfl, HF, hs4, ho5⟩
   ·rw [HU.out] at hU
    cases hU
    have e2 : w3.cell? ⟨q, 2, none⟩ = some (.int .i64 x) := hs.q2
    have hxb : (x != 0) = true := by simp [hx]
    have HF : Hid (textS D most = (D.fail x D.at_, ByteArray.empty)) := Lib.hid (by rw [textS_of HW.out (by omega) (textAt_err hN hx), if_pos hx])
    clear hx hN
    go_wp2_with fail
    go_ret
    exact ⟨_, _, rfl, HF, hs, ho⟩
 ·have HF : Hid (textS D most = (D, ByteArray.empty)) := Lib.hid (by unfold textS; rw [if_pos hw])
  have hwb : (D.why == 0) = false := by simp [hw]
  have hwc : (D.why != 0) = true := by simp [hw]
  have HW := Lib.hid hw
  clear hw
  go_enter Tryz.func82, Tryz.ntmps82
  go_wp2_with fail
  refine (rRUint_any h).mono ?_
  rintro e w3 ⟨D1, v, rfl, HU, hs, ho⟩
  have hU := HU.out
  rw [uintS_bad HW.out] at hU
  cases hU
  have e2 := hs.q2
  go_wp2_with fail
  go_ret
  exact ⟨_, _, rfl, HF, hs, ho⟩
theorem own_not_q {w : World} {base r : Nat} {v : Value} {xs : List ByteArray} {cs : Array Value} {fr : Nat × Nat} (h : OT 9 w base v xs) (hk : w.heap[r]? = some (.cells cs 129 fr)) : v.ownBlock = none ∨ v.ownBlock ≠ some r := by
 rcases h.2 with ⟨h1, _⟩ | ⟨g, cap, cur, h1, h2, h3, h4⟩
 ·exact .inl (by rw [h1]; rfl)
 ·refine .inr (fun e => ?_)
  rw [h1] at e; cases e
  rw [hk] at h3
  simp at h3
theorem sep_ownq {w : World} {base r n c : Nat} {A : Option Addr} {D : Rd} {v : Value} {xs : List ByteArray} (h : OT 9 w base v xs) (hk : QR w r A n c D) (hA : ∀ a, A = some a → a.block < base) : Sep (qrf r A) (rf v) := fun k hk1 hv => by
 rcases h.2 with ⟨h1, _⟩ | ⟨g, cap, cur, h1, h2, h3, h4⟩
 ·rw [h1] at hv; cases hv
 ·rw [h1] at hv; cases hv
  rcases hk1 with rfl | ⟨a, e, rfl⟩
  ·rw [hk.qk] at h3; simp at h3
  ·have := hA a e; omega
theorem ot_kept4 {w w1 : World} {base q : Nat} {v : Value} {xs : List ByteArray} (h : OT 9 w base v xs) (ho : Only w w1 (fun k => k = q)) (hq : v.ownBlock = none ∨ v.ownBlock ≠ some q) : OT 9 w1 base v xs := by
 refine ⟨h.1, ?_⟩
 rcases h.2 with h1 | ⟨g, cap, cur, h1, h2, h3, h4⟩
 ·exact .inl h1
 ·refine .inr ⟨g, cap, cur, h1, h2, ho.kept h3 (fun e => ?_), h4⟩
  rcases hq with hq | hq
  ·rw [h1] at hq; cases hq
  ·exact hq (by rw [h1, ← e]; rfl)
def LsAt (D : Rd) (each : Int) (m a0 j a : Nat) (acc : List ByteArray) (D2 : Rd) : Prop :=
 (D2 = D.to a ∧ lstR D.bs each m a0 [] = lstR D.bs each j a acc ∧ acc.length ≤ a ∧ a ≤ D.bs.length) ∨ ∃ x b, x ≠ 0 ∧ D2 = (D.to b).fail x b ∧ lstR D.bs each m a0 [] = ([], b, x)
set_option maxHeartbeats 8000000 in
set_option maxRecDepth 100000 in
theorem rRList_any (h : QR w q A n c D) (hn : n ≤ 4398046511104) (most each : Int) (hmo : most ≤ 9223372036854775807) (hea : each ≤ 9223372036854775807) : Calls Tryz.prog 81 #[.pointer (some ⟨q, 0, none⟩), .int .i64 most, .int .i64 each] w fun e w' => ∃ D1 v l, e = .returned v ∧ Hid (listS D most each = (D1, l)) ∧ OT 9 w' w.heap.size v l ∧ QR w' q A n c D1 ∧ Only w w' (fun k => k = q) := by
 have h1 := h.q1
 have h2 := h.q2
 have hm := h.max
 have hlo := h.low
 by_cases hw : D.why = 0
 ·have HW := Lib.hid hw
  have hwb : (D.why == 0) = true := by simp [hw]
  clear hw
  go_enter Tryz.func81, Tryz.ntmps81
  by_cases hneg : most < 0 ∨ each < 0
  ·have HF : Hid (listS D most each = (D.fail 1 D.at_, [])) := Lib.hid (by
    unfold listS
    rw [if_neg (by rw [HW.out]; simp), if_pos hneg])
   have hdd : (decide (most < 0) || decide (each < 0)) = true := by simpa using hneg
   have HNG := Lib.hid hneg
   clear hneg
   by_cases hm0 : most < 0
   ·go_wp2_with fail
    refine (rfail_any h 1 D.at_ (by decide)).mono ?_
    rintro e w4 ⟨rfl, hs, ho⟩
    go_wp2_with fail
    refine (rRUint_any hs).mono ?_
    rintro e w3 ⟨D1, v, rfl, HU, hs2, ho2⟩
    have hU := HU.out
    rw [uintS_bad (by simp [Rd.fail])] at hU
    cases hU
    replace ho := ho.same ho2
    replace hs := hs2
    clear hs2
    have hs5 := hs.set1 (D.at_ : Int) D.at_ rfl hlo
    have ho5 := ho.set q 1 (.int .i64 (D.at_ : Int)) (.inl rfl)
    have e2 := hs.q2
    have e1 := hs.q1
    have ef := hs.fq 1
    try dsimp only [Rd.fail, Rd.to] at e2
    go_wp2_with fail
    go_loopg [9, 10] 0 (fun gk v9 v10 w' => v9 = .slice none 0 0 ∧ v10 = .int .u64 0 ∧ w' = w3)
    case atStart => exact ⟨rfl, rfl, rfl⟩
    case round =>
     obtain ⟨rfl, rfl, rfl⟩ := hrel
     go_wp2_with fail
     go_ret
     exact ⟨_, _, [], rfl, HF, OT.nil _ _ _, hs5, ho5⟩
   ·have hm1 : each < 0 := HNG.out.resolve_left hm0
    go_wp2_with fail
    refine (rfail_any h 1 D.at_ (by decide)).mono ?_
    rintro e w4 ⟨rfl, hs, ho⟩
    go_wp2_with fail
    refine (rRUint_any hs).mono ?_
    rintro e w3 ⟨D1, v, rfl, HU, hs2, ho2⟩
    have hU := HU.out
    rw [uintS_bad (by simp [Rd.fail])] at hU
    cases hU
    replace ho := ho.same ho2
    replace hs := hs2
    clear hs2
    have hs5 := hs.set1 (D.at_ : Int) D.at_ rfl hlo
    have ho5 := ho.set q 1 (.int .i64 (D.at_ : Int)) (.inl rfl)
    have e2 := hs.q2
    have e1 := hs.q1
    have ef := hs.fq 1
    try dsimp only [Rd.fail, Rd.to] at e2
    go_wp2_with fail
    go_loopg [9, 10] 0 (fun gk v9 v10 w' => v9 = .slice none 0 0 ∧ v10 = .int .u64 0 ∧ w' = w3)
    case atStart => exact ⟨rfl, rfl, rfl⟩
    case round =>
     obtain ⟨rfl, rfl, rfl⟩ := hrel
     go_wp2_with fail
     go_ret
     exact ⟨_, _, [], rfl, HF, OT.nil _ _ _, hs5, ho5⟩
  ·have hm0 : ¬ most < 0 := fun e => hneg (.inl e)
   have he0 : ¬ each < 0 := fun e => hneg (.inr e)
   have HNG := Lib.hid hneg
   clear hneg
   have hok := h.ok
   have HL := Lib.hid h.row.len
   have hwm : IntKind.u64.wrap most = most := IntWalk.u64_in _ ⟨by omega, by omega⟩
   go_wp2_with fail
   refine (rRUint_any h).mono ?_
   rintro e w3 ⟨D1, v, rfl, HU, hs, ho⟩
   rcases uintS_cases hok HW.out with ⟨m, k, hN, hU, hmb, hk1, hk2⟩ | ⟨m, k, x, hx, hN, hU⟩
   ·rw [HU.out] at hU
    cases hU
    rw [HL.out] at hk1
    have e2 : w3.cell? ⟨q, 2, none⟩ = some (.int .i64 D.why) := hs.q2
    by_cases hmm : most < (v : Int)
    ·have HF : Hid (listS D most each = (D.fail 11 D.at_, [])) := Lib.hid (by
      unfold listS
      rw [if_neg (by rw [HW.out]; simp), if_neg HNG.out, hN, if_neg (by simp), if_pos hmm])
     have hv0 : (0 : Int) < (v : Int) := by omega
     clear hN hmb hk1 hk2
     go_wp2_with fail
     refine (rfail_any hs 11 D.at_ (by decide)).mono ?_
     rintro e w4 ⟨rfl, hs4, ho4⟩
     replace ho := ho.same ho4
     clear e2
     replace hs := hs4
     clear hs4
     have hs5 := hs.set1 (D.at_ : Int) D.at_ rfl hlo
     have ho5 := ho.set q 1 (.int .i64 (D.at_ : Int)) (.inl rfl)
     have e2 := hs.q2
     have e1 := hs.q1
     have ef := hs.fq 1
     try dsimp only [Rd.fail, Rd.to] at e2
     go_wp2_with fail
     go_loopg [9, 10] 0 (fun gk v9 v10 w' => v9 = .slice none 0 0 ∧ v10 = .int .u64 0 ∧ w' = w4)
     case atStart => exact ⟨rfl, rfl, rfl⟩
     case round =>
      obtain ⟨rfl, rfl, rfl⟩ := hrel
      go_wp2_with fail
      go_ret
      exact ⟨_, _, [], rfl, HF, OT.nil _ _ _, hs5, ho5⟩
    ·have HF : Hid (listS D most each = if (lstR D.bs each v (D.at_ + k) []).2.2 ≠ 0 then (D.fail (lstR D.bs each v (D.at_ + k) []).2.2 (lstR D.bs each v (D.at_ + k) []).2.1, []) else (D.to (lstR D.bs each v (D.at_ + k) []).2.1, (lstR D.bs each v (D.at_ + k) []).1)) := Lib.hid (by
      unfold listS
      rw [if_neg (by rw [HW.out]; simp), if_neg HNG.out, hN, if_neg (by simp), if_neg hmm])
     have HV : Hid (v < 18446744073709551616) := hmb
     have hq := hs.oldF
     have hAo := hs.old
     have hwz : (D.why != 0) = false := by simp [HW.out]
     clear hN hmb hk2
     obtain ⟨a0, ha0⟩ : ∃ a0, a0 = D.at_ + k := ⟨_, rfl⟩
     rw [← ha0] at HF hs hk1 HU
     clear ha0
     go_wp2_with fail
     go_loopg [9, 10] v (fun gk v9 v10 w' => ∃ (i a : Nat) (acc : List ByteArray) (D2 : Rd), v10 = .int .u64 (i : Int) ∧ OT 9 w' w3.heap.size v9 acc ∧ QR w' q A n c D2 ∧ Only w3 w' (fun k => k = q) ∧ Hid (i ≤ v ∧ gk = v - i ∧ LsAt D each v a0 (v - i) a acc D2))
     case atStart => exact ⟨0, a0, [], _, rfl, OT.nil _ _ _, hs, Only.refl _ _, by omega, rfl, .inl ⟨rfl, rfl, by simp, by rw [HL.out]; exact hk1⟩⟩
     case round =>
      clear hs e2
      obtain ⟨i, a, acc, D2, rfl, hO, hs, ho1, HG⟩ := hrel
      have hsz := ho1.size
      rcases HG.out.2.2 with ⟨rfl, hl, hac, hab⟩ | ⟨x, b, hx, rfl, hl⟩
      ·have e2 : wr.cell? ⟨q, 2, none⟩ = some (.int .i64 D.why) := hs.q2
       have HLR := Lib.hid hl
       have HAC := Lib.hid hac
       have HAB := Lib.hid hab
       clear hl hac hab
       by_cases hi : i < v
       ·have hi2 : (i : Int) < (v : Int) := by omega
        go_wp2_with fail
        refine (rRText_any hs each hea).mono ?_
        rintro e w4 ⟨D3, s, rfl, HT, hs4, ho4⟩
        obtain ⟨s', en, x, hT⟩ : ∃ s' en x, textAt D.bs a each = (s', en, x) := ⟨_, _, _, rfl⟩
        have hTS := textS_of (D := D.to a) (most := each) HW.out (by omega) hT
        rw [HT.out] at hTS
        obtain ⟨q1, q2⟩ := textAt_facts h.row.byt HAB.out hT
        have hOk := ot_kept4 hO ho4 (own_not_q hO hs.qk)
        have ho5 := ho1.same ho4
        have HJ : Hid (v - i = (v - (i + 1)) + 1) := Lib.hid (by omega)
        have hiw : IntKind.u64.wrap ((i : Int) + 1) = (i : Int) + 1 := IntWalk.u64_in _ ⟨by omega, by have := HV.out; omega⟩
        by_cases hx : x = 0
        ·obtain ⟨q3, q4, q5, _⟩ := q1 hx
         rw [if_neg (by simpa using hx)] at hTS
         cases hTS
         have e4 : w4.cell? ⟨q, 2, none⟩ = some (.int .i64 D.why) := hs4.q2
         have HNX : Hid (lstR D.bs each v a0 [] = lstR D.bs each (v - (i + 1)) en (acc ++ [s])) := Lib.hid (by
          rw [HLR.out, HJ.out, lstR, hT, if_neg (by simpa using hx)])
         have hln : (acc.length + 1) * 16 ≤ 140737488355328 := by have := HAC.out; have := HAB.out; rw [HL.out] at this; omega
         have HLEN : Hid ((acc ++ [s]).length ≤ en) := Lib.hid (by rw [List.length_append]; have := HAC.out; simp; omega)
         have HEN : Hid (en ≤ D.bs.length) := q3
         have hs5 := ho5.size
         clear hx q1 q2 q3 q4 q5 hT
         go_wp2_with (at_builtin; refine print_append_of (w0 := w4) Value.string w3.heap.size rfl (.tmp 68) (.tmp 70) 46 9 (.string ByteArray.empty) 16 rfl Tryz.underlying46 str_info rfl (by decide) _ acc s rfl rfl rfl hOk (Below.refl _ _) hs5 hln ?_)
         intro v1 w5 hown _ hg hat
         replace hown : OT 9 w5 w3.heap.size v1 (acc ++ [s]) := by unfold OT; simpa using hown
         have h5 : QR w5 q A n c _ := hs4.only ((Only.refl w4 (rf u9)).grown hg (fun k e => .inl e)) (sep_ownq hOk hs4 hAo)
         have ho6 : Only w3 w5 (fun k => k = q) := ho5.grown hg (fun k e => .inr (own_base hOk k e))
         clear hO hOk hg hat hln
         go_wp2_with fail
         go_roundg (v - (i + 1))
         case measure => have := HG.out; omega
         case rel => exact ⟨i + 1, en, _, _, by first | rfl | simp, hown, h5, ho6, by omega, rfl, .inl ⟨rfl, HNX.out, HLEN.out, HEN.out⟩⟩
        ·rw [if_pos hx] at hTS
         cases hTS
         have e4 : w4.cell? ⟨q, 2, none⟩ = some (.int .i64 x) := hs4.q2
         have hxb : (x == 0) = false := by simp [hx]
         have HX := Lib.hid hx
         have HNX : Hid (lstR D.bs each v a0 [] = ([], a, x)) := Lib.hid (by
          rw [HLR.out, HJ.out, lstR, hT, if_pos hx])
         clear hx q1 q2 hT
         go_wp2_with fail
         go_roundg (v - (i + 1))
         case measure => have := HG.out; omega
         case rel => exact ⟨i + 1, a, acc, _, by first | rfl | simp, hOk, hs4, ho5, by omega, rfl, .inr ⟨x, a, HX.out, rfl, HNX.out⟩⟩
       ·have hi2 : ¬ (i : Int) < (v : Int) := by omega
        have HFF : Hid (listS D most each = (D.to a, acc)) := Lib.hid (by
         rw [HF.out, HLR.out, show v - i = 0 by omega]
         rfl)
        have hOk := hO.less ho.size
        have ho5 := ho.same ho1
        go_wp2_with fail
        go_ret
        first | exact ⟨_, _, acc, rfl, HFF, hOk, hs, ho5⟩ | exact ⟨_, _, rfl, acc, HFF, hOk, hs, ho5⟩
      ·have e2 : wr.cell? ⟨q, 2, none⟩ = some (.int .i64 x) := hs.q2
       have ef := hs.fq 1
       have e1 := hs.q1
       have hxb : (x == 0) = false := by simp [hx]
       have hxc : (x != 0) = true := by simp [hx]
       have HFF : Hid (listS D most each = (D.fail x b, [])) := Lib.hid (by
        rw [HF.out, hl]
        rw [if_pos hx])
       have hs5 := hs.set1 (D.at_ : Int) D.at_ rfl hlo
       have ho5 := (ho.same ho1).set q 1 (.int .i64 (D.at_ : Int)) (.inl rfl)
       clear hx hl
       by_cases hi : (i : Int) < (v : Int)
       all_goals
        go_wp2_with fail
        go_ret
        first | exact ⟨_, _, [], rfl, HFF, OT.nil _ _ _, hs5, ho5⟩ | exact ⟨_, _, rfl, [], HFF, OT.nil _ _ _, hs5, ho5⟩
   ·rw [HU.out] at hU
    cases hU
    have hxb : (x == 0) = false := by simp [hx]
    have hxc : (x != 0) = true := by simp [hx]
    have HF : Hid (listS D most each = (D.fail x D.at_, [])) := Lib.hid (by
     unfold listS
     rw [if_neg (by rw [HW.out]; simp), if_neg HNG.out, hN, if_pos hx])
    clear hx hN
    have hs5 := hs.set1 (D.at_ : Int) D.at_ rfl hlo
    have ho5 := ho.set q 1 (.int .i64 (D.at_ : Int)) (.inl rfl)
    have e2 := hs.q2
    have e1 := hs.q1
    have ef := hs.fq 1
    try dsimp only [Rd.fail, Rd.to] at e2
    go_wp2_with fail
    go_loopg [9, 10] 0 (fun gk v9 v10 w' => v9 = .slice none 0 0 ∧ v10 = .int .u64 0 ∧ w' = w3)
    case atStart => exact ⟨rfl, rfl, rfl⟩
    case round =>
     obtain ⟨rfl, rfl, rfl⟩ := hrel
     go_wp2_with fail
     go_ret
     exact ⟨_, _, [], rfl, HF, OT.nil _ _ _, hs5, ho5⟩
 ·have HF : Hid (listS D most each = (D, [])) := Lib.hid (by unfold listS; rw [if_pos hw])
  have hwb : (D.why == 0) = false := by simp [hw]
  have hwc : (D.why != 0) = true := by simp [hw]
  have HW := Lib.hid hw
  clear hw
  go_enter Tryz.func81, Tryz.ntmps81
  go_wp2_with fail
  refine (rRUint_any h).mono ?_
  rintro e w3 ⟨D1, v, rfl, HU, hs2, ho2⟩
  have hU := HU.out
  rw [uintS_bad HW.out] at hU
  cases hU
  have hs := hs2
  have ho := ho2
  clear hs2 ho2
  have hs5 := hs.set1 (D.at_ : Int) D.at_ rfl hlo
  have ho5 := ho.set q 1 (.int .i64 (D.at_ : Int)) (.inl rfl)
  have e2 := hs.q2
  have e1 := hs.q1
  have ef := hs.fq 1
  try dsimp only [Rd.fail, Rd.to] at e2
  go_wp2_with fail
  go_loopg [9, 10] 0 (fun gk v9 v10 w' => v9 = .slice none 0 0 ∧ v10 = .int .u64 0 ∧ w' = w3)
  case atStart => exact ⟨rfl, rfl, rfl⟩
  case round =>
   obtain ⟨rfl, rfl, rfl⟩ := hrel
   go_wp2_with fail
   go_ret
   exact ⟨_, _, [], rfl, HF, OT.nil _ _ _, hs5, ho5⟩
end
end Go.Proofs.YtpjpgcjhdbiepaaGreat
end
section
namespace Go.Proofs.YtpjpgcjhdbiepaaGreat
open Go.RowKit Go.Kit Go.Proofs.YtpjpgcjhdbiepaaGreatW.PrintWords
section
variable {w : World} {q n c : Nat} {A : Option Addr} {D : Rd}
theorem count_to {D D1 : Rd} {m : Int} {v : Nat} (h : countS D m = (D1, v)) (hw : D1.why = 0) : ∃ a, D1 = D.to a := by
 unfold countS at h
 split at h
 ·next h0 => cases h; exact absurd hw h0
 split at h
 ·cases h; exact absurd hw (by show (1 : Int) ≠ 0; decide)
 split at h
 ·next h0 => cases h; exact absurd hw h0
 split at h
 ·cases h; exact absurd hw (by show (11 : Int) ≠ 0; decide)
 ·cases h; exact ⟨_, rfl⟩
theorem fail_to {D : Rd} (h : D.why = 0) (a : Nat) : failS ((D.to a).to D.at_) 70 = D.fail 70 D.at_ := by
 unfold failS
 rw [if_pos ⟨h, by decide⟩]
 rfl
set_option maxHeartbeats 4000000 in
set_option maxRecDepth 100000 in
theorem rsome_any (h : QR w q A n c D) (most : Int) (hmo : most ≤ 9223372036854775807) : Calls Tryz.prog 78 #[.pointer (some ⟨q, 0, none⟩), .int .i64 most] w fun e w' =>
  ∃ D1 v, e = .returned (.int .i64 ((v : Nat) : Int)) ∧ Hid (someS D most = (D1, v)) ∧ QR w' q A n c D1 ∧ Only w w' (fun k => k = q) := by
 have q1 := h.q1
 go_enter Tryz.func78, Tryz.ntmps78
 go_wp2_with fail
 refine (rCount_any h most hmo).mono ?_
 rintro e w2 ⟨D1, v, rfl, HC, hR, ho⟩
 have p2 := hR.q2
 by_cases hw : D1.why = 0
 ·by_cases hv : v = 0
  ·obtain ⟨a, ha⟩ := count_to HC.out hw
   have HS : Hid (someS D most = (D.fail 70 D.at_, 0)) := Lib.hid (someS_none (by rw [← hv]; exact HC.out) hw)
   subst hv
   have p1 := hR.q1
   have f1 := hR.fq 1
   have b1 : (D1.why == 0) = true := by rw [hw]; rfl
   have hR3 := hR.set1 (D.at_ : Int) D.at_ rfl h.low
   have ho3 := ho.same (only_q w2 q 1 (.int .i64 (D.at_ : Int)))
   have HA : Hid (D1 = D.to a) := Lib.hid ha
   have HW := Lib.hid hw
   clear h hR ho HC ha hw q1
   go_wp2_with fail
   refine (rFail_any hR3 70).mono ?_
   rintro e w4 ⟨rfl, hR4, ho4⟩
   have ho5 := ho3.same ho4
   rw [HA.out, fail_to (by have := HW.out; rw [HA.out] at this; exact this)] at hR4
   clear hR3 ho3 ho4 p1 f1 p2
   go_wp2_with fail
   go_ret
   exact ⟨_, 0, rfl, HS, hR4, ho5⟩
  ·have HS : Hid (someS D most = (D1, v)) := Lib.hid (someS_some HC.out (fun e => hv e.2))
   have b1 : (D1.why == 0) = true := by rw [hw]; rfl
   have b2 : ((v : Int) == 0) = false := by rw [beq_eq_false_iff_ne]; omega
   clear hw hv h HC q1
   go_wp2_with fail
   go_ret
   exact ⟨D1, v, rfl, HS, hR, ho⟩
 ·have HS : Hid (someS D most = (D1, v)) := Lib.hid (someS_some HC.out (fun e => hw e.1))
  have b1 : (D1.why == 0) = false := by rw [beq_eq_false_iff_ne]; exact hw
  clear hw h HC q1
  go_wp2_with fail
  go_ret
  exact ⟨D1, v, rfl, HS, hR, ho⟩
end
end Go.Proofs.YtpjpgcjhdbiepaaGreat
end
section
namespace Go.Proofs.YtpjpgcjhdbiepaaGreat
open Go.RowKit Go.Kit Go.Proofs.YtpjpgcjhdbiepaaGreatW.PrintWords
section
variable {f : Fr} {t : TypeId} {w : World} {g : Nat}
theorem tool_set (T : List Value) (a b c d : Value) (R : List Value) (j : Nat) (hj : j < T.length) (v : Value) : ([a, b, c, d] ++ (T ++ R)).set (4 + j) v = [a, b, c, d] ++ (T.set j v ++ R) := by
 rw [List.set_append_right _ _ (by simp), List.set_append_left _ _ (by simpa using hj)]
 congr 3
 simp
theorem _root_.Go.Kit.Fr.at_.setTool (h : f.at_ t w g) (j : Nat) (hj : j < 32) (x : Int) : ({ f with tool := f.tool.set j x } : Fr).at_ t (w.setCell ⟨g, 4 + j, none⟩ (.int .u8 x)) g := by
 refine ⟨?_, by show (f.tool.set j x).length = 32; rw [List.length_set]; exact h.tool⟩
 have h1 := heap_set_same w g (4 + j) _ _ (.int .u8 x) h.blk
 rw [h1]
 unfold Fr.arr
 rw [List.setIfInBounds_toArray]
 have e : f.cells.set (4 + j) (.int .u8 x) = ({ f with tool := f.tool.set j x } : Fr).cells := by
  unfold Fr.cells
  rw [tool_set _ _ _ _ _ _ j (by simp [nums, h.tool]; omega)]
  simp [nums, List.map_set, Fr.lim]
 rw [e]
end
theorem some_le {D D1 : Rd} {k : Nat} (h : someS D 6 = (D1, k)) : k ≤ 6 := by
 unfold someS at h
 split at h
 ·cases h; omega
 ·have := count_le (by omega) h; omega
def FieldsPost (w : World) (q n c : Nat) (A : Option Addr) (D : Rd) (e : Ending) (w' : World) : Prop :=
 ∃ (D1 : Rd) (F : Fr), e = .returned (.agg F.arr) ∧ Hid (fieldsS D = (D1, F.core)) ∧ QR w' q A n c D1 ∧ F.ok w' ∧ OwnA w' w.heap.size F ∧ Only w w' (fun k => k = q)
theorem notq {q g : Nat} {A : Option Addr} (h : ¬ qrf q A g) : ¬ g = q := fun e => h (.inl e)
theorem sepq {q g : Nat} {A : Option Addr} (h : ¬ qrf q A g) : Sep (qrf q A) (fun k => k = g) := fun k hk e => h (e ▸ hk)
theorem fields_end {w w3 W : World} {q g gr : Nat} {cs : Array Value} (h3 : Only w w3 (fun k => k = q)) (ho : Only w3 W (fun k => k = q ∨ k = g)) (hg : w.heap.size ≤ g) (hgr : w.heap.size ≤ gr) : Only w (W.setRow gr cs) (fun k => k = q) :=
 (h3.then_ ho (fun k e => e.elim .inl (fun e => .inr (by omega)))).then_ (Fr.only_row W gr cs) (fun k e => .inr (by omega))
theorem fields_of {D D1 D2 : Rd} {k j : Nat} {F : Fr} (hk : k = j) (h : someS D 6 = (D1, k)) (h2 : kindS D1 j = (D2, F)) : fieldsS D = (D2, F) := by
 unfold fieldsS; rw [h]; subst hk; exact h2
theorem tool_cell {f : Fr} {t : TypeId} {w : World} {g : Nat} (h : f.at_ t w g) (i : Nat) (hi : i < 32) : ∃ u, w.cell? ⟨g, 4 + i, none⟩ = some u := by
 have hl : i < (nums .u8 f.tool).length := by rw [nums_length, h.tool]; exact hi
 exact ⟨_, h.r4 i _ (List.getElem?_eq_getElem hl)⟩
theorem tool_step (ts : List Int) (i : Nat) (x : Int) (hi : i < 32) (hx : ts[i]? = some x) : (ts.take i ++ z32.drop i).set i x = ts.take (i + 1) ++ z32.drop (i + 1) := by
 have hl : i < ts.length := by
  rcases Nat.lt_or_ge i ts.length with h | h
  ·exact h
  ·rw [List.getElem?_eq_none h] at hx; cases hx
 have e1 : (ts.take i).length = i := by rw [List.length_take]; omega
 have e2 : z32.drop i = 0 :: z32.drop (i + 1) := by
  have : i < z32.length := by simpa [z32] using hi
  rw [List.drop_eq_getElem_cons this]; congr 1; exact List.getElem_replicate _
 rw [List.set_append_right _ _ (by omega), e1, Nat.sub_self, e2, List.set_cons_zero, snoc hx, List.append_assoc]
 rfl
attribute [-go_sem] Instr.loadAt Instr.storeAt Instr.build
section
variable {w : World} {q n c : Nat} {A : Option Addr} {D : Rd}
set_option maxHeartbeats 16000000 in
set_option maxRecDepth 100000 in
theorem rfields_any (h : QR w q A n c D) (hn : n ≤ 4398046511104) : Calls Tryz.prog 66 #[.pointer (some ⟨q, 0, none⟩)] w (FieldsPost w q n c A D) := by
 obtain ⟨hZ0, hb0⟩ := one_new w
 have h0 := h.below hb0
 have hold := h.oldF
 have hq0 := lt_of_block h.qk
 go_enter Tryz.func66, Tryz.ntmps66
 go_upto_region 1 with (fail)
 generalize w.alloc (.cells #[.int .i64 0, .int .u64 0, .int .i64 0, .int .i64 0, .int .u8 0, .int .u8 0, .int .u8 0, .int .u8 0, .int .u8 0, .int .u8 0, .int .u8 0, .int .u8 0, .int .u8 0, .int .u8 0, .int .u8 0, .int .u8 0, .int .u8 0, .int .u8 0, .int .u8 0, .int .u8 0, .int .u8 0, .int .u8 0, .int .u8 0, .int .u8 0, .int .u8 0, .int .u8 0, .int .u8 0, .int .u8 0, .int .u8 0, .int .u8 0, .int .u8 0, .int .u8 0, .int .u8 0, .int .u8 0, .int .u8 0, .int .u8 0, .int .i64 0, .int .i64 0, .int .i64 0, .int .i64 0, .slice none 0 0, .string ⟨#[]⟩] 48) = w1 at *
 obtain ⟨gr, hgr⟩ : ∃ gr, w.heap.size = gr := ⟨_, rfl⟩
 have hrq : ¬ qrf q A gr := fun e => by have := hold gr e; omega
 rw [hgr] at hZ0 ⊢
 have HGR := Lib.hid hgr
 clear h hgr hq0
 go_wp2_with fail
 refine (rsome_any h0 6 (by omega)).mono ?_
 rintro e w2 ⟨D0, k, rfl, HS, hR2, ho2⟩
 have hZ2 := hZ0.only ho2 (notq hrq)
 have hk6 := some_le HS.out
 obtain ⟨z, hz⟩ : ∃ z : Int, (k : Int) = z := ⟨_, rfl⟩
 have HZ := Lib.hid hz
 rw [hz]
 obtain ⟨wa, w3, s0, s1, hF3, hb3⟩ := frame_put w2 (kF z) rfl
 have HF3 := Lib.hid hF3
 have HB3 := Lib.hid hb3
 have hbk := build_kind z
 clear hF3 hb3
 go_upto_region 2 with (fail)
 clear s0 s1 hbk
 have hF := HF3.out
 have hbb := HB3.out
 have hR := hR2.below hbb
 have hZ := hZ2.below hbb
 have h3 : Only w w3 (fun k => k = q) := ((Only.of_below hb0 (fun k => k = q)).same ho2).below hbb
 obtain ⟨g, hg⟩ : ∃ g, w2.heap.size = g := ⟨_, rfl⟩
 have hgq : ¬ qrf q A g := fun e => by have := hR2.oldF g e; omega
 have hgg : ¬ g = gr := fun e => by have := hZ2.lt; omega
 have hgw : w.heap.size ≤ g := by have := ho2.size; have := hb0.size; omega
 rw [hg] at hF ⊢
 have HGG := Lib.hid hgg
 have HGW := Lib.hid hgw
 clear hg HF3 HB3 hbb hR2 hZ2 hZ0 h0 hb0 ho2 hgg hgw hold
 have q0 : w3.cell? ⟨g, 0, none⟩ = some (.int .i64 z) := hF.c0
 have l0 := load_cell_int q0
 have ho := Only.refl w3 (fun k => k = q ∨ k = g)
 have HS2 : Hid (someS D 6 = (D0, k)) := HS
 by_cases k1 : k = 1
 ·have HKK := Lib.hid k1
  have b1 : (z == 1) = true := by rw [beq_iff_eq]; omega
  have b2 : (z == 2) = false := by rw [beq_eq_false_iff_ne]; omega
  have b3 : (z == 3) = false := by rw [beq_eq_false_iff_ne]; omega
  have b4 : (z == 4) = false := by rw [beq_eq_false_iff_ne]; omega
  have b6 : (z == 6) = false := by rw [beq_eq_false_iff_ne]; omega
  clear k1 hk6 hz HS2
  go_wp2_with fail
  refine (rsome_any hR 1 (by omega)).mono ?_
  rintro e wc1 ⟨D1, v1, rfl, H1, hRa, hoa⟩
  clear l0 q0
  have hFa := hF.only hoa (notq hgq)
  have qq := put_cell_int (v1 : Int) _ _ _ (hFa.c2) (hFa.fz 2)
  have hob := ho.orr hoa
  replace hF := hFa.set2 (v1 : Int)
  replace hR := hRa.only (Fr.only_at wc1 g 2 (.int .i64 (v1 : Int))) (sepq hgq)
  replace ho := hob.org (Fr.only_at wc1 g 2 (.int .i64 (v1 : Int)))
  clear hFa hRa hoa hob
  go_wp2_with fail
  generalize wc1.setCell ⟨g, 2, none⟩ (.int .i64 (v1 : Int)) = wd1 at *
  clear qq
  refine (rsome_any hR 64 (by omega)).mono ?_
  rintro e wc2 ⟨D2, v2, rfl, H2, hRa, hoa⟩
  have hFa := hF.only hoa (notq hgq)
  have qq := put_cell_int (v2 : Int) _ _ _ (hFa.c3) (hFa.fz 3)
  have hob := ho.orr hoa
  replace hF := hFa.set3 (v2 : Int)
  replace hR := hRa.only (Fr.only_at wc2 g 3 (.int .i64 (v2 : Int))) (sepq hgq)
  replace ho := hob.org (Fr.only_at wc2 g 3 (.int .i64 (v2 : Int)))
  clear hFa hRa hoa hob
  go_wp2_with fail
  generalize wc2.setCell ⟨g, 3, none⟩ (.int .i64 (v2 : Int)) = wd2 at *
  clear qq
  refine (rRaw_any hR 32 (by omega)).mono ?_
  rintro e wc3 ⟨D3, v3, ts, rfl, H3, hO3, hR3, ho3a⟩
  have hF3 := hF.only ho3a (notq hgq)
  have ho3 := ho.orr ho3a
  have hts := rawS_len hR.ok H3.out
  obtain ⟨A3, c3, rfl, hB3, hc3, hA3a⟩ := hO3.reads_from
  have HA3 : Hid (∀ a, A3 = some a → ¬ a.block = g) := Lib.hid (fun a e hg => by have := hA3a a e; have := hF.lt; omega)
  obtain ⟨m, hm⟩ : ∃ m, ts.length = m := ⟨_, rfl⟩
  rw [hm] at hB3 hc3 ⊢
  have HM : Hid (ts.length = m ∧ (m = 32 ∨ m = 0)) := Lib.hid ⟨hm, by rcases hts with h | h; omega; (rw [h] at hm; simp at hm; omega)⟩
  clear hF ho hR ho3a hts hO3 hm hA3a
  go_wp2_with fail
  go_loopg [5] m (fun gk v5 w' => ∃ i : Nat, v5 = .int .i64 (i : Int) ∧ ({ kF z with v := (v1 : Int), s := (v2 : Int), tool := ts.take i ++ z32.drop i } : Fr).at_ 48 w' g ∧ QR w' q A n c D3 ∧ RB w' A3 m ts ∧ Only w3 w' (fun k => k = q ∨ k = g) ∧ Hid (i + gk = m))
  case atStart => exact ⟨0, rfl, hF3, hR3, hB3, ho3, Lib.hid (by omega)⟩
  case round =>
   clear hF3 hR3 hB3 ho3
   obtain ⟨i, rfl, hF, hR, hB, ho, HG⟩ := hrel
   have hm32 : m ≤ 32 := by have := HM.out; omega
   by_cases hi : i < m
   ·have hi2 : (i : Int) < (m : Int) := by omega
    obtain ⟨ad, x, rfl, hcx, hx0, hx1, HX⟩ := hB.at_ i hi
    have ecx := load_cell_u8 hcx
    obtain ⟨u, hu⟩ := tool_cell hF i (by omega)
    have ecp := put_cell_u8 x wr ⟨g, 4 + i, none⟩ u hu (hF.fz _)
    have ecq := put_cell_u8 x wr.drew ⟨g, 4 + i, none⟩ u hu (hF.fz _)
    clear hu
    have hFn := hF.setTool i (by omega) x
    replace hFn : ({ kF z with v := (v1 : Int), s := (v2 : Int), tool := ts.take (i + 1) ++ z32.drop (i + 1) } : Fr).at_ 48 (wr.setCell ⟨g, 4 + i, none⟩ (.int .u8 x)) g := by
     rw [← tool_step ts i x (by omega) HX.out]; exact hFn
    have hRn := hR.only (Fr.only_at wr g (4 + i) (.int .u8 x)) (sepq hgq)
    have hBn := hB.apart (Fr.only_at wr g (4 + i) (.int .u8 x)) HA3.out
    have hon := ho.org (Fr.only_at wr g (4 + i) (.int .u8 x))
    have hi32 : (i : Int) < 32 := by omega
    clear hF hR hB ho hm32
    go_wp2_with fail
    go_roundg (gk - 1)
    case measure => have := HG.out; omega
    case rel => exact ⟨i + 1, by simp, hFn, hRn, hBn, hon, Lib.hid (by have := HG.out; omega)⟩
   ·have hi2 : ¬ (i : Int) < (m : Int) := by omega
    have HK : Hid (fieldsS D = (D3, ({ kF z with v := (v1 : Int), s := (v2 : Int), tool := ts.take i ++ z32.drop i } : Fr).core)) := Lib.hid (fields_of HKK.out HS.out (by
     rw [show z = 1 by rw [← HZ.out, HKK.out]; rfl]
     show helloS D0 = _
     unfold helloS; rw [H1.out]; dsimp only; rw [H2.out]; dsimp only; rw [H3.out]; dsimp only
     have hM := HM.out
     have hG := HG.out
     rcases hM.2 with hM2 | hM2
     ·rw [if_pos (by omega), List.take_of_length_le (by omega), List.drop_of_length_le (by have : z32.length = 32 := rfl; omega), List.append_nil]; rfl
     ·obtain rfl : i = 0 := by omega
      rw [if_neg (by omega)]; rfl))
    clear hi hm32 hB
    have hT : ({ kF z with v := (v1 : Int), s := (v2 : Int), tool := ts.take i ++ z32.drop i } : Fr).tool.length = 32 := hF.tool
    have hZe := hZ.only ho (fun e => e.elim (notq hrq) (fun e => HGG.out e.symm))
    have eF := get_frame hF
    have eP := put_frame ({ kF z with v := (v1 : Int), s := (v2 : Int), tool := ts.take i ++ z32.drop i } : Fr) hT hZe
    have hZf := put_at ({ kF z with v := (v1 : Int), s := (v2 : Int), tool := ts.take i ++ z32.drop i } : Fr) hT hZe
    have hRe := hR.only (Fr.only_row _ gr ({ kF z with v := (v1 : Int), s := (v2 : Int), tool := ts.take i ++ z32.drop i } : Fr).arr) (sepq hrq)
    have hend := fields_end (cs := ({ kF z with v := (v1 : Int), s := (v2 : Int), tool := ts.take i ++ z32.drop i } : Fr).arr) h3 ho HGW.out (by have := HGR.out; omega : w.heap.size ≤ gr)
    clear hF hZ ho hR hZe h3
    go_wp2_with fail
    exact bodyPost_ret (v := .agg ({ kF z with v := (v1 : Int), s := (v2 : Int), tool := ts.take i ++ z32.drop i } : Fr).arr) (results_cell_row rfl _ _ gr 48 ({ kF z with v := (v1 : Int), s := (v2 : Int), tool := ts.take i ++ z32.drop i } : Fr).arr (0, 0) _ rfl hZf.blk Tryz.underlying48 rfl (by rw [Fr.arr_size ({ kF z with v := (v1 : Int), s := (v2 : Int), tool := ts.take i ++ z32.drop i } : Fr) hT]; kernel_rfl)) rfl ⟨_, _, rfl, HK, hRe, ⟨hT, rt_none _ rfl rfl rfl⟩, OwnA.none _ _ ⟨rfl, rfl, rfl, rfl⟩, hend⟩
 by_cases k2 : k = 2
 ·have HKK := Lib.hid k2
  have b1 : (z == 1) = false := by rw [beq_eq_false_iff_ne]; omega
  have b2 : (z == 2) = true := by rw [beq_iff_eq]; omega
  have b3 : (z == 3) = false := by rw [beq_eq_false_iff_ne]; omega
  have b4 : (z == 4) = false := by rw [beq_eq_false_iff_ne]; omega
  have b6 : (z == 6) = false := by rw [beq_eq_false_iff_ne]; omega
  clear k1 k2 hk6 hz HS2
  go_wp2_with fail
  refine (rRUint_any hR).mono ?_
  rintro e wc1 ⟨D1, v1, rfl, H1, hRa, hoa⟩
  clear l0 q0
  have hFa := hF.only hoa (notq hgq)
  have qq := put_cell_u64 (v1 : Int) _ _ _ (hFa.c1) (hFa.fz 1)
  have hob := ho.orr hoa
  replace hF := hFa.set1 (v1 : Int)
  replace hR := hRa.only (Fr.only_at wc1 g 1 (.int .u64 (v1 : Int))) (sepq hgq)
  replace ho := hob.org (Fr.only_at wc1 g 1 (.int .u64 (v1 : Int)))
  clear hFa hRa hoa hob
  go_wp2_with fail
  generalize wc1.setCell ⟨g, 1, none⟩ (.int .u64 (v1 : Int)) = wd1 at *
  clear qq
  refine (rCount_any hR 2147483648 (by omega)).mono ?_
  rintro e wc2 ⟨D2, v2, rfl, H2, hRa, hoa⟩
  have hFa := hF.only hoa (notq hgq)
  have qq := put_cell_int (v2 : Int) _ _ _ (hFa.c37) (hFa.fz 37)
  have hob := ho.orr hoa
  replace hF := hFa.set37 (v2 : Int)
  replace hR := hRa.only (Fr.only_at wc2 g 37 (.int .i64 (v2 : Int))) (sepq hgq)
  replace ho := hob.org (Fr.only_at wc2 g 37 (.int .i64 (v2 : Int)))
  clear hFa hRa hoa hob
  go_wp2_with fail
  generalize wc2.setCell ⟨g, 37, none⟩ (.int .i64 (v2 : Int)) = wd2 at *
  clear qq
  refine (rCount_any hR 2147483648 (by omega)).mono ?_
  rintro e wc3 ⟨D3, v3, rfl, H3, hRa, hoa⟩
  have hFa := hF.only hoa (notq hgq)
  have qq := put_cell_int (v3 : Int) _ _ _ (hFa.c38) (hFa.fz 38)
  have hob := ho.orr hoa
  replace hF := hFa.set38 (v3 : Int)
  replace hR := hRa.only (Fr.only_at wc3 g 38 (.int .i64 (v3 : Int))) (sepq hgq)
  replace ho := hob.org (Fr.only_at wc3 g 38 (.int .i64 (v3 : Int)))
  clear hFa hRa hoa hob
  go_wp2_with fail
  generalize wc3.setCell ⟨g, 38, none⟩ (.int .i64 (v3 : Int)) = wd3 at *
  clear qq
  refine (rCount_any hR 2147483648 (by omega)).mono ?_
  rintro e wc4 ⟨D4, v4, rfl, H4, hRa, hoa⟩
  have hFa := hF.only hoa (notq hgq)
  have qq := put_cell_int (v4 : Int) _ _ _ (hFa.c39) (hFa.fz 39)
  have hob := ho.orr hoa
  replace hF := hFa.set39 (v4 : Int)
  replace hR := hRa.only (Fr.only_at wc4 g 39 (.int .i64 (v4 : Int))) (sepq hgq)
  replace ho := hob.org (Fr.only_at wc4 g 39 (.int .i64 (v4 : Int)))
  clear hFa hRa hoa hob
  go_wp2_with fail
  generalize wc4.setCell ⟨g, 39, none⟩ (.int .i64 (v4 : Int)) = wd4 at *
  clear qq
  refine (rRList_any hR hn 8 4096 (by omega) (by omega)).mono ?_
  rintro e wc5 ⟨D5, w5, l5, rfl, H5, hO5, hRa, hoa⟩
  have hFa := hF.only hoa (notq hgq)
  obtain ⟨A5, c5, rfl, hT5a, hc5, hA5⟩ := hO5.open_
  have qq := put_cell_strs A5 l5.length c5 _ _ _ (hFa.c40) (hFa.fz 40)
  have hob := ho.orr hoa
  have hT5 := hT5a.apart (Fr.only_at wc5 g 40 (.slice A5 l5.length c5)) (fun a e hg => by have := (hA5 a e).1; have := hF.lt; omega)
  have hA5b : ∀ a, A5 = some a → w.heap.size ≤ a.block ∧ ¬ a.block = q ∧ ¬ a.block = g := fun a e => by
   have h1 := (hA5 a e).1
   have h2 := hF.lt
   have h3 := lt_of_block hR.qk
   have h4 := HGW.out
   exact ⟨by omega, by omega, by omega⟩
  have HA5 := Lib.hid hA5b
  have hOA5 : OwnA (wc5.setCell ⟨g, 40, none⟩ (.slice A5 l5.length c5)) _ ({ kF z with A := A5, n := l5.length, c := c5, args := l5 } : Fr) := OwnA.only (F := ({ kF z with A := A5, n := l5.length, c := c5, args := l5 } : Fr)) hO5 (Fr.only_at wc5 g 40 (.slice A5 l5.length c5)) (fun a e hg => by have := (hA5 a e).1; have := hF.lt; omega)
  have HLE5 := Lib.hid (Nat.le_trans h3.size ho.size)
  have HAg : Hid (∀ a, A5 = some a → ¬ a.block = gr) := Lib.hid (fun a e hg => by have := (hA5 a e).1; have := hZ.lt; have := ho.size; omega)
  replace hF := hFa.set40 A5 l5.length c5 l5
  replace hR := hRa.only (Fr.only_at wc5 g 40 (.slice A5 l5.length c5)) (sepq hgq)
  replace ho := hob.org (Fr.only_at wc5 g 40 (.slice A5 l5.length c5))
  clear hFa hRa hoa hob hO5 hT5a hA5 hA5b
  go_wp2_with fail
  generalize wc5.setCell ⟨g, 40, none⟩ (.slice A5 l5.length c5) = wd5 at *
  clear qq
  refine (rRText_any hR 2097152 (by omega)).mono ?_
  rintro e wc6 ⟨D6, v6, rfl, H6, hRa, hoa⟩
  have hFa := hF.only hoa (notq hgq)
  have qq := put_cell_str v6 _ _ _ (hFa.c41) (hFa.fz 41)
  have hob := ho.orr hoa
  replace hF := hFa.set41 v6
  replace hR := hRa.only (Fr.only_at wc6 g 41 (.string v6)) (sepq hgq)
  replace ho := hob.org (Fr.only_at wc6 g 41 (.string v6))
  replace hT5 := (hT5.apart hoa (fun a e => (HA5.out a e).2.1)).apart (Fr.only_at wc6 g 41 (.string v6)) (fun a e => (HA5.out a e).2.2)
  replace hOA5 := OwnA.only (OwnA.only hOA5 hoa (fun a e => (HA5.out a e).2.1)) (Fr.only_at wc6 g 41 (.string v6)) (fun a e => (HA5.out a e).2.2)
  clear hFa hRa hoa hob
  have HK : Hid (fieldsS D = (D6, ({ kF z with id := (v1 : Int), mo := (v2 : Int), fu := (v3 : Int), di := (v4 : Int), A := A5, n := l5.length, c := c5, args := l5, body := v6 } : Fr).core)) := Lib.hid (fields_of HKK.out HS.out (by
   rw [show z = 2 by rw [← HZ.out, HKK.out]; rfl]
   show requestS D0 = _
   unfold requestS; rw [H1.out]; dsimp only; rw [H2.out]; dsimp only; rw [H3.out]; dsimp only; rw [H4.out]; dsimp only; rw [H5.out]; dsimp only; rw [H6.out]; rfl))
  have hT : ({ kF z with id := (v1 : Int), mo := (v2 : Int), fu := (v3 : Int), di := (v4 : Int), A := A5, n := l5.length, c := c5, args := l5, body := v6 } : Fr).tool.length = 32 := hF.tool
  have hZe := hZ.only ho (fun e => e.elim (notq hrq) (fun e => HGG.out e.symm))
  have eF := get_frame hF
  have eP := put_frame ({ kF z with id := (v1 : Int), mo := (v2 : Int), fu := (v3 : Int), di := (v4 : Int), A := A5, n := l5.length, c := c5, args := l5, body := v6 } : Fr) hT hZe
  have hZf := put_at ({ kF z with id := (v1 : Int), mo := (v2 : Int), fu := (v3 : Int), di := (v4 : Int), A := A5, n := l5.length, c := c5, args := l5, body := v6 } : Fr) hT hZe
  have hRe := hR.only (Fr.only_row _ gr ({ kF z with id := (v1 : Int), mo := (v2 : Int), fu := (v3 : Int), di := (v4 : Int), A := A5, n := l5.length, c := c5, args := l5, body := v6 } : Fr).arr) (sepq hrq)
  have hend := fields_end (cs := ({ kF z with id := (v1 : Int), mo := (v2 : Int), fu := (v3 : Int), di := (v4 : Int), A := A5, n := l5.length, c := c5, args := l5, body := v6 } : Fr).arr) h3 ho HGW.out (by have := HGR.out; omega : w.heap.size ≤ gr)
  clear hF hZ ho hR hZe h3
  go_wp2_with fail
  exact bodyPost_ret (v := .agg ({ kF z with id := (v1 : Int), mo := (v2 : Int), fu := (v3 : Int), di := (v4 : Int), A := A5, n := l5.length, c := c5, args := l5, body := v6 } : Fr).arr) (results_cell_row rfl _ _ gr 48 ({ kF z with id := (v1 : Int), mo := (v2 : Int), fu := (v3 : Int), di := (v4 : Int), A := A5, n := l5.length, c := c5, args := l5, body := v6 } : Fr).arr (0, 0) _ rfl hZf.blk Tryz.underlying48 rfl (by rw [Fr.arr_size ({ kF z with id := (v1 : Int), mo := (v2 : Int), fu := (v3 : Int), di := (v4 : Int), A := A5, n := l5.length, c := c5, args := l5, body := v6 } : Fr) hT]; kernel_rfl)) rfl ⟨_, _, rfl, HK, hRe, ⟨rfl, hT5.apart (Fr.only_row _ gr _) (fun a e => HAg.out a e)⟩, (hOA5.only (Fr.only_row _ gr _) (fun a e => HAg.out a e)).less HLE5.out, hend⟩
 by_cases k3 : k = 3
 ·have HKK := Lib.hid k3
  have b1 : (z == 1) = false := by rw [beq_eq_false_iff_ne]; omega
  have b2 : (z == 2) = false := by rw [beq_eq_false_iff_ne]; omega
  have b3 : (z == 3) = true := by rw [beq_iff_eq]; omega
  have b4 : (z == 4) = false := by rw [beq_eq_false_iff_ne]; omega
  have b6 : (z == 6) = false := by rw [beq_eq_false_iff_ne]; omega
  clear k1 k2 k3 hk6 hz HS2
  go_wp2_with fail
  refine (rRUint_any hR).mono ?_
  rintro e wc1 ⟨D1, v1, rfl, H1, hRa, hoa⟩
  clear l0 q0
  have hFa := hF.only hoa (notq hgq)
  have qq := put_cell_u64 (v1 : Int) _ _ _ (hFa.c1) (hFa.fz 1)
  have hob := ho.orr hoa
  replace hF := hFa.set1 (v1 : Int)
  replace hR := hRa.only (Fr.only_at wc1 g 1 (.int .u64 (v1 : Int))) (sepq hgq)
  replace ho := hob.org (Fr.only_at wc1 g 1 (.int .u64 (v1 : Int)))
  clear hFa hRa hoa hob
  go_wp2_with fail
  generalize wc1.setCell ⟨g, 1, none⟩ (.int .u64 (v1 : Int)) = wd1 at *
  clear qq
  refine (rsome_any hR 3 (by omega)).mono ?_
  rintro e wc2 ⟨D2, v2, rfl, H2, hRa, hoa⟩
  have hFa := hF.only hoa (notq hgq)
  have qq := put_cell_int (v2 : Int) _ _ _ (hFa.c36) (hFa.fz 36)
  have hob := ho.orr hoa
  replace hF := hFa.set36 (v2 : Int)
  replace hR := hRa.only (Fr.only_at wc2 g 36 (.int .i64 (v2 : Int))) (sepq hgq)
  replace ho := hob.org (Fr.only_at wc2 g 36 (.int .i64 (v2 : Int)))
  clear hFa hRa hoa hob
  go_wp2_with fail
  generalize wc2.setCell ⟨g, 36, none⟩ (.int .i64 (v2 : Int)) = wd2 at *
  clear qq
  refine (rRText_any hR 2097152 (by omega)).mono ?_
  rintro e wc3 ⟨D3, v3, rfl, H3, hRa, hoa⟩
  have hFa := hF.only hoa (notq hgq)
  have qq := put_cell_str v3 _ _ _ (hFa.c41) (hFa.fz 41)
  have hob := ho.orr hoa
  replace hF := hFa.set41 v3
  replace hR := hRa.only (Fr.only_at wc3 g 41 (.string v3)) (sepq hgq)
  replace ho := hob.org (Fr.only_at wc3 g 41 (.string v3))
  clear hFa hRa hoa hob
  have HK : Hid (fieldsS D = (D3, ({ kF z with id := (v1 : Int), st := (v2 : Int), body := v3 } : Fr).core)) := Lib.hid (fields_of HKK.out HS.out (by
   rw [show z = 3 by rw [← HZ.out, HKK.out]; rfl]
   show responseS D0 = _
   unfold responseS; rw [H1.out]; dsimp only; rw [H2.out]; dsimp only; rw [H3.out]; rfl))
  have hT : ({ kF z with id := (v1 : Int), st := (v2 : Int), body := v3 } : Fr).tool.length = 32 := hF.tool
  have hZe := hZ.only ho (fun e => e.elim (notq hrq) (fun e => HGG.out e.symm))
  have eF := get_frame hF
  have eP := put_frame ({ kF z with id := (v1 : Int), st := (v2 : Int), body := v3 } : Fr) hT hZe
  have hZf := put_at ({ kF z with id := (v1 : Int), st := (v2 : Int), body := v3 } : Fr) hT hZe
  have hRe := hR.only (Fr.only_row _ gr ({ kF z with id := (v1 : Int), st := (v2 : Int), body := v3 } : Fr).arr) (sepq hrq)
  have hend := fields_end (cs := ({ kF z with id := (v1 : Int), st := (v2 : Int), body := v3 } : Fr).arr) h3 ho HGW.out (by have := HGR.out; omega : w.heap.size ≤ gr)
  clear hF hZ ho hR hZe h3
  go_wp2_with fail
  exact bodyPost_ret (v := .agg ({ kF z with id := (v1 : Int), st := (v2 : Int), body := v3 } : Fr).arr) (results_cell_row rfl _ _ gr 48 ({ kF z with id := (v1 : Int), st := (v2 : Int), body := v3 } : Fr).arr (0, 0) _ rfl hZf.blk Tryz.underlying48 rfl (by rw [Fr.arr_size ({ kF z with id := (v1 : Int), st := (v2 : Int), body := v3 } : Fr) hT]; kernel_rfl)) rfl ⟨_, _, rfl, HK, hRe, ⟨rfl, rt_none _ rfl rfl rfl⟩, OwnA.none _ _ ⟨rfl, rfl, rfl, rfl⟩, hend⟩
 by_cases k4 : k = 4
 ·have HKK := Lib.hid k4
  have b1 : (z == 1) = false := by rw [beq_eq_false_iff_ne]; omega
  have b2 : (z == 2) = false := by rw [beq_eq_false_iff_ne]; omega
  have b3 : (z == 3) = false := by rw [beq_eq_false_iff_ne]; omega
  have b4 : (z == 4) = true := by rw [beq_iff_eq]; omega
  have b6 : (z == 6) = false := by rw [beq_eq_false_iff_ne]; omega
  clear k1 k2 k3 k4 hk6 hz HS2
  go_wp2_with fail
  refine (rRUint_any hR).mono ?_
  rintro e wc1 ⟨D1, v1, rfl, H1, hRa, hoa⟩
  clear l0 q0
  have hFa := hF.only hoa (notq hgq)
  have qq := put_cell_u64 (v1 : Int) _ _ _ (hFa.c1) (hFa.fz 1)
  have hob := ho.orr hoa
  replace hF := hFa.set1 (v1 : Int)
  replace hR := hRa.only (Fr.only_at wc1 g 1 (.int .u64 (v1 : Int))) (sepq hgq)
  replace ho := hob.org (Fr.only_at wc1 g 1 (.int .u64 (v1 : Int)))
  clear hFa hRa hoa hob
  have HK : Hid (fieldsS D = (D1, ({ kF z with id := (v1 : Int) } : Fr).core)) := Lib.hid (fields_of HKK.out HS.out (by
   rw [show z = 4 by rw [← HZ.out, HKK.out]; rfl]
   show cancelS D0 = _
   unfold cancelS;  rw [H1.out]; rfl))
  have hT : ({ kF z with id := (v1 : Int) } : Fr).tool.length = 32 := hF.tool
  have hZe := hZ.only ho (fun e => e.elim (notq hrq) (fun e => HGG.out e.symm))
  have eF := get_frame hF
  have eP := put_frame ({ kF z with id := (v1 : Int) } : Fr) hT hZe
  have hZf := put_at ({ kF z with id := (v1 : Int) } : Fr) hT hZe
  have hRe := hR.only (Fr.only_row _ gr ({ kF z with id := (v1 : Int) } : Fr).arr) (sepq hrq)
  have hend := fields_end (cs := ({ kF z with id := (v1 : Int) } : Fr).arr) h3 ho HGW.out (by have := HGR.out; omega : w.heap.size ≤ gr)
  clear hF hZ ho hR hZe h3
  go_wp2_with fail
  exact bodyPost_ret (v := .agg ({ kF z with id := (v1 : Int) } : Fr).arr) (results_cell_row rfl _ _ gr 48 ({ kF z with id := (v1 : Int) } : Fr).arr (0, 0) _ rfl hZf.blk Tryz.underlying48 rfl (by rw [Fr.arr_size ({ kF z with id := (v1 : Int) } : Fr) hT]; kernel_rfl)) rfl ⟨_, _, rfl, HK, hRe, ⟨rfl, rt_none _ rfl rfl rfl⟩, OwnA.none _ _ ⟨rfl, rfl, rfl, rfl⟩, hend⟩
 by_cases k6 : k = 6
 ·have HKK := Lib.hid k6
  have b1 : (z == 1) = false := by rw [beq_eq_false_iff_ne]; omega
  have b2 : (z == 2) = false := by rw [beq_eq_false_iff_ne]; omega
  have b3 : (z == 3) = false := by rw [beq_eq_false_iff_ne]; omega
  have b4 : (z == 4) = false := by rw [beq_eq_false_iff_ne]; omega
  have b6 : (z == 6) = true := by rw [beq_iff_eq]; omega
  clear k1 k2 k3 k4 k6 hk6 hz HS2
  go_wp2_with fail
  refine (rRText_any hR 2097152 (by omega)).mono ?_
  rintro e wc1 ⟨D1, v1, rfl, H1, hRa, hoa⟩
  clear l0 q0
  have hFa := hF.only hoa (notq hgq)
  have qq := put_cell_str v1 _ _ _ (hFa.c41) (hFa.fz 41)
  have hob := ho.orr hoa
  replace hF := hFa.set41 v1
  replace hR := hRa.only (Fr.only_at wc1 g 41 (.string v1)) (sepq hgq)
  replace ho := hob.org (Fr.only_at wc1 g 41 (.string v1))
  clear hFa hRa hoa hob
  have HK : Hid (fieldsS D = (D1, ({ kF z with body := v1 } : Fr).core)) := Lib.hid (fields_of HKK.out HS.out (by
   rw [show z = 6 by rw [← HZ.out, HKK.out]; rfl]
   show noteS D0 = _
   unfold noteS;  rw [H1.out]; rfl))
  have hT : ({ kF z with body := v1 } : Fr).tool.length = 32 := hF.tool
  have hZe := hZ.only ho (fun e => e.elim (notq hrq) (fun e => HGG.out e.symm))
  have eF := get_frame hF
  have eP := put_frame ({ kF z with body := v1 } : Fr) hT hZe
  have hZf := put_at ({ kF z with body := v1 } : Fr) hT hZe
  have hRe := hR.only (Fr.only_row _ gr ({ kF z with body := v1 } : Fr).arr) (sepq hrq)
  have hend := fields_end (cs := ({ kF z with body := v1 } : Fr).arr) h3 ho HGW.out (by have := HGR.out; omega : w.heap.size ≤ gr)
  clear hF hZ ho hR hZe h3
  go_wp2_with fail
  exact bodyPost_ret (v := .agg ({ kF z with body := v1 } : Fr).arr) (results_cell_row rfl _ _ gr 48 ({ kF z with body := v1 } : Fr).arr (0, 0) _ rfl hZf.blk Tryz.underlying48 rfl (by rw [Fr.arr_size ({ kF z with body := v1 } : Fr) hT]; kernel_rfl)) rfl ⟨_, _, rfl, HK, hRe, ⟨rfl, rt_none _ rfl rfl rfl⟩, OwnA.none _ _ ⟨rfl, rfl, rfl, rfl⟩, hend⟩
 ·have b1 : (z == 1) = false := by rw [beq_eq_false_iff_ne]; omega
  have b2 : (z == 2) = false := by rw [beq_eq_false_iff_ne]; omega
  have b3 : (z == 3) = false := by rw [beq_eq_false_iff_ne]; omega
  have b4 : (z == 4) = false := by rw [beq_eq_false_iff_ne]; omega
  have b6 : (z == 6) = false := by rw [beq_eq_false_iff_ne]; omega
  have HK : Hid (fieldsS D = (D0, (kF z).core)) := Lib.hid (fields_of rfl HS.out (by unfold kindS; rw [if_neg k1, if_neg k2, if_neg k3, if_neg k4, if_neg k6, ← HZ.out]; rfl))
  clear k1 k2 k3 k4 k6 hk6 hz
  have hT : (kF z : Fr).tool.length = 32 := hF.tool
  have hZe := hZ.only ho (fun e => e.elim (notq hrq) (fun e => HGG.out e.symm))
  have eF := get_frame hF
  have eP := put_frame (kF z : Fr) hT hZe
  have hZf := put_at (kF z : Fr) hT hZe
  have hRe := hR.only (Fr.only_row _ gr (kF z : Fr).arr) (sepq hrq)
  have hend := fields_end (cs := (kF z : Fr).arr) h3 ho HGW.out (by have := HGR.out; omega : w.heap.size ≤ gr)
  clear hF hZ ho hR hZe h3
  go_wp2_with fail
  exact bodyPost_ret (v := .agg (kF z : Fr).arr) (results_cell_row rfl _ _ gr 48 (kF z : Fr).arr (0, 0) _ rfl hZf.blk Tryz.underlying48 rfl (by rw [Fr.arr_size (kF z : Fr) hT]; kernel_rfl)) rfl ⟨_, _, rfl, HK, hRe, ⟨rfl, rt_none _ rfl rfl rfl⟩, OwnA.none _ _ ⟨rfl, rfl, rfl, rfl⟩, hend⟩
end
end Go.Proofs.YtpjpgcjhdbiepaaGreat
end
section
namespace Go.Proofs.YtpjpgcjhdbiepaaGreat
open Go.RowKit Go.Kit Go.Proofs.YtpjpgcjhdbiepaaGreatW.PrintWords
theorem results_cell_row_tmp2 {P : Program} {fn : Func} {p u v : Tmp} {ty : TypeId} (h : fn.results = #[.cell p ty, .tmp u, .tmp v]) (tmps : Array Value) (w : World) (g : Nat) (t : TypeId) (cs : Array Value) (fr : Nat × Nat) (d : TypeDesc)
  (hp : tmps.getD p undef = .pointer (some ⟨g, 0, none⟩)) (hg : w.heap[g]? = some (.cells cs t fr))
  (hu : P.underlying ty = some d) (hd : (match d with | .struct _ | .array _ _ => true | _ => false) = true) (hi : (P.info? ty).map (·.size) = some cs.size) (x y : Value) (hx : tmps.getD u undef = x) (hy : tmps.getD v undef = y) :
  (results fn tmps).run P w = .ok (.tuple #[.agg cs, x, y]) w := by
 subst hx hy
 have hp' : tmps[p]?.getD undef = .pointer (some ⟨g, 0, none⟩) := by simpa using hp
 simp [results, h, hp', asAddr, run_loadVar_row w g t ty cs fr d hg hu hd hi]
def RDecPost (w : World) (xs : List Int) (e : Ending) (w' : World) : Prop :=
 ∃ (F : Fr) (x y : Int), e = .returned (.tuple #[.agg F.arr, .int .i64 x, .int .i64 y]) ∧ Hid ((decF xs).2 = (x, y) ∧ F.core = (decF xs).1) ∧ F.ok w' ∧ OwnA w' w.heap.size F ∧ Below w.heap.size w w'
theorem rdec_bad {w W : World} {xs : List Int} {x y : Int} (h : Hid (decF xs = (noF, x, y))) (hb : Below w.heap.size w W) : RDecPost w xs (.returned (.tuple #[.agg (kF 0).arr, .int .i64 x, .int .i64 y])) W :=
 ⟨kF 0, x, y, rfl, Lib.hid ⟨by rw [h.out], by rw [h.out]; rfl⟩, ⟨rfl, rt_none _ rfl rfl rfl⟩, OwnA.none _ _ ⟨rfl, rfl, rfl, rfl⟩, hb⟩
theorem rdec_ret {W : World} {g : Nat} {tmps : Array Value} {F : Fr} {x y : Value} (hp : tmps.getD 2 undef = .pointer (some ⟨g, 0, none⟩)) (hF : F.at_ 48 W g) (hx : tmps.getD 3 undef = x) (hy : tmps.getD 4 undef = y) :
  (results Tryz.f52 tmps).run Tryz.prog W = .ok (.tuple #[.agg F.arr, x, y]) W :=
 results_cell_row_tmp2 (P := Tryz.prog) (fn := Tryz.f52) (p := 2) (u := 3) (v := 4) rfl tmps W g 48 F.arr (0, 0) _ hp hF.blk Tryz.underlying48 rfl (by rw [Fr.arr_size F hF.tool]; kernel_rfl) x y hx hy
theorem q_put (W : World) (A : Option Addr) (n c : Nat) : ∃ W1 W2 : World, W.alloc (.cells #[.slice none 0 0, .int .i64 0, .int .i64 0, .int .i64 0] 129) = W1 ∧
  (Instr.storeAt 129 (.pointer (some ⟨W.heap.size, 0, none⟩)) (.agg #[.slice A n c, .int .i64 0, .int .i64 0, .int .i64 0])).run Tryz.prog W1 = .ok () W2 ∧
  W2.heap[W.heap.size]? = some (.cells #[.slice A n c, .int .i64 0, .int .i64 0, .int .i64 0] 129 (0, 0)) ∧ Below W.heap.size W W2 := by
 have h0 := heap_alloc_new W (.cells #[.slice none 0 0, .int .i64 0, .int .i64 0, .int .i64 0] 129)
 have hb := below_alloc (Below.refl _ W) (.cells #[.slice none 0 0, .int .i64 0, .int .i64 0, .int .i64 0] 129)
 exact ⟨_, _, rfl, storeAt_all (P := Tryz.prog) _ W.heap.size 129 129 (qV A n c) _ h0 rfl (q_size A n c) (by simp [qV, Value.oneCell']), setRow_heap _ _ _ _ _ _ h0, below_setRow hb (Nat.le_refl _) _⟩
theorem fin_eq (D : Rd) (F : Fr) (head : Nat) : finS D F.core head = if (endS D).why = 0 ∧ F.k = 3 ∧ F.st ≠ 1 ∧ F.body.size ≠ 0 then (70, (head : Int)) else ((endS D).why, (endS D).wat) := rfl
attribute [-go_sem] Instr.loadAt Instr.storeAt Instr.build
section
variable {A : Option Addr} {n cap : Nat} {xs : List Int} {w : World}
set_option maxHeartbeats 16000000 in
set_option maxRecDepth 100000 in
theorem rDecode_any (hx : RB w A n xs) (hc : n ≤ cap) (hl : n ≤ 140737488355000) : Calls Tryz.prog 52 #[.slice A n cap] w (RDecPost w xs) := by
 obtain ⟨w1, s0, hZ0, hb0⟩ := frame_new w
 have hzf := zero_frame
 go_enter Tryz.func52, Tryz.ntmps52
 go_upto_region 1 with (fail)
 clear s0
 obtain ⟨gr, hgr⟩ : ∃ gr, w.heap.size = gr := ⟨_, rfl⟩
 rw [hgr] at hZ0 ⊢
 have HGR := Lib.hid hgr
 clear hgr
 obtain ⟨wa, w2, s0, s1, hN2, hb1⟩ := frame_put w1 (kF 0) rfl
 have HN2 := Lib.hid hN2
 have HB1 := Lib.hid hb1
 clear hN2 hb1
 go_upto_region 2 with (fail)
 clear s0 s1 hzf
 have hN2 := HN2.out
 have hZ2 := hZ0.below HB1.out
 have hb2 := below_step hb0 HB1.out
 have hx2 := hx.below hb2
 obtain ⟨gn, hgn⟩ : ∃ gn, w1.heap.size = gn := ⟨_, rfl⟩
 have HGN : Hid (w.heap.size ≤ gn ∧ ¬ gn = gr) := Lib.hid ⟨by have := hb0.size; omega, by have := hZ0.lt; omega⟩
 rw [hgn] at hN2 ⊢
 clear hgn hZ0 HN2 HB1 hb0 hx
 go_wp2_with fail
 refine (rNeed_any A n cap xs _ hx2 (by omega)).mono ?_
 rintro e w3 ⟨m, k, x, rfl, HN, hb3⟩
 have hN3 := hN2.below hb3
 have hZ3 := hZ2.below hb3
 have hb4 := below_step hb2 hb3
 have hx3 := hx2.below hb3
 have HL := Lib.hid hx3.len
 clear hN2 hZ2 hb2 hx2 hb3
 have eN := get_frame hN3
 have eP := put_frame (kF 0) rfl hZ3
 have hZe := put_at (kF 0) rfl hZ3
 have hbe := below_setRow (cs := (kF 0).arr) hb4 (g := gr) (by have := HGR.out; omega)
 by_cases h0 : x = 0
 ·subst h0
  by_cases h1 : m = 0 ∨ n < m
  ·have HD : Hid (decF xs = (noF, 4, (n : Int))) := Lib.hid (by unfold decF; rw [HN.out]; dsimp only; rw [if_neg (by simp), HL.out, if_pos h1])
   by_cases h2 : m = 0
   ·have b1 : ((m : Int) == 0) = true := by rw [beq_iff_eq]; omega
    clear h1 h2
    go_wp2_with fail
    exact bodyPost_ret (rdec_ret rfl hZe rfl rfl) rfl (rdec_bad HD hbe)
   ·have b1 : ((m : Int) == 0) = false := by rw [beq_eq_false_iff_ne]; omega
    have b2 : (n : Int) < (m : Int) := by omega
    clear h1 h2
    go_wp2_with fail
    exact bodyPost_ret (rdec_ret rfl hZe rfl rfl) rfl (rdec_bad HD hbe)
  ·have b1 : ((m : Int) == 0) = false := by rw [beq_eq_false_iff_ne]; omega
   have b2 : ¬ (n : Int) < (m : Int) := by omega
   by_cases h2 : m < n
   ·have HD : Hid (decF xs = (noF, 6, (m : Int))) := Lib.hid (by unfold decF; rw [HN.out]; dsimp only; rw [if_neg (by simp), HL.out, if_neg h1, if_pos h2])
    have b3 : (m : Int) < (n : Int) := by omega
    clear h1 h2
    go_wp2_with fail
    exact bodyPost_ret (rdec_ret rfl hZe rfl rfl) rfl (rdec_bad HD hbe)
   ·have b3 : ¬ (m : Int) < (n : Int) := by omega
    have HMN : Hid (m = n) := Lib.hid (by omega)
    have HDE : Hid (decF xs = if (openR xs).2 ≠ 0 then (noF, 71, (m : Int) - 4) else readF (openR xs).1 k) := Lib.hid (by unfold decF; rw [HN.out]; dsimp only; rw [if_neg (by simp), HL.out, if_neg h1, if_neg h2])
    have HK : Hid (k + 4 ≤ n ∧ n ≤ 2097166) := Lib.hid (by
     obtain ⟨m0, hh, hm0⟩ := need_head HN.out (fun e => h1 (.inl e))
     have h8 := headF_facts hx3.byt hh
     have := HMN.out; omega)
    clear h1 h2 eN eP hZe hbe
    go_wp2_with fail
    refine (rOpen_any A n cap xs _ hx3 hc (by omega)).mono ?_
    rintro e w4 ⟨v4, ys, err, rfl, hO4, HO, hb5⟩
    have hN4 := hN3.below hb5
    have hZ4 := hZ3.below hb5
    have hb6 := below_step hb4 hb5
    clear hN3 hZ3 hb4 hb5 hx3
    by_cases he : err = 0
    ·subst he
     have HT := Lib.hid (open_take HO.out.symm)
     have HLY : Hid (ys.length = n - 4) := Lib.hid (by rw [HT.out.1, List.length_take, HL.out]; omega)
     obtain ⟨A4, c4, rfl, hR4, hc4⟩ := hO4.reads'
     obtain ⟨ny, hny⟩ : ∃ ny, ys.length = ny := ⟨_, rfl⟩
     have hny2 : ny = n - 4 := by rw [← hny]; exact HLY.out
     have hnyl : ny ≤ 2097166 := by have := HK.out; omega
     have HKY : Hid (k ≤ ny) := Lib.hid (by have := HK.out; omega)
     rw [hny] at hR4 hc4 ⊢
     have HRF : Hid (decF xs = readF ys k) := Lib.hid (by rw [HDE.out, ← HO.out, if_neg (by simp)])
     clear hO4 hny hny2 HLY HT HO HDE HK HN
     go_wp2_with fail
     refine (rNew_any A4 ny c4 ys _ hR4 (by omega)).mono ?_
     rintro e w5 ⟨A5, c5, rfl, hR5, hc5, hA5, hb7⟩
     have hN5 := hN4.below hb7
     have hZ5 := hZ4.below hb7
     have hb8 := below_step hb6 hb7
     obtain ⟨wa, w6, s0, s1, hQ, hbq⟩ := q_put w5 A5 ny c5
     have HQ := Lib.hid hQ
     have HBQ := Lib.hid hbq
     have HA5 : Hid (∀ a, A5 = some a → w.heap.size ≤ a.block ∧ a.block < w5.heap.size) := Lib.hid (fun a e => by have := hA5 a e; have := hb6.size; omega)
     clear hQ hbq hA5 hN4 hZ4 hb6 hb7 hR4 hc4
     go_upto_region 13 with (fail)
     clear s0 s1
     have hN6 := hN5.below HBQ.out
     have hZ6 := hZ5.below HBQ.out
     have hb9 := below_step hb8 HBQ.out
     have hq : QR w6 w5.heap.size A5 ny c5 (Rd.new ys) := ⟨HQ.out, hR5.below HBQ.out, hc5, by omega, by show 0 ≤ ny; omega, fun _ => rfl, fun a e => by have := HA5.out a e; omega, fun a e => by have := (HA5.out a e).2; have := HBQ.out.size; omega⟩
     obtain ⟨gq, hgq⟩ : ∃ gq, w5.heap.size = gq := ⟨_, rfl⟩
     have HGQ : Hid (w.heap.size ≤ gq ∧ ¬ gn = gq ∧ ¬ gr = gq) := Lib.hid ⟨by have := hb8.size; omega, by have := hN5.lt; omega, by have := hZ5.lt; omega⟩
     have HAQ : Hid (∀ a, A5 = some a → w.heap.size ≤ a.block ∧ a.block < gq) := Lib.hid (by rw [← hgq]; exact HA5.out)
     rw [hgq] at hq ⊢
     clear hgq HQ HBQ HA5 hN5 hZ5 hb8 hR5 hc5
     have sk := put_cell_int (k : Int) _ _ _ hq.q1 (hq.fq 1)
     have hq2 := hq.set1 (k : Int) k rfl HKY.out
     have hoq := only_q w6 gq 1 (.int .i64 (k : Int))
     have hN7 := hN6.only hoq HGQ.out.2.1
     have hZ7 := hZ6.only hoq HGQ.out.2.2
     have hb10 := Below.only hb9 hoq hb9.size (fun k' e => by have := HGQ.out.1; omega)
     clear hq hoq hN6 hZ6 hb9
     go_wp2_with fail
     generalize w6.setCell ⟨gq, 1, none⟩ (.int .i64 (k : Int)) = w7 at *
     clear sk
     refine (rfields_any hq2 (by omega)).mono ?_
     rintro e w8 ⟨D1, F, rfl, HF, hqf, hok, hfr, ho8⟩
     have hN8 := hN7.only ho8 HGQ.out.2.1
     have hZ8 := hZ7.only ho8 HGQ.out.2.2
     have hb11 := Below.only hb10 ho8 hb10.size (fun k' e => by have := HGQ.out.1; omega)
     obtain ⟨wa, w9, s0, s1, hF9, hb12⟩ := frame_put w8 F hok.tool
     have HF9 := Lib.hid hF9
     have HB12 := Lib.hid hb12
     have HFR : Hid (∀ a, F.A = some a → w.heap.size ≤ a.block ∧ ¬ a.block = gq ∧ ¬ a.block = gr) := Lib.hid (fun a e => by have := (hfr.fresh a e).1; have := hb10.size; have := lt_of_block hq2.qk; have := hZ7.lt; omega)
     have HOW : Hid (OwnA w9 w.heap.size F) := Lib.hid ((hfr.below hb12).less hb10.size)
     clear hF9 hb12 hq2 hN7 hZ7 hb10 ho8 hfr
     go_upto_region 15 with (fail)
     clear s0 s1
     have hF9 := HF9.out
     have hN9 := hN8.below HB12.out
     have hZ9 := hZ8.below HB12.out
     have hb13 := below_step hb11 HB12.out
     have hq9 := hqf.below HB12.out
     have hok9 := hok.below HB12.out
     obtain ⟨gf, hgf⟩ : ∃ gf, w8.heap.size = gf := ⟨_, rfl⟩
     have HGF : Hid (¬ gf = gq ∧ ¬ gf = gr) := Lib.hid ⟨by have := lt_of_block hqf.qk; omega, by have := hZ8.lt; omega⟩
     rw [hgf] at hF9 ⊢
     clear hgf HF9 HB12 hN8 hZ8 hb11 hqf hok
     go_wp2_with fail
     refine (rEnd_any hq9).mono ?_
     rintro e w10 ⟨rfl, hq10, ho10⟩
     have hF10 := hF9.only ho10 HGF.out.1
     have hN10 := hN9.only ho10 HGQ.out.2.1
     have hZ10 := hZ9.only ho10 HGQ.out.2.2
     have hb14 := Below.only hb13 ho10 hb13.size (fun k' e => by have := HGQ.out.1; omega)
     have hok10 : F.ok w10 := ⟨hok9.tool, hok9.args.apart ho10 (fun a e => (HFR.out a e).2.1)⟩
     have HOW2 : Hid (OwnA w10 w.heap.size F) := Lib.hid (HOW.out.only ho10 (fun a e => (HFR.out a e).2.1))
     clear hF9 hN9 hZ9 hb13 hok9 ho10 hq9
     have HFIN0 := Lib.hid (fin_eq D1 F k)
     have HREAD : Hid (decF xs = if (finS D1 F.core k).1 ≠ 0 then (noF, finS D1 F.core k) else (F.core, 0, 0)) := Lib.hid (by rw [HRF.out, readF_of HF.out])
     obtain ⟨x0, hx0⟩ : ∃ x0, (endS D1).why = x0 := ⟨_, rfl⟩
     obtain ⟨y0, hy0⟩ : ∃ y0, (endS D1).wat = y0 := ⟨_, rfl⟩
     rw [hx0, hy0]
     have HFIN : Hid (finS D1 F.core k = if x0 = 0 ∧ F.k = 3 ∧ F.st ≠ 1 ∧ F.body.size ≠ 0 then (70, (k : Int)) else (x0, y0)) := Lib.hid (by rw [HFIN0.out, hx0, hy0])
     clear hx0 hy0 hq10 HFIN0 HRF
     have eK := load_cell_int hF10.c0
     have eS := load_cell_int hF10.c36
     have eB := load_str hF10.c41
     have eF := get_frame hF10
     have eP := put_frame F hok10.tool hZ10
     have hZg := put_at F hok10.tool hZ10
     have hbg := below_setRow (cs := F.arr) hb14 (g := gr) (by have := HGR.out; omega)
     have hokg : F.ok (w10.setRow gr F.arr) := ⟨hok10.tool, hok10.args.apart (Fr.only_row w10 gr F.arr) (fun a e => (HFR.out a e).2.2)⟩
     have eN := get_frame hN10
     have eP0 := put_frame (kF 0) rfl hZ10
     have hZe := put_at (kF 0) rfl hZ10
     have hbe := below_setRow (cs := (kF 0).arr) hb14 (g := gr) (by have := HGR.out; omega)
     have hbe0 := body_empty F.body
     clear hF10 hN10 hZ10 hb14
     by_cases hx0 : x0 = 0
     ·have bx : (x0 == 0) = true := by rw [hx0]; rfl
      have bx2 : (x0 != 0) = false := by rw [hx0]; rfl
      by_cases hk : F.k = 3
      ·have bk : (F.k == 3) = true := by rw [beq_iff_eq]; exact hk
       by_cases hst : F.st = 1
       ·have bs : (F.st != 1) = false := by simp [hst]
        have HD : Hid ((decF xs).2 = (0, 0) ∧ F.core = (decF xs).1) := Lib.hid (by have hfin := HFIN.out; rw [if_neg (fun e => e.2.2.1 hst)] at hfin; rw [HREAD.out, hfin, if_neg (by simp [hx0])]; exact ⟨rfl, rfl⟩)
        clear hst hk hx0 hbe0
        go_wp2_with fail
        exact bodyPost_ret (rdec_ret rfl hZg rfl rfl) rfl ⟨F, 0, 0, rfl, HD, hokg, HOW2.out.only (Fr.only_row w10 gr F.arr) (fun a e => (HFR.out a e).2.2), hbg⟩
       ·have bs : (F.st != 1) = true := by simp [hst]
        by_cases hb0 : F.body.size = 0
        ·have b0 : F.body.toList.isEmpty = true := by rw [hbe0]; exact decide_eq_true hb0
         have HD : Hid ((decF xs).2 = (0, 0) ∧ F.core = (decF xs).1) := Lib.hid (by have hfin := HFIN.out; rw [if_neg (fun e => e.2.2.2 hb0)] at hfin; rw [HREAD.out, hfin, if_neg (by simp [hx0])]; exact ⟨rfl, rfl⟩)
         clear hst hk hx0 hbe0 hb0
         go_wp2_with fail
         exact bodyPost_ret (rdec_ret rfl hZg rfl rfl) rfl ⟨F, 0, 0, rfl, HD, hokg, HOW2.out.only (Fr.only_row w10 gr F.arr) (fun a e => (HFR.out a e).2.2), hbg⟩
        ·have b0 : F.body.toList.isEmpty = false := by rw [hbe0]; exact decide_eq_false hb0
         have HD : Hid (decF xs = (noF, 70, (k : Int))) := Lib.hid (by have hfin := HFIN.out; rw [if_pos ⟨hx0, hk, hst, hb0⟩] at hfin; rw [HREAD.out, hfin, if_pos (by show (70 : Int) ≠ 0; decide)])
         clear hst hk hx0 hbe0 hb0
         go_wp2_with fail
         exact bodyPost_ret (rdec_ret rfl hZe rfl rfl) rfl (rdec_bad HD hbe)
      ·have bk : (F.k == 3) = false := by rw [beq_eq_false_iff_ne]; exact hk
       have HD : Hid ((decF xs).2 = (0, 0) ∧ F.core = (decF xs).1) := Lib.hid (by have hfin := HFIN.out; rw [if_neg (fun e => hk e.2.1)] at hfin; rw [HREAD.out, hfin, if_neg (by simp [hx0])]; exact ⟨rfl, rfl⟩)
       clear hk hx0 hbe0
       go_wp2_with fail
       exact bodyPost_ret (rdec_ret rfl hZg rfl rfl) rfl ⟨F, 0, 0, rfl, HD, hokg, HOW2.out.only (Fr.only_row w10 gr F.arr) (fun a e => (HFR.out a e).2.2), hbg⟩
     ·have bx : (x0 == 0) = false := by rw [beq_eq_false_iff_ne]; exact hx0
      have bx2 : (x0 != 0) = true := by simpa using hx0
      have HD : Hid (decF xs = (noF, x0, y0)) := Lib.hid (by have hfin := HFIN.out; rw [if_neg (fun e => hx0 e.1)] at hfin; rw [HREAD.out, hfin, if_pos hx0])
      clear hx0 hbe0
      go_wp2_with fail
      exact bodyPost_ret (rdec_ret rfl hZe rfl rfl) rfl (rdec_bad HD hbe)
    ·have HD : Hid (decF xs = (noF, 71, (m : Int) - 4)) := Lib.hid (by rw [HDE.out, ← HO.out, if_pos he])
     have b4 : (err != 0) = true := by simpa using he
     have hm4 : (m : Int) ≤ 2097166 := by have := HK.out; have := HMN.out; omega
     have eN := get_frame hN4
     have eP := put_frame (kF 0) rfl hZ4
     have hZe := put_at (kF 0) rfl hZ4
     have hbe := below_setRow (cs := (kF 0).arr) hb6 (g := gr) (by have := HGR.out; omega)
     clear he hN4 hZ4 hb6 hO4
     go_wp2_with fail
     exact bodyPost_ret (rdec_ret rfl hZe rfl rfl) rfl (rdec_bad HD hbe)
 ·have b0 : (x != 0) = true := by simpa using h0
  have HD : Hid (decF xs = (noF, x, 0)) := Lib.hid (by unfold decF; rw [HN.out]; dsimp only; rw [if_pos h0])
  clear h0
  go_wp2_with fail
  exact bodyPost_ret (rdec_ret rfl hZe rfl rfl) rfl (rdec_bad HD hbe)
end
end Go.Proofs.YtpjpgcjhdbiepaaGreat
end
section
namespace Go.Proofs.YtpjpgcjhdbiepaaGreat
open Go.RowKit Go.Kit CrcM Go.Proofs.YtpjpgcjhdbiepaaGreatW.PrintWords
def zV (s : Sm) (v vs : Value) : Array Value := #[.int .i64 (s.most : Int), v, .int .i64 (s.came : Int), .int .i64 (s.whole : Int), .int .i64 s.why, .int .i64 s.wat, vs]
structure Qr (w : World) (base : Nat) (v vs : Value) (s : Sm) (zs : List Int) : Prop where
 row : OB 5 w base v s.rest
 zrow : OI w base vs zs
 ok : s.ok
 many : s.rest.length ≤ s.most + 14
def qfp (v vs : Value) (k : Nat) : Prop := rf v k ∨ rf vs k
section
variable {w w1 : World} {base : Nat} {v vs : Value} {s : Sm} {zs : List Int} {S : Nat → Prop}
theorem Qr.below (h : Qr w base v vs s zs) (hb : Below w.heap.size w w1) : Qr w1 base v vs s zs := ⟨h.row.below hb, h.zrow.below hb, h.ok, h.many⟩
theorem Qr.only (h : Qr w base v vs s zs) (ho : Only w w1 S) (hs : Sep (qfp v vs) S) : Qr w1 base v vs s zs := ⟨h.row.only ho (fun k hk => hs k (.inl hk)), own_only h.zrow ho (fun k hk => hs k (.inr hk)), h.ok, h.many⟩
theorem Qr.less (h : Qr w base v vs s zs) {b : Nat} (hle : b ≤ base) : Qr w b v vs s zs := ⟨h.row.less hle, own_weaken h.zrow hle, h.ok, h.many⟩
theorem Qr.typed (h : Qr w base v vs s zs) : ∀ k, qfp v vs k → ∃ cs t, w.heap[k]? = some (.cells cs t (0, 0)) ∧ t ≠ 48 ∧ t ≠ 9 ∧ t ≠ 31 ∧ t ≠ 28 := fun k hk => by
 rcases hk with hk | hk
 ·obtain ⟨cs, hc⟩ := own_typed h.row.own hk
  exact ⟨cs, _, hc, by decide, by decide, by decide, by decide⟩
 ·obtain ⟨cs, hc⟩ := own_typed h.zrow hk
  exact ⟨cs, _, hc, by decide, by decide, by decide, by decide⟩
theorem Qr.not_at (h : Qr w base v vs s zs) {g : Nat} {cs : Array Value} (hg : w.heap[g]? = some (.cells cs 31 (0, 0))) : ¬ qfp v vs g := fun hk => by
 obtain ⟨cs', t, hc, _, _, ht, _⟩ := h.typed g hk
 rw [hg] at hc
 injection hc with hc
 injection hc with _ hc
 exact ht hc.symm
theorem Qr.not_fault (h : Qr w base v vs s zs) {g : Nat} {cs : Array Value} (hg : w.heap[g]? = some (.cells cs 28 (0, 0))) : ¬ qfp v vs g := fun hk => by
 obtain ⟨cs', t, hc, _, _, _, ht⟩ := h.typed g hk
 rw [hg] at hc
 injection hc with hc
 injection hc with _ hc
 exact ht hc.symm
theorem Qr.new (h : Qr w base v vs s zs) : ∀ k, qfp v vs k → base ≤ k ∧ k < w.heap.size := fun k hk => hk.elim (fun e => own_new h.row.own k e) (fun e => own_new h.zrow k e)
end
theorem zV_size (s : Sm) (v vs : Value) : (Tryz.prog.info? 31).map (·.size) = some (zV s v vs).size := by
 rw [show (zV s v vs).size = 7 from rfl]; kernel_rfl
theorem z_load {W : World} {g : Nat} {s : Sm} {v vs : Value} (h : W.heap[g]? = some (.cells (zV s v vs) 31 (0, 0))) : (Instr.loadAt 31 (.pointer (some ⟨g, 0, none⟩))).run Tryz.prog W = .ok (.agg (zV s v vs)) W :=
 run_loadAt_mid W g 0 31 (zV s v vs).toList _ (fun j u hj => by rw [Nat.zero_add, cell_of_row W g j _ _ _ h]; simpa using hj) Tryz.underlying31 rfl (zV_size s v vs)
attribute [-go_sem] Instr.loadAt Instr.storeAt Instr.build run_slice_lh run_slice_any
attribute [local go_sem] Go.Proofs.YtpjpgcjhdbiepaaGreatW.PrintMore.min_two
set_option maxHeartbeats 8000000 in
set_option maxRecDepth 100000 in
theorem rneed_any {w : World} {base : Nat} {v vs : Value} {s : Sm} (h : OB 5 w base v s.rest) (h2 : s.most ≤ 2097152) :
  Calls Tryz.prog 45 #[.agg (zV s v vs)] w fun e w' => e = .returned (.tuple #[.int .i64 ((needS s.most s.rest).1 : Int), .int .i64 (needS s.most s.rest).2]) ∧ Below w.heap.size w w' := by
 obtain ⟨A, c, rfl, hR, hc⟩ := h.reads'
 have hbk := heap_alloc_new w (.cells (zV s (.slice A s.rest.length c) vs) 31)
 have hb := below_alloc (Below.refl _ w) (.cells (zV s (.slice A s.rest.length c) vs) 31)
 obtain ⟨n, hn⟩ : ∃ n, s.rest.length = n := ⟨_, rfl⟩
 obtain ⟨m, hm⟩ : ∃ m : Nat, s.most = m := ⟨_, rfl⟩
 have HNM : Hid (m ≤ 2097152) := Lib.hid (by rw [← hm]; exact h2)
 obtain ⟨k, x, hS⟩ : ∃ k x, needS s.most s.rest = (k, x) := ⟨_, _, rfl⟩
 have HS := Lib.hid hS
 rw [hS]
 obtain ⟨t, ht⟩ : ∃ t : Nat, t = min n 11 := ⟨_, rfl⟩
 have hmin : Builtin.min2 (.int .i64 (n : Int)) (.int .i64 11) = pure (.int .i64 (t : Int)) := min2_is (by omega)
 have HT : Hid (t = min s.rest.length 11 ∧ t ≤ n ∧ t ≤ 11) := Lib.hid ⟨by rw [hn]; exact ht, by omega, by omega⟩
 have HBY := Lib.hid hR.byt
 rw [hn] at hR hc hbk hb ⊢
 have hqm : (zV s (.slice A n c) vs) = #[.int .i64 (m : Int), .slice A n c, .int .i64 (s.came : Int), .int .i64 (s.whole : Int), .int .i64 s.why, .int .i64 s.wat, vs] := by unfold zV; rw [hm]
 rw [hqm] at hbk hb ⊢
 have HR := Lib.hid (hR.below hb)
 have HB := Lib.hid hb
 have HBK := Lib.hid hbk
 have HM := Lib.hid hm
 have e1 := load_bytes_cell (cell_of_row _ _ 1 _ _ _ hbk)
 have e0 := load_cell_int (cell_of_row _ _ 0 _ _ _ hbk)
 have hs : ∀ W : World, (Instr.slice 22 (.slice A n c) none (some (.int .i64 (t : Int))) none).run Tryz.prog W = .ok (.slice A t c) W := fun W => head_bytes A n c t (by omega) W
 have HC := Lib.hid hc
 clear h h2 hR hc hn hm hS ht hqm hb hbk
 go_enter Tryz.func45, Tryz.ntmps45
 go_wp2_with fail
 refine (rNeed_any A t c (s.rest.take t) _ (RB.take_ HR.out t HT.out.2.1) (by have := HT.out; omega)).mono ?_
 rintro e w1 ⟨m1, k1, x1, rfl, HN, hb1⟩
 have HN2 : Hid (needF s.rest = (m1, k1, x1)) := Lib.hid (by rw [← needF_eleven s.rest HT.out.1]; exact HN.out)
 have HB1 := Lib.hid (below_step HB.out hb1)
 have HMM := Lib.hid (need_le HBY.out HN2.out)
 have HK10 : Hid (k1 ≤ 10) := Lib.hid (by
  obtain ⟨p, q, y, hH⟩ : ∃ p q y, headF s.rest = (p, q, y) := ⟨_, _, _, rfl⟩
  have h1 := headF_facts HBY.out hH
  have h2 := HN2.out
  unfold needF at h2
  rw [hH] at h2
  dsimp only at h2
  split at h2
  ·cases h2; omega
  ·cases h2; omega)
 have HSS : Hid ((k, x) = if x1 ≠ 0 then ((0 : Nat), x1) else if m + k1 + 4 < m1 then (0, 3) else (m1, 0)) := Lib.hid (by
  rw [← HS.out]; unfold needS; rw [HN2.out, HM.out])
 have e0' := pw_cell_below hb1 (cell_of_row _ _ 0 _ _ _ HBK.out)
 have e0 := load_cell_int e0'
 clear e1 hs HN hb1 e0'
 by_cases hx : x1 = 0
 ·subst hx
  have q1 : IntKind.i64.wrap ((m1 : Int) - (k1 : Int)) = (m1 : Int) - (k1 : Int) := by have := HMM.out; have := HK10.out; rw [IntKind.wrap_i64]; omega
  have q2 : IntKind.i64.wrap ((m1 : Int) - (k1 : Int) - 4) = (m1 : Int) - (k1 : Int) - 4 := by have := HMM.out; have := HK10.out; rw [IntKind.wrap_i64]; omega
  by_cases h0 : m1 = 0
  ·subst h0
   obtain ⟨rfl, rfl⟩ : k = 0 ∧ x = 0 := by have h := HSS.out; rw [if_neg (by simp), if_neg (by omega)] at h; cases h; exact ⟨rfl, rfl⟩
   clear q1 q2
   go_wp2_with fail
   go_ret2
   exact ⟨rfl, HB1.out⟩
  ·have h1 : (0 : Int) < (m1 : Int) := by omega
   have h1' : 0 < m1 := by omega
   by_cases h2 : (m : Int) < (m1 : Int) - (k1 : Int) - 4
   ·obtain ⟨rfl, rfl⟩ : k = 0 ∧ x = 3 := by have h := HSS.out; rw [if_neg (by simp), if_pos (by omega)] at h; cases h; exact ⟨rfl, rfl⟩
    clear h0
    go_wp2_with fail
    go_ret2
    exact ⟨rfl, HB1.out⟩
   ·obtain ⟨rfl, rfl⟩ : k = m1 ∧ x = 0 := by have h := HSS.out; rw [if_neg (by simp), if_neg (by omega)] at h; cases h; exact ⟨rfl, rfl⟩
    clear h0
    go_wp2_with fail
    go_ret2
    exact ⟨rfl, HB1.out⟩
 ·obtain ⟨rfl, rfl⟩ : k = 0 ∧ x = x1 := by have h := HSS.out; rw [if_pos hx] at h; cases h; exact ⟨rfl, rfl⟩
  have bx : (x != 0) = true := by simpa using hx
  clear hx
  go_wp2_with fail
  go_ret2
  exact ⟨rfl, HB1.out⟩
end Go.Proofs.YtpjpgcjhdbiepaaGreat
end
section
namespace Go.Proofs.YtpjpgcjhdbiepaaGreat
open Go.RowKit Go.Kit CrcM Go.Proofs.YtpjpgcjhdbiepaaGreatW.PrintWords
theorem z_one (s : Sm) (A B : Option Addr) (n c m k : Nat) : (zV s (.slice A n c) (.slice B m k)).all (·.oneCell') = true := by simp [zV, Value.oneCell']
theorem z_put {W : World} {g : Nat} {cs : Array Value} (s : Sm) (A B : Option Addr) (n c m k : Nat) (h : W.heap[g]? = some (.cells cs 31 (0, 0))) (hs : cs.size = 7) :
  (Instr.storeAt 31 (.pointer (some ⟨g, 0, none⟩)) (.agg (zV s (.slice A n c) (.slice B m k)))).run Tryz.prog W = .ok () (W.setRow g (zV s (.slice A n c) (.slice B m k))) :=
 storeAt_all (P := Tryz.prog) W g 31 31 _ cs h hs (zV_size s _ _) (z_one s A B n c m k)
def zZ : Array Value := #[.int .i64 0, .slice none 0 0, .int .i64 0, .int .i64 0, .int .i64 0, .int .i64 0, .slice none 0 0]
theorem z_new (W : World) : ∃ W1, W.alloc (.cells #[.int .i64 0, .slice none 0 0, .int .i64 0, .int .i64 0, .int .i64 0, .int .i64 0, .slice none 0 0] 31) = W1 ∧ W1.heap[W.heap.size]? = some (.cells zZ 31 (0, 0)) ∧ Below W.heap.size W W1 := ⟨_, rfl, heap_alloc_new W _, below_alloc (Below.refl _ W) _⟩
def TakeQ (w : World) (base : Nat) (v vs : Value) (s : Sm) (zs : List Int) (c : Int) (e : Ending) (w' : World) : Prop :=
 ∃ (v' vs' vl : Value) (t : Sm) (Fs : List Fr), e = .returned (.tuple #[.agg (zV t v' vs'), vl]) ∧ Hid (takeS s c = (t, Fs.map Fr.core)) ∧ Qr w' base v' vs' t (zs ++ sizesS Fs) ∧ OFs w' w.heap.size vl Fs ∧ Only w w' (qfp v vs) ∧ Onto w (qfp v vs) (qfp v' vs')
theorem takeq_ret {W : World} {g : Nat} {tmps : Array Value} {cs : Array Value} {b : Value} (hp : tmps.getD 4 undef = .pointer (some ⟨g, 0, none⟩)) (hF : W.heap[g]? = some (.cells cs 31 (0, 0))) (hs : cs.size = 7) (hb : tmps.getD 5 undef = b) :
  (results Tryz.f42 tmps).run Tryz.prog W = .ok (.tuple #[.agg cs, b]) W :=
 results_cell_row_tmp (P := Tryz.prog) (fn := Tryz.f42) (p := 4) (u := 5) rfl tmps W g 31 cs (0, 0) _ hp hF Tryz.underlying31 rfl (by rw [hs]; kernel_rfl) b hb
theorem Qr.slices {w : World} {base : Nat} {v vs : Value} {s : Sm} {zs : List Int} (h : Qr w base v vs s zs) : ∃ A c B k, v = .slice A s.rest.length c ∧ vs = .slice B zs.length k := by
 obtain ⟨A, c, hv, _, _⟩ := h.row.reads'
 obtain ⟨B, k, hs, _⟩ := h.zrow.reads
 exact ⟨A, c, B, k, hv, hs⟩
theorem q_none {w W : World} {base gr : Nat} {v vs v3 : Value} {s t : Sm} {zs : List Int} {c : Int} {cs : Array Value} (hok : s.ok) (hw0 : s.why = 0) (hc0 : 0 ≤ c) (hc1 : c < 256) (ht : takeS s c = (t, [])) (hO : OB 5 W base v3 t.rest) (hz : OI W base vs zs) (ho : Only w W (qfp v vs)) (hon : Onto w (qfp v vs) (qfp v3 vs))
  (hg : w.heap.size ≤ gr) (hgr : W.heap[gr]? = some (.cells cs 31 (0, 0))) : TakeQ w base v vs s zs c (.returned (.tuple #[.agg (zV t v3 vs), .slice none 0 0])) (W.setRow gr (zV t v3 vs)) := by
 have ho1 := Fr.only_row W gr (zV t v3 vs)
 have h1 := take_ok hok hw0 hc0 hc1
 have h2 := take_rest hok hw0 c
 have h3 := take_most s c
 rw [ht] at h1 h2 h3
 dsimp only at h1 h2 h3
 refine ⟨v3, vs, .slice none 0 0, t, [], rfl, Lib.hid ht, ⟨hO.only ho1 (fun k hk e => ?_), ?_, h1, by rw [h3]; exact h2⟩, OFs.nil _ _, ho.then_ ho1 (fun k e => .inr (by omega)), hon⟩
 ·subst e; exact own_not hO.own hgr (by decide) hk
 ·rw [show zs ++ sizesS [] = zs by simp [sizesS]]
  exact own_only hz ho1 (fun k hk e => by subst e; exact own_not hz hgr (by decide) hk)
theorem OFs.lone (W : World) (F : Fr) (hT : F.tool.length = 32) {b : Nat} (hb : b ≤ W.heap.size) (hA : OwnA W b F) : OFs (W.alloc (.cells F.arr 48)) b (.slice (some ⟨W.heap.size, 0, none⟩) 1 1) [F] := by
 have hs := Fr.arr_size F hT
 refine ⟨⟨by simp [fcells, cells_len hT], .inr ⟨W.heap.size, 1, F.arr, rfl, hb, heap_alloc_new W _, Nat.le_refl _, by unfold maxLen; omega, by omega, ?_⟩⟩, fun f hf => ?_⟩
 ·have hl := cells_len hT
  show F.cells.take 42 = fcells [F]
  rw [List.take_of_length_le (by omega)]; simp [fcells]
 ·simp at hf; subst hf
  exact ⟨hT, hA.below (below_alloc (Below.refl _ W) _)⟩
theorem q_fin {w W : World} {base : Nat} {v vs v3 vs3 : Value} {s t : Sm} {zs ws : List Int} {c : Int} {vl : Value} {F : Fr} (hok : s.ok) (hw0 : s.why = 0) (hc0 : 0 ≤ c) (hc1 : c < 256) (ht : takeS s c = (t, [F.core])) (hO : OB 5 W base v3 t.rest) (hz : OI W base vs3 ws) (hws : ws = zs ++ sizesS [F]) (ho : Only w W (qfp v vs)) (hon : Onto w (qfp v vs) (qfp v3 vs3))
  (hF : OFs W w.heap.size vl [F]) : TakeQ w base v vs s zs c (.returned (.tuple #[.agg (zV t v3 vs3), vl])) W := by
 subst hws
 have h1 := take_ok hok hw0 hc0 hc1
 have h2 := take_rest hok hw0 c
 have h3 := take_most s c
 rw [ht] at h1 h2 h3
 dsimp only at h1 h2 h3
 exact ⟨v3, vs3, vl, t, [F], rfl, Lib.hid ht, ⟨hO, hz, h1, by rw [h3]; exact h2⟩, hF, ho, hon⟩
theorem z_spoil {W : World} {g : Nat} {s : Sm} {v vs : Value} (h : W.heap[g]? = some (.cells (zV s v vs) 31 (0, 0))) (e p : Int) : (Instr.storeAt 28 (.pointer (some ⟨g, 4, none⟩)) (.agg #[.int .i64 e, .int .i64 p])).run Tryz.prog W = .ok () (W.setRow g (zV { s with why := e, wat := p } v vs)) :=
 storeAt_mid (P := Tryz.prog) W g 4 28 31 #[.int .i64 e, .int .i64 p] _ h (by simp [zV]) (fv_size e _) (by simp [Value.oneCell'])
theorem z_set {W : World} {g : Nat} {s s1 : Sm} {v vs v1 vs1 : Value} (h : W.heap[g]? = some (.cells (zV s v vs) 31 (0, 0))) (j : Nat) (x : Value) (he : (zV s v vs).setIfInBounds j x = zV s1 v1 vs1) : (W.setCell ⟨g, j, none⟩ x).heap[g]? = some (.cells (zV s1 v1 vs1) 31 (0, 0)) := by
 rw [heap_set_same W g j _ _ x h, he]
attribute [-go_sem] Instr.loadAt Instr.storeAt Instr.build Instr.buildSlice
theorem build_byte (c : Int) (W : World) : (Instr.buildSlice 22 1 #[(0, .int .u8 c)]).run Tryz.prog W = .ok (.slice (some ⟨W.heap.size, 0, none⟩) 1 1) (W.alloc (.cells #[.int .u8 c] 5)) := by kernel_rfl
theorem build_num (c : Int) (W : World) : (Instr.buildSlice 29 1 #[(0, .int .i64 c)]).run Tryz.prog W = .ok (.slice (some ⟨W.heap.size, 0, none⟩) 1 1) (W.alloc (.cells #[.int .i64 c] 3)) := by kernel_rfl
theorem put_ints_cell (A : Option Addr) (n c : Nat) (W : World) (a : Addr) (u : Value) (hc : W.cell? a = some u) (hf : W.frozen? a = false) : (Instr.storeAt 29 (.pointer (some a)) (.slice A n c)).run Tryz.prog W = .ok () (W.setCell a (.slice A n c)) := by
 simp only [Instr.storeAt]
 go_simp
theorem load_ints_cell {W : World} {a : Addr} {v : Value} (h : W.cell? a = some v) : (Instr.loadAt 29 (.pointer (some a))).run Tryz.prog W = .ok v W := by
 simp only [Instr.loadAt]
 go_simp
set_option maxHeartbeats 16000000 in
set_option maxRecDepth 100000 in
theorem rtake_any {w : World} {base : Nat} {v vs : Value} {s : Sm} {zs : List Int} (h : Qr w base v vs s zs) (hw : s.why = 0) (hbase : base ≤ w.heap.size) (c : Int) (hc0 : 0 ≤ c) (hc1 : c < 256) (hcm : s.came ≤ 576460752303423488) (hwh : s.whole ≤ 576460752303423488) (hz : (zs.length + 1) * 8 ≤ 140737488355328) :
  Calls Tryz.prog 42 #[.agg (zV s v vs), .int .u8 c] w (TakeQ w base v vs s zs c) := by
 obtain ⟨A, ca, B, kb, rfl, rfl⟩ := h.slices
 have hlen : s.rest.length ≤ 2097166 := by have := h.many; have := h.ok.two; omega
 have hq0 := heap_alloc_new w (.cells (zV s (.slice A s.rest.length ca) (.slice B zs.length kb)) 31)
 have hb0 := below_alloc (Below.refl _ w) (.cells (zV s (.slice A s.rest.length ca) (.slice B zs.length kb)) 31)
 unfold zV at hq0 hb0 ⊢
 obtain ⟨w1, hw1⟩ : ∃ W, w.alloc (.cells #[.int .i64 (s.most : Int), .slice A s.rest.length ca, .int .i64 (s.came : Int), .int .i64 (s.whole : Int), .int .i64 s.why, .int .i64 s.wat, .slice B zs.length kb] 31) = W := ⟨_, rfl⟩
 rw [hw1] at hq0 hb0
 obtain ⟨w2, s1, hZ, hb1⟩ := z_new w1
 have hqw := h.below (below_step hb0 hb1)
 have hq1 := (hb1.block _ (lt_of_block hq0)).trans hq0
 have HB := Lib.hid (below_step hb0 hb1)
 have HW := Lib.hid hw
 have HH := Lib.hid h
 have HGE : Hid (w.heap.size < w1.heap.size) := Lib.hid (lt_of_block hq0)
 clear h hw hq0 hb0 hb1
 go_enter Tryz.func42, Tryz.ntmps42
 go_upto_region 1 with (fail)
 clear hw1 s1
 obtain ⟨gq, hgq⟩ : ∃ g, w.heap.size = g := ⟨_, rfl⟩
 obtain ⟨gr, hgr⟩ : ∃ g, w1.heap.size = g := ⟨_, rfl⟩
 have HGR : Hid (w.heap.size = gq ∧ gq < gr) := Lib.hid ⟨hgq, by rw [← hgq, ← hgr]; exact HGE.out⟩
 rw [hgq] at hq1 ⊢
 rw [hgr] at hZ ⊢
 clear hgq hgr HGE
 have e13 : (Instr.loadAt 22 (.pointer (some ⟨gq, 1, none⟩))).run Tryz.prog w2 = .ok (.slice A s.rest.length ca) w2 := load_bytes_cell (by rw [cell_of_row w2 gq 1 _ _ _ hq1]; rfl)
 have hbb := build_byte
 have hrow := hqw.row
 go_wp2_with (at_builtin; refine push_byte (w0 := w2) base rfl (.tmp 13) (.tmp 15) 22 c rfl Tryz.underlying22 u8_info rfl rfl hrow (Below.refl _ _) (Nat.le_trans hbase HB.out.size) (by omega) hc0 hc1 ?_)
 intro v3 w3 hO3 _ hg3 hat3
 have ho3 : Only w2 w3 (rf (.slice A s.rest.length ca)) := (Only.refl _ _).grown hg3 (fun k e => .inl e)
 have hq3 := ho3.kept hq1 (own_not hqw.row.own hq1 (by decide))
 have hZ3 := ho3.kept hZ (own_not hqw.row.own hZ (by decide))
 have hz3 : OI w3 base (.slice B zs.length kb) zs := own_only hqw.zrow ho3 (fun k hk e => by
  obtain ⟨cs, hc⟩ := own_typed hqw.row.own e
  exact own_not hqw.zrow hc (by decide) hk)
 have HON : Hid (Onto w (qfp (.slice A s.rest.length ca) (.slice B zs.length kb)) (qfp v3 (.slice B zs.length kb))) := Lib.hid (fun k hk => by
  rcases hk with hk | hk
  ·rcases hat3 with h | ⟨b, hb, hle⟩
   ·exact .inl (.inl (h.symm.trans hk))
   ·have : b = k := by have e2 := hb.symm.trans hk; injection e2
    exact .inr (by have := HB.out.size; omega)
  ·exact .inl (.inr hk))
 have HO3 : Hid (Only w w3 (qfp (.slice A s.rest.length ca) (.slice B zs.length kb))) := Lib.hid ((Only.of_below HB.out _).same (ho3.mono (fun k e => .inl e)))
 obtain ⟨A3, c3, rfl, _, _⟩ := hO3.reads'
 obtain ⟨n3, hn3⟩ : ∃ n, (s.rest ++ [c]).length = n := ⟨_, rfl⟩
 have HN3 : Hid ((s.rest ++ [c]).length = n3 ∧ n3 ≤ 2097167) := Lib.hid ⟨hn3, by rw [← hn3, List.length_append, List.length_singleton]; omega⟩
 rw [hn3] at hO3 HON ⊢
 have hq3' : w3.heap[gq]? = some (.cells (zV s (.slice A s.rest.length ca) (.slice B zs.length kb)) 31 (0, 0)) := hq3
 have p1 := put_bytes_cell A3 n3 c3 w3 ⟨gq, 1, none⟩ _ (cell_of_row w3 gq 1 _ _ _ hq3') (frozen_of_row w3 gq 1 _ _ hq3')
 have hq4 := z_set (s1 := { s with rest := s.rest ++ [c] }) (v1 := .slice A3 n3 c3) (vs1 := .slice B zs.length kb) hq3' 1 (.slice A3 n3 c3) rfl
 have l2 : (Instr.loadAt 3 (.pointer (some ⟨gq, 2, none⟩))).run Tryz.prog (w3.setCell ⟨gq, 1, none⟩ (.slice A3 n3 c3)) = .ok (.int .i64 (s.came : Int)) (w3.setCell ⟨gq, 1, none⟩ (.slice A3 n3 c3)) := load_cell_int (by rw [cell_of_row _ gq 2 _ _ _ hq4]; rfl)
 have p2 := put_cell_int ((s.came : Int) + 1) _ ⟨gq, 2, none⟩ _ (cell_of_row _ gq 2 _ _ _ hq4) (frozen_of_row _ gq 2 _ _ hq4)
 have hq5 := z_set (s1 := s.put c) (v1 := .slice A3 n3 c3) (vs1 := .slice B zs.length kb) hq4 2 (.int .i64 ((s.came : Int) + 1)) rfl
 have hoc := (Fr.only_at w3 gq 1 (.slice A3 n3 c3)).same (Fr.only_at (w3.setCell ⟨gq, 1, none⟩ (.slice A3 n3 c3)) gq 2 (.int .i64 ((s.came : Int) + 1)))
 have HO5 : Hid (Only w ((w3.setCell ⟨gq, 1, none⟩ (.slice A3 n3 c3)).setCell ⟨gq, 2, none⟩ (.int .i64 ((s.came : Int) + 1))) (qfp (.slice A s.rest.length ca) (.slice B zs.length kb))) := Lib.hid (HO3.out.then_ hoc (fun k e => .inr (by rw [e]; exact Nat.le_of_eq HGR.out.1)))
 have hO5 := hO3.only hoc (fun k hk e => by subst e; exact own_not hO3.own hq3' (by decide) hk)
 have hz5 : OI _ base (.slice B zs.length kb) zs := own_only hz3 hoc (fun k hk e => by subst e; exact own_not hz3 hq3' (by decide) hk)
 have hZ5 := hoc.kept hZ3 (fun e => by have := HGR.out.2; omega)
 have k1 : IntKind.i64.wrap ((s.came : Int) + 1) = (s.came : Int) + 1 := by rw [IntKind.wrap_i64]; omega
 clear hq1 hZ hqw hrow hg3 hat3 ho3 hq3 hq3' hZ3 hz3 hO3 hq4 hoc e13 hbb HO3
 go_upto_region 3 with (fail)
 clear p1 p2 l2 k1
 generalize (w3.setCell ⟨gq, 1, none⟩ (.slice A3 n3 c3)).setCell ⟨gq, 2, none⟩ (.int .i64 ((s.came : Int) + 1)) = w5 at *
 obtain ⟨xs, hxs⟩ : ∃ xs, s.rest ++ [c] = xs := ⟨_, rfl⟩
 have HXS := Lib.hid hxs
 obtain ⟨fi, hfi⟩ : ∃ fi : Int, (s.came : Int) + 1 - (n3 : Int) = fi := ⟨_, rfl⟩
 have HLC : Hid (n3 ≤ s.came + 1) := Lib.hid (by have := HN3.out.1; rw [List.length_append, List.length_singleton] at this; have := HH.out.ok.len; omega)
 have HFI := Lib.hid hfi
 have k2 : IntKind.i64.wrap ((s.came : Int) + 1 - (n3 : Int)) = fi := by rw [IntKind.wrap_i64]; have := HLC.out; omega
 have k3 : IntKind.i64.wrap fi = fi := by rw [IntKind.wrap_i64]; have := HLC.out; omega
 have l2 : (Instr.loadAt 3 (.pointer (some ⟨gq, 2, none⟩))).run Tryz.prog w5 = .ok (.int .i64 ((s.came : Int) + 1)) w5 := load_cell_int (by rw [cell_of_row w5 gq 2 _ _ _ hq5]; rfl)
 have l1 : (Instr.loadAt 22 (.pointer (some ⟨gq, 1, none⟩))).run Tryz.prog w5 = .ok (.slice A3 n3 c3) w5 := load_bytes_cell (by rw [cell_of_row w5 gq 1 _ _ _ hq5]; rfl)
 have lz := z_load hq5
 have HOx : Hid (OB 5 w5 base (.slice A3 n3 c3) xs) := Lib.hid (by rw [← hxs]; exact hO5)
 clear hfi hO5
 go_upto_region 4 with (fail)
 clear l2 l1 k2
 go_wp2_with fail
 refine (rneed_any (s := s.put c) (v := .slice A3 n3 c3) (vs := .slice B zs.length kb) (by show OB 5 w5 base (.slice A3 n3 c3) (s.rest ++ [c]); rw [hxs]; exact HOx.out) HH.out.ok.two).mono ?_
 rw [show (s.put c).rest = xs from hxs, show (s.put c).most = s.most from rfl]
 obtain ⟨k, x, hN⟩ : ∃ k x, needS s.most xs = (k, x) := ⟨_, _, rfl⟩
 have HNE := Lib.hid hN
 rw [hN]
 rintro e w6 ⟨rfl, hb6⟩
 have hq6 := (hb6.block _ (lt_of_block hq5)).trans hq5
 have hZ6 := (hb6.block _ (lt_of_block hZ5)).trans hZ5
 have HO6 : Hid (OB 5 w6 base (.slice A3 n3 c3) xs) := Lib.hid (HOx.out.below hb6)
 have HZ6 : Hid (OI w6 base (.slice B zs.length kb) zs) := Lib.hid (hz5.below hb6)
 have HW6 : Hid (Only w w6 (qfp (.slice A s.rest.length ca) (.slice B zs.length kb))) := Lib.hid (HO5.out.below hb6)
 have HTK : Hid (takeS s c = if x ≠ 0 then ((s.put c).bad x 0, []) else if k = 0 ∨ n3 < k then (s.put c, []) else if (decF xs).2.1 ≠ 0 then ((s.put c).bad (decF xs).2.1 (decF xs).2.2, []) else ((s.put c).done, [(decF xs).1])) := Lib.hid (by
  rw [← HN3.out.1, HXS.out]
  unfold takeS
  rw [HXS.out, HNE.out])
 have HWAT : Hid (∀ a : Int, ((s.put c).came : Int) - (s.put c).rest.length + a = fi + a) := Lib.hid (fun a => by
  show ((s.came + 1 : Nat) : Int) - ((s.rest ++ [c]).length : Int) + a = _
  rw [HN3.out.1, ← HFI.out]
  push_cast; omega)
 clear hq5 hZ5 hz5 hb6 lz hN hxs HOx HO5
 by_cases hx : x = 0
 ·subst hx
  by_cases hk0 : k = 0
  ·have bk : ((k : Int) == 0) = true := by rw [hk0]; rfl
   have HT : Hid (takeS s c = (s.put c, [])) := Lib.hid (by rw [HTK.out, if_neg (by simp), if_pos (.inl hk0)])
   clear hk0
   have lz := z_load hq6
   have pz := z_put (s.put c) A3 B n3 c3 zs.length kb hZ6 rfl
   have hZe : (w6.setRow gr (zV (s.put c) (.slice A3 n3 c3) (.slice B zs.length kb))).heap[gr]? = some (.cells (zV (s.put c) (.slice A3 n3 c3) (.slice B zs.length kb)) 31 (0, 0)) := setRow_heap _ _ _ _ _ _ hZ6
   have HP := Lib.hid (q_none (base := base) HH.out.ok HW.out hc0 hc1 HT.out (by show OB 5 w6 base (.slice A3 n3 c3) (s.rest ++ [c]); rw [HXS.out]; exact HO6.out) HZ6.out HW6.out HON.out (by have := HGR.out; omega) hZ6)
   clear hq6 hZ6
   go_wp2_with fail
   exact bodyPost_ret (v := .tuple #[.agg (zV (s.put c) (.slice A3 n3 c3) (.slice B zs.length kb)), .slice none 0 0]) (takeq_ret rfl hZe rfl rfl) rfl HP.out
  ·have bk : ((k : Int) == 0) = false := by rw [beq_eq_false_iff_ne]; omega
   have l1 : (Instr.loadAt 22 (.pointer (some ⟨gq, 1, none⟩))).run Tryz.prog w6 = .ok (.slice A3 n3 c3) w6 := load_bytes_cell (by rw [cell_of_row w6 gq 1 _ _ _ hq6]; rfl)
   by_cases hlt : n3 < k
   ·have hlt2 : (n3 : Int) < (k : Int) := by omega
    have HT : Hid (takeS s c = (s.put c, [])) := Lib.hid (by rw [HTK.out, if_neg (by simp), if_pos (.inr hlt)])
    clear hk0 hlt
    have lz := z_load hq6
    have pz := z_put (s.put c) A3 B n3 c3 zs.length kb hZ6 rfl
    have hZe : (w6.setRow gr (zV (s.put c) (.slice A3 n3 c3) (.slice B zs.length kb))).heap[gr]? = some (.cells (zV (s.put c) (.slice A3 n3 c3) (.slice B zs.length kb)) 31 (0, 0)) := setRow_heap _ _ _ _ _ _ hZ6
    have HP := Lib.hid (q_none (base := base) HH.out.ok HW.out hc0 hc1 HT.out (by show OB 5 w6 base (.slice A3 n3 c3) (s.rest ++ [c]); rw [HXS.out]; exact HO6.out) HZ6.out HW6.out HON.out (by have := HGR.out; omega) hZ6)
    clear hq6 hZ6
    go_wp2_with fail
    exact bodyPost_ret (v := .tuple #[.agg (zV (s.put c) (.slice A3 n3 c3) (.slice B zs.length kb)), .slice none 0 0]) (takeq_ret rfl hZe rfl rfl) rfl HP.out
   ·have hlt2 : ¬ (n3 : Int) < (k : Int) := by omega
    have HTD : Hid (takeS s c = if (decF xs).2.1 ≠ 0 then ((s.put c).bad (decF xs).2.1 (decF xs).2.2, []) else ((s.put c).done, [(decF xs).1])) := Lib.hid (by rw [HTK.out, if_neg (by simp), if_neg (by omega)])
    have HR6 : Hid (RB w6 A3 n3 xs ∧ n3 ≤ c3) := Lib.hid (by
     obtain ⟨A', c', hv, hr, hcc⟩ := HO6.out.reads'
     injection hv with e1 e2 e3
     rw [← e1, ← e2] at hr
     exact ⟨hr, by omega⟩)
    clear hk0 hlt
    go_wp2_with fail
    refine (rDecode_any HR6.out.1 HR6.out.2 (by have := HN3.out.2; omega)).mono ?_
    rintro e w7 ⟨F, x7, y7, rfl, HD, hok, hown, hb7⟩
    obtain ⟨wa, w8, s0, s1, hF, hb8⟩ := frame_put w7 F hok.tool
    have hb78 := below_step hb7 hb8
    have hq8 := (hb78.block _ (lt_of_block hq6)).trans hq6
    have hZ8 := (hb78.block _ (lt_of_block hZ6)).trans hZ6
    have HO8 : Hid (OB 5 w8 base (.slice A3 n3 c3) xs) := Lib.hid (HO6.out.below hb78)
    have HZ8 : Hid (OI w8 base (.slice B zs.length kb) zs) := Lib.hid (HZ6.out.below hb78)
    have HW8 : Hid (Only w w8 (qfp (.slice A s.rest.length ca) (.slice B zs.length kb))) := Lib.hid (HW6.out.below hb78)
    have HOW8 : Hid (OwnA w8 w.heap.size F) := Lib.hid ((hown.below hb8).less HW6.out.size)
    have HTL := Lib.hid hok.tool
    have HF := Lib.hid hF
    have HGF : Hid (gq < w7.heap.size ∧ gr < w7.heap.size) := Lib.hid ⟨by have := lt_of_block hq6; have := hb7.size; omega, by have := lt_of_block hZ6; have := hb7.size; omega⟩
    clear l1 bk hlt2 hq6 hZ6 hb7 hb8 hb78 hok hown hF
    go_upto_region 11 with (fail)
    clear s0 s1
    obtain ⟨gf, hgf⟩ : ∃ g, w7.heap.size = g := ⟨_, rfl⟩
    have hF8 := HF.out
    have HGF2 : Hid (gq < gf ∧ gr < gf) := Lib.hid (by rw [← hgf]; exact HGF.out)
    rw [hgf] at hF8 ⊢
    clear hgf HF HGF
    have HXY := HD.out.1
    by_cases hx7 : x7 = 0
    ·obtain rfl : y7 = 0 := by
      have h := dec_zero2 (xs := xs)
      rw [HXY] at h
      exact h hx7
     subst hx7
     have HT : Hid (takeS s c = ((s.put c).done, [F.core])) := Lib.hid (by rw [HTD.out, HXY, if_neg (by simp), HD.out.2])
     clear HXY
     have hz8 := HZ8.out
     have l6 : (Instr.loadAt 29 (.pointer (some ⟨gq, 6, none⟩))).run Tryz.prog w8 = .ok (.slice B zs.length kb) w8 := load_ints_cell (by rw [cell_of_row w8 gq 6 _ _ _ hq8]; rfl)
     have l1 : (Instr.loadAt 22 (.pointer (some ⟨gq, 1, none⟩))).run Tryz.prog w8 = .ok (.slice A3 n3 c3) w8 := load_bytes_cell (by rw [cell_of_row w8 gq 1 _ _ _ hq8]; rfl)
     have hbn := build_num (n3 : Int)
     unfold OI at hz8
     go_wp2_with (at_builtin; refine print_append_num (w0 := w8) base rfl (.tmp 67) (.tmp 71) 29 3 .i64 8 rfl Tryz.underlying29 int_info (by decide) _ zs (n3 : Int) rfl rfl hz8 (Below.refl _ _) (Nat.le_trans hbase HW8.out.size) hz ?_)
     intro v9 w9 hO9 _ hg9 hat9
     have hO9' : OI w9 base v9 (zs ++ [(n3 : Int)]) := by unfold OI; rw [List.length_append, List.length_singleton]; exact hO9
     have ho9 : Only w8 w9 (rf (.slice B zs.length kb)) := (Only.refl _ _).grown hg9 (fun k e => .inl e)
     have hq9 := ho9.kept hq8 (own_not hz8 hq8 (by decide))
     have hZ9 := ho9.kept hZ8 (own_not hz8 hZ8 (by decide))
     have hF9 := hF8.only ho9 (own_not hz8 hF8.blk (by decide))
     have HOW9 : Hid (OwnA w9 w.heap.size F) := Lib.hid (HOW8.out.typed ho9 (fun k e => by obtain ⟨cs, hc⟩ := own_typed hz8 e; exact ⟨cs, _, hc, by decide⟩))
     have HY9 : Hid (Only w w9 (qfp (.slice A s.rest.length ca) (.slice B zs.length kb))) := Lib.hid (HW8.out.then_ ho9 (fun k e => .inl (.inr e)))
     have HN9 : Hid (Onto w (qfp (.slice A s.rest.length ca) (.slice B zs.length kb)) (qfp (.slice none 0 0) v9)) := Lib.hid (fun k hk => by
      rcases hk with hk | hk
      ·cases hk
      ·rcases hat9 with h | ⟨b, hb, hle⟩
       ·exact .inl (.inr (h.symm.trans hk))
       ·have : b = k := by have e2 := hb.symm.trans hk; injection e2
        exact .inr (by have := HW8.out.size; omega))
     obtain ⟨B9, k9, hv9, _⟩ := hO9'.reads
     rw [List.length_append, List.length_singleton] at hv9
     subst hv9
     have p6 := put_ints_cell B9 (zs.length + 1) k9 w9 ⟨gq, 6, none⟩ _ (cell_of_row w9 gq 6 _ _ _ hq9) (frozen_of_row w9 gq 6 _ _ hq9)
     have hqa := z_set (s1 := s.put c) (v1 := .slice A3 n3 c3) (vs1 := .slice B9 (zs.length + 1) k9) hq9 6 (.slice B9 (zs.length + 1) k9) rfl
     have pa := put_bytes_cell none 0 0 _ ⟨gq, 1, none⟩ _ (cell_of_row _ gq 1 _ _ _ hqa) (frozen_of_row _ gq 1 _ _ hqa)
     have hqb := z_set (s1 := { s.put c with rest := [] }) (v1 := .slice none 0 0) (vs1 := .slice B9 (zs.length + 1) k9) hqa 1 (.slice none 0 0) rfl
     have lb : (Instr.loadAt 3 (.pointer (some ⟨gq, 3, none⟩))).run Tryz.prog ((w9.setCell ⟨gq, 6, none⟩ (.slice B9 (zs.length + 1) k9)).setCell ⟨gq, 1, none⟩ (.slice none 0 0)) = .ok (.int .i64 (s.whole : Int)) ((w9.setCell ⟨gq, 6, none⟩ (.slice B9 (zs.length + 1) k9)).setCell ⟨gq, 1, none⟩ (.slice none 0 0)) := load_cell_int (by rw [cell_of_row _ gq 3 _ _ _ hqb]; rfl)
     have pb := put_cell_int ((s.whole : Int) + 1) _ ⟨gq, 3, none⟩ _ (cell_of_row _ gq 3 _ _ _ hqb) (frozen_of_row _ gq 3 _ _ hqb)
     have hqc := z_set (s1 := (s.put c).done) (v1 := .slice none 0 0) (vs1 := .slice B9 (zs.length + 1) k9) hqb 3 (.int .i64 ((s.whole : Int) + 1)) rfl
     have kw : IntKind.i64.wrap ((s.whole : Int) + 1) = (s.whole : Int) + 1 := by rw [IntKind.wrap_i64]; omega
     have hoc := ((Fr.only_at w9 gq 6 (.slice B9 (zs.length + 1) k9)).same (Fr.only_at (w9.setCell ⟨gq, 6, none⟩ (.slice B9 (zs.length + 1) k9)) gq 1 (.slice none 0 0))).same (Fr.only_at ((w9.setCell ⟨gq, 6, none⟩ (.slice B9 (zs.length + 1) k9)).setCell ⟨gq, 1, none⟩ (.slice none 0 0)) gq 3 (.int .i64 ((s.whole : Int) + 1)))
     have hZc := hoc.kept hZ9 (fun e => by have := HGR.out.2; omega)
     have hFc := hF9.only hoc (fun e => by have := HGF2.out.1; omega)
     have HOWc := Lib.hid (HOW9.out.typed hoc (fun k e => by subst e; exact ⟨_, _, hq9, by decide⟩))
     have HYc := Lib.hid (HY9.out.then_ hoc (fun k e => .inr (by rw [e]; exact Nat.le_of_eq HGR.out.1)))
     have HIc : Hid (OI _ base (.slice B9 (zs.length + 1) k9) (zs ++ [(n3 : Int)])) := Lib.hid (own_only hO9' hoc (fun k hk e => by subst e; exact own_not hO9' hq9 (by decide) hk))
     have HSZ : Hid (zs ++ [(n3 : Int)] = zs ++ sizesS [F]) := Lib.hid (by
      have h := take_sent HH.out.ok hc0 hc1
      rw [HT.out] at h
      have h2 : sentS [F.core] ++ [] = s.rest ++ [c] := h.1
      rw [List.append_nil] at h2
      have h1 : encF F = s.rest ++ [c] := by show encF F.core = _; rw [← h2]; simp [sentS]
      unfold sizesS
      rw [List.map_singleton, h1, HN3.out.1])
     clear hz8 l6 l1 hbn hO9 hO9' hg9 hat9 ho9 hq9 hZ9 hF9 hqa hqb hoc HY9 HOW9 hq8 hZ8 hF8
     go_upto_region 17 with (fail)
     clear p6 pa pb lb kw
     generalize ((w9.setCell ⟨gq, 6, none⟩ (.slice B9 (zs.length + 1) k9)).setCell ⟨gq, 1, none⟩ (.slice none 0 0)).setCell ⟨gq, 3, none⟩ (.int .i64 ((s.whole : Int) + 1)) = wc at *
     have hdr := below_drew (Below.refl wc.heap.size wc)
     have hqd := (hdr.block _ (lt_of_block hqc)).trans hqc
     have hZd := (hdr.block _ (lt_of_block hZc)).trans hZc
     have hFd := hFc.below hdr
     have hOW := HOWc.out.below hdr
     have hY := HYc.out.below hdr
     have hI : OI wc.drew base (.slice B9 (zs.length + 1) k9) (zs ++ [(n3 : Int)]) := HIc.out.below hdr
     have lq : ∀ W : World, W.heap[gq]? = some (.cells (zV (s.put c).done (.slice none 0 0) (.slice B9 (zs.length + 1) k9)) 31 (0, 0)) → (Instr.loadAt 31 (.pointer (some ⟨gq, 0, none⟩))).run Tryz.prog W = .ok (.agg (zV (s.put c).done (.slice none 0 0) (.slice B9 (zs.length + 1) k9))) W := fun W h => z_load h
     have lf : ∀ W : World, F.at_ 48 W gf → (Instr.loadAt 48 (.pointer (some ⟨gf, 0, none⟩))).run Tryz.prog W = .ok (.agg F.arr) W := fun W h => get_frame h
     have hbs := build_frames F HTL.out
     clear hdr hqc hZc hFc
     refine wp_region_held_drew (S := fun W => W.heap[gq]? = some (.cells (zV (s.put c).done (.slice none 0 0) (.slice B9 (zs.length + 1) k9)) 31 (0, 0)) ∧ F.at_ 48 W gf) (by kernel_rfl) (⟨hqd, hFd⟩) (fun hHeld => ?_)
     generalize wc.drew = wd0 at *
     refine Go.Kit.tk 0 (.agg (zV (s.put c).done (.slice none 0 0) (.slice B9 (zs.length + 1) k9))) rfl ?_
     refine Go.Kit.tk 1 (.agg F.arr) rfl ?_
     refine wpAnyH_ready (rs := [2, 3]) (by kernel_rfl) (by decide) (AllReadyH.cons (o := ⟨_, _, _, _, _, _⟩) rfl (fun K hK => ?_) (AllReadyH.cons (o := ⟨_, _, _, _, _, _⟩) rfl (fun K hK => ?_) AllReadyH.nil))
     ·skip
      rw [if_pos (by kernel_rfl)]
      go_simp
      have hba := below_alloc (Below.refl _ wd0) (.cells F.arr 48)
      have hFs : OFs (wd0.alloc (.cells F.arr 48)) w.heap.size (.slice (some ⟨wd0.heap.size, 0, none⟩) 1 1) [F] := OFs.lone wd0 F HTL.out hY.size hOW
      obtain ⟨gl, hgl⟩ : ∃ g, wd0.heap.size = g := ⟨_, rfl⟩
      have hgl2 : ¬ gl = gr := by have := lt_of_block hZd; omega
      have hq' := (hba.block _ (lt_of_block hHeld.1)).trans hHeld.1
      have hf' := hHeld.2.below hba
      replace hZd := (hba.block _ (lt_of_block hZd)).trans hZd
      replace hY := hY.below hba
      replace hI := hI.below hba
      replace hOW := hOW.below hba
      rw [hgl] at hFs ⊢
      generalize wd0.alloc (.cells F.arr 48) = wd1 at *
      clear hba hgl
      refine hK.out _ _ (⟨hq', hf'⟩) (fun hHeld => ?_)
      clear hK K
      try simp only [Act.put, List.setIfInBounds_toArray, List.set_cons_zero, List.set_cons_succ]
      refine wpAnyH_ready (rs := [3]) (by kernel_rfl) (by decide) (AllReadyH.cons (o := ⟨_, _, _, _, _, _⟩) rfl (fun K hK => ?_) AllReadyH.nil)
      have hor := Fr.only_row wd1 gr (zV (s.put c).done (.slice none 0 0) (.slice B9 (zs.length + 1) k9))
      have pz := z_put (s.put c).done none B9 0 0 (zs.length + 1) k9 hZd rfl
      have hq' := hor.kept hHeld.1 (fun e => by have := HGR.out.2; omega)
      have hf' := hHeld.2.only hor (fun e => by have := HGF2.out.2; omega)
      replace hFs := hFs.only hor (fun k e => by subst e; exact ⟨zZ, _, hZd, by decide, by decide⟩)
      replace hY := hY.then_ hor (fun k e => .inr (by have := HGR.out; omega))
      replace hI : OI _ base (.slice B9 (zs.length + 1) k9) (zs ++ [(n3 : Int)]) := own_only hI hor (fun k hk e => by subst e; exact own_not hI hZd (by decide) hk)
      replace hOW := hOW.typed hor (fun k e => by subst e; exact ⟨zZ, _, hZd, by decide⟩)
      have hZe : (wd1.setRow gr (zV (s.put c).done (.slice none 0 0) (.slice B9 (zs.length + 1) k9))).heap[gr]? = some (.cells (zV (s.put c).done (.slice none 0 0) (.slice B9 (zs.length + 1) k9)) 31 (0, 0)) := setRow_heap _ _ _ _ _ _ hZd
      replace hZd := hZe
      clear hor hZe
      rw [if_pos (by kernel_rfl)]
      go_simp
      clear pz
      generalize wd1.setRow gr (zV (s.put c).done (.slice none 0 0) (.slice B9 (zs.length + 1) k9)) = wd2 at *
      refine hK.out _ _ (⟨hq', hf'⟩) (fun hHeld => ?_)
      clear hK K
      try simp only [Act.put, List.setIfInBounds_toArray, List.set_cons_zero, List.set_cons_succ]
      refine Go.Kit.tk 4 (.slice (some ⟨gl, 0, none⟩) 1 1) rfl ?_
      refine wpAnyH_done (by kernel_rfl) ?_ _
      have HP := Lib.hid (q_fin (base := base) HH.out.ok HW.out hc0 hc1 HT.out (OB.nil _ _ _) hI HSZ.out hY HN9.out hFs)
      go_wp2_with fail
      exact bodyPost_ret (v := .tuple #[.agg (zV (s.put c).done (.slice none 0 0) (.slice B9 (zs.length + 1) k9)), .slice (some ⟨gl, 0, none⟩) 1 1]) (takeq_ret rfl hZd rfl rfl) rfl HP.out
     ·skip
      have hor := Fr.only_row wd0 gr (zV (s.put c).done (.slice none 0 0) (.slice B9 (zs.length + 1) k9))
      have pz := z_put (s.put c).done none B9 0 0 (zs.length + 1) k9 hZd rfl
      have hq' := hor.kept hHeld.1 (fun e => by have := HGR.out.2; omega)
      have hf' := hHeld.2.only hor (fun e => by have := HGF2.out.2; omega)
      replace hY := hY.then_ hor (fun k e => .inr (by have := HGR.out; omega))
      replace hI : OI _ base (.slice B9 (zs.length + 1) k9) (zs ++ [(n3 : Int)]) := own_only hI hor (fun k hk e => by subst e; exact own_not hI hZd (by decide) hk)
      replace hOW := hOW.typed hor (fun k e => by subst e; exact ⟨zZ, _, hZd, by decide⟩)
      have hZe : (wd0.setRow gr (zV (s.put c).done (.slice none 0 0) (.slice B9 (zs.length + 1) k9))).heap[gr]? = some (.cells (zV (s.put c).done (.slice none 0 0) (.slice B9 (zs.length + 1) k9)) 31 (0, 0)) := setRow_heap _ _ _ _ _ _ hZd
      replace hZd := hZe
      clear hor hZe
      rw [if_pos (by kernel_rfl)]
      go_simp
      clear pz
      generalize wd0.setRow gr (zV (s.put c).done (.slice none 0 0) (.slice B9 (zs.length + 1) k9)) = wd1 at *
      refine hK.out _ _ (⟨hq', hf'⟩) (fun hHeld => ?_)
      clear hK K
      try simp only [Act.put, List.setIfInBounds_toArray, List.set_cons_zero, List.set_cons_succ]
      refine wpAnyH_ready (rs := [2]) (by kernel_rfl) (by decide) (AllReadyH.cons (o := ⟨_, _, _, _, _, _⟩) rfl (fun K hK => ?_) AllReadyH.nil)
      rw [if_pos (by kernel_rfl)]
      go_simp
      have hba := below_alloc (Below.refl _ wd1) (.cells F.arr 48)
      have hFs : OFs (wd1.alloc (.cells F.arr 48)) w.heap.size (.slice (some ⟨wd1.heap.size, 0, none⟩) 1 1) [F] := OFs.lone wd1 F HTL.out hY.size hOW
      obtain ⟨gl, hgl⟩ : ∃ g, wd1.heap.size = g := ⟨_, rfl⟩
      have hgl2 : ¬ gl = gr := by have := lt_of_block hZd; omega
      have hq' := (hba.block _ (lt_of_block hHeld.1)).trans hHeld.1
      have hf' := hHeld.2.below hba
      replace hZd := (hba.block _ (lt_of_block hZd)).trans hZd
      replace hY := hY.below hba
      replace hI := hI.below hba
      replace hOW := hOW.below hba
      rw [hgl] at hFs ⊢
      generalize wd1.alloc (.cells F.arr 48) = wd2 at *
      clear hba hgl
      refine hK.out _ _ (⟨hq', hf'⟩) (fun hHeld => ?_)
      clear hK K
      try simp only [Act.put, List.setIfInBounds_toArray, List.set_cons_zero, List.set_cons_succ]
      refine Go.Kit.tk 4 (.slice (some ⟨gl, 0, none⟩) 1 1) rfl ?_
      refine wpAnyH_done (by kernel_rfl) ?_ _
      have HP := Lib.hid (q_fin (base := base) HH.out.ok HW.out hc0 hc1 HT.out (OB.nil _ _ _) hI HSZ.out hY HN9.out hFs)
      go_wp2_with fail
      exact bodyPost_ret (v := .tuple #[.agg (zV (s.put c).done (.slice none 0 0) (.slice B9 (zs.length + 1) k9)), .slice (some ⟨gl, 0, none⟩) 1 1]) (takeq_ret rfl hZd rfl rfl) rfl HP.out
    ·have b7 : (x7 != 0) = true := by simpa using hx7
     have HYB : Hid (0 ≤ y7 ∧ y7 ≤ n3) := Lib.hid (by
      have h := dec_at (xs := xs) HR6.out.1.byt
      rw [HXY, HR6.out.1.len] at h
      exact h)
     have k7 : IntKind.i64.wrap (fi + y7) = fi + y7 := by rw [IntKind.wrap_i64]; have := HYB.out; have := HLC.out; have := HFI.out; have := HN3.out.2; omega
     have HT : Hid (takeS s c = ({ s.put c with why := x7, wat := fi + y7 }, [])) := Lib.hid (by rw [HTD.out, HXY, if_pos hx7]; unfold Sm.bad; rw [HWAT.out])
     clear hx7 HXY
     have hbf := build_fault
     have ps := z_spoil hq8 x7 (fi + y7)
     have hor := Fr.only_row w8 gq (zV { s.put c with why := x7, wat := (fi + y7) } (.slice A3 n3 c3) (.slice B zs.length kb))
     have hqs : (w8.setRow gq (zV { s.put c with why := x7, wat := (fi + y7) } (.slice A3 n3 c3) (.slice B zs.length kb))).heap[gq]? = some (.cells (zV { s.put c with why := x7, wat := (fi + y7) } (.slice A3 n3 c3) (.slice B zs.length kb)) 31 (0, 0)) := setRow_heap _ _ _ _ _ _ hq8
     have hZs := hor.kept hZ8 (fun e => by have := HGR.out.2; omega)
     have HOs : Hid (OB 5 (w8.setRow gq (zV { s.put c with why := x7, wat := (fi + y7) } (.slice A3 n3 c3) (.slice B zs.length kb))) base (.slice A3 n3 c3) xs) := Lib.hid (HO8.out.only hor (fun k hk e => by subst e; exact own_not HO8.out.own hq8 (by decide) hk))
     have HIs : Hid (OI (w8.setRow gq (zV { s.put c with why := x7, wat := (fi + y7) } (.slice A3 n3 c3) (.slice B zs.length kb))) base (.slice B zs.length kb) zs) := Lib.hid (own_only HZ8.out hor (fun k hk e => by subst e; exact own_not HZ8.out hq8 (by decide) hk))
     have HYs : Hid (Only w (w8.setRow gq (zV { s.put c with why := x7, wat := (fi + y7) } (.slice A3 n3 c3) (.slice B zs.length kb))) (qfp (.slice A s.rest.length ca) (.slice B zs.length kb))) := Lib.hid (HW8.out.then_ hor (fun k e => .inr (by rw [e]; exact Nat.le_of_eq HGR.out.1)))
     clear hor hq8 hZ8
     go_upto_region 13 with (fail)
     clear ps hbf
     generalize w8.setRow gq (zV { s.put c with why := x7, wat := (fi + y7) } (.slice A3 n3 c3) (.slice B zs.length kb)) = ws at *
     have lz := z_load hqs
     have pz := z_put { s.put c with why := x7, wat := (fi + y7) } A3 B n3 c3 zs.length kb hZs rfl
     have hZe : (ws.setRow gr (zV { s.put c with why := x7, wat := (fi + y7) } (.slice A3 n3 c3) (.slice B zs.length kb))).heap[gr]? = some (.cells (zV { s.put c with why := x7, wat := (fi + y7) } (.slice A3 n3 c3) (.slice B zs.length kb)) 31 (0, 0)) := setRow_heap _ _ _ _ _ _ hZs
     have HP := Lib.hid (q_none (base := base) HH.out.ok HW.out hc0 hc1 HT.out (by show OB 5 ws base (.slice A3 n3 c3) (s.rest ++ [c]); rw [HXS.out]; exact HOs.out) HIs.out HYs.out HON.out (by have := HGR.out; omega) hZs)
     clear hqs hZs
     go_wp2_with fail
     exact bodyPost_ret (v := .tuple #[.agg (zV { s.put c with why := x7, wat := (fi + y7) } (.slice A3 n3 c3) (.slice B zs.length kb)), .slice none 0 0]) (takeq_ret rfl hZe rfl rfl) rfl HP.out
 ·have bx : (x != 0) = true := by simpa using hx
  have HT : Hid (takeS s c = ({ s.put c with why := x, wat := fi }, [])) := Lib.hid (by rw [HTK.out, if_pos hx]; unfold Sm.bad; rw [HWAT.out, Int.add_zero])
  clear hx
  have hbf := build_fault
  have ps := z_spoil hq6 x fi
  have hor := Fr.only_row w6 gq (zV { s.put c with why := x, wat := fi } (.slice A3 n3 c3) (.slice B zs.length kb))
  have hqs : (w6.setRow gq (zV { s.put c with why := x, wat := fi } (.slice A3 n3 c3) (.slice B zs.length kb))).heap[gq]? = some (.cells (zV { s.put c with why := x, wat := fi } (.slice A3 n3 c3) (.slice B zs.length kb)) 31 (0, 0)) := setRow_heap _ _ _ _ _ _ hq6
  have hZs := hor.kept hZ6 (fun e => by have := HGR.out.2; omega)
  have HOs : Hid (OB 5 (w6.setRow gq (zV { s.put c with why := x, wat := fi } (.slice A3 n3 c3) (.slice B zs.length kb))) base (.slice A3 n3 c3) xs) := Lib.hid (HO6.out.only hor (fun k hk e => by subst e; exact own_not HO6.out.own hq6 (by decide) hk))
  have HIs : Hid (OI (w6.setRow gq (zV { s.put c with why := x, wat := fi } (.slice A3 n3 c3) (.slice B zs.length kb))) base (.slice B zs.length kb) zs) := Lib.hid (own_only HZ6.out hor (fun k hk e => by subst e; exact own_not HZ6.out hq6 (by decide) hk))
  have HYs : Hid (Only w (w6.setRow gq (zV { s.put c with why := x, wat := fi } (.slice A3 n3 c3) (.slice B zs.length kb))) (qfp (.slice A s.rest.length ca) (.slice B zs.length kb))) := Lib.hid (HW6.out.then_ hor (fun k e => .inr (by rw [e]; exact Nat.le_of_eq HGR.out.1)))
  clear hor hq6 hZ6
  go_upto_region 7 with (fail)
  clear ps hbf
  generalize w6.setRow gq (zV { s.put c with why := x, wat := fi } (.slice A3 n3 c3) (.slice B zs.length kb)) = ws at *
  have lz := z_load hqs
  have pz := z_put { s.put c with why := x, wat := fi } A3 B n3 c3 zs.length kb hZs rfl
  have hZe : (ws.setRow gr (zV { s.put c with why := x, wat := fi } (.slice A3 n3 c3) (.slice B zs.length kb))).heap[gr]? = some (.cells (zV { s.put c with why := x, wat := fi } (.slice A3 n3 c3) (.slice B zs.length kb)) 31 (0, 0)) := setRow_heap _ _ _ _ _ _ hZs
  have HP := Lib.hid (q_none (base := base) HH.out.ok HW.out hc0 hc1 HT.out (by show OB 5 ws base (.slice A3 n3 c3) (s.rest ++ [c]); rw [HXS.out]; exact HOs.out) HIs.out HYs.out HON.out (by have := HGR.out; omega) hZs)
  clear hqs hZs
  go_wp2_with fail
  exact bodyPost_ret (v := .tuple #[.agg (zV { s.put c with why := x, wat := fi } (.slice A3 n3 c3) (.slice B zs.length kb)), .slice none 0 0]) (takeq_ret rfl hZe rfl rfl) rfl HP.out
end Go.Proofs.YtpjpgcjhdbiepaaGreat
end
section
namespace Go.Proofs.YtpjpgcjhdbiepaaGreat
open Go.RowKit Go.Kit CrcM Go.Proofs.YtpjpgcjhdbiepaaGreatW.PrintWords
theorem OI.fresh (w : World) {b : Nat} (hb : b ≤ w.heap.size) : OI (w.alloc (.cells #[] 3)) b (.slice (some ⟨w.heap.size, 0, none⟩) 0 0) [] :=
 ⟨rfl, .inr ⟨w.heap.size, 0, #[], rfl, hb, heap_alloc_new w _, Nat.le_refl _, by unfold maxLen; omega, rfl, rfl⟩⟩
theorem q_ret {fn : Func} {p : Tmp} (h : fn.results = #[.cell p 31]) {tmps : Array Value} {W : World} {g : Nat} {cs : Array Value} (hp : tmps.getD p undef = .pointer (some ⟨g, 0, none⟩)) (hX : W.heap[g]? = some (.cells cs 31 (0, 0))) (hs : cs.size = 7) :
  (results fn tmps).run Tryz.prog W = .ok (.agg cs) W :=
 results_cell_row (P := Tryz.prog) h tmps W g 31 cs (0, 0) _ hp hX Tryz.underlying31 rfl (by rw [hs]; kernel_rfl)
attribute [-go_sem] Instr.loadAt Instr.storeAt Instr.build
set_option maxHeartbeats 16000000 in
set_option maxRecDepth 100000 in
theorem rcopy_any {w : World} {base : Nat} {v vs : Value} {s : Sm} {zs : List Int} (h : Qr w base v vs s zs) (hz : zs.length * 8 ≤ 140737488355328) :
  Calls Tryz.prog 36 #[.agg (zV s v vs)] w fun e w' => ∃ v' vs', e = .returned (.agg (zV s v' vs')) ∧ Qr w' w.heap.size v' vs' s zs ∧ Below w.heap.size w w' := by
 obtain ⟨A, ca, B, kb, rfl, rfl⟩ := h.slices
 have hlen : s.rest.length ≤ 2097166 := by have := h.many; have := h.ok.two; omega
 have hq0 := heap_alloc_new w (.cells (zV s (.slice A s.rest.length ca) (.slice B zs.length kb)) 31)
 have hb0 := below_alloc (Below.refl _ w) (.cells (zV s (.slice A s.rest.length ca) (.slice B zs.length kb)) 31)
 unfold zV at hq0 hb0 ⊢
 obtain ⟨w1, hw1⟩ : ∃ W, w.alloc (.cells #[.int .i64 (s.most : Int), .slice A s.rest.length ca, .int .i64 (s.came : Int), .int .i64 (s.whole : Int), .int .i64 s.why, .int .i64 s.wat, .slice B zs.length kb] 31) = W := ⟨_, rfl⟩
 rw [hw1] at hq0 hb0
 obtain ⟨w2, s1, hZ, hb1⟩ := z_new w1
 have hb02 := below_step hb0 hb1
 have hqw := h.below hb02
 have hq1 := (hb1.block _ (lt_of_block hq0)).trans hq0
 have HGE : Hid (w.heap.size < w1.heap.size) := Lib.hid (lt_of_block hq0)
 have HOK : Hid (s.ok ∧ s.rest.length ≤ s.most + 14) := Lib.hid ⟨h.ok, h.many⟩
 have hba := below_alloc (Below.refl _ w2) (.cells #[] 5)
 have hO0 : OB 5 (w2.alloc (.cells #[] 5)) w.heap.size (.slice (some ⟨w2.heap.size, 0, none⟩) 0 0) [] := OB.of_block (rest := []) hb02.size (heap_alloc_new w2 _) rfl rfl (by simp) Byt.nil
 have hR : RB (w2.alloc (.cells #[] 5)) A s.rest.length s.rest := by
  obtain ⟨A', c', hv, hr, _⟩ := hqw.row.reads'
  injection hv with e1 e2 e3
  rw [e1]; exact hr.below hba
 have hzz := hqw.zrow.below hba
 have hq2 := (hba.block _ (lt_of_block hq1)).trans hq1
 have hZ2 := (hba.block _ (lt_of_block hZ)).trans hZ
 have HB := Lib.hid (below_step hb02 hba)
 obtain ⟨n, hn⟩ : ∃ n, s.rest.length = n := ⟨_, rfl⟩
 have HN := Lib.hid hn
 rw [hn] at hR hq2 hlen hw1 ⊢
 clear h hq0 hb0 hb1 hb02 hqw hq1 hZ hba hn
 go_enter Tryz.func36, Tryz.ntmps36
 go_upto_region 1 with (fail)
 clear hw1 s1
 obtain ⟨gq, hgq⟩ : ∃ g, w.heap.size = g := ⟨_, rfl⟩
 obtain ⟨gr, hgr⟩ : ∃ g, w1.heap.size = g := ⟨_, rfl⟩
 have HGR : Hid (w.heap.size = gq ∧ gq < gr) := Lib.hid ⟨hgq, by rw [← hgq, ← hgr]; exact HGE.out⟩
 rw [hgq] at hq2 ⊢
 rw [hgr] at hZ2 ⊢
 rw [hgq] at hO0
 clear hgq hgr HGE
 have e5 : (Instr.loadAt 22 (.pointer (some ⟨gq, 1, none⟩))).run Tryz.prog (w2.alloc (.cells #[] 5)) = .ok (.slice A n ca) (w2.alloc (.cells #[] 5)) := load_bytes_cell (by rw [cell_of_row _ gq 1 _ _ _ hq2]; rfl)
 go_wp2_with (at_builtin; refine push_row (w0 := w2.alloc (.cells #[] 5)) gq rfl (.tmp 3) (.tmp 5) 22 s.rest A n ca rfl Tryz.underlying22 u8_info rfl rfl hO0 hR (Below.refl _ _) (Nat.le_trans (Nat.le_of_eq HGR.out.1.symm) HB.out.size) (by simp; omega) ?_)
 intro v3 w3 hO3 _ hg3 _
 have ho3 : Only (w2.alloc (.cells #[] 5)) w3 (rf (.slice (some ⟨w2.heap.size, 0, none⟩) 0 0)) := (Only.refl _ _).grown hg3 (fun k e => .inl e)
 have hq3 := ho3.kept hq2 (own_not hO0.own hq2 (by decide))
 have hZ3 := ho3.kept hZ2 (own_not hO0.own hZ2 (by decide))
 have hz3 : OI w3 base (.slice B zs.length kb) zs := own_only hzz ho3 (fun k hk e => by
  obtain ⟨cs, hc⟩ := own_typed hO0.own e
  exact own_not hzz hc (by decide) hk)
 have HB3 : Hid (Below w.heap.size w w3) := Lib.hid (Below.only HB.out ho3 HB.out.size (fun k e => by have := (own_new hO0.own k e).1; have := HGR.out.1; omega))
 obtain ⟨A3, c3, rfl, _, _⟩ := hO3.reads'
 rw [HN.out] at hO3 ⊢
 have hq3' : w3.heap[gq]? = some (.cells (zV s (.slice A n ca) (.slice B zs.length kb)) 31 (0, 0)) := hq3
 have p1 := put_bytes_cell A3 n c3 w3 ⟨gq, 1, none⟩ _ (cell_of_row w3 gq 1 _ _ _ hq3') (frozen_of_row w3 gq 1 _ _ hq3')
 have hq4 := z_set (s1 := s) (v1 := .slice A3 n c3) (vs1 := .slice B zs.length kb) hq3' 1 (.slice A3 n c3) rfl
 have hoc := Fr.only_at w3 gq 1 (.slice A3 n c3)
 have hO4 := hO3.only hoc (fun k hk e => by subst e; exact own_not hO3.own hq3' (by decide) hk)
 have hz4 : OI (w3.setCell ⟨gq, 1, none⟩ (.slice A3 n c3)) base (.slice B zs.length kb) zs := own_only hz3 hoc (fun k hk e => by subst e; exact own_not hz3 hq3' (by decide) hk)
 have hZ4 := hoc.kept hZ3 (fun e => by have := HGR.out.2; omega)
 have HB4 : Hid (Below w.heap.size w (w3.setCell ⟨gq, 1, none⟩ (.slice A3 n c3))) := Lib.hid (Below.only HB3.out hoc HB3.out.size (fun k e => by rw [e]; exact Nat.le_of_eq HGR.out.1))
 clear hO0 hR hzz hq2 hZ2 hg3 ho3 hq3 hq3' hZ3 hz3 hO3 hoc e5 HB HB3
 go_upto_region 2 with (fail)
 clear p1
 generalize w3.setCell ⟨gq, 1, none⟩ (.slice A3 n c3) = w4 at *
 have hba := below_alloc (Below.refl _ w4) (.cells #[] 3)
 have hI0 := OI.fresh w4 (b := gq) (Nat.le_trans (Nat.le_of_eq HGR.out.1.symm) HB4.out.size)
 have hq5 := (hba.block _ (lt_of_block hq4)).trans hq4
 have hZ5 := (hba.block _ (lt_of_block hZ4)).trans hZ4
 have hO5 := hO4.below hba
 obtain ⟨B', kb', hv, hr⟩ := (hz4.below hba).reads
 injection hv with e1 e2 e3
 rw [← e1] at hr
 have HB5 := Lib.hid (below_step HB4.out hba)
 have e9 : (Instr.loadAt 29 (.pointer (some ⟨gq, 6, none⟩))).run Tryz.prog (w4.alloc (.cells #[] 3)) = .ok (.slice B zs.length kb) (w4.alloc (.cells #[] 3)) := load_ints_cell (by rw [cell_of_row _ gq 6 _ _ _ hq5]; rfl)
 unfold OI at hI0
 clear hba hq4 hZ4 hO4 hz4 HB4 e1 e2 e3
 go_wp2_with (at_builtin; refine print_append_row (w0 := w4.alloc (.cells #[] 3)) gq rfl (.tmp 8) (.tmp 10) 29 3 .i64 8 rfl Tryz.underlying29 int_info (by decide) _ [] zs B zs.length kb rfl rfl hI0 hr (Below.refl _ _) (Nat.le_trans (Nat.le_of_eq HGR.out.1.symm) HB5.out.size) (by simpa using hz) ?_)
 intro v6 w6 hI6 _ hg6 _
 have hI6' : OI w6 gq v6 zs := hI6
 have ho6 : Only (w4.alloc (.cells #[] 3)) w6 (rf (.slice (some ⟨w4.heap.size, 0, none⟩) 0 0)) := (Only.refl _ _).grown hg6 (fun k e => .inl e)
 have hq6 := ho6.kept hq5 (own_not hI0 hq5 (by decide))
 have hZ6 := ho6.kept hZ5 (own_not hI0 hZ5 (by decide))
 have hO6 := hO5.only ho6 (fun k hk e => by
  obtain ⟨cs, hc⟩ := own_typed hI0 e
  exact own_not hO5.own hc (by decide) hk)
 have HB6 : Hid (Below w.heap.size w w6) := Lib.hid (Below.only HB5.out ho6 HB5.out.size (fun k e => by have := (own_new hI0 k e).1; have := HGR.out.1; omega))
 obtain ⟨B6, k6, rfl, _⟩ := hI6'.reads
 have p6 := put_ints_cell B6 zs.length k6 w6 ⟨gq, 6, none⟩ _ (cell_of_row w6 gq 6 _ _ _ hq6) (frozen_of_row w6 gq 6 _ _ hq6)
 have hq7 := z_set (s1 := s) (v1 := .slice A3 n c3) (vs1 := .slice B6 zs.length k6) hq6 6 (.slice B6 zs.length k6) rfl
 have hoc := Fr.only_at w6 gq 6 (.slice B6 zs.length k6)
 have hO7 := hO6.only hoc (fun k hk e => by subst e; exact own_not hO6.own hq6 (by decide) hk)
 have hI7 : OI (w6.setCell ⟨gq, 6, none⟩ (.slice B6 zs.length k6)) gq (.slice B6 zs.length k6) zs := own_only hI6' hoc (fun k hk e => by subst e; exact own_not hI6' hq6 (by decide) hk)
 have hZ7 := hoc.kept hZ6 (fun e => by have := HGR.out.2; omega)
 have HB7 : Hid (Below w.heap.size w (w6.setCell ⟨gq, 6, none⟩ (.slice B6 zs.length k6))) := Lib.hid (Below.only HB6.out hoc HB6.out.size (fun k e => by rw [e]; exact Nat.le_of_eq HGR.out.1))
 clear hI0 hr hq5 hZ5 hO5 e9 hI6 hI6' hg6 ho6 hq6 hZ6 hO6 hoc HB5 HB6
 go_upto_region 3 with (fail)
 clear p6
 generalize w6.setCell ⟨gq, 6, none⟩ (.slice B6 zs.length k6) = w7 at *
 have lz := z_load hq7
 have pz := z_put s A3 B6 n c3 zs.length k6 hZ7 rfl
 have hZe : (w7.setRow gr (zV s (.slice A3 n c3) (.slice B6 zs.length k6))).heap[gr]? = some (.cells (zV s (.slice A3 n c3) (.slice B6 zs.length k6)) 31 (0, 0)) := setRow_heap _ _ _ _ _ _ hZ7
 have hor := Fr.only_row w7 gr (zV s (.slice A3 n c3) (.slice B6 zs.length k6))
 have HQ : Hid (Qr (w7.setRow gr (zV s (.slice A3 n c3) (.slice B6 zs.length k6))) w.heap.size (.slice A3 n c3) (.slice B6 zs.length k6) s zs) := Lib.hid (by
  rw [HGR.out.1]
  exact ⟨hO7.only hor (fun k hk e => by subst e; exact own_not hO7.own hZ7 (by decide) hk), own_only hI7 hor (fun k hk e => by subst e; exact own_not hI7 hZ7 (by decide) hk), HOK.out.1, HOK.out.2⟩)
 have HBE : Hid (Below w.heap.size w (w7.setRow gr (zV s (.slice A3 n c3) (.slice B6 zs.length k6)))) := Lib.hid (Below.only HB7.out hor HB7.out.size (fun k e => by have := HGR.out; omega))
 clear hO7 hI7 hZ7 hor hq7
 go_wp2_with fail
 exact bodyPost_ret (v := .agg (zV s (.slice A3 n c3) (.slice B6 zs.length k6))) (q_ret rfl rfl hZe rfl) rfl ⟨_, _, rfl, HQ.out, HBE.out⟩
end Go.Proofs.YtpjpgcjhdbiepaaGreat
end
