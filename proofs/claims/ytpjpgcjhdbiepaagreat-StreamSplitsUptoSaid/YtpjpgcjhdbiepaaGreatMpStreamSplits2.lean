/- Contracts of functions that the law reaches (texts laid together, part 2): each says of its call what it answers and what it leaves of memory; the conditions stand in each statement. -/
import Derived.Test.YtpjpgcjhdbiepaaGreatMpStreamSplits1
import Derived.Test.YtpjpgcjhdbiepaaGreatProg
import Derived.Test.YtpjpgcjhdbiepaaGreatWWords
import Derived.WalkKit
import Derived.Lib.Hide
import Derived.Laws.BitsAllLaws
import Derived.Deep.WholeRow
import Derived.Deep.CutBlock
import Derived.Deep.Cut
import Derived.Deep.LoopGhost
import Derived.Laws.CopyOwn
import Derived.Lib.SlBytesConst
import Derived.ChangeKeysEq
import Derived.Laws.StructEq
import Derived.Test.YtpjpgcjhdbiepaaGreatWMore
import Derived.Deep.RegionHeld3
import Derived.Deep.RegionLaw
import Derived.Deep.DeepMust
import Derived.Laws.Cover3
import Derived.Laws.Bits64b
import Derived.IntWalk
import Derived.Test.YtpjpgcjhdbiepaaGreatWEqStruct
import Derived.StillTailTactics
import Derived.Test.YtpjpgcjhdbiepaaGreatWGuard
import Derived.Deep.MidRow
import Derived.Recover
import Derived.WalkLawsBesides
import Derived.Deep.RegionWith
set_option linter.unusedVariables false
set_option linter.unusedSimpArgs false
set_option linter.unusedSectionVars false
set_option linter.unnecessarySimpa false
section
namespace Go.Proofs.YtpjpgcjhdbiepaaGreat
open Go.RowKit Go.Kit Go.Proofs.YtpjpgcjhdbiepaaGreatW.PrintWords
set_option maxHeartbeats 1000000 in
theorem NewReader_any (A : Option Addr) (n cap : Nat) (xs : List Int) (w : World) (hx : RB w A n xs) (hl : n ≤ 140737488355328) :
  Calls Tryz.prog 84 #[.slice A n cap] w fun e w' => ∃ r A' c, e = .returned (.pointer (some ⟨r, 0, none⟩)) ∧ RS w' r A' n c (Rd.new xs) ∧ (∀ k, rdf r A' k → w.heap.size ≤ k) ∧ Below w.heap.size w w' := by
 have HL := Lib.hid hx.len
 go_enter Tryz.func84, Tryz.ntmps84
 go_wp2_with fail
 refine (fresh_any A n cap 0 xs w hx (by omega)).mono ?_
 rintro e w1 ⟨v, rfl, hO, hb⟩
 obtain ⟨A', c, rfl, hR, hc⟩ := hO.reads'
 rw [HL.out] at hO hR hc ⊢
 have hold := hO.old
 have hfrom := hO.from
 have hbl := below_alloc (Below.refl _ w1) (.cells #[.slice A' n c, .int .i64 0, .bool true, .int .i64 0, .int .i64 0] 166)
 have hk := heap_alloc_new w1 (.cells #[.slice A' n c, .int .i64 0, .bool true, .int .i64 0, .int .i64 0] 166)
 have hR2 := hR.below hbl
 have hb2 := below_step hb hbl
 clear hO
 go_wp2_with fail
 go_ret
 have hblk : ∀ a, A' = some a → a.block < w1.heap.size := fun a e => hold a.block (by rw [e]; rfl)
 refine ⟨w1.heap.size, A', c, rfl, ⟨hk, hR2, hc, hl, Nat.zero_le _, fun _ => rfl, fun a e => Nat.ne_of_lt (hblk a e), fun a e => Nat.lt_of_lt_of_le (hblk a e) hbl.size⟩, ?_, hb2⟩
 rintro k (rfl | ⟨a, e, rfl⟩)
 ·exact hb.size
 ·exact hfrom a.block (by rw [e]; rfl)
theorem own_not_r {w : World} {base r : Nat} {v : Value} {xs : List ByteArray} {cs : Array Value} {fr : Nat × Nat} (h : OT 9 w base v xs) (hk : w.heap[r]? = some (.cells cs 166 fr)) : v.ownBlock = none ∨ v.ownBlock ≠ some r := by
 rcases h.2 with ⟨h1, _⟩ | ⟨g, cap, cur, h1, h2, h3, h4⟩
 ·exact .inl (by rw [h1]; rfl)
 ·refine .inr (fun e => ?_)
  rw [h1] at e; cases e
  rw [hk] at h3
  simp at h3
theorem sep_own {w : World} {base r n c : Nat} {A : Option Addr} {D : Rd} {v : Value} {xs : List ByteArray} (h : OT 9 w base v xs) (hk : RS w r A n c D) (hA : ∀ a, A = some a → a.block < base) : Sep (rdf r A) (rf v) := fun k hk1 hv => by
 rcases h.2 with ⟨h1, _⟩ | ⟨g, cap, cur, h1, h2, h3, h4⟩
 ·rw [h1] at hv; cases hv
 ·rw [h1] at hv; cases hv
  rcases hk1 with rfl | ⟨a, e, rfl⟩
  ·rw [hk.rk] at h3; simp at h3
  ·have := hA a e; omega
section
variable {w w1 : World} {r n c : Nat} {A : Option Addr} {D : Rd} {S : Nat → Prop}
attribute [-go_sem] run_slice_lh run_slice_any
set_option maxHeartbeats 2000000 in
set_option maxRecDepth 100000 in
theorem text_any (h : RS w r A n c D) (a : Nat) (ha : a ≤ n) (most : Int) (hmo0 : 0 ≤ most) (hmo : most ≤ 9223372036854775807) :
  Calls Tryz.prog 137 #[.pointer (some ⟨r, 0, none⟩), .int .i64 (a : Int), .int .i64 most] w fun e w' => ∃ (s : ByteArray) (en : Nat) (x : Int), e = .returned (.tuple #[.string s, .int .i64 (en : Int), .int .i64 x]) ∧ Hid (textAt D.bs a most = (s, en, x)) ∧ w' = w := by
 have h0 := h.r0
 have hm := h.max
 have hcc := h.cap
 have HL := Lib.hid h.row.len
 have hwm : IntKind.u64.wrap most = most := IntWalk.u64_in _ ⟨by omega, by omega⟩
 go_enter Tryz.func137, Tryz.ntmps137
 go_wp2_with fail
 refine (number_any h a ha).mono ?_
 rintro e w2 ⟨m, k, x, rfl, HN, rfl⟩
 have hnf := num_facts h.row.byt (a := a) (by rw [HL.out]; exact ha)
 rw [HN.out, HL.out] at hnf
 obtain ⟨g1, g2, g3, g4, g5⟩ := hnf
 dsimp only at g1 g2 g3 g4 g5
 by_cases hx : x = 0
 ·have hxb : (x != 0) = false := by simp [hx]
  by_cases hmm : most < (m : Int)
  ·have HF : Hid (textAt D.bs a most = (ByteArray.empty, 0, 3)) := Lib.hid (by
    unfold textAt
    rw [HN.out]
    rw [if_neg (by simpa using hx), if_pos hmm])
   clear hx g1 g2 g4 g5
   go_wp2_with fail
   go_ret3
   exact ⟨_, 0, _, rfl, HF, rfl⟩
  ·have hmm2 : ¬ most < (m : Int) := hmm
   have hws : IntKind.u64.wrap ((n : Int) - (a : Int) - (k : Int)) = (n : Int) - (a : Int) - (k : Int) := IntWalk.u64_in _ ⟨by omega, by omega⟩
   have hwi : IntKind.i64.wrap ((n : Int) - (a : Int) - (k : Int)) = (n : Int) - (a : Int) - (k : Int) := IntWalk.i64_in _ ⟨by omega, by omega⟩
   have hwi2 : IntKind.i64.wrap ((n : Int) - (a : Int)) = (n : Int) - (a : Int) := IntWalk.i64_in _ ⟨by omega, by omega⟩
   by_cases hfit : n < a + k + m
   ·have HF : Hid (textAt D.bs a most = (ByteArray.empty, 0, 4)) := Lib.hid (by
     unfold textAt
     rw [HN.out]
     rw [if_neg (by simpa using hx), if_neg hmm, if_pos (by rw [HL.out]; exact hfit)])
    have hf2 : (n : Int) - (a : Int) - (k : Int) < (m : Int) := by omega
    clear hx g1 g2 g4 g5 hmm
    go_wp2_with fail
    go_ret3
    exact ⟨_, 0, _, rfl, HF, rfl⟩
   ·have HF : Hid (textAt D.bs a most = (strOfNums ((D.bs.drop (a + k)).take m), a + k + m, 0)) := Lib.hid (by
     unfold textAt
     rw [HN.out]
     rw [if_neg (by simpa using hx), if_neg hmm, if_neg (by rw [HL.out]; exact hfit)])
    have hf2 : (m : Int) ≤ (n : Int) - (a : Int) - (k : Int) := by omega
    obtain ⟨A', hcut, hA', _⟩ := mid_bytes A n c (a + k) (a + k + m) (by omega) (by omega) hcc
    replace hcut := hcut ((a : Int) + (k : Int)) ((a : Int) + (k : Int) + (m : Int)) (by omega) (by omega)
    have hrm := hA' _ _ h.row
    have hmn : a + k + m - (a + k) = m := by omega
    rw [hmn] at hcut hrm
    have hmb : (m : Int) ≤ 9223372036854775807 := by omega
    have ka := string_of_reads (P := Tryz.prog) (c := c - (a + k)) Tryz.underlying22 Tryz.underlying5 Tryz.underlying9 hrm.rd
    clear hx g1 g2 g4 g5 hmm hA' hmn hrm
    go_wp2_with fail
    go_ret3
    exact ⟨_, a + k + m, _, by simp, HF, rfl⟩
 ·have hxb : (x != 0) = true := by simp [hx]
  have HF : Hid (textAt D.bs a most = (ByteArray.empty, 0, x)) := Lib.hid (by
   unfold textAt
   rw [HN.out]
   rw [if_pos (by simpa using hx)])
  clear hx g1 g2 g4 g5
  go_wp2_with fail
  go_ret3
  exact ⟨_, 0, _, rfl, HF, rfl⟩
set_option maxHeartbeats 2000000 in
theorem Text_any (h : RS w r A n c D) (most : Int) (hmo : most ≤ 9223372036854775807) : Calls Tryz.prog 116 #[.pointer (some ⟨r, 0, none⟩), .int .i64 most] w fun e w' => ∃ D1 s, e = .returned (.string s) ∧ Hid (textS D most = (D1, s)) ∧ RS w' r A n c D1 ∧ Only w w' (fun k => k = r) := by
 have h1 := h.r1
 have hf1 := h.fr 1
 have hm := h.max
 have HL := Lib.hid h.row.len
 by_cases hw : D.why = 0
 ·have HW := Lib.hid hw
  go_enter Tryz.func116, Tryz.ntmps116
  go_wp2_with fail
  refine (well_any h true (by simpa using hw)).mono ?_
  rintro e w2 ⟨rfl, rfl⟩
  clear hw
  by_cases hneg : most < 0
  ·have HF : Hid (textS D most = (D.fail 1 D.at_, ByteArray.empty)) := Lib.hid (by
    unfold textS
    rw [if_neg (by rw [HW.out]; simp), if_pos hneg])
   go_wp2_with fail
   refine (fails_any h 1 D.at_ (by decide)).mono ?_
   rintro e w4 ⟨rfl, hs, ho⟩
   go_wp2_with fail
   go_ret
   exact ⟨_, _, rfl, HF, hs, ho⟩
  ·have hneg2 : ¬ most < 0 := hneg
   go_wp2_with fail
   refine (text_any h D.at_ h.low most (by omega) hmo).mono ?_
   rintro e w3 ⟨s, en, x, rfl, HN, rfl⟩
   have HF : Hid (textS D most = if x ≠ 0 then (D.fail x D.at_, ByteArray.empty) else (D.to en, s)) := Lib.hid (by
    unfold textS
    rw [if_neg (by rw [HW.out]; simp), if_neg (by omega), HN.out])
   by_cases hx : x = 0
   ·rw [if_neg (by simpa using hx)] at HF
    have hen : en ≤ n := by
     have := textAt_end h.ok hx HN.out
     rw [HL.out] at this; exact this
    have hxb : (x != 0) = false := by simp [hx]
    have hs := h.set1 (en : Int) en rfl hen
    have ho := only_r w3 r 1 (.int .i64 (en : Int))
    clear hx hneg2
    go_wp2_with fail
    go_ret
    exact ⟨_, _, rfl, HF, hs, ho⟩
   ·rw [if_pos hx] at HF
    have hxb : (x != 0) = true := by simp [hx]
    have HX := Lib.hid hx
    clear hx hneg2
    go_wp2_with fail
    refine (fails_any h x D.at_ HX.out).mono ?_
    rintro e w4 ⟨rfl, hs, ho⟩
    go_wp2_with fail
    go_ret
    exact ⟨_, _, rfl, HF, hs, ho⟩
 ·have HF : Hid (textS D most = (D, ByteArray.empty)) := Lib.hid (by unfold textS; rw [if_pos hw])
  go_enter Tryz.func116, Tryz.ntmps116
  go_wp2_with fail
  refine (well_any h false (by simpa using hw)).mono ?_
  rintro e w2 ⟨rfl, rfl⟩
  clear hw
  go_wp2_with fail
  go_ret
  exact ⟨_, _, rfl, HF, h, Only.refl _ _⟩
set_option maxHeartbeats 4000000 in
set_option maxRecDepth 100000 in
theorem List_any (h : RS w r A n c D) (hn : n ≤ 4398046511104) (most each : Int) (hmo : most ≤ 9223372036854775807) (hea : each ≤ 9223372036854775807) : Calls Tryz.prog 115 #[.pointer (some ⟨r, 0, none⟩), .int .i64 most, .int .i64 each] w fun e w' => ∃ D1 v l, e = .returned v ∧ Hid (listS D most each = (D1, l)) ∧ OT 9 w' w.heap.size v l ∧ RS w' r A n c D1 ∧ Only w w' (fun k => k = r) := by
 have h1 := h.r1
 have hm := h.max
 have HL := Lib.hid h.row.len
 by_cases hw : D.why = 0
 ·have HW := Lib.hid hw
  go_enter Tryz.func115, Tryz.ntmps115
  go_wp2_with fail
  refine (well_any h true (by simpa using hw)).mono ?_
  rintro e w2 ⟨rfl, rfl⟩
  clear hw
  by_cases hneg : most < 0 ∨ each < 0
  ·have HF : Hid (listS D most each = (D.fail 1 D.at_, [])) := Lib.hid (by
    unfold listS
    rw [if_neg (by rw [HW.out]; simp), if_pos hneg])
   have hdd : (decide (most < 0) || decide (each < 0)) = true := by simpa using hneg
   by_cases hm0 : most < 0
   ·clear hneg
    go_wp2_with fail
    refine (fails_any h 1 D.at_ (by decide)).mono ?_
    rintro e w4 ⟨rfl, hs, ho⟩
    go_wp2_with fail
    go_ret
    exact ⟨_, _, [], rfl, HF, OT.nil _ _ _, hs, ho⟩
   ·have hm1 : each < 0 := hneg.resolve_left hm0
    clear hneg
    go_wp2_with fail
    refine (fails_any h 1 D.at_ (by decide)).mono ?_
    rintro e w4 ⟨rfl, hs, ho⟩
    go_wp2_with fail
    go_ret
    exact ⟨_, _, [], rfl, HF, OT.nil _ _ _, hs, ho⟩
  ·have hm0 : ¬ most < 0 := fun e => hneg (.inl e)
   have he0 : ¬ each < 0 := fun e => hneg (.inr e)
   have HNG := Lib.hid hneg
   clear hneg
   go_wp2_with fail
   refine (number_any h D.at_ h.low).mono ?_
   rintro e w3 ⟨m, k, x, rfl, HN, rfl⟩
   obtain ⟨g1, g2, g3, g4, g5⟩ := numF h.ok HN.out
   rw [h.row.len] at g2
   have hwm : IntKind.u64.wrap most = most := IntWalk.u64_in _ ⟨by omega, by omega⟩
   by_cases hx : x = 0
   ·subst hx
    by_cases hmm : most < (m : Int)
    ·have HF : Hid (listS D most each = (D.fail 11 D.at_, [])) := Lib.hid (by
      unfold listS
      rw [if_neg (by rw [HW.out]; simp), if_neg HNG.out, HN.out, if_neg (by simp), if_pos hmm])
     clear g1 g4 g5
     go_wp2_with fail
     refine (fails_any h 11 D.at_ (by decide)).mono ?_
     rintro e w4 ⟨rfl, hs, ho⟩
     go_wp2_with fail
     go_ret
     exact ⟨_, _, [], rfl, HF, OT.nil _ _ _, hs, ho⟩
    ·have HF : Hid (listS D most each = if (lstR D.bs each m (D.at_ + k) []).2.2 ≠ 0 then (D.fail (lstR D.bs each m (D.at_ + k) []).2.2 (lstR D.bs each m (D.at_ + k) []).2.1, []) else (D.to (lstR D.bs each m (D.at_ + k) []).2.1, (lstR D.bs each m (D.at_ + k) []).1)) := Lib.hid (by
      unfold listS
      rw [if_neg (by rw [HW.out]; simp), if_neg HNG.out, HN.out, if_neg (by simp), if_neg hmm])
     have HM : Hid (m < 18446744073709551616) := g1
     clear g1 g4 g5
     go_wp2_with fail
     go_loopg [7, 10, 11] m (fun gk v7 v10 v11 w' => ∃ (j a : Nat) (acc : List ByteArray), v7 = .int .u64 (j : Int) ∧ v11 = .int .i64 (a : Int) ∧ OT 9 w' w3.heap.size v10 acc ∧ RS w' r A n c D ∧ Below w3.heap.size w3 w' ∧ Hid (lstR D.bs each m (D.at_ + k) [] = lstR D.bs each j a acc ∧ a ≤ n ∧ acc.length ≤ a ∧ j ≤ m ∧ gk = j))
     case atStart => exact ⟨m, D.at_ + k, [], rfl, by simp, OT.nil _ _ _, h, Below.refl _ _, rfl, g2, by simp, by omega, rfl⟩
     case round =>
      have hAo := h.old
      clear h h1
      obtain ⟨j, a, acc, rfl, rfl, hO, h, hb1, HG⟩ := hrel
      have hsz := hb1.size
      rcases j with _ | j
      ·have hs := h.set1 (a : Int) a rfl HG.out.2.1
       have ho : Only w3 (wr.setCell ⟨r, 1, none⟩ (.int .i64 (a : Int))) (fun k => k = r) := (Only.of_below hb1 _).set r 1 _ (.inl rfl)
       have hf1 := h.fr 1
       have h1 := h.r1
       have HFF : Hid (listS D most each = (D.to a, acc)) := Lib.hid (by
        rw [HF.out, HG.out.1]
        rfl)
       have hOk := hO.kept (grown_set wr r 1 (.int .i64 (a : Int))) (own_not_r hO h.rk)
       go_wp2_with fail
       go_ret
       exact ⟨_, _, acc, rfl, HFF, hOk, hs, ho⟩
      ·have hj : (0 : Int) < ((j + 1 : Nat) : Int) := by omega
       have hj1 : IntKind.u64.wrap (((j + 1 : Nat) : Int) - 1) = (j : Int) := by rw [IntWalk.u64_in _ ⟨by omega, by have := HM.out; have := HG.out; omega⟩]; omega
       go_wp2_with fail
       refine (text_any h a HG.out.2.1 each (by omega) hea).mono ?_
       rintro e w4 ⟨s, en, x, rfl, HT, rfl⟩
       obtain ⟨q1, q2⟩ := textAt_facts h.row.byt (by rw [h.row.len]; exact HG.out.2.1) HT.out
       rw [h.row.len] at q1
       by_cases hx : x = 0
       ·obtain ⟨q3, q4, q5, _⟩ := q1 hx
        have hxb : (x != 0) = false := by simp [hx]
        have HNX : Hid (lstR D.bs each m (D.at_ + k) [] = lstR D.bs each j en (acc ++ [s])) := Lib.hid (by
         rw [HG.out.1, lstR, HT.out, if_neg (by simpa using hx)])
        have hln : (acc.length + 1) * 16 ≤ 140737488355328 := by have := HG.out.2.2.1; have := HG.out.2.1; omega
        have hlen : (acc ++ [s]).length ≤ en := by rw [List.length_append]; have := HG.out.2.2.1; simp; omega
        have HLEN := Lib.hid hlen
        have hjm := HG.out.2.2.2.1
        have hgk := HG.out.2.2.2.2
        clear hx q1 q2 q4 q5 hlen
        go_wp2_with (at_builtin; refine print_append_of (w0 := w3) Value.string w3.heap.size rfl (.tmp 85) (.tmp 87) 46 9 (.string ByteArray.empty) 16 rfl Tryz.underlying46 str_info rfl (by decide) _ acc s rfl rfl rfl hO hb1 hsz hln ?_)
        intro v1 w5 hown hb5 hg hat
        replace hown : OT 9 w5 w3.heap.size v1 (acc ++ [s]) := by unfold OT; simpa using hown
        have h5 : RS w5 r A n c D := h.only ((Only.refl w4 (rf u10)).grown hg (fun k e => .inl e)) (sep_own hO h hAo)
        clear hO hg hat hln
        go_wp2_with fail
        go_roundg j
        case measure => omega
        case rel => exact ⟨j, en, _, by first | rfl | (rw [hj1]) | simp, rfl, hown, h5, hb5, HNX.out, q3, HLEN.out, by omega, rfl⟩
       ·have hxb : (x != 0) = true := by simp [hx]
        have HX := Lib.hid hx
        have HFF : Hid (listS D most each = (D.fail x a, [])) := Lib.hid (by
         rw [HF.out, HG.out.1, lstR, HT.out, if_pos hx, if_pos hx])
        clear hx q1 q2
        go_wp2_with fail
        refine (fails_any h x a HX.out).mono ?_
        rintro e w5 ⟨rfl, hs, ho⟩
        have ho2 : Only w3 w5 (fun k => k = r) := (Only.of_below hb1 (fun k => k = r)).same ho
        go_wp2_with fail
        go_ret
        exact ⟨_, _, [], rfl, HFF, OT.nil _ _ _, hs, ho2⟩
   ·have HF : Hid (listS D most each = (D.fail x D.at_, [])) := Lib.hid (by
     unfold listS
     rw [if_neg (by rw [HW.out]; simp), if_neg HNG.out, HN.out, if_pos hx])
    have hxb : (x != 0) = true := by simp [hx]
    have hxc : (x == 0) = false := by simp [hx]
    have HX := Lib.hid hx
    clear hx g1 g2 g3 g4 g5
    go_wp2_with fail
    refine (fails_any h x D.at_ HX.out).mono ?_
    rintro e w4 ⟨rfl, hs, ho⟩
    go_wp2_with fail
    go_ret
    exact ⟨_, _, [], rfl, HF, OT.nil _ _ _, hs, ho⟩
 ·have HF : Hid (listS D most each = (D, [])) := Lib.hid (by unfold listS; rw [if_pos hw])
  go_enter Tryz.func115, Tryz.ntmps115
  go_wp2_with fail
  refine (well_any h false (by simpa using hw)).mono ?_
  rintro e w2 ⟨rfl, rfl⟩
  clear hw
  go_wp2_with fail
  go_ret
  exact ⟨_, _, [], rfl, HF, OT.nil _ _ _, h, Only.refl _ _⟩
end
end Go.Proofs.YtpjpgcjhdbiepaaGreat
end
section
namespace Go.Proofs.YtpjpgcjhdbiepaaGreat
open Go.RowKit Go.Kit Go.Proofs.YtpjpgcjhdbiepaaGreatW.PrintWords
attribute [local go_sem] Go.Proofs.YtpjpgcjhdbiepaaGreatW.PrintMore.max_two Go.Proofs.YtpjpgcjhdbiepaaGreatW.PrintMore.min_two
attribute [-go_sem] run_slice_h run_slice_any
theorem fault_why (x y : Int) (W : World) : (Instr.field 28 (.agg #[.int .i64 x, .int .i64 y]) 0).run Tryz.prog W = .ok (.int .i64 x) W := by kernel_rfl
attribute [local go_sem] fault_why
set_option maxHeartbeats 4000000 in
set_option maxRecDepth 100000 in
theorem head_any (A : Option Addr) (n cap : Nat) (xs : List Int) (w : World) (hx : RB w A n xs) (hc : n ≤ cap) :
  Calls Tryz.prog 68 #[.slice A n cap] w fun e w' => ∃ (m k : Nat) (x : Int), e = .returned (.tuple #[.int .i64 (m : Int), .int .i64 (k : Int), .int .i64 x]) ∧ Hid (headF xs = (m, k, x)) ∧ Below w.heap.size w w' := by
 obtain ⟨t, ht⟩ : ∃ t : Nat, t = min n 10 := ⟨_, rfl⟩
 have hmin : Builtin.min2 (.int .i64 (n : Int)) (.int .i64 10) = pure (.int .i64 (t : Int)) := min2_is (by omega)
 have hsl := head_bytes A n cap t (by omega)
 have hxt := RB.take_ hx t (by omega)
 have HN := Lib.hid (num_ten xs (t := t) (by rw [hx.len]; exact ht))
 have ht10 : t ≤ 10 := by omega
 clear ht
 go_enter Tryz.func68, Tryz.ntmps68
 go_wp2_with fail
 refine (NewReader_any A t cap _ _ hxt (by omega)).mono ?_
 rintro e w1 ⟨r, A', c, rfl, hR, hf, hb1⟩
 clear hmin hsl hxt
 go_wp2_with fail
 refine (Uint_any hR).mono ?_
 rintro e w2 ⟨D1, v, rfl, HU, hR2, ho2⟩
 have hb2 : Below w.heap.size w w2 := Below.only hb1 ho2 hb1.size (fun k e => hf k (.inl e))
 have hok := hR.ok
 go_wp2_with fail
 refine (Fault_any hR2).mono ?_
 rintro e w3 ⟨rfl, hb3⟩
 have hR3 := hR2.below hb3
 have hb4 := below_step hb2 hb3
 have HUU := HU.out
 rcases uintS_cases hok rfl with ⟨m, k, hN, hu, hm, hk, hk1⟩ | ⟨m, k, x, hx0, hN, hu⟩
 ·rw [show (Rd.new (xs.take t)).bs = xs.take t from rfl, show (Rd.new (xs.take t)).at_ = 0 from rfl, HN.out] at hN
  rw [hu] at HUU
  cases HUU
  have HNX := Lib.hid hN
  have hv64 : IntKind.i64.wrap (v : Int) = (v : Int) ∨ 2097152 < v := by
   rcases Nat.lt_or_ge 2097152 v with h | h
   ·exact .inr h
   ·exact .inl (IntWalk.i64_in _ ⟨by omega, by omega⟩)
  have hat : (((Rd.new (xs.take t)).to ((Rd.new (xs.take t)).at_ + k)).at_ : Int) = (k : Int) := by show ((0 + k : Nat) : Int) = _; rw [Nat.zero_add]
  have hwhy : ((Rd.new (xs.take t)).to ((Rd.new (xs.take t)).at_ + k)).why = 0 := rfl
  have HX := Lib.hid hwhy
  rw [hwhy]
  generalize ((Rd.new (xs.take t)).to ((Rd.new (xs.take t)).at_ + k)).wat = wat
  clear hN hu hwhy HU hR hf ho2 hb2 hb3 hb1 hok
  by_cases hbig : 2097152 < v
  ·have hbig2 : (2097152 : Int) < (v : Int) := by omega
   have HF : Hid (headF xs = (0, 0, 3)) := Lib.hid (by unfold headF; rw [HNX.out, if_neg (by simp), if_neg (by simp), if_pos hbig])
   clear hv64
   go_wp2_with fail
   go_ret3
   exact ⟨0, 0, 3, rfl, HF, hb4⟩
  ·replace hv64 := hv64.resolve_right hbig
   have hbig2 : ¬ (2097152 : Int) < (v : Int) := by omega
   by_cases hz : v = 0
   ·have hz2 : ((v : Int) == 0) = true := by rw [beq_iff_eq]; omega
    have HF : Hid (headF xs = (0, 0, 70)) := Lib.hid (by unfold headF; rw [HNX.out, if_neg (by simp), if_neg (by simp), if_neg hbig, if_pos hz])
    clear hz
    go_wp2_with fail
    go_ret3
    exact ⟨0, 0, 70, rfl, HF, hb4⟩
   ·have hz2 : ((v : Int) == 0) = false := by rw [beq_eq_false_iff_ne]; omega
    have HF : Hid (headF xs = (v, k, 0)) := Lib.hid (by unfold headF; rw [HNX.out, if_neg (by simp), if_neg (by simp), if_neg hbig, if_neg hz])
    clear hz
    go_wp2_with fail
    refine (At_any hR3).mono ?_
    rintro e w5 ⟨rfl, rfl⟩
    rw [hat]
    go_wp2_with fail
    go_ret3
    exact ⟨v, k, 0, rfl, HF, hb4⟩
 ·rw [show (Rd.new (xs.take t)).bs = xs.take t from rfl, show (Rd.new (xs.take t)).at_ = 0 from rfl, HN.out] at hN
  rw [hu] at HUU
  cases HUU
  have HNX := Lib.hid hN
  have hwhy : ((Rd.new (xs.take t)).fail x (Rd.new (xs.take t)).at_).why = x := rfl
  rw [hwhy]
  generalize ((Rd.new (xs.take t)).fail x (Rd.new (xs.take t)).at_).wat = wat
  clear hN hu hwhy HU hR hf ho2 hb2 hb3 hb1 hok hR2 hR3
  by_cases h4 : x = 4
  ·subst h4
   have HF : Hid (headF xs = (0, 0, 0)) := Lib.hid (by unfold headF; rw [HNX.out, if_pos rfl])
   clear hx0
   go_wp2_with fail
   go_ret3
   exact ⟨0, 0, 0, rfl, HF, hb4⟩
  ·have h4b : (x == 4) = false := by rw [beq_eq_false_iff_ne]; exact h4
   have h0b : (x != 0) = true := by simpa using hx0
   have HF : Hid (headF xs = (0, 0, x)) := Lib.hid (by unfold headF; rw [HNX.out, if_neg h4, if_pos hx0])
   clear h4 hx0
   go_wp2_with fail
   go_ret3
   exact ⟨0, 0, x, rfl, HF, hb4⟩
theorem headF_facts {xs : List Int} (hb : Byt xs) {m k : Nat} {x : Int} (h : headF xs = (m, k, x)) : m ≤ 2097152 ∧ k ≤ 10 ∧ k ≤ xs.length := by
 have hf := num_facts hb (Nat.zero_le xs.length)
 unfold headF at h
 split at h
 ·cases h; omega
 split at h
 ·cases h; omega
 split at h
 ·cases h; omega
 split at h
 ·cases h; omega
 ·cases h; omega
set_option maxHeartbeats 4000000 in
set_option maxRecDepth 100000 in
theorem Need_any (A : Option Addr) (n cap : Nat) (xs : List Int) (w : World) (hx : RB w A n xs) (hc : n ≤ cap) :
  Calls Tryz.prog 53 #[.slice A n cap] w fun e w' => ∃ (m k : Nat) (x : Int), e = .returned (.tuple #[.int .i64 (m : Int), .int .i64 x]) ∧ Hid (needF xs = (m, k, x)) ∧ Below w.heap.size w w' := by
 have HB := Lib.hid hx.byt
 go_enter Tryz.func53, Tryz.ntmps53
 go_wp2_with fail
 refine (head_any A n cap xs _ hx hc).mono ?_
 rintro e w1 ⟨m, k, x, rfl, HH, hb⟩
 have hf := headF_facts HB.out HH.out
 have hm := hf.1
 have hk := hf.2.1
 clear hf
 by_cases h0 : x = 0
 ·subst h0
  by_cases hk0 : k = 0
  ·have hkb : ((k : Int) == 0) = true := by rw [beq_iff_eq]; omega
   have HF : Hid (needF xs = (0, 0, 0)) := Lib.hid (by unfold needF; rw [HH.out, if_pos (.inr hk0)])
   clear hk0
   go_wp2_with fail
   go_ret2
   exact ⟨0, 0, 0, rfl, HF, hb⟩
  ·have hkb : ((k : Int) == 0) = false := by rw [beq_eq_false_iff_ne]; omega
   have HF : Hid (needF xs = (m + k + 4, k, 0)) := Lib.hid (by unfold needF; rw [HH.out, if_neg (by simp; exact hk0)])
   clear hk0
   go_wp2_with fail
   go_ret2
   exact ⟨m + k + 4, k, 0, rfl, HF, hb⟩
 ·have h0b : (x != 0) = true := by simpa using h0
  have HF : Hid (needF xs = (0, 0, x)) := Lib.hid (by unfold needF; rw [HH.out, if_pos (.inl h0)])
  clear h0
  go_wp2_with fail
  go_ret2
  exact ⟨0, 0, x, rfl, HF, hb⟩
end Go.Proofs.YtpjpgcjhdbiepaaGreat
end
section
namespace Go.Proofs.YtpjpgcjhdbiepaaGreat
open Go.RowKit Go.Kit Go.Proofs.YtpjpgcjhdbiepaaGreatW.PrintWords
section
variable {w w1 : World} {r n c : Nat} {A : Option Addr} {D : Rd}
def raisedF (x y : Int) : List PanicEntry := [{ v := .iface 28 (.agg #[.int .i64 x, .int .i64 y]), recovered := false }]
theorem _root_.Go.Kit.Only.fault {S : Nat → Prop} {w w1 w2 : World} (h : Only w w1 S) (hb : Below w1.heap.size w1 w2) : Only w w2 S := h.below hb
set_option maxHeartbeats 4000000 in
set_option maxRecDepth 100000 in
theorem part_any (h : RS w r A n c D) (most : Int) (hmo : most ≤ 9223372036854775807) : Calls Tryz.prog 90 #[.pointer (some ⟨r, 0, none⟩), .int .i64 most] w fun e w' =>
  ∃ D1 v, Hid (countS D most = (D1, v)) ∧ RS w' r A n c D1 ∧ Only w w' (fun k => k = r) ∧ ((Hid (¬ (D1.why = 0 ∧ v = 0)) ∧ e = .returned (.int .i64 ((v : Nat) : Int))) ∨ (Hid (D1.why = 0 ∧ v = 0) ∧ e = .panicked (raisedF 70 (D.at_ : Int)))) := by
 have hqg : Tryz.prog.eqGuardType Tryz.prog.depth 28 = false := by kernel_rfl
 have hz : ∀ W : World, (Instr.build 28 #[]).run Tryz.prog W = .ok (.agg #[.int .i64 0, .int .i64 0]) W := fun W => by kernel_rfl
 have hb2 : ∀ (x y : Int) (W : World), (Instr.build 28 #[(0, .int .i64 x), (1, .int .i64 y)]).run Tryz.prog W = .ok (.agg #[.int .i64 x, .int .i64 y]) W := fun x y W => by kernel_rfl
 go_enter Tryz.func90, Tryz.ntmps90
 go_wp2_with fail
 refine (At_any h).mono ?_
 rintro e w0 ⟨rfl, rfl⟩
 go_wp2_with fail
 refine (Count_any h most hmo).mono ?_
 rintro e w2 ⟨D1, v, rfl, HC, hR, ho⟩
 by_cases hv : v = 0
 ·have hvb : ((v : Int) == 0) = true := by rw [beq_iff_eq]; omega
  by_cases hw : D1.why = 0
  ·have HV : Hid (D1.why = 0 ∧ v = 0) := Lib.hid ⟨hw, hv⟩
   have heq := run_fault D1.why D1.wat true (by rw [hw, hR.inv hw]; rfl)
   clear hv hw
   go_wp2_with fail
   refine (Fault_any hR).mono ?_
   rintro e w3 ⟨rfl, hb⟩
   have hR3 := hR.below hb
   have ho3 := Only.fault ho hb
   go_wp2_with fail
   exact ⟨rfl, D1, v, HC, hR3, ho3, .inr ⟨HV, rfl⟩⟩
  ·have HV : Hid (¬ (D1.why = 0 ∧ v = 0)) := Lib.hid (fun e => hw e.1)
   have heq := run_fault D1.why D1.wat false (by rw [Bool.and_eq_false_iff]; left; rw [beq_eq_false_iff_ne]; exact hw)
   clear hv hw
   go_wp2_with fail
   refine (Fault_any hR).mono ?_
   rintro e w3 ⟨rfl, hb⟩
   have hR3 := hR.below hb
   have ho3 := Only.fault ho hb
   go_wp2_with fail
   go_ret
   exact ⟨D1, v, HC, hR3, ho3, .inl ⟨HV, rfl⟩⟩
 ·have hvb : ((v : Int) == 0) = false := by rw [beq_eq_false_iff_ne]; omega
  have HV : Hid (¬ (D1.why = 0 ∧ v = 0)) := Lib.hid (fun e => hv e.2)
  clear hv
  go_wp2_with fail
  go_ret
  exact ⟨D1, v, HC, hR, ho, .inl ⟨HV, rfl⟩⟩
end
end Go.Proofs.YtpjpgcjhdbiepaaGreat
end
section
namespace Go.Kit
open Go.RowKit Go.Proofs.YtpjpgcjhdbiepaaGreatW.PrintWords
namespace Fr
section
variable {t : TypeId} {w w1 : World} {g : Nat} {f : Fr} {S : Nat → Prop}
theorem at_.only (h : f.at_ t w g) (ho : Only w w1 S) (hs : ¬ S g) : f.at_ t w1 g := ⟨ho.kept h.blk hs, h.tool⟩
theorem at_.lt (h : f.at_ t w g) : g < w.heap.size := lt_of_block h.blk
theorem at_.fz (h : f.at_ t w g) (j : Nat) : w.frozen? ⟨g, j, none⟩ = false := frozen_of_row w g j _ _ h.blk
theorem set_tail (T : List Value) (hT : T.length = 32) (a b c d : Value) (R : List Value) (j : Nat) (v : Value) : ([a, b, c, d] ++ (T ++ R)).set (36 + j) v = [a, b, c, d] ++ (T ++ R.set j v) := by
 rw [List.set_append_right _ _ (by simp; omega), List.set_append_right _ _ (by simp; omega)]
 congr 3
 simp; omega
theorem at_.put (h : f.at_ t w g) {f1 : Fr} (j : Nat) (v : Value) (he : f.cells.set j v = f1.cells) (ht : f1.tool = f.tool) : f1.at_ t (w.setCell ⟨g, j, none⟩ v) g := by
 refine ⟨?_, by rw [ht]; exact h.tool⟩
 have h1 := heap_set_same w g j _ _ v h.blk
 rw [h1]
 unfold Fr.arr
 rw [List.setIfInBounds_toArray, he]
theorem at_.set0 (h : f.at_ t w g) (x : Int) : ({ f with k := x } : Fr).at_ t (w.setCell ⟨g, 0, none⟩ (.int .i64 x)) g := h.put 0 _ rfl rfl
theorem at_.set1 (h : f.at_ t w g) (x : Int) : ({ f with id := x } : Fr).at_ t (w.setCell ⟨g, 1, none⟩ (.int .u64 x)) g := h.put 1 _ rfl rfl
theorem at_.set2 (h : f.at_ t w g) (x : Int) : ({ f with v := x } : Fr).at_ t (w.setCell ⟨g, 2, none⟩ (.int .i64 x)) g := h.put 2 _ rfl rfl
theorem at_.set3 (h : f.at_ t w g) (x : Int) : ({ f with s := x } : Fr).at_ t (w.setCell ⟨g, 3, none⟩ (.int .i64 x)) g := h.put 3 _ rfl rfl
theorem len32 (h : f.at_ t w g) : (nums .u8 f.tool).length = 32 := by simp [nums, h.tool]
theorem at_.set36 (h : f.at_ t w g) (x : Int) : ({ f with st := x } : Fr).at_ t (w.setCell ⟨g, 36, none⟩ (.int .i64 x)) g := h.put 36 _ (set_tail _ (len32 h) _ _ _ _ _ 0 _) rfl
theorem at_.set37 (h : f.at_ t w g) (x : Int) : ({ f with mo := x } : Fr).at_ t (w.setCell ⟨g, 37, none⟩ (.int .i64 x)) g := h.put 37 _ (set_tail _ (len32 h) _ _ _ _ _ 1 _) rfl
theorem at_.set38 (h : f.at_ t w g) (x : Int) : ({ f with fu := x } : Fr).at_ t (w.setCell ⟨g, 38, none⟩ (.int .i64 x)) g := h.put 38 _ (set_tail _ (len32 h) _ _ _ _ _ 2 _) rfl
theorem at_.set39 (h : f.at_ t w g) (x : Int) : ({ f with di := x } : Fr).at_ t (w.setCell ⟨g, 39, none⟩ (.int .i64 x)) g := h.put 39 _ (set_tail _ (len32 h) _ _ _ _ _ 3 _) rfl
theorem at_.set40 (h : f.at_ t w g) (A : Option Addr) (n c : Nat) (l : List ByteArray) : ({ f with A := A, n := n, c := c, args := l } : Fr).at_ t (w.setCell ⟨g, 40, none⟩ (.slice A n c)) g := h.put 40 _ (set_tail _ (len32 h) _ _ _ _ _ 4 _) rfl
theorem at_.set41 (h : f.at_ t w g) (s : ByteArray) : ({ f with body := s } : Fr).at_ t (w.setCell ⟨g, 41, none⟩ (.string s)) g := h.put 41 _ (set_tail _ (len32 h) _ _ _ _ _ 5 _) rfl
theorem tool_splice (T U : List Value) (hT : T.length = 32) (a b c d : Value) (R : List Value) : ([a, b, c, d] ++ (T ++ R)).take 4 ++ (U ++ ([a, b, c, d] ++ (T ++ R)).drop (4 + 32)) = [a, b, c, d] ++ (U ++ R) := by
 have h1 : ([a, b, c, d] ++ (T ++ R)).drop (4 + 32) = R := by
  rw [← List.append_assoc, List.drop_append_of_le_length (by simp; omega)]
  rw [List.drop_of_length_le (by simp; omega), List.nil_append]
 rw [h1]; rfl
theorem at_.c37 (h : f.at_ t w g) : w.cell? ⟨g, 37, none⟩ = some (.int .i64 f.mo) := h.cell 37 _ (by rw [tail_at f h.tool 1]; rfl)
theorem at_.c38 (h : f.at_ t w g) : w.cell? ⟨g, 38, none⟩ = some (.int .i64 f.fu) := h.cell 38 _ (by rw [tail_at f h.tool 2]; rfl)
theorem at_.c39 (h : f.at_ t w g) : w.cell? ⟨g, 39, none⟩ = some (.int .i64 f.di) := h.cell 39 _ (by rw [tail_at f h.tool 3]; rfl)
theorem at_.tooled (h : f.at_ t w g) (ts : List Int) (hl : ts.length = 32) : ({ f with tool := ts } : Fr).at_ t (w.setRow g (f.arr.toList.take 4 ++ (nums .u8 ts ++ f.arr.toList.drop (4 + (nums .u8 ts).length))).toArray) g := by
 refine ⟨?_, hl⟩
 rw [setRow_heap w g _ _ t _ h.blk]
 have h2 : (nums .u8 ts).length = 32 := by simp [nums, hl]
 rw [h2]
 exact congrArg (fun l : List Value => some (Obj.cells l.toArray t (0, 0))) (tool_splice (nums .u8 f.tool) (nums .u8 ts) (len32 h) _ _ _ _ _)
theorem only_row (w : World) (g : Nat) (cs : Array Value) : Only w (w.setRow g cs) (fun k => k = g) :=
 ⟨rfl, rfl, rfl, by simp, fun k _ hk => setRow_other w g k cs hk⟩
theorem only_at (w : World) (g j : Nat) (v : Value) : Only w (w.setCell ⟨g, j, none⟩ v) (fun k => k = g) := (Only.refl w _).set g j v (.inl rfl)
end
end Fr
theorem RT.apart {w w1 : World} {A : Option Addr} {n : Nat} {xs : List ByteArray} {S : Nat → Prop} (h : RT w A n xs) (ho : Only w w1 S) (hs : ∀ a, A = some a → ¬ S a.block) : RT w1 A n xs :=
 ⟨h.1, h.2.1, fun hn => by
  obtain ⟨ad, e, hc⟩ := h.2.2 hn
  exact ⟨ad, e, fun j hj => ho.cell (hc j hj) (by rw [add_block]; exact hs ad e)⟩⟩
theorem OT.open_ {e : TypeId} {w : World} {base : Nat} {v : Value} {xs : List ByteArray} (h : OT e w base v xs) : ∃ A c, v = .slice A xs.length c ∧ RT w A xs.length xs ∧ xs.length ≤ c ∧ ∀ a, A = some a → base ≤ a.block ∧ a.block < w.heap.size := by
 obtain ⟨A, c, hv, hr⟩ := h.reads
 rcases h.2 with ⟨h1, h2⟩ | ⟨g, cap, cur, h1, h2, h3, h4, h5⟩
 ·rw [h1] at hv
  injection hv with e1 e2 e3
  subst e1
  exact ⟨none, c, by rw [h1, ← e2, ← e3], hr, by omega, fun a e => by cases e⟩
 ·rw [h1] at hv
  injection hv with e1 e2 e3
  refine ⟨A, c, by rw [h1, e1, e3], hr, by omega, fun a ha => ?_⟩
  rw [← e1] at ha
  cases ha
  exact ⟨h2, lt_of_block h3⟩
end Go.Kit
end
section
namespace Go.Proofs.YtpjpgcjhdbiepaaGreat
open Go.RowKit Go.Kit Go.Proofs.YtpjpgcjhdbiepaaGreatW.PrintWords
def kF (k : Int) : Fr := ⟨k, 0, 0, 0, z32, 0, 0, 0, 0, none, 0, 0, [], ByteArray.empty⟩
def OwnA (w : World) (base : Nat) (F : Fr) : Prop := OT 9 w base (.slice F.A F.n F.c) F.args
theorem OwnA.none (w : World) (base : Nat) {F : Fr} (h : F.A = none ∧ F.n = 0 ∧ F.c = 0 ∧ F.args = []) : OwnA w base F := by
 unfold OwnA; rw [h.1, h.2.1, h.2.2.1, h.2.2.2]; exact OT.nil _ _ _
theorem OwnA.below {w w1 : World} {base : Nat} {F : Fr} (h : OwnA w base F) (hb : Below w.heap.size w w1) : OwnA w1 base F := OT.below h hb
theorem OwnA.less {w : World} {base b : Nat} {F : Fr} (h : OwnA w base F) (hle : b ≤ base) : OwnA w b F := OT.less h hle
theorem ot_only {e : TypeId} {w w1 : World} {base : Nat} {v : Value} {xs : List ByteArray} {S : Nat → Prop} (h : OT e w base v xs) (ho : Only w w1 S) (hs : Sep (rf v) S) : OT e w1 base v xs := by
 refine ⟨h.1, ?_⟩
 rcases h.2 with h1 | ⟨g, cap, cur, h1, h2, h3, h4⟩
 ·exact .inl h1
 ·exact .inr ⟨g, cap, cur, h1, h2, ho.kept h3 (hs g (by rw [h1]; rfl)), h4⟩
theorem own_block_at {A : Option Addr} {n c k : Nat} (h : rf (.slice A n c) k) : ∃ a, A = some a ∧ a.block = k := by
 unfold rf Value.ownBlock at h
 cases A with
 | none => simp at h
 | some a => exact ⟨a, rfl, by simpa using h⟩
theorem OwnA.only {w w1 : World} {base : Nat} {F : Fr} {S : Nat → Prop} (h : OwnA w base F) (ho : Only w w1 S) (hs : ∀ a, F.A = some a → ¬ S a.block) : OwnA w1 base F :=
 ot_only h ho (fun k hk hS => by obtain ⟨a, e, rfl⟩ := own_block_at hk; exact hs a e hS)
theorem OwnA.fresh {w : World} {base : Nat} {F : Fr} (h : OwnA w base F) : ∀ a, F.A = some a → base ≤ a.block ∧ a.block < w.heap.size := fun a e => by
 obtain ⟨A, c, hv, _, _, hA⟩ := OT.open_ h
 injection hv with h1
 exact hA a (h1 ▸ e)
def KindPost (w : World) (r g n c : Nat) (A : Option Addr) (D : Rd) (k : Nat) (e : Ending) (w' : World) : Prop :=
 (∃ (D1 : Rd) (F : Fr), e = .returned (.tuple #[]) ∧ Hid (kindS D k = (D1, F.core)) ∧ RS w' r A n c D1 ∧ F.at_ 48 w' g ∧ F.ok w' ∧ OwnA w' w.heap.size F ∧ Only w w' (fun k => k = r ∨ k = g)) ∨
 (∃ (F : Fr), e = .panicked (raisedF 70 (kindS D k).1.wat) ∧ Hid ((kindS D k).1.why = 70) ∧ F.at_ 48 w' g ∧ Only w w' (fun k => k = r ∨ k = g))
theorem notr {r g : Nat} {A : Option Addr} (h : ¬ rdf r A g) : ¬ g = r := fun e => h (.inl e)
theorem sepg {r g : Nat} {A : Option Addr} (h : ¬ rdf r A g) : Sep (rdf r A) (fun k => k = g) := fun k hk e => h (e ▸ hk)
theorem _root_.Go.Kit.Only.orr {w w1 w2 : World} {r g : Nat} (h : Only w w1 (fun k => k = r ∨ k = g)) (h2 : Only w1 w2 (fun k => k = r)) : Only w w2 (fun k => k = r ∨ k = g) := h.same (h2.mono (fun _ e => .inl e))
theorem _root_.Go.Kit.Only.org {w w1 w2 : World} {r g : Nat} (h : Only w w1 (fun k => k = r ∨ k = g)) (h2 : Only w1 w2 (fun k => k = g)) : Only w w2 (fun k => k = r ∨ k = g) := h.same (h2.mono (fun _ e => .inr e))
section
variable {w : World} {r g n c : Nat} {A : Option Addr} {D : Rd}
theorem rt_none (w : World) {F : Fr} (hA : F.A = none) (hn : F.n = 0) (ha : F.args = []) : RT w F.A F.n F.args := by rw [hA, hn, ha]; exact RT.nil w
set_option maxHeartbeats 4000000 in
set_option maxRecDepth 100000 in
theorem cancel_read (h : RS w r A n c D) (hF : (kF 4).at_ 48 w g) (hs : ¬ rdf r A g) : Calls Tryz.prog 126 #[.pointer (some ⟨r, 0, none⟩), .pointer (some ⟨g, 0, none⟩)] w (KindPost w r g n c A D 4) := by
 go_enter Tryz.func126, Tryz.ntmps126
 go_wp2_with fail
 refine (Uint_any h).mono ?_
 rintro e w2 ⟨D1, v, rfl, HU, hR, ho⟩
 have hF2 := hF.only ho (notr hs)
 have q1 := hF2.c1
 have f1 := hF2.fz 1
 have ho2 := (Only.refl w (fun k => k = r ∨ k = g)).orr ho
 have hF3 := hF2.set1 (v : Int)
 have hR3 := hR.only (Fr.only_at w2 g 1 (.int .u64 (v : Int))) (sepg hs)
 have ho3 := ho2.org (Fr.only_at w2 g 1 (.int .u64 (v : Int)))
 have HK : Hid (kindS D 4 = (D1, ({ kF 4 with id := (v : Int) } : Fr).core)) := Lib.hid (by
  show cancelS D = _
  unfold cancelS; rw [HU.out]; rfl)
 clear hF hF2 hR ho ho2 HU
 go_wp2_with fail
 exact bodyPost_end (v := .tuple #[]) (by simp [results, Tryz.results126, go_sem]) rfl (.inl ⟨D1, _, rfl, HK, hR3, hF3, ⟨rfl, rt_none _ rfl rfl rfl⟩, OwnA.none _ _ ⟨rfl, rfl, rfl, rfl⟩, ho3⟩)
set_option maxHeartbeats 4000000 in
set_option maxRecDepth 100000 in
theorem note_read (h : RS w r A n c D) (hF : (kF 6).at_ 48 w g) (hs : ¬ rdf r A g) : Calls Tryz.prog 133 #[.pointer (some ⟨r, 0, none⟩), .pointer (some ⟨g, 0, none⟩)] w (KindPost w r g n c A D 6) := by
 go_enter Tryz.func133, Tryz.ntmps133
 go_wp2_with fail
 refine (Text_any h 2097152 (by omega)).mono ?_
 rintro e w2 ⟨D1, v, rfl, HU, hR, ho⟩
 have hF2 := hF.only ho (notr hs)
 have q1 := hF2.c41
 have f1 := hF2.fz 41
 have ho2 := (Only.refl w (fun k => k = r ∨ k = g)).orr ho
 have hF3 := hF2.set41 v
 have hR3 := hR.only (Fr.only_at w2 g 41 (.string v)) (sepg hs)
 have ho3 := ho2.org (Fr.only_at w2 g 41 (.string v))
 have HK : Hid (kindS D 6 = (D1, ({ kF 6 with body := v } : Fr).core)) := Lib.hid (by
  show noteS D = _
  unfold noteS; rw [HU.out]; rfl)
 clear hF hF2 hR ho ho2 HU
 go_wp2_with fail
 exact bodyPost_end (v := .tuple #[]) (by simp [results, Tryz.results133, go_sem]) rfl (.inl ⟨D1, _, rfl, HK, hR3, hF3, ⟨rfl, rt_none _ rfl rfl rfl⟩, OwnA.none _ _ ⟨rfl, rfl, rfl, rfl⟩, ho3⟩)
set_option maxHeartbeats 4000000 in
set_option maxRecDepth 100000 in
theorem bye_read (h : RS w r A n c D) (hF : (kF 5).at_ 48 w g) : Calls Tryz.prog 130 #[.pointer (some ⟨r, 0, none⟩), .pointer (some ⟨g, 0, none⟩)] w (KindPost w r g n c A D 5) := by
 go_enter Tryz.func130, Tryz.ntmps130
 go_wp2_with fail
 exact bodyPost_end (v := .tuple #[]) (by simp [results, Tryz.results130, go_sem]) rfl (.inl ⟨D, kF 5, rfl, Lib.hid rfl, h, hF, ⟨rfl, rt_none _ rfl rfl rfl⟩, OwnA.none _ _ ⟨rfl, rfl, rfl, rfl⟩, Only.refl _ _⟩)
set_option maxHeartbeats 4000000 in
set_option maxRecDepth 100000 in
theorem response_read (h : RS w r A n c D) (hF : (kF 3).at_ 48 w g) (hs : ¬ rdf r A g) : Calls Tryz.prog 122 #[.pointer (some ⟨r, 0, none⟩), .pointer (some ⟨g, 0, none⟩)] w (KindPost w r g n c A D 3) := by
 go_enter Tryz.func122, Tryz.ntmps122
 go_wp2_with fail
 refine (Uint_any h).mono ?_
 rintro e w2 ⟨D1, v, rfl, HU, hR, ho⟩
 have hF2 := hF.only ho (notr hs)
 have q1 := hF2.c1
 have f1 := hF2.fz 1
 have ho2 := (Only.refl w (fun k => k = r ∨ k = g)).orr ho
 have hF3 := hF2.set1 (v : Int)
 have hR3 := hR.only (Fr.only_at w2 g 1 (.int .u64 (v : Int))) (sepg hs)
 have ho3 := ho2.org (Fr.only_at w2 g 1 (.int .u64 (v : Int)))
 clear hF hF2 hR ho ho2
 go_wp2_with fail
 generalize w2.setCell ⟨g, 1, none⟩ (.int .u64 (v : Int)) = w3 at *
 clear q1 f1
 refine (part_any hR3 3 (by omega)).mono ?_
 rintro e w4 ⟨D2, st, HC, hR4, ho4, (⟨HV, rfl⟩ | ⟨HV, rfl⟩)⟩
 ·have hF4 := hF3.only ho4 (notr hs)
  have ho5 := ho3.orr ho4
  have q1 := hF4.c36
  have f1 := hF4.fz 36
  have hF5 := hF4.set36 (st : Int)
  have hR5 := hR4.only (Fr.only_at w4 g 36 (.int .i64 (st : Int))) (sepg hs)
  have ho6 := ho5.org (Fr.only_at w4 g 36 (.int .i64 (st : Int)))
  clear hR3 hF3 ho3 hR4 ho4 hF4 ho5
  go_wp2_with fail
  generalize w4.setCell ⟨g, 36, none⟩ (.int .i64 (st : Int)) = w5 at *
  clear q1 f1
  refine (Text_any hR5 2097152 (by omega)).mono ?_
  rintro e w6 ⟨D3, s, rfl, HT, hR6, ho7⟩
  have hF6 := hF5.only ho7 (notr hs)
  have q1 := hF6.c41
  have f1 := hF6.fz 41
  have ho8 := ho6.orr ho7
  have hF7 := hF6.set41 s
  have hR7 := hR6.only (Fr.only_at w6 g 41 (.string s)) (sepg hs)
  have ho9 := ho8.org (Fr.only_at w6 g 41 (.string s))
  have HK : Hid (kindS D 3 = (D3, ({ kF 3 with id := (v : Int), st := (st : Int), body := s } : Fr).core)) := Lib.hid (by
   show responseS D = _
   unfold responseS; rw [HU.out]; dsimp only; rw [someS_some HC.out HV.out]; dsimp only; rw [HT.out]; rfl)
  clear hF5 hF6 hR5 hR6 ho6 ho7 ho8
  go_wp2_with fail
  exact bodyPost_end (v := .tuple #[]) (by simp [results, Tryz.results122, go_sem]) rfl (.inl ⟨D3, _, rfl, HK, hR7, hF7, ⟨rfl, rt_none _ rfl rfl rfl⟩, OwnA.none _ _ ⟨rfl, rfl, rfl, rfl⟩, ho9⟩)
 ·have ho5 := ho3.orr ho4
  have HK : Hid ((kindS D 3).1 = D1.fail 70 D1.at_) := Lib.hid (by
   have hbad : (D1.fail 70 D1.at_).why ≠ 0 := by show (70 : Int) ≠ 0; decide
   show (responseS D).1 = _
   unfold responseS; rw [HU.out]; dsimp only
   have h0 := HV.out.2
   subst h0
   rw [someS_none HC.out HV.out.1]; dsimp only; rw [textS_bad hbad])
  have hF4 := hF3.only ho4 (notr hs)
  clear hR3 hF3 ho3 hR4 ho4
  refine ⟨rfl, .inr ⟨_, ?_, ?_, hF4, ho5⟩⟩
  ·rw [HK.out]; rfl
  ·exact Lib.hid (by rw [HK.out]; rfl)
end
end Go.Proofs.YtpjpgcjhdbiepaaGreat
end
section
namespace Go.Proofs.YtpjpgcjhdbiepaaGreat
open Go.RowKit Go.Kit Go.Proofs.YtpjpgcjhdbiepaaGreatW.PrintWords
theorem at_call {P : Program} {ops : Array Oper} {o : Oper} {a : Act} {w : World} {K : Act → World → Prop} {Q : Exit → Act → World → Prop} {E : Prop} {f : FuncId} {args : Array Value} {R : Value → World → Prop} (hw : Region.wanted o (yielded ops a.tmps) = true)
  (he : (execOp a.eval o).run P w = .ok (.enter f args) w) (hc : Calls P f args w fun e w' => ∃ v, e = .returned v ∧ R v w') (hK : ∀ v w', R v w' → K (a.put o.dst v) w') : if Region.wanted o (yielded ops a.tmps) = true then Oper.wp P o a w K Q else E := by
 rw [if_pos hw]
 unfold Oper.wp
 rw [he, Oper.upon_enter]
 refine hc.mono ?_
 rintro e w' ⟨v, rfl, hR⟩
 exact hK v w' hR
theorem at_copy_tool {ops : Array Oper} {o : Oper} {a : Act} {W : World} {K : Act → World → Prop} {Q : Exit → Act → World → Prop} {E : Prop} (x y : Operand) (hgd : o.guard = none)
  (ho : o.op = .call { callee := .builtin .copy, args := #[x, y], argTypes := #[22, 22] }) {g base : Nat} {v : Value} {ts : List Int} {F : Fr} (hd : a.eval x = .slice (some ⟨g, 4, none⟩) 32 32) (hs : a.eval y = v)
  (hO : OB 5 W base v ts) (hl : ts.length = 32 ∨ ts = []) (hF : F.at_ 48 W g)
  (hK : ∀ w' k, ({ F with tool := if ts.length = 32 then ts else F.tool } : Fr).at_ 48 w' g → Only W w' (fun k => k = g) → K (a.put o.dst (goInt k)) w') : if Region.wanted o (yielded ops a.tmps) = true then Oper.wp Tryz.prog o a W K Q else E := by
 refine at_list (by simp [Region.wanted, hgd]) (fun Q2 hQ => ?_)
 obtain ⟨A, c, hv, hr⟩ := hO.reads
 rcases hl with hl | hl
 ·obtain ⟨ad, rfl, hc⟩ := hr.cells (by omega)
  have h32 : (nums .u8 ts).length = 32 := by rw [nums_length, hl]
  refine wpList_copy_own hgd x y 22 22 ho 5 Tryz.underlying22 u8_size g 4 32 32 ad ts.length c hd (hs.trans hv) F.arr 48 hF.blk (nums .u8 ts) (by rw [h32, hl]; rfl) hc (by rw [h32, Fr.arr_size F hF.tool]; omega) (nums_one _ _) ?_
  unfold wpList
  refine hQ _ _ (hK _ _ ?_ (Fr.only_row _ _ _))
  rw [if_pos hl]
  exact hF.tooled ts hl
 ·subst hl
  refine wpList_copy_nothing hgd x y 22 22 ho 5 Tryz.underlying22 u8_size (some ⟨g, 4, none⟩) A 32 32 0 c hd (hs.trans hv) rfl ?_
  unfold wpList
  exact hQ _ _ (hK _ 0 hF (Only.refl _ _))
section
variable {w : World} {r g n c : Nat} {A : Option Addr} {D : Rd}
theorem rawS_len {D D1 : Rd} {ts : List Int} (hok : D.ok) (h : rawS D 32 = (D1, ts)) : ts.length = 32 ∨ ts = [] := by
 unfold rawS at h
 split at h
 ·cases h; exact .inr rfl
 split at h
 ·cases h; exact .inr rfl
 split at h
 ·cases h; exact .inr rfl
 ·have := hok.2.1
  cases h
  left
  rw [List.length_take, List.length_drop]
  omega
set_option maxHeartbeats 8000000 in
set_option maxRecDepth 100000 in
theorem hello_read (h : RS w r A n c D) (hF : (kF 1).at_ 48 w g) (hs : ¬ rdf r A g) : Calls Tryz.prog 108 #[.pointer (some ⟨r, 0, none⟩), .pointer (some ⟨g, 0, none⟩)] w (KindPost w r g n c A D 1) := by
 go_enter Tryz.func108, Tryz.ntmps108
 go_wp2_with fail
 refine (part_any h 1 (by omega)).mono ?_
 rintro e w2 ⟨D1, v, HC, hR, ho, (⟨HV, rfl⟩ | ⟨HV, rfl⟩)⟩
 ·have hF2 := hF.only ho (notr hs)
  have q1 := hF2.c2
  have f1 := hF2.fz 2
  have ho2 := (Only.refl w (fun k => k = r ∨ k = g)).orr ho
  have hF3 := hF2.set2 (v : Int)
  have hR3 := hR.only (Fr.only_at w2 g 2 (.int .i64 (v : Int))) (sepg hs)
  have ho3 := ho2.org (Fr.only_at w2 g 2 (.int .i64 (v : Int)))
  clear hF hF2 hR ho ho2
  go_wp2_with fail
  generalize w2.setCell ⟨g, 2, none⟩ (.int .i64 (v : Int)) = w3 at *
  clear q1 f1
  refine (part_any hR3 64 (by omega)).mono ?_
  rintro e w4 ⟨D2, s, HC2, hR4, ho4, (⟨HV2, rfl⟩ | ⟨HV2, rfl⟩)⟩
  ·have hF4 := hF3.only ho4 (notr hs)
   have q1 := hF4.c3
   have f1 := hF4.fz 3
   have ho5 := ho3.orr ho4
   have hF5 := hF4.set3 (s : Int)
   have hR5 := hR4.only (Fr.only_at w4 g 3 (.int .i64 (s : Int))) (sepg hs)
   have ho6 := ho5.org (Fr.only_at w4 g 3 (.int .i64 (s : Int)))
   clear hF3 hF4 hR3 hR4 ho3 ho4 ho5
   go_wp2_with fail
   generalize w4.setCell ⟨g, 3, none⟩ (.int .i64 (s : Int)) = w5 at *
   clear q1 f1
   have hb5 : Below w5.heap.size w5 w5.drew := below_drew (Below.refl _ _)
   have hF6 := hF5.below hb5
   have hR6 := hR5.below hb5
   have ho7 := ho6.below hb5
   clear hF5 hR5 ho6 hb5
   have hc : Calls Tryz.prog 89 #[.pointer (some ⟨r, 0, none⟩), .int .i64 32] w5.drew fun e w' => ∃ v, e = .returned v ∧ ∃ D3 ts, Hid (rawS D2 32 = (D3, ts)) ∧ OB 5 w' w5.drew.heap.size v ts ∧ RS w' r A n c D3 ∧ Only w5.drew w' (fun k => k = r) :=
    (Raw_any hR6 32 (by omega)).mono (fun e w7 ⟨D3, v7, ts, he, h7⟩ => ⟨v7, he, D3, ts, h7⟩)
   have hok := hR6.ok
   go_region_law (first
    | (refine at_call ?_ ?_ hc ?_; kernel_rfl; go_simp; rintro v7 w7 ⟨D3, ts, HT, hO7, hR7, ho8⟩; have hF7 := hF6.only ho8 (notr hs); have ho9 := ho7.orr ho8; have hts := rawS_len hok HT.out; clear hF6 hR6 ho7 ho8)
    | (refine at_copy_tool (.tmp 17) (.tmp 19) rfl rfl rfl rfl hO7 hts hF7 ?_; intro w8 k8 hF8 ho8))
   have hR8 := hR7.only ho8 (sepg hs)
   have ho10 := ho9.org ho8
   have HK : Hid (kindS D 1 = (D3, ({ kF 1 with v := (v : Int), s := (s : Int), tool := if ts.length = 32 then ts else z32 } : Fr).core)) := Lib.hid (by
    show helloS D = _
    unfold helloS; rw [someS_some HC.out HV.out]; dsimp only; rw [someS_some HC2.out HV2.out]; dsimp only; rw [HT.out]; rfl)
   clear hc hO7 hR7 hF7 ho9 ho8 hts hok
   go_wp2_with fail
   exact bodyPost_end (v := .tuple #[]) (by simp [results, Tryz.results108, go_sem]) rfl (.inl ⟨D3, _, rfl, HK, hR8, hF8, ⟨hF8.tool, rt_none _ rfl rfl rfl⟩, OwnA.none _ _ ⟨rfl, rfl, rfl, rfl⟩, ho10⟩)
  ·have ho5 := ho3.orr ho4
   have hF4 := hF3.only ho4 (notr hs)
   have HK : Hid ((kindS D 1).1 = D1.fail 70 D1.at_) := Lib.hid (by
    have hbad : (D1.fail 70 D1.at_).why ≠ 0 := by show (70 : Int) ≠ 0; decide
    show (helloS D).1 = _
    have h0 := HV2.out.2
    subst h0
    unfold helloS; rw [someS_some HC.out HV.out]; dsimp only; rw [someS_none HC2.out HV2.out.1]; dsimp only; rw [rawS_bad hbad])
   clear hF3 hR3 ho3 hR4 ho4
   refine ⟨rfl, .inr ⟨_, ?_, ?_, hF4, ho5⟩⟩
   ·rw [HK.out]; rfl
   ·exact Lib.hid (by rw [HK.out]; rfl)
 ·have ho5 := (Only.refl w (fun k => k = r ∨ k = g)).orr ho
  have hF4 := hF.only ho (notr hs)
  have HK : Hid ((kindS D 1).1 = D.fail 70 D.at_) := Lib.hid (by
   have hbad : (D.fail 70 D.at_).why ≠ 0 := by show (70 : Int) ≠ 0; decide
   show (helloS D).1 = _
   have h0 := HV.out.2
   subst h0
   unfold helloS; rw [someS_none HC.out HV.out.1]; dsimp only; rw [someS_bad hbad]; dsimp only; rw [rawS_bad hbad])
  clear hF hR ho
  refine ⟨rfl, .inr ⟨_, ?_, ?_, hF4, ho5⟩⟩
  ·rw [HK.out]; rfl
  ·exact Lib.hid (by rw [HK.out]; rfl)
set_option maxHeartbeats 8000000 in
set_option maxRecDepth 100000 in
theorem request_read (h : RS w r A n c D) (hn : n ≤ 4398046511104) (hF : (kF 2).at_ 48 w g) (hs : ¬ rdf r A g) : Calls Tryz.prog 114 #[.pointer (some ⟨r, 0, none⟩), .pointer (some ⟨g, 0, none⟩)] w (KindPost w r g n c A D 2) := by
 go_enter Tryz.func114, Tryz.ntmps114
 have hoz := Only.refl w (fun k => k = r ∨ k = g)
 go_wp2_with fail
 refine (Uint_any h).mono ?_
 rintro e w2 ⟨D1, v1, rfl, H1, hR1a, ho1a⟩
 have hF1a := hF.only ho1a (notr hs)
 have q1 := hF1a.c1
 have f1 := hF1a.fz 1
 have ho1b := hoz.orr ho1a
 have hF1 := hF1a.set1 (v1 : Int)
 have hR1 := hR1a.only (Fr.only_at w2 g 1 (.int .u64 (v1 : Int))) (sepg hs)
 have ho1 := ho1b.org (Fr.only_at w2 g 1 (.int .u64 (v1 : Int)))
 clear h hF hoz hF1a hR1a ho1a ho1b
 go_wp2_with fail
 generalize w2.setCell ⟨g, 1, none⟩ (.int .u64 (v1 : Int)) = w3 at *
 clear q1 f1
 refine (Count_any hR1 2147483648 (by omega)).mono ?_
 rintro e w4 ⟨D2, v2, rfl, H2, hR2a, ho2a⟩
 have hF2a := hF1.only ho2a (notr hs)
 have q2 := hF2a.c37
 have f2 := hF2a.fz 37
 have ho2b := ho1.orr ho2a
 have hF2 := hF2a.set37 (v2 : Int)
 have hR2 := hR2a.only (Fr.only_at w4 g 37 (.int .i64 (v2 : Int))) (sepg hs)
 have ho2 := ho2b.org (Fr.only_at w4 g 37 (.int .i64 (v2 : Int)))
 clear hR1 hF1 ho1 hF2a hR2a ho2a ho2b
 go_wp2_with fail
 generalize w4.setCell ⟨g, 37, none⟩ (.int .i64 (v2 : Int)) = w5 at *
 clear q2 f2
 refine (Count_any hR2 2147483648 (by omega)).mono ?_
 rintro e w6 ⟨D3, v3, rfl, H3, hR3a, ho3a⟩
 have hF3a := hF2.only ho3a (notr hs)
 have q3 := hF3a.c38
 have f3 := hF3a.fz 38
 have ho3b := ho2.orr ho3a
 have hF3 := hF3a.set38 (v3 : Int)
 have hR3 := hR3a.only (Fr.only_at w6 g 38 (.int .i64 (v3 : Int))) (sepg hs)
 have ho3 := ho3b.org (Fr.only_at w6 g 38 (.int .i64 (v3 : Int)))
 clear hR2 hF2 ho2 hF3a hR3a ho3a ho3b
 go_wp2_with fail
 generalize w6.setCell ⟨g, 38, none⟩ (.int .i64 (v3 : Int)) = w7 at *
 clear q3 f3
 refine (Count_any hR3 2147483648 (by omega)).mono ?_
 rintro e w8 ⟨D4, v4, rfl, H4, hR4a, ho4a⟩
 have hF4a := hF3.only ho4a (notr hs)
 have q4 := hF4a.c39
 have f4 := hF4a.fz 39
 have ho4b := ho3.orr ho4a
 have hF4 := hF4a.set39 (v4 : Int)
 have hR4 := hR4a.only (Fr.only_at w8 g 39 (.int .i64 (v4 : Int))) (sepg hs)
 have ho4 := ho4b.org (Fr.only_at w8 g 39 (.int .i64 (v4 : Int)))
 clear hR3 hF3 ho3 hF4a hR4a ho4a ho4b
 go_wp2_with fail
 generalize w8.setCell ⟨g, 39, none⟩ (.int .i64 (v4 : Int)) = w9 at *
 clear q4 f4
 refine (List_any hR4 hn 8 4096 (by omega) (by omega)).mono ?_
 rintro e w10 ⟨D5, v5, l5, rfl, H5, hO5, hR5a, ho5a⟩
 obtain ⟨A5, c5, rfl, hT5, hc5, hA5⟩ := hO5.open_
 have hF5a := hF4.only ho5a (notr hs)
 have q5 := hF5a.c40
 have f5 := hF5a.fz 40
 have ho5b := ho4.orr ho5a
 have hF5 := hF5a.set40 A5 l5.length c5 l5
 have hR5 := hR5a.only (Fr.only_at w10 g 40 (.slice A5 l5.length c5)) (sepg hs)
 have ho5 := ho5b.org (Fr.only_at w10 g 40 (.slice A5 l5.length c5))
 have hb5 := ho4.size
 have hT5b := hT5.apart (Fr.only_at w10 g 40 (.slice A5 l5.length c5)) (fun a e hg => by have := (hA5 a e).1; have := hF4.lt; omega)
 replace hA5 : ∀ a, A5 = some a → w.heap.size ≤ a.block ∧ ¬ a.block = r ∧ ¬ a.block = g := fun a e => by
  have h1 := (hA5 a e).1
  have h2 := hF4.lt
  have h3 := lt_of_block hR4.rk
  exact ⟨by omega, by omega, by omega⟩
 have hO5b := ot_only hO5 (Fr.only_at w10 g 40 (.slice A5 l5.length c5)) (fun k hk e => by obtain ⟨a, e2, rfl⟩ := own_block_at hk; exact (hA5 a e2).2.2 e)
 replace hO5b := hO5b.less (Nat.le_trans hb5 (Nat.le_refl _))
 clear hO5 hT5
 clear hR4 hF4 ho4 hF5a hR5a ho5a ho5b
 go_wp2_with fail
 generalize w10.setCell ⟨g, 40, none⟩ (.slice A5 l5.length c5) = w11 at *
 clear q5 f5
 refine (Text_any hR5 2097152 (by omega)).mono ?_
 rintro e w12 ⟨D6, v6, rfl, H6, hR6a, ho6a⟩
 have hF6a := hF5.only ho6a (notr hs)
 have q6 := hF6a.c41
 have f6 := hF6a.fz 41
 have ho6b := ho5.orr ho6a
 have hF6 := hF6a.set41 v6
 have hR6 := hR6a.only (Fr.only_at w12 g 41 (.string v6)) (sepg hs)
 have ho6 := ho6b.org (Fr.only_at w12 g 41 (.string v6))
 have hT6 := (hT5b.apart ho6a (fun a e => (hA5 a e).2.1)).apart (Fr.only_at w12 g 41 (.string v6)) (fun a e => (hA5 a e).2.2)
 have hO6 := ot_only (ot_only hO5b ho6a (fun k hk e => by obtain ⟨a, e2, rfl⟩ := own_block_at hk; exact (hA5 a e2).2.1 e)) (Fr.only_at w12 g 41 (.string v6)) (fun k hk e => by obtain ⟨a, e2, rfl⟩ := own_block_at hk; exact (hA5 a e2).2.2 e)
 clear hR5 hF5 ho5 hF6a hR6a ho6a ho6b
 have HK : Hid (kindS D 2 = (D6, ({ kF 2 with id := (v1 : Int), mo := (v2 : Int), fu := (v3 : Int), di := (v4 : Int), A := A5, n := l5.length, c := c5, args := l5, body := v6 } : Fr).core)) := Lib.hid (by
  show requestS D = _
  unfold requestS; rw [H1.out]; dsimp only; rw [H2.out]; dsimp only; rw [H3.out]; dsimp only; rw [H4.out]; dsimp only; rw [H5.out]; dsimp only; rw [H6.out]; rfl)
 go_wp2_with fail
 exact bodyPost_end (v := .tuple #[]) (by simp [results, Tryz.results114, go_sem]) rfl (.inl ⟨D6, _, rfl, HK, hR6, hF6, ⟨rfl, hT6⟩, hO6, ho6⟩)
end
end Go.Proofs.YtpjpgcjhdbiepaaGreat
end
section
namespace Go.Proofs.YtpjpgcjhdbiepaaGreat
open Go.RowKit Go.Kit Go.Proofs.YtpjpgcjhdbiepaaGreatW.PrintWords

theorem event_eq {P : Program} {ops : Array Oper} {rest : List Oper} {o : Oper} {a : Act} {Q : Exit → Act → World → Prop} {W : World} (hgd : o.guard = none) (t u : TypeId) (x y : Operand) (ho : o.op = .binOp .eql t x y u)
  (X Y : Array Value) (b : Bool) (hx : a.eval x = .agg X) (hy : a.eval y = .agg Y) (hm : P.eqGuardType P.depth t = false) (he : (Op.equalIn 10000 t (.agg X) (.agg Y)).run P W = .ok b W)
  (h : wpList P ops Q rest (a.put o.dst (.bool b)) W) : wpList P ops Q (o :: rest) a W := by
 refine Kd.event_run hgd (w1 := W) (v := .bool b) ?_ h
 unfold execOp
 simp only [ho, hx, hy]
 simp [run_eqGuard_agg W .eql t x y X Y hm, run_eql_struct W t X Y, he]
theorem lim_eq3 (a b c x y z : Int) (W : World) : (Op.equalIn 10000 45 (.agg #[.int .i64 a, .int .i64 b, .int .i64 c]) (.agg #[.int .i64 x, .int .i64 y, .int .i64 z])).run Tryz.prog W = .ok (a == x && (b == y && c == z)) W := by
 cases h0 : a == x <;> cases h1 : b == y <;> cases h2 : c == z <;> go_simp
theorem lim_eq (f g : Fr) : ∀ W, (Op.equalIn 10000 45 (.agg f.lim.toArray) (.agg g.lim.toArray)).run Tryz.prog W = .ok (f.mo == g.mo && (f.fu == g.fu && f.di == g.di)) W := fun W => lim_eq3 _ _ _ _ _ _ W
theorem tool_eq (x y : List Int) (hx : x.length = 32) (hy : y.length = 32) : ∀ W, (Op.equalIn 10000 43 (.agg (nums .u8 x).toArray) (.agg (nums .u8 y).toArray)).run Tryz.prog W = .ok (decide (x = y)) W := by
 intro W
 obtain ⟨i0, hi, hz0, hz1, hz2⟩ := info_parts u8_info
 exact run_equalIn_nums (P := Tryz.prog) (w := W) 9998 x y Tryz.underlying43 hi hz1 Tryz.underlying5 hx hy
theorem tool_size (f : Fr) (h : f.tool.length = 32) : (Tryz.prog.info? 43).map (·.size) = some (nums .u8 f.tool).length := by
 rw [show (nums .u8 f.tool).length = 32 from by simp [nums, h]]; kernel_rfl
set_option maxHeartbeats 8000000 in
set_option maxRecDepth 100000 in
theorem Same_any (f g : Fr) (w : World) (hf : f.ok w) (hg : g.ok w) :
  Calls Tryz.prog 73 #[f.val, g.val] w fun e w' => ∃ t, e = .returned (.bool t) ∧ Hid (t = f.same g) ∧ Below w.heap.size w w' := by
 have hT := tool_eq f.tool g.tool hf.tool hg.tool
 have hL := lim_eq f g
 have hs4 := tool_size f hf.tool
 have ht4 := tool_size g hg.tool
 have hq4 : Tryz.prog.eqGuardType Tryz.prog.depth 43 = false := by kernel_rfl
 have hq37 : Tryz.prog.eqGuardType Tryz.prog.depth 45 = false := by kernel_rfl
 have hsz : (Tryz.prog.info? 45).map (·.size) = some 3 := by kernel_rfl
 show Calls Tryz.prog _ #[.agg f.arr, .agg g.arr] w _
 go_enter Tryz.func73, Tryz.ntmps73
 have hF : f.at_ 48 ((w.alloc (.cells f.arr 48)).alloc (.cells g.arr 48)) w.heap.size := Fr.at_.below ⟨heap_alloc_new w _, hf.tool⟩ (below_alloc (Below.refl _ _) _)
 have hG : g.at_ 48 ((w.alloc (.cells f.arr 48)).alloc (.cells g.arr 48)) (w.heap.size + 1) := ⟨by simpa using heap_alloc_new (w.alloc (.cells f.arr 48)) (.cells g.arr 48), hg.tool⟩
 have hb := below_alloc (below_alloc (Below.refl _ w) (.cells f.arr 48)) (.cells g.arr 48)
 go_upto_region 1 with (fail)
 generalize (w.alloc (.cells f.arr 48)).alloc (.cells g.arr 48) = w2 at *
 generalize w.heap.size + 1 = g2 at *
 have rL := hF.r4
 have rM := hG.r4
 have rX := hF.r37
 have rY := hG.r37
 have hs37 : (Tryz.prog.info? 45).map (·.size) = some f.lim.length := hsz
 have ht37 : (Tryz.prog.info? 45).map (·.size) = some g.lim.length := hsz
 generalize nums .u8 f.tool = L at hT rL hs4
 generalize nums .u8 g.tool = M at hT rM ht4
 generalize f.lim = X at hL rX hs37
 generalize g.lim = Y at hL rY ht37
 have hf2 := hf.args.below hb
 have hg2 := hg.args.below hb
 have ac0 := hF.c0
 have bc0 := hG.c0
 have ac1 := hF.c1
 have bc1 := hG.c1
 have ac2 := hF.c2
 have bc2 := hG.c2
 have ac3 := hF.c3
 have bc3 := hG.c3
 have ac36 := hF.c36
 have bc36 := hG.c36
 have ac40 := hF.c40
 have bc40 := hG.c40
 have ac41 := hF.c41
 have bc41 := hG.c41
 cases h0 : f.k == g.k with
 | false =>
  have HS : Hid (false = f.same g) := Lib.hid (by simp only [Fr.same, h0, Bool.false_and])
  go_wp2_with fail
  go_ret
  exact ⟨_, rfl, HS, hb⟩
 | true =>
 cases h1 : f.id == g.id with
 | false =>
  have HS : Hid (false = f.same g) := Lib.hid (by simp only [Fr.same, h0, h1, Bool.true_and, Bool.false_and])
  go_wp2_with fail
  go_ret
  exact ⟨_, rfl, HS, hb⟩
 | true =>
 cases h2 : f.v == g.v with
 | false =>
  have HS : Hid (false = f.same g) := Lib.hid (by simp only [Fr.same, h0, h1, h2, Bool.true_and, Bool.false_and])
  go_wp2_with fail
  go_ret
  exact ⟨_, rfl, HS, hb⟩
 | true =>
 cases h3 : f.s == g.s with
 | false =>
  have HS : Hid (false = f.same g) := Lib.hid (by simp only [Fr.same, h0, h1, h2, h3, Bool.true_and, Bool.false_and])
  go_wp2_with fail
  go_ret
  exact ⟨_, rfl, HS, hb⟩
 | true =>
 cases h4 : decide (f.tool = g.tool) with
 | false =>
  have HS : Hid (false = f.same g) := Lib.hid (by simp only [Fr.same, h0, h1, h2, h3, h4, Bool.true_and, Bool.false_and])
  rw [h4] at hT
  go_wp2_with (first | (with_reducible show wpList _ _ _ (Oper.mk (some 33) _ _ _ _ _ :: _) _ _; refine gate_guard rfl ?_; refine wpList_load_mid rfl 43 (.tmp 32) rfl w.heap.size 4 rfl L _ rL Tryz.underlying43 rfl hs4 ?_) | (with_reducible show wpList _ _ _ (Oper.mk (some 35) _ _ _ _ _ :: _) _ _; refine gate_guard rfl ?_; refine wpList_load_mid rfl 43 (.tmp 34) rfl g2 4 rfl M _ rM Tryz.underlying43 rfl ht4 ?_) | (with_reducible show wpList _ _ _ (Oper.mk (some 36) _ _ _ _ _ :: _) _ _; refine gate_guard rfl ?_; refine event_eq rfl 43 43 (.tmp 33) (.tmp 35) rfl L.toArray M.toArray _ rfl rfl hq4 (hT _) ?_))
  go_ret
  exact ⟨_, rfl, HS, hb⟩
 | true =>
 rw [h4] at hT
 cases h5 : f.st == g.st with
 | false =>
  have HS : Hid (false = f.same g) := Lib.hid (by simp only [Fr.same, h0, h1, h2, h3, h4, h5, Bool.true_and, Bool.false_and])
  go_wp2_with (first | (with_reducible show wpList _ _ _ (Oper.mk (some 33) _ _ _ _ _ :: _) _ _; refine gate_guard rfl ?_; refine wpList_load_mid rfl 43 (.tmp 32) rfl w.heap.size 4 rfl L _ rL Tryz.underlying43 rfl hs4 ?_) | (with_reducible show wpList _ _ _ (Oper.mk (some 35) _ _ _ _ _ :: _) _ _; refine gate_guard rfl ?_; refine wpList_load_mid rfl 43 (.tmp 34) rfl g2 4 rfl M _ rM Tryz.underlying43 rfl ht4 ?_) | (with_reducible show wpList _ _ _ (Oper.mk (some 36) _ _ _ _ _ :: _) _ _; refine gate_guard rfl ?_; refine event_eq rfl 43 43 (.tmp 33) (.tmp 35) rfl L.toArray M.toArray _ rfl rfl hq4 (hT _) ?_))
  go_ret
  exact ⟨_, rfl, HS, hb⟩
 | true =>
 cases h6 : (f.mo == g.mo && (f.fu == g.fu && f.di == g.di)) with
 | false =>
  have HS : Hid (false = f.same g) := Lib.hid (by simp only [Fr.same, h0, h1, h2, h3, h4, h5, h6, Bool.true_and, Bool.false_and])
  rw [h6] at hL
  go_wp2_with (first | (with_reducible show wpList _ _ _ (Oper.mk (some 33) _ _ _ _ _ :: _) _ _; refine gate_guard rfl ?_; refine wpList_load_mid rfl 43 (.tmp 32) rfl w.heap.size 4 rfl L _ rL Tryz.underlying43 rfl hs4 ?_) | (with_reducible show wpList _ _ _ (Oper.mk (some 35) _ _ _ _ _ :: _) _ _; refine gate_guard rfl ?_; refine wpList_load_mid rfl 43 (.tmp 34) rfl g2 4 rfl M _ rM Tryz.underlying43 rfl ht4 ?_) | (with_reducible show wpList _ _ _ (Oper.mk (some 36) _ _ _ _ _ :: _) _ _; refine gate_guard rfl ?_; refine event_eq rfl 43 43 (.tmp 33) (.tmp 35) rfl L.toArray M.toArray _ rfl rfl hq4 (hT _) ?_) | (with_reducible show wpList _ _ _ (Oper.mk (some 47) _ _ _ _ _ :: _) _ _; refine gate_guard rfl ?_; refine wpList_load_mid rfl 45 (.tmp 46) rfl w.heap.size 37 rfl X _ rX Tryz.underlying45 rfl hs37 ?_) | (with_reducible show wpList _ _ _ (Oper.mk (some 49) _ _ _ _ _ :: _) _ _; refine gate_guard rfl ?_; refine wpList_load_mid rfl 45 (.tmp 48) rfl g2 37 rfl Y _ rY Tryz.underlying45 rfl ht37 ?_) | (with_reducible show wpList _ _ _ (Oper.mk (some 50) _ _ _ _ _ :: _) _ _; refine gate_guard rfl ?_; refine event_eq rfl 45 45 (.tmp 47) (.tmp 49) rfl X.toArray Y.toArray _ rfl rfl hq37 (hL _) ?_))
  go_ret
  exact ⟨_, rfl, HS, hb⟩
 | true =>
 rw [h6] at hL
 go_wp2_with (first | (with_reducible show wpList _ _ _ (Oper.mk (some 33) _ _ _ _ _ :: _) _ _; refine gate_guard rfl ?_; refine wpList_load_mid rfl 43 (.tmp 32) rfl w.heap.size 4 rfl L _ rL Tryz.underlying43 rfl hs4 ?_) | (with_reducible show wpList _ _ _ (Oper.mk (some 35) _ _ _ _ _ :: _) _ _; refine gate_guard rfl ?_; refine wpList_load_mid rfl 43 (.tmp 34) rfl g2 4 rfl M _ rM Tryz.underlying43 rfl ht4 ?_) | (with_reducible show wpList _ _ _ (Oper.mk (some 36) _ _ _ _ _ :: _) _ _; refine gate_guard rfl ?_; refine event_eq rfl 43 43 (.tmp 33) (.tmp 35) rfl L.toArray M.toArray _ rfl rfl hq4 (hT _) ?_) | (with_reducible show wpList _ _ _ (Oper.mk (some 47) _ _ _ _ _ :: _) _ _; refine gate_guard rfl ?_; refine wpList_load_mid rfl 45 (.tmp 46) rfl w.heap.size 37 rfl X _ rX Tryz.underlying45 rfl hs37 ?_) | (with_reducible show wpList _ _ _ (Oper.mk (some 49) _ _ _ _ _ :: _) _ _; refine gate_guard rfl ?_; refine wpList_load_mid rfl 45 (.tmp 48) rfl g2 37 rfl Y _ rY Tryz.underlying45 rfl ht37 ?_) | (with_reducible show wpList _ _ _ (Oper.mk (some 50) _ _ _ _ _ :: _) _ _; refine gate_guard rfl ?_; refine event_eq rfl 45 45 (.tmp 47) (.tmp 49) rfl X.toArray Y.toArray _ rfl rfl hq37 (hL _) ?_))
 refine (SEq_any f.A g.A f.n g.n f.c g.c f.args g.args w2 hf2 hg2).mono ?_
 rintro e w3 ⟨t7, rfl, h7, hb7⟩
 have a41 := (hF.below hb7).c41
 have b41 := (hG.below hb7).c41
 replace hb := below_step hb hb7
 cases t7
 ·have HS : Hid (false = f.same g) := Lib.hid (by simp only [Fr.same, h0, h1, h2, h3, h4, h5, h6, ← h7.out, Bool.true_and, Bool.false_and])
  go_wp2_with fail
  go_ret
  exact ⟨_, rfl, HS, hb⟩
 ·have HS : Hid ((f.body.toList == g.body.toList) = f.same g) := Lib.hid (by simp only [Fr.same, h0, h1, h2, h3, h4, h5, h6, ← h7.out, Bool.true_and])
  go_wp2_with fail
  go_ret
  exact ⟨_, rfl, HS, hb⟩
set_option maxHeartbeats 8000000 in
set_option maxRecDepth 100000 in
theorem rSame_any (f g : Fr) (w : World) (hf : f.ok w) (hg : g.ok w) :
  Calls Tryz.prog 24 #[f.val, g.val] w fun e w' => ∃ t, e = .returned (.bool t) ∧ Hid (t = f.same g) ∧ Below w.heap.size w w' := by
 have hT := tool_eq f.tool g.tool hf.tool hg.tool
 have hL := lim_eq f g
 have hs4 := tool_size f hf.tool
 have ht4 := tool_size g hg.tool
 have hq4 : Tryz.prog.eqGuardType Tryz.prog.depth 43 = false := by kernel_rfl
 have hq37 : Tryz.prog.eqGuardType Tryz.prog.depth 45 = false := by kernel_rfl
 have hsz : (Tryz.prog.info? 45).map (·.size) = some 3 := by kernel_rfl
 show Calls Tryz.prog _ #[.agg f.arr, .agg g.arr] w _
 go_enter Tryz.func24, Tryz.ntmps24
 have hF : f.at_ 48 ((w.alloc (.cells f.arr 48)).alloc (.cells g.arr 48)) w.heap.size := Fr.at_.below ⟨heap_alloc_new w _, hf.tool⟩ (below_alloc (Below.refl _ _) _)
 have hG : g.at_ 48 ((w.alloc (.cells f.arr 48)).alloc (.cells g.arr 48)) (w.heap.size + 1) := ⟨by simpa using heap_alloc_new (w.alloc (.cells f.arr 48)) (.cells g.arr 48), hg.tool⟩
 have hb := below_alloc (below_alloc (Below.refl _ w) (.cells f.arr 48)) (.cells g.arr 48)
 go_upto_region 1 with (fail)
 generalize (w.alloc (.cells f.arr 48)).alloc (.cells g.arr 48) = w2 at *
 generalize w.heap.size + 1 = g2 at *
 have rL := hF.r4
 have rM := hG.r4
 have rX := hF.r37
 have rY := hG.r37
 have hs37 : (Tryz.prog.info? 45).map (·.size) = some f.lim.length := hsz
 have ht37 : (Tryz.prog.info? 45).map (·.size) = some g.lim.length := hsz
 generalize nums .u8 f.tool = L at hT rL hs4
 generalize nums .u8 g.tool = M at hT rM ht4
 generalize f.lim = X at hL rX hs37
 generalize g.lim = Y at hL rY ht37
 have hf2 := hf.args.below hb
 have hg2 := hg.args.below hb
 have ac0 := hF.c0
 have bc0 := hG.c0
 have ac1 := hF.c1
 have bc1 := hG.c1
 have ac2 := hF.c2
 have bc2 := hG.c2
 have ac3 := hF.c3
 have bc3 := hG.c3
 have ac36 := hF.c36
 have bc36 := hG.c36
 have ac40 := hF.c40
 have bc40 := hG.c40
 have ac41 := hF.c41
 have bc41 := hG.c41
 cases h0 : f.k == g.k with
 | false =>
  have HS : Hid (false = f.same g) := Lib.hid (by simp only [Fr.same, h0, Bool.false_and])
  go_wp2_with fail
  go_ret
  exact ⟨_, rfl, HS, hb⟩
 | true =>
 cases h1 : f.id == g.id with
 | false =>
  have HS : Hid (false = f.same g) := Lib.hid (by simp only [Fr.same, h0, h1, Bool.true_and, Bool.false_and])
  go_wp2_with fail
  go_ret
  exact ⟨_, rfl, HS, hb⟩
 | true =>
 cases h2 : f.v == g.v with
 | false =>
  have HS : Hid (false = f.same g) := Lib.hid (by simp only [Fr.same, h0, h1, h2, Bool.true_and, Bool.false_and])
  go_wp2_with fail
  go_ret
  exact ⟨_, rfl, HS, hb⟩
 | true =>
 cases h3 : f.s == g.s with
 | false =>
  have HS : Hid (false = f.same g) := Lib.hid (by simp only [Fr.same, h0, h1, h2, h3, Bool.true_and, Bool.false_and])
  go_wp2_with fail
  go_ret
  exact ⟨_, rfl, HS, hb⟩
 | true =>
 cases h4 : decide (f.tool = g.tool) with
 | false =>
  have HS : Hid (false = f.same g) := Lib.hid (by simp only [Fr.same, h0, h1, h2, h3, h4, Bool.true_and, Bool.false_and])
  rw [h4] at hT
  go_wp2_with (first | (with_reducible show wpList _ _ _ (Oper.mk (some 33) _ _ _ _ _ :: _) _ _; refine gate_guard rfl ?_; refine wpList_load_mid rfl 43 (.tmp 32) rfl w.heap.size 4 rfl L _ rL Tryz.underlying43 rfl hs4 ?_) | (with_reducible show wpList _ _ _ (Oper.mk (some 35) _ _ _ _ _ :: _) _ _; refine gate_guard rfl ?_; refine wpList_load_mid rfl 43 (.tmp 34) rfl g2 4 rfl M _ rM Tryz.underlying43 rfl ht4 ?_) | (with_reducible show wpList _ _ _ (Oper.mk (some 36) _ _ _ _ _ :: _) _ _; refine gate_guard rfl ?_; refine event_eq rfl 43 43 (.tmp 33) (.tmp 35) rfl L.toArray M.toArray _ rfl rfl hq4 (hT _) ?_))
  go_ret
  exact ⟨_, rfl, HS, hb⟩
 | true =>
 rw [h4] at hT
 cases h5 : f.st == g.st with
 | false =>
  have HS : Hid (false = f.same g) := Lib.hid (by simp only [Fr.same, h0, h1, h2, h3, h4, h5, Bool.true_and, Bool.false_and])
  go_wp2_with (first | (with_reducible show wpList _ _ _ (Oper.mk (some 33) _ _ _ _ _ :: _) _ _; refine gate_guard rfl ?_; refine wpList_load_mid rfl 43 (.tmp 32) rfl w.heap.size 4 rfl L _ rL Tryz.underlying43 rfl hs4 ?_) | (with_reducible show wpList _ _ _ (Oper.mk (some 35) _ _ _ _ _ :: _) _ _; refine gate_guard rfl ?_; refine wpList_load_mid rfl 43 (.tmp 34) rfl g2 4 rfl M _ rM Tryz.underlying43 rfl ht4 ?_) | (with_reducible show wpList _ _ _ (Oper.mk (some 36) _ _ _ _ _ :: _) _ _; refine gate_guard rfl ?_; refine event_eq rfl 43 43 (.tmp 33) (.tmp 35) rfl L.toArray M.toArray _ rfl rfl hq4 (hT _) ?_))
  go_ret
  exact ⟨_, rfl, HS, hb⟩
 | true =>
 cases h6 : (f.mo == g.mo && (f.fu == g.fu && f.di == g.di)) with
 | false =>
  have HS : Hid (false = f.same g) := Lib.hid (by simp only [Fr.same, h0, h1, h2, h3, h4, h5, h6, Bool.true_and, Bool.false_and])
  rw [h6] at hL
  go_wp2_with (first | (with_reducible show wpList _ _ _ (Oper.mk (some 33) _ _ _ _ _ :: _) _ _; refine gate_guard rfl ?_; refine wpList_load_mid rfl 43 (.tmp 32) rfl w.heap.size 4 rfl L _ rL Tryz.underlying43 rfl hs4 ?_) | (with_reducible show wpList _ _ _ (Oper.mk (some 35) _ _ _ _ _ :: _) _ _; refine gate_guard rfl ?_; refine wpList_load_mid rfl 43 (.tmp 34) rfl g2 4 rfl M _ rM Tryz.underlying43 rfl ht4 ?_) | (with_reducible show wpList _ _ _ (Oper.mk (some 36) _ _ _ _ _ :: _) _ _; refine gate_guard rfl ?_; refine event_eq rfl 43 43 (.tmp 33) (.tmp 35) rfl L.toArray M.toArray _ rfl rfl hq4 (hT _) ?_) | (with_reducible show wpList _ _ _ (Oper.mk (some 47) _ _ _ _ _ :: _) _ _; refine gate_guard rfl ?_; refine wpList_load_mid rfl 45 (.tmp 46) rfl w.heap.size 37 rfl X _ rX Tryz.underlying45 rfl hs37 ?_) | (with_reducible show wpList _ _ _ (Oper.mk (some 49) _ _ _ _ _ :: _) _ _; refine gate_guard rfl ?_; refine wpList_load_mid rfl 45 (.tmp 48) rfl g2 37 rfl Y _ rY Tryz.underlying45 rfl ht37 ?_) | (with_reducible show wpList _ _ _ (Oper.mk (some 50) _ _ _ _ _ :: _) _ _; refine gate_guard rfl ?_; refine event_eq rfl 45 45 (.tmp 47) (.tmp 49) rfl X.toArray Y.toArray _ rfl rfl hq37 (hL _) ?_))
  go_ret
  exact ⟨_, rfl, HS, hb⟩
 | true =>
 rw [h6] at hL
 go_wp2_with (first | (with_reducible show wpList _ _ _ (Oper.mk (some 33) _ _ _ _ _ :: _) _ _; refine gate_guard rfl ?_; refine wpList_load_mid rfl 43 (.tmp 32) rfl w.heap.size 4 rfl L _ rL Tryz.underlying43 rfl hs4 ?_) | (with_reducible show wpList _ _ _ (Oper.mk (some 35) _ _ _ _ _ :: _) _ _; refine gate_guard rfl ?_; refine wpList_load_mid rfl 43 (.tmp 34) rfl g2 4 rfl M _ rM Tryz.underlying43 rfl ht4 ?_) | (with_reducible show wpList _ _ _ (Oper.mk (some 36) _ _ _ _ _ :: _) _ _; refine gate_guard rfl ?_; refine event_eq rfl 43 43 (.tmp 33) (.tmp 35) rfl L.toArray M.toArray _ rfl rfl hq4 (hT _) ?_) | (with_reducible show wpList _ _ _ (Oper.mk (some 47) _ _ _ _ _ :: _) _ _; refine gate_guard rfl ?_; refine wpList_load_mid rfl 45 (.tmp 46) rfl w.heap.size 37 rfl X _ rX Tryz.underlying45 rfl hs37 ?_) | (with_reducible show wpList _ _ _ (Oper.mk (some 49) _ _ _ _ _ :: _) _ _; refine gate_guard rfl ?_; refine wpList_load_mid rfl 45 (.tmp 48) rfl g2 37 rfl Y _ rY Tryz.underlying45 rfl ht37 ?_) | (with_reducible show wpList _ _ _ (Oper.mk (some 50) _ _ _ _ _ :: _) _ _; refine gate_guard rfl ?_; refine event_eq rfl 45 45 (.tmp 47) (.tmp 49) rfl X.toArray Y.toArray _ rfl rfl hq37 (hL _) ?_))
 refine (RSame_any f.A g.A f.n g.n f.c g.c f.args g.args w2 hf2 hg2).mono ?_
 rintro e w3 ⟨t7, rfl, h7, hb7⟩
 have a41 := (hF.below hb7).c41
 have b41 := (hG.below hb7).c41
 replace hb := below_step hb hb7
 cases t7
 ·have HS : Hid (false = f.same g) := Lib.hid (by simp only [Fr.same, h0, h1, h2, h3, h4, h5, h6, ← h7.out, Bool.true_and, Bool.false_and])
  go_wp2_with fail
  go_ret
  exact ⟨_, rfl, HS, hb⟩
 ·have HS : Hid ((f.body.toList == g.body.toList) = f.same g) := Lib.hid (by simp only [Fr.same, h0, h1, h2, h3, h4, h5, h6, ← h7.out, Bool.true_and])
  go_wp2_with fail
  go_ret
  exact ⟨_, rfl, HS, hb⟩
end Go.Proofs.YtpjpgcjhdbiepaaGreat
end
section
namespace Go.Proofs.YtpjpgcjhdbiepaaGreat
open Go.RowKit Go.Kit Go.Proofs.YtpjpgcjhdbiepaaGreatW.PrintWords
def zero32 : List Int := List.replicate 32 0
def byeF : Fr := ⟨5, 0, 0, 0, zero32, 0, 0, 0, 0, none, 0, 0, [], ByteArray.empty⟩
def zeroF : Fr := ⟨0, 0, 0, 0, zero32, 0, 0, 0, 0, none, 0, 0, [], ByteArray.empty⟩
theorem frame_size : (Tryz.prog.info? 48).map (·.size) = some 42 := by kernel_rfl
theorem arr_one (f : Fr) : f.arr.all (·.oneCell') = true := by
 simp only [Fr.arr, Fr.cells, Fr.lim, List.all_toArray, List.all_append, Bool.and_eq_true, List.all_eq_true]
 refine ⟨?_, ?_, ?_, ?_, ?_⟩ <;> intro x hx
 ·simp at hx; rcases hx with rfl | rfl | rfl | rfl <;> rfl
 ·simp only [nums, List.mem_map] at hx; obtain ⟨q, _, rfl⟩ := hx; rfl
 all_goals simp at hx; rcases hx with rfl | rfl | rfl <;> rfl
theorem size_of (f : Fr) (h : f.tool.length = 32) : (Tryz.prog.info? 48).map (·.size) = some f.arr.size := by rw [frame_size, Fr.arr_size f h]
theorem built_of {w : World} {parts : Array (Nat × Value)} {cs : Array Value} (h : Tryz.prog.built 48 parts.toList = some cs) : (Instr.build 48 parts).run Tryz.prog w = .ok (.agg cs) w := run_build w _ _ _ h
structure Box (w w1 : World) (g : Nat) : Prop where
 blk : ∃ Z : Array Value, Z.size = 42 ∧ w1.heap[g]? = some (.cells Z 48 (0, 0))
 bel : Below w.heap.size w w1
 base : w.heap.size ≤ g
theorem box_of2 (w : World) (o : Obj) : Box w ((w.alloc o).alloc (.cells zeroF.arr 48)) (w.heap.size + 1) :=
 ⟨⟨zeroF.arr, by kernel_rfl, by simpa using heap_alloc_new (w.alloc o) (.cells zeroF.arr 48)⟩, below_alloc (below_alloc (Below.refl _ w) _) _, by omega⟩
attribute [-go_sem] Instr.build
attribute [-go_sem] Instr.loadAt
attribute [-go_sem] Instr.storeAt
end Go.Proofs.YtpjpgcjhdbiepaaGreat
end
section
namespace Go.Proofs.YtpjpgcjhdbiepaaGreat
open Go.RowKit Go.Kit Go.Proofs.YtpjpgcjhdbiepaaGreatW.PrintWords
attribute [-go_sem] Instr.build
def fnV (f : Nat) : Value := .func (.func f) #[] #[]
def layN (k : Int) : Nat := if k = 1 then 107 else if k = 2 then 111 else if k = 3 then 121 else if k = 4 then 125 else if k = 5 then 129 else 132
def readN (k : Int) : Nat := if k = 1 then 108 else if k = 2 then 114 else if k = 3 then 122 else if k = 4 then 126 else if k = 5 then 130 else 133
def onlyN (k : Int) : Nat := if k = 1 then 109 else if k = 2 then 117 else if k = 3 then 123 else if k = 4 then 127 else if k = 5 then 131 else 134
def mayN (k : Int) : Nat := if k = 1 then 110 else if k = 2 then 118 else if k = 3 then 124 else if k = 4 then 128 else if k = 5 then 128 else 128
def kV (k : Int) : Array Value := #[fnV (layN k), fnV (readN k), fnV (onlyN k), fnV (mayN k)]
theorem kind_size4 : (Tryz.prog.info? 142).map (·.size) = some 4 := by kernel_rfl
theorem kind_size {k : Int} : (Tryz.prog.info? 142).map (·.size) = some (kV k).size := kind_size4
theorem hello_row : kV 1 = #[fnV 107, fnV 108, fnV 109, fnV 110] := by simp [kV, layN, readN, onlyN, mayN]
set_option maxRecDepth 100000 in
theorem hello_kind (k : Int) (hk : k = 1) (w : World) : Calls Tryz.prog 93 #[] w fun e w' => e = .returned (.agg (kV k)) ∧ Below w.heap.size w w' := by
 subst hk
 rw [hello_row]
 obtain ⟨KK, hKK⟩ : ∃ KK : Array Value, #[.func (.func 107) #[] #[], .func (.func 108) #[] #[], .func (.func 109) #[] #[], .func (.func 110) #[] #[]] = KK := ⟨_, rfl⟩
 have hsz : (Tryz.prog.info? 142).map (·.size) = some KK.size := by rw [← hKK]; exact kind_size4
 have hone : KK.all (·.oneCell') = true := by rw [← hKK]; simp [Value.oneCell']
 have h4 : (#[.nilFunc, .nilFunc, .nilFunc, .nilFunc] : Array Value).size = KK.size := by rw [← hKK]; rfl
 have hbl : ∀ W : World, (Instr.build 142 #[(0, .func (.func 107) #[] #[]), (1, .func (.func 108) #[] #[]), (2, .func (.func 109) #[] #[]), (3, .func (.func 110) #[] #[])]).run Tryz.prog W = .ok (.agg KK) W := fun W => by rw [← hKK]; kernel_rfl
 show Calls Tryz.prog _ _ _ fun e w' => e = .returned (.agg #[.func (.func 107) #[] #[], .func (.func 108) #[] #[], .func (.func 109) #[] #[], .func (.func 110) #[] #[]]) ∧ _
 rw [hKK]
 clear hKK
 go_enter Tryz.func93, Tryz.ntmps93
 go_upto_region 1 with (fail)
 have hblk := heap_alloc_new w (.cells #[.nilFunc, .nilFunc, .nilFunc, .nilFunc] 142)
 have hbel := below_alloc (Below.refl w.heap.size w) (.cells #[.nilFunc, .nilFunc, .nilFunc, .nilFunc] 142)
 generalize w.alloc (.cells #[.nilFunc, .nilFunc, .nilFunc, .nilFunc] 142) = w1 at *
 go_wp2_with (with_reducible show wpList _ _ _ (Oper.mk none _ _ _ _ _ :: _) _ _; refine wpList_store_row rfl 142 (.tmp 0) (.tmp 1) rfl w.heap.size KK rfl rfl 142 _ hblk hsz h4 hone ?_)
 exact bodyPost_ret (v := .agg KK) (results_cell_row rfl _ _ w.heap.size 142 KK (0, 0) _ rfl (setRow_heap _ _ _ _ _ _ hblk) Tryz.underlying142 rfl hsz) rfl ⟨rfl, below_setRow hbel (Nat.le_refl _) _⟩
theorem request_row : kV 2 = #[fnV 111, fnV 114, fnV 117, fnV 118] := by simp [kV, layN, readN, onlyN, mayN]
set_option maxRecDepth 100000 in
theorem request_kind (k : Int) (hk : k = 2) (w : World) : Calls Tryz.prog 94 #[] w fun e w' => e = .returned (.agg (kV k)) ∧ Below w.heap.size w w' := by
 subst hk
 rw [request_row]
 obtain ⟨KK, hKK⟩ : ∃ KK : Array Value, #[.func (.func 111) #[] #[], .func (.func 114) #[] #[], .func (.func 117) #[] #[], .func (.func 118) #[] #[]] = KK := ⟨_, rfl⟩
 have hsz : (Tryz.prog.info? 142).map (·.size) = some KK.size := by rw [← hKK]; exact kind_size4
 have hone : KK.all (·.oneCell') = true := by rw [← hKK]; simp [Value.oneCell']
 have h4 : (#[.nilFunc, .nilFunc, .nilFunc, .nilFunc] : Array Value).size = KK.size := by rw [← hKK]; rfl
 have hbl : ∀ W : World, (Instr.build 142 #[(0, .func (.func 111) #[] #[]), (1, .func (.func 114) #[] #[]), (2, .func (.func 117) #[] #[]), (3, .func (.func 118) #[] #[])]).run Tryz.prog W = .ok (.agg KK) W := fun W => by rw [← hKK]; kernel_rfl
 show Calls Tryz.prog _ _ _ fun e w' => e = .returned (.agg #[.func (.func 111) #[] #[], .func (.func 114) #[] #[], .func (.func 117) #[] #[], .func (.func 118) #[] #[]]) ∧ _
 rw [hKK]
 clear hKK
 go_enter Tryz.func94, Tryz.ntmps94
 go_upto_region 1 with (fail)
 have hblk := heap_alloc_new w (.cells #[.nilFunc, .nilFunc, .nilFunc, .nilFunc] 142)
 have hbel := below_alloc (Below.refl w.heap.size w) (.cells #[.nilFunc, .nilFunc, .nilFunc, .nilFunc] 142)
 generalize w.alloc (.cells #[.nilFunc, .nilFunc, .nilFunc, .nilFunc] 142) = w1 at *
 go_wp2_with (with_reducible show wpList _ _ _ (Oper.mk none _ _ _ _ _ :: _) _ _; refine wpList_store_row rfl 142 (.tmp 0) (.tmp 1) rfl w.heap.size KK rfl rfl 142 _ hblk hsz h4 hone ?_)
 exact bodyPost_ret (v := .agg KK) (results_cell_row rfl _ _ w.heap.size 142 KK (0, 0) _ rfl (setRow_heap _ _ _ _ _ _ hblk) Tryz.underlying142 rfl hsz) rfl ⟨rfl, below_setRow hbel (Nat.le_refl _) _⟩
theorem response_row : kV 3 = #[fnV 121, fnV 122, fnV 123, fnV 124] := by simp [kV, layN, readN, onlyN, mayN]
set_option maxRecDepth 100000 in
theorem response_kind (k : Int) (hk : k = 3) (w : World) : Calls Tryz.prog 95 #[] w fun e w' => e = .returned (.agg (kV k)) ∧ Below w.heap.size w w' := by
 subst hk
 rw [response_row]
 obtain ⟨KK, hKK⟩ : ∃ KK : Array Value, #[.func (.func 121) #[] #[], .func (.func 122) #[] #[], .func (.func 123) #[] #[], .func (.func 124) #[] #[]] = KK := ⟨_, rfl⟩
 have hsz : (Tryz.prog.info? 142).map (·.size) = some KK.size := by rw [← hKK]; exact kind_size4
 have hone : KK.all (·.oneCell') = true := by rw [← hKK]; simp [Value.oneCell']
 have h4 : (#[.nilFunc, .nilFunc, .nilFunc, .nilFunc] : Array Value).size = KK.size := by rw [← hKK]; rfl
 have hbl : ∀ W : World, (Instr.build 142 #[(0, .func (.func 121) #[] #[]), (1, .func (.func 122) #[] #[]), (2, .func (.func 123) #[] #[]), (3, .func (.func 124) #[] #[])]).run Tryz.prog W = .ok (.agg KK) W := fun W => by rw [← hKK]; kernel_rfl
 show Calls Tryz.prog _ _ _ fun e w' => e = .returned (.agg #[.func (.func 121) #[] #[], .func (.func 122) #[] #[], .func (.func 123) #[] #[], .func (.func 124) #[] #[]]) ∧ _
 rw [hKK]
 clear hKK
 go_enter Tryz.func95, Tryz.ntmps95
 go_upto_region 1 with (fail)
 have hblk := heap_alloc_new w (.cells #[.nilFunc, .nilFunc, .nilFunc, .nilFunc] 142)
 have hbel := below_alloc (Below.refl w.heap.size w) (.cells #[.nilFunc, .nilFunc, .nilFunc, .nilFunc] 142)
 generalize w.alloc (.cells #[.nilFunc, .nilFunc, .nilFunc, .nilFunc] 142) = w1 at *
 go_wp2_with (with_reducible show wpList _ _ _ (Oper.mk none _ _ _ _ _ :: _) _ _; refine wpList_store_row rfl 142 (.tmp 0) (.tmp 1) rfl w.heap.size KK rfl rfl 142 _ hblk hsz h4 hone ?_)
 exact bodyPost_ret (v := .agg KK) (results_cell_row rfl _ _ w.heap.size 142 KK (0, 0) _ rfl (setRow_heap _ _ _ _ _ _ hblk) Tryz.underlying142 rfl hsz) rfl ⟨rfl, below_setRow hbel (Nat.le_refl _) _⟩
theorem cancel_row : kV 4 = #[fnV 125, fnV 126, fnV 127, fnV 128] := by simp [kV, layN, readN, onlyN, mayN]
set_option maxRecDepth 100000 in
theorem cancel_kind (k : Int) (hk : k = 4) (w : World) : Calls Tryz.prog 96 #[] w fun e w' => e = .returned (.agg (kV k)) ∧ Below w.heap.size w w' := by
 subst hk
 rw [cancel_row]
 obtain ⟨KK, hKK⟩ : ∃ KK : Array Value, #[.func (.func 125) #[] #[], .func (.func 126) #[] #[], .func (.func 127) #[] #[], .func (.func 128) #[] #[]] = KK := ⟨_, rfl⟩
 have hsz : (Tryz.prog.info? 142).map (·.size) = some KK.size := by rw [← hKK]; exact kind_size4
 have hone : KK.all (·.oneCell') = true := by rw [← hKK]; simp [Value.oneCell']
 have h4 : (#[.nilFunc, .nilFunc, .nilFunc, .nilFunc] : Array Value).size = KK.size := by rw [← hKK]; rfl
 have hbl : ∀ W : World, (Instr.build 142 #[(0, .func (.func 125) #[] #[]), (1, .func (.func 126) #[] #[]), (2, .func (.func 127) #[] #[]), (3, .func (.func 128) #[] #[])]).run Tryz.prog W = .ok (.agg KK) W := fun W => by rw [← hKK]; kernel_rfl
 show Calls Tryz.prog _ _ _ fun e w' => e = .returned (.agg #[.func (.func 125) #[] #[], .func (.func 126) #[] #[], .func (.func 127) #[] #[], .func (.func 128) #[] #[]]) ∧ _
 rw [hKK]
 clear hKK
 go_enter Tryz.func96, Tryz.ntmps96
 go_upto_region 1 with (fail)
 have hblk := heap_alloc_new w (.cells #[.nilFunc, .nilFunc, .nilFunc, .nilFunc] 142)
 have hbel := below_alloc (Below.refl w.heap.size w) (.cells #[.nilFunc, .nilFunc, .nilFunc, .nilFunc] 142)
 generalize w.alloc (.cells #[.nilFunc, .nilFunc, .nilFunc, .nilFunc] 142) = w1 at *
 go_wp2_with (with_reducible show wpList _ _ _ (Oper.mk none _ _ _ _ _ :: _) _ _; refine wpList_store_row rfl 142 (.tmp 0) (.tmp 1) rfl w.heap.size KK rfl rfl 142 _ hblk hsz h4 hone ?_)
 exact bodyPost_ret (v := .agg KK) (results_cell_row rfl _ _ w.heap.size 142 KK (0, 0) _ rfl (setRow_heap _ _ _ _ _ _ hblk) Tryz.underlying142 rfl hsz) rfl ⟨rfl, below_setRow hbel (Nat.le_refl _) _⟩
theorem bye_row : kV 5 = #[fnV 129, fnV 130, fnV 131, fnV 128] := by simp [kV, layN, readN, onlyN, mayN]
set_option maxRecDepth 100000 in
theorem bye_kind (k : Int) (hk : k = 5) (w : World) : Calls Tryz.prog 97 #[] w fun e w' => e = .returned (.agg (kV k)) ∧ Below w.heap.size w w' := by
 subst hk
 rw [bye_row]
 obtain ⟨KK, hKK⟩ : ∃ KK : Array Value, #[.func (.func 129) #[] #[], .func (.func 130) #[] #[], .func (.func 131) #[] #[], .func (.func 128) #[] #[]] = KK := ⟨_, rfl⟩
 have hsz : (Tryz.prog.info? 142).map (·.size) = some KK.size := by rw [← hKK]; exact kind_size4
 have hone : KK.all (·.oneCell') = true := by rw [← hKK]; simp [Value.oneCell']
 have h4 : (#[.nilFunc, .nilFunc, .nilFunc, .nilFunc] : Array Value).size = KK.size := by rw [← hKK]; rfl
 have hbl : ∀ W : World, (Instr.build 142 #[(0, .func (.func 129) #[] #[]), (1, .func (.func 130) #[] #[]), (2, .func (.func 131) #[] #[]), (3, .func (.func 128) #[] #[])]).run Tryz.prog W = .ok (.agg KK) W := fun W => by rw [← hKK]; kernel_rfl
 show Calls Tryz.prog _ _ _ fun e w' => e = .returned (.agg #[.func (.func 129) #[] #[], .func (.func 130) #[] #[], .func (.func 131) #[] #[], .func (.func 128) #[] #[]]) ∧ _
 rw [hKK]
 clear hKK
 go_enter Tryz.func97, Tryz.ntmps97
 go_upto_region 1 with (fail)
 have hblk := heap_alloc_new w (.cells #[.nilFunc, .nilFunc, .nilFunc, .nilFunc] 142)
 have hbel := below_alloc (Below.refl w.heap.size w) (.cells #[.nilFunc, .nilFunc, .nilFunc, .nilFunc] 142)
 generalize w.alloc (.cells #[.nilFunc, .nilFunc, .nilFunc, .nilFunc] 142) = w1 at *
 go_wp2_with (with_reducible show wpList _ _ _ (Oper.mk none _ _ _ _ _ :: _) _ _; refine wpList_store_row rfl 142 (.tmp 0) (.tmp 1) rfl w.heap.size KK rfl rfl 142 _ hblk hsz h4 hone ?_)
 exact bodyPost_ret (v := .agg KK) (results_cell_row rfl _ _ w.heap.size 142 KK (0, 0) _ rfl (setRow_heap _ _ _ _ _ _ hblk) Tryz.underlying142 rfl hsz) rfl ⟨rfl, below_setRow hbel (Nat.le_refl _) _⟩
theorem note_row : kV 6 = #[fnV 132, fnV 133, fnV 134, fnV 128] := by simp [kV, layN, readN, onlyN, mayN]
set_option maxRecDepth 100000 in
theorem note_kind (k : Int) (hk : k = 6) (w : World) : Calls Tryz.prog 98 #[] w fun e w' => e = .returned (.agg (kV k)) ∧ Below w.heap.size w w' := by
 subst hk
 rw [note_row]
 obtain ⟨KK, hKK⟩ : ∃ KK : Array Value, #[.func (.func 132) #[] #[], .func (.func 133) #[] #[], .func (.func 134) #[] #[], .func (.func 128) #[] #[]] = KK := ⟨_, rfl⟩
 have hsz : (Tryz.prog.info? 142).map (·.size) = some KK.size := by rw [← hKK]; exact kind_size4
 have hone : KK.all (·.oneCell') = true := by rw [← hKK]; simp [Value.oneCell']
 have h4 : (#[.nilFunc, .nilFunc, .nilFunc, .nilFunc] : Array Value).size = KK.size := by rw [← hKK]; rfl
 have hbl : ∀ W : World, (Instr.build 142 #[(0, .func (.func 132) #[] #[]), (1, .func (.func 133) #[] #[]), (2, .func (.func 134) #[] #[]), (3, .func (.func 128) #[] #[])]).run Tryz.prog W = .ok (.agg KK) W := fun W => by rw [← hKK]; kernel_rfl
 show Calls Tryz.prog _ _ _ fun e w' => e = .returned (.agg #[.func (.func 132) #[] #[], .func (.func 133) #[] #[], .func (.func 134) #[] #[], .func (.func 128) #[] #[]]) ∧ _
 rw [hKK]
 clear hKK
 go_enter Tryz.func98, Tryz.ntmps98
 go_upto_region 1 with (fail)
 have hblk := heap_alloc_new w (.cells #[.nilFunc, .nilFunc, .nilFunc, .nilFunc] 142)
 have hbel := below_alloc (Below.refl w.heap.size w) (.cells #[.nilFunc, .nilFunc, .nilFunc, .nilFunc] 142)
 generalize w.alloc (.cells #[.nilFunc, .nilFunc, .nilFunc, .nilFunc] 142) = w1 at *
 go_wp2_with (with_reducible show wpList _ _ _ (Oper.mk none _ _ _ _ _ :: _) _ _; refine wpList_store_row rfl 142 (.tmp 0) (.tmp 1) rfl w.heap.size KK rfl rfl 142 _ hblk hsz h4 hone ?_)
 exact bodyPost_ret (v := .agg KK) (results_cell_row rfl _ _ w.heap.size 142 KK (0, 0) _ rfl (setRow_heap _ _ _ _ _ _ hblk) Tryz.underlying142 rfl hsz) rfl ⟨rfl, below_setRow hbel (Nat.le_refl _) _⟩
end Go.Proofs.YtpjpgcjhdbiepaaGreat
end
section
namespace Go.Proofs.YtpjpgcjhdbiepaaGreat
open Go.RowKit Go.Kit Go.Proofs.YtpjpgcjhdbiepaaGreatW.PrintWords
theorem results_cell_row_tmp {P : Program} {fn : Func} {p u : Tmp} {ty : TypeId} (h : fn.results = #[.cell p ty, .tmp u]) (tmps : Array Value) (w : World) (g : Nat) (t : TypeId) (cs : Array Value) (fr : Nat × Nat) (d : TypeDesc)
  (hp : tmps.getD p undef = .pointer (some ⟨g, 0, none⟩)) (hg : w.heap[g]? = some (.cells cs t fr))
  (hu : P.underlying ty = some d) (hd : (match d with | .struct _ | .array _ _ => true | _ => false) = true) (hi : (P.info? ty).map (·.size) = some cs.size) (v : Value) (hv : tmps.getD u undef = v) :
  (results fn tmps).run P w = .ok (.tuple #[.agg cs, v]) w := by
 subst hv
 have hp' : tmps[p]?.getD undef = .pointer (some ⟨g, 0, none⟩) := by simpa using hp
 simp [results, h, hp', asAddr, run_loadVar_row w g t ty cs fr d hg hu hd hi]
theorem results_cell_row2 {P : Program} {fn : Func} {p q : Tmp} {ty ty2 : TypeId} (h : fn.results = #[.cell p ty, .cell q ty2]) (tmps : Array Value) (w : World) (g g2 : Nat) (t t2 : TypeId) (cs cs2 : Array Value) (fr fr2 : Nat × Nat) (d d2 : TypeDesc)
  (hp : tmps.getD p undef = .pointer (some ⟨g, 0, none⟩)) (hg : w.heap[g]? = some (.cells cs t fr))
  (hu : P.underlying ty = some d) (hd : (match d with | .struct _ | .array _ _ => true | _ => false) = true) (hi : (P.info? ty).map (·.size) = some cs.size)
  (hp2 : tmps.getD q undef = .pointer (some ⟨g2, 0, none⟩)) (hg2 : w.heap[g2]? = some (.cells cs2 t2 fr2))
  (hu2 : P.underlying ty2 = some d2) (hd2 : (match d2 with | .struct _ | .array _ _ => true | _ => false) = true) (hi2 : (P.info? ty2).map (·.size) = some cs2.size) :
  (results fn tmps).run P w = .ok (.tuple #[.agg cs, .agg cs2]) w := by
 have hp' : tmps[p]?.getD undef = .pointer (some ⟨g, 0, none⟩) := by simpa using hp
 have hp2' : tmps[q]?.getD undef = .pointer (some ⟨g2, 0, none⟩) := by simpa using hp2
 simp [results, h, hp', hp2', asAddr, run_loadVar_row w g t ty cs fr d hg hu hd hi, run_loadVar_row w g2 t2 ty2 cs2 fr2 d2 hg2 hu2 hd2 hi2]
theorem kind_one (k : Int) : (kV k).all (·.oneCell') = true := by unfold kV fnV; simp [Value.oneCell']
attribute [-go_sem] Instr.storeAt
set_option maxHeartbeats 1000000 in
set_option maxRecDepth 100000 in
theorem of_hello (k : Int) (hk : k = 1) (w : World) : Calls Tryz.prog 72 #[.int .i64 k] w fun e w' => e = .returned (.tuple #[.agg (kV k), .bool true]) ∧ Below w.heap.size w w' := by
 have hc := fun W => hello_kind k hk W
 have hsz := kind_size (k := k)
 have hone := kind_one k
 have h4 : (#[.nilFunc, .nilFunc, .nilFunc, .nilFunc] : Array Value).size = (kV k).size := rfl
 generalize kV k = KK at *
 subst hk
 go_enter Tryz.func72, Tryz.ntmps72
 have hblk : ((w.alloc (.cells #[.nilFunc, .nilFunc, .nilFunc, .nilFunc] 142)).alloc (.cells #[.func (.func 93) #[] #[], .func (.func 94) #[] #[], .func (.func 95) #[] #[], .func (.func 96) #[] #[], .func (.func 97) #[] #[], .func (.func 98) #[] #[]] 159)).heap[w.heap.size]? = some (.cells #[.nilFunc, .nilFunc, .nilFunc, .nilFunc] 142 (0, 0)) := (heap_alloc_old _ _ (by simp)).trans (heap_alloc_new w _)
 have hbel := below_alloc (below_alloc (Below.refl _ w) (.cells #[.nilFunc, .nilFunc, .nilFunc, .nilFunc] 142)) (.cells #[.func (.func 93) #[] #[], .func (.func 94) #[] #[], .func (.func 95) #[] #[], .func (.func 96) #[] #[], .func (.func 97) #[] #[], .func (.func 98) #[] #[]] 159)
 go_wp2_with fail
 refine (hc _).mono ?_
 rintro e w2 ⟨rfl, hb2⟩
 have hblk2 := (hb2.block _ (lt_of_block hblk)).trans hblk
 have hb3 := below_step hbel hb2
 clear hblk hbel hb2 hc
 go_wp2_with (with_reducible show wpList _ _ _ (Oper.mk none _ _ _ _ _ :: _) _ _; refine wpList_store_row rfl 142 (.tmp 2) (.tmp 20) rfl w.heap.size KK rfl rfl 142 _ hblk2 hsz h4 hone ?_)
 exact bodyPost_ret (v := .tuple #[.agg KK, .bool true]) (results_cell_row_tmp rfl _ _ w.heap.size 142 KK (0, 0) _ rfl (setRow_heap _ _ _ _ _ _ hblk2) Tryz.underlying142 rfl hsz _ rfl) rfl ⟨rfl, below_setRow hb3 (Nat.le_refl _) _⟩
set_option maxHeartbeats 1000000 in
set_option maxRecDepth 100000 in
theorem of_request (k : Int) (hk : k = 2) (w : World) : Calls Tryz.prog 72 #[.int .i64 k] w fun e w' => e = .returned (.tuple #[.agg (kV k), .bool true]) ∧ Below w.heap.size w w' := by
 have hc := fun W => request_kind k hk W
 have hsz := kind_size (k := k)
 have hone := kind_one k
 have h4 : (#[.nilFunc, .nilFunc, .nilFunc, .nilFunc] : Array Value).size = (kV k).size := rfl
 generalize kV k = KK at *
 subst hk
 go_enter Tryz.func72, Tryz.ntmps72
 have hblk : ((w.alloc (.cells #[.nilFunc, .nilFunc, .nilFunc, .nilFunc] 142)).alloc (.cells #[.func (.func 93) #[] #[], .func (.func 94) #[] #[], .func (.func 95) #[] #[], .func (.func 96) #[] #[], .func (.func 97) #[] #[], .func (.func 98) #[] #[]] 159)).heap[w.heap.size]? = some (.cells #[.nilFunc, .nilFunc, .nilFunc, .nilFunc] 142 (0, 0)) := (heap_alloc_old _ _ (by simp)).trans (heap_alloc_new w _)
 have hbel := below_alloc (below_alloc (Below.refl _ w) (.cells #[.nilFunc, .nilFunc, .nilFunc, .nilFunc] 142)) (.cells #[.func (.func 93) #[] #[], .func (.func 94) #[] #[], .func (.func 95) #[] #[], .func (.func 96) #[] #[], .func (.func 97) #[] #[], .func (.func 98) #[] #[]] 159)
 go_wp2_with fail
 refine (hc _).mono ?_
 rintro e w2 ⟨rfl, hb2⟩
 have hblk2 := (hb2.block _ (lt_of_block hblk)).trans hblk
 have hb3 := below_step hbel hb2
 clear hblk hbel hb2 hc
 go_wp2_with (with_reducible show wpList _ _ _ (Oper.mk none _ _ _ _ _ :: _) _ _; refine wpList_store_row rfl 142 (.tmp 2) (.tmp 20) rfl w.heap.size KK rfl rfl 142 _ hblk2 hsz h4 hone ?_)
 exact bodyPost_ret (v := .tuple #[.agg KK, .bool true]) (results_cell_row_tmp rfl _ _ w.heap.size 142 KK (0, 0) _ rfl (setRow_heap _ _ _ _ _ _ hblk2) Tryz.underlying142 rfl hsz _ rfl) rfl ⟨rfl, below_setRow hb3 (Nat.le_refl _) _⟩
set_option maxHeartbeats 1000000 in
set_option maxRecDepth 100000 in
theorem of_response (k : Int) (hk : k = 3) (w : World) : Calls Tryz.prog 72 #[.int .i64 k] w fun e w' => e = .returned (.tuple #[.agg (kV k), .bool true]) ∧ Below w.heap.size w w' := by
 have hc := fun W => response_kind k hk W
 have hsz := kind_size (k := k)
 have hone := kind_one k
 have h4 : (#[.nilFunc, .nilFunc, .nilFunc, .nilFunc] : Array Value).size = (kV k).size := rfl
 generalize kV k = KK at *
 subst hk
 go_enter Tryz.func72, Tryz.ntmps72
 have hblk : ((w.alloc (.cells #[.nilFunc, .nilFunc, .nilFunc, .nilFunc] 142)).alloc (.cells #[.func (.func 93) #[] #[], .func (.func 94) #[] #[], .func (.func 95) #[] #[], .func (.func 96) #[] #[], .func (.func 97) #[] #[], .func (.func 98) #[] #[]] 159)).heap[w.heap.size]? = some (.cells #[.nilFunc, .nilFunc, .nilFunc, .nilFunc] 142 (0, 0)) := (heap_alloc_old _ _ (by simp)).trans (heap_alloc_new w _)
 have hbel := below_alloc (below_alloc (Below.refl _ w) (.cells #[.nilFunc, .nilFunc, .nilFunc, .nilFunc] 142)) (.cells #[.func (.func 93) #[] #[], .func (.func 94) #[] #[], .func (.func 95) #[] #[], .func (.func 96) #[] #[], .func (.func 97) #[] #[], .func (.func 98) #[] #[]] 159)
 go_wp2_with fail
 refine (hc _).mono ?_
 rintro e w2 ⟨rfl, hb2⟩
 have hblk2 := (hb2.block _ (lt_of_block hblk)).trans hblk
 have hb3 := below_step hbel hb2
 clear hblk hbel hb2 hc
 go_wp2_with (with_reducible show wpList _ _ _ (Oper.mk none _ _ _ _ _ :: _) _ _; refine wpList_store_row rfl 142 (.tmp 2) (.tmp 20) rfl w.heap.size KK rfl rfl 142 _ hblk2 hsz h4 hone ?_)
 exact bodyPost_ret (v := .tuple #[.agg KK, .bool true]) (results_cell_row_tmp rfl _ _ w.heap.size 142 KK (0, 0) _ rfl (setRow_heap _ _ _ _ _ _ hblk2) Tryz.underlying142 rfl hsz _ rfl) rfl ⟨rfl, below_setRow hb3 (Nat.le_refl _) _⟩
set_option maxHeartbeats 1000000 in
set_option maxRecDepth 100000 in
theorem of_cancel (k : Int) (hk : k = 4) (w : World) : Calls Tryz.prog 72 #[.int .i64 k] w fun e w' => e = .returned (.tuple #[.agg (kV k), .bool true]) ∧ Below w.heap.size w w' := by
 have hc := fun W => cancel_kind k hk W
 have hsz := kind_size (k := k)
 have hone := kind_one k
 have h4 : (#[.nilFunc, .nilFunc, .nilFunc, .nilFunc] : Array Value).size = (kV k).size := rfl
 generalize kV k = KK at *
 subst hk
 go_enter Tryz.func72, Tryz.ntmps72
 have hblk : ((w.alloc (.cells #[.nilFunc, .nilFunc, .nilFunc, .nilFunc] 142)).alloc (.cells #[.func (.func 93) #[] #[], .func (.func 94) #[] #[], .func (.func 95) #[] #[], .func (.func 96) #[] #[], .func (.func 97) #[] #[], .func (.func 98) #[] #[]] 159)).heap[w.heap.size]? = some (.cells #[.nilFunc, .nilFunc, .nilFunc, .nilFunc] 142 (0, 0)) := (heap_alloc_old _ _ (by simp)).trans (heap_alloc_new w _)
 have hbel := below_alloc (below_alloc (Below.refl _ w) (.cells #[.nilFunc, .nilFunc, .nilFunc, .nilFunc] 142)) (.cells #[.func (.func 93) #[] #[], .func (.func 94) #[] #[], .func (.func 95) #[] #[], .func (.func 96) #[] #[], .func (.func 97) #[] #[], .func (.func 98) #[] #[]] 159)
 go_wp2_with fail
 refine (hc _).mono ?_
 rintro e w2 ⟨rfl, hb2⟩
 have hblk2 := (hb2.block _ (lt_of_block hblk)).trans hblk
 have hb3 := below_step hbel hb2
 clear hblk hbel hb2 hc
 go_wp2_with (with_reducible show wpList _ _ _ (Oper.mk none _ _ _ _ _ :: _) _ _; refine wpList_store_row rfl 142 (.tmp 2) (.tmp 20) rfl w.heap.size KK rfl rfl 142 _ hblk2 hsz h4 hone ?_)
 exact bodyPost_ret (v := .tuple #[.agg KK, .bool true]) (results_cell_row_tmp rfl _ _ w.heap.size 142 KK (0, 0) _ rfl (setRow_heap _ _ _ _ _ _ hblk2) Tryz.underlying142 rfl hsz _ rfl) rfl ⟨rfl, below_setRow hb3 (Nat.le_refl _) _⟩
set_option maxHeartbeats 1000000 in
set_option maxRecDepth 100000 in
theorem of_bye (k : Int) (hk : k = 5) (w : World) : Calls Tryz.prog 72 #[.int .i64 k] w fun e w' => e = .returned (.tuple #[.agg (kV k), .bool true]) ∧ Below w.heap.size w w' := by
 have hc := fun W => bye_kind k hk W
 have hsz := kind_size (k := k)
 have hone := kind_one k
 have h4 : (#[.nilFunc, .nilFunc, .nilFunc, .nilFunc] : Array Value).size = (kV k).size := rfl
 generalize kV k = KK at *
 subst hk
 go_enter Tryz.func72, Tryz.ntmps72
 have hblk : ((w.alloc (.cells #[.nilFunc, .nilFunc, .nilFunc, .nilFunc] 142)).alloc (.cells #[.func (.func 93) #[] #[], .func (.func 94) #[] #[], .func (.func 95) #[] #[], .func (.func 96) #[] #[], .func (.func 97) #[] #[], .func (.func 98) #[] #[]] 159)).heap[w.heap.size]? = some (.cells #[.nilFunc, .nilFunc, .nilFunc, .nilFunc] 142 (0, 0)) := (heap_alloc_old _ _ (by simp)).trans (heap_alloc_new w _)
 have hbel := below_alloc (below_alloc (Below.refl _ w) (.cells #[.nilFunc, .nilFunc, .nilFunc, .nilFunc] 142)) (.cells #[.func (.func 93) #[] #[], .func (.func 94) #[] #[], .func (.func 95) #[] #[], .func (.func 96) #[] #[], .func (.func 97) #[] #[], .func (.func 98) #[] #[]] 159)
 go_wp2_with fail
 refine (hc _).mono ?_
 rintro e w2 ⟨rfl, hb2⟩
 have hblk2 := (hb2.block _ (lt_of_block hblk)).trans hblk
 have hb3 := below_step hbel hb2
 clear hblk hbel hb2 hc
 go_wp2_with (with_reducible show wpList _ _ _ (Oper.mk none _ _ _ _ _ :: _) _ _; refine wpList_store_row rfl 142 (.tmp 2) (.tmp 20) rfl w.heap.size KK rfl rfl 142 _ hblk2 hsz h4 hone ?_)
 exact bodyPost_ret (v := .tuple #[.agg KK, .bool true]) (results_cell_row_tmp rfl _ _ w.heap.size 142 KK (0, 0) _ rfl (setRow_heap _ _ _ _ _ _ hblk2) Tryz.underlying142 rfl hsz _ rfl) rfl ⟨rfl, below_setRow hb3 (Nat.le_refl _) _⟩
set_option maxHeartbeats 1000000 in
set_option maxRecDepth 100000 in
theorem of_note (k : Int) (hk : k = 6) (w : World) : Calls Tryz.prog 72 #[.int .i64 k] w fun e w' => e = .returned (.tuple #[.agg (kV k), .bool true]) ∧ Below w.heap.size w w' := by
 have hc := fun W => note_kind k hk W
 have hsz := kind_size (k := k)
 have hone := kind_one k
 have h4 : (#[.nilFunc, .nilFunc, .nilFunc, .nilFunc] : Array Value).size = (kV k).size := rfl
 generalize kV k = KK at *
 subst hk
 go_enter Tryz.func72, Tryz.ntmps72
 have hblk : ((w.alloc (.cells #[.nilFunc, .nilFunc, .nilFunc, .nilFunc] 142)).alloc (.cells #[.func (.func 93) #[] #[], .func (.func 94) #[] #[], .func (.func 95) #[] #[], .func (.func 96) #[] #[], .func (.func 97) #[] #[], .func (.func 98) #[] #[]] 159)).heap[w.heap.size]? = some (.cells #[.nilFunc, .nilFunc, .nilFunc, .nilFunc] 142 (0, 0)) := (heap_alloc_old _ _ (by simp)).trans (heap_alloc_new w _)
 have hbel := below_alloc (below_alloc (Below.refl _ w) (.cells #[.nilFunc, .nilFunc, .nilFunc, .nilFunc] 142)) (.cells #[.func (.func 93) #[] #[], .func (.func 94) #[] #[], .func (.func 95) #[] #[], .func (.func 96) #[] #[], .func (.func 97) #[] #[], .func (.func 98) #[] #[]] 159)
 go_wp2_with fail
 refine (hc _).mono ?_
 rintro e w2 ⟨rfl, hb2⟩
 have hblk2 := (hb2.block _ (lt_of_block hblk)).trans hblk
 have hb3 := below_step hbel hb2
 clear hblk hbel hb2 hc
 go_wp2_with (with_reducible show wpList _ _ _ (Oper.mk none _ _ _ _ _ :: _) _ _; refine wpList_store_row rfl 142 (.tmp 2) (.tmp 20) rfl w.heap.size KK rfl rfl 142 _ hblk2 hsz h4 hone ?_)
 exact bodyPost_ret (v := .tuple #[.agg KK, .bool true]) (results_cell_row_tmp rfl _ _ w.heap.size 142 KK (0, 0) _ rfl (setRow_heap _ _ _ _ _ _ hblk2) Tryz.underlying142 rfl hsz _ rfl) rfl ⟨rfl, below_setRow hb3 (Nat.le_refl _) _⟩
theorem of_any (k : Int) (h1 : 1 ≤ k) (h6 : k ≤ 6) (w : World) : Calls Tryz.prog 72 #[.int .i64 k] w fun e w' => e = .returned (.tuple #[.agg (kV k), .bool true]) ∧ Below w.heap.size w w' := by
 rcases (by omega : k = 1 ∨ k = 2 ∨ k = 3 ∨ k = 4 ∨ k = 5 ∨ k = 6) with h | h | h | h | h | h
 ·exact of_hello k h w
 ·exact of_request k h w
 ·exact of_response k h w
 ·exact of_cancel k h w
 ·exact of_bye k h w
 ·exact of_note k h w
set_option maxHeartbeats 1000000 in
set_option maxRecDepth 100000 in
theorem of_bad (k : Int) (hk : k < 1 ∨ 6 < k) (w : World) : Calls Tryz.prog 72 #[.int .i64 k] w fun e w' => e = .returned (.tuple #[.agg #[.nilFunc, .nilFunc, .nilFunc, .nilFunc], .bool false]) ∧ Below w.heap.size w w' := by
 have hsz : (Tryz.prog.info? 142).map (·.size) = some (#[.nilFunc, .nilFunc, .nilFunc, .nilFunc] : Array Value).size := kind_size4
 have hbl : ∀ W : World, (Instr.build 142 #[]).run Tryz.prog W = .ok (.agg #[.nilFunc, .nilFunc, .nilFunc, .nilFunc]) W := fun W => by kernel_rfl
 have hbel := below_alloc (below_alloc (Below.refl _ w) (.cells #[.nilFunc, .nilFunc, .nilFunc, .nilFunc] 142)) (.cells #[.func (.func 93) #[] #[], .func (.func 94) #[] #[], .func (.func 95) #[] #[], .func (.func 96) #[] #[], .func (.func 97) #[] #[], .func (.func 98) #[] #[]] 159)
 have hblk : ((w.alloc (.cells #[.nilFunc, .nilFunc, .nilFunc, .nilFunc] 142)).alloc (.cells #[.func (.func 93) #[] #[], .func (.func 94) #[] #[], .func (.func 95) #[] #[], .func (.func 96) #[] #[], .func (.func 97) #[] #[], .func (.func 98) #[] #[]] 159)).heap[w.heap.size]? = some (.cells #[.nilFunc, .nilFunc, .nilFunc, .nilFunc] 142 (0, 0)) := (heap_alloc_old _ _ (by simp)).trans (heap_alloc_new w _)
 by_cases h1 : k < 1
 all_goals
  have h6 : ¬ k < 1 → k > 6 := fun h => by omega
  try have h6 := h6 h1
  clear hk
  go_enter Tryz.func72, Tryz.ntmps72
  go_upto_region 3 with (fail)
  generalize ((w.alloc (.cells #[.nilFunc, .nilFunc, .nilFunc, .nilFunc] 142)).alloc (.cells #[.func (.func 93) #[] #[], .func (.func 94) #[] #[], .func (.func 95) #[] #[], .func (.func 96) #[] #[], .func (.func 97) #[] #[], .func (.func 98) #[] #[]] 159)) = w1 at *
  go_wp2_with (with_reducible show wpList _ _ _ (Oper.mk none _ _ _ _ _ :: _) _ _; refine wpList_store_row rfl 142 (.tmp 2) (.tmp 14) rfl w.heap.size #[.nilFunc, .nilFunc, .nilFunc, .nilFunc] rfl rfl 142 _ hblk hsz rfl (by simp [Value.oneCell']) ?_)
  exact bodyPost_ret (v := .tuple #[.agg #[.nilFunc, .nilFunc, .nilFunc, .nilFunc], .bool false]) (results_cell_row_tmp rfl _ _ w.heap.size 142 #[.nilFunc, .nilFunc, .nilFunc, .nilFunc] (0, 0) _ rfl (setRow_heap _ _ _ _ _ _ hblk) Tryz.underlying142 rfl hsz _ rfl) rfl ⟨rfl, below_setRow hbel (Nat.le_refl _) _⟩
end Go.Proofs.YtpjpgcjhdbiepaaGreat
end
section
namespace Go.Proofs.YtpjpgcjhdbiepaaGreat
open Go.RowKit Go.Kit Go.Proofs.YtpjpgcjhdbiepaaGreatW.PrintWords
theorem sameT_self (l : List ByteArray) : sameT l l = true := decide_eq_true rfl
theorem same_self (f : Fr) : f.same f = true := by simp [Fr.same, sameT_self]
theorem beq_sym (a b : Int) : (a == b) = (b == a) := by rw [Bool.eq_iff_iff, beq_iff_eq, beq_iff_eq]; exact eq_comm
theorem same_sym (f g : Fr) : f.same g = g.same f := by
 have h1 : decide (f.tool = g.tool) = decide (g.tool = f.tool) := by rw [decide_eq_decide]; exact eq_comm
 have h2 : sameT f.args g.args = sameT g.args f.args := by unfold sameT; rw [decide_eq_decide]; exact eq_comm
 have h3 : (f.body.toList == g.body.toList) = (g.body.toList == f.body.toList) := by rw [Bool.eq_iff_iff, beq_iff_eq, beq_iff_eq]; exact eq_comm
 unfold Fr.same
 rw [h1, h2, h3, beq_sym f.k, beq_sym f.id, beq_sym f.v, beq_sym f.s, beq_sym f.st, beq_sym f.mo, beq_sym f.fu, beq_sym f.di]
theorem Same_is (f g : Fr) (s : Bool) (h : f.same g = s) (w : World) (hf : f.ok w) (hg : g.ok w) :
  Calls Tryz.prog 73 #[f.val, g.val] w fun e w' => e = .returned (.bool s) ∧ Below w.heap.size w w' :=
 (Same_any f g w hf hg).mono fun e w' ⟨t, he, ht, hb⟩ => ⟨by rw [he, ht.out, h], hb⟩
theorem rSame_is (f g : Fr) (s : Bool) (h : f.same g = s) (w : World) (hf : f.ok w) (hg : g.ok w) :
  Calls Tryz.prog 24 #[f.val, g.val] w fun e w' => e = .returned (.bool s) ∧ Below w.heap.size w w' :=
 (rSame_any f g w hf hg).mono fun e w' ⟨t, he, ht, hb⟩ => ⟨by rw [he, ht.out, h], hb⟩
theorem load_frame (f : Fr) (hi : (Tryz.prog.info? 48).map (·.size) = some f.cells.length) (W : World) (ga : Nat) (h : f.at_ 48 W ga) :
  (Instr.loadAt 48 (.pointer (some ⟨ga, 0, none⟩))).run Tryz.prog W = .ok (.agg f.arr) W :=
 run_loadAt_mid W ga 0 48 f.cells _ (h.range 0 _ (fun j v h => by rw [Nat.zero_add]; exact h)) Tryz.underlying48 rfl hi
attribute [-go_sem] Instr.loadAt
end Go.Proofs.YtpjpgcjhdbiepaaGreat
end
section
namespace Go.Proofs.YtpjpgcjhdbiepaaGreat
open Go.RowKit Go.Kit Go.Proofs.YtpjpgcjhdbiepaaGreatW.PrintWords
attribute [-go_sem] Instr.build
def only1 (f : Fr) : Fr := ⟨0, 0, f.v, f.s, f.tool, 0, 0, 0, 0, none, 0, 0, [], ByteArray.empty⟩
def only2 (f : Fr) : Fr := ⟨0, f.id, 0, 0, z32, 0, f.mo, f.fu, f.di, f.A, f.n, f.c, f.args, f.body⟩
def only3 (f : Fr) : Fr := ⟨0, f.id, 0, 0, z32, f.st, 0, 0, 0, none, 0, 0, [], f.body⟩
def only4 (f : Fr) : Fr := ⟨0, f.id, 0, 0, z32, 0, 0, 0, 0, none, 0, 0, [], ByteArray.empty⟩
def only6 (f : Fr) : Fr := ⟨0, 0, 0, 0, z32, 0, 0, 0, 0, none, 0, 0, [], f.body⟩
def onlyG (k : Int) (f : Fr) : Fr := if k = 1 then only1 f else if k = 2 then only2 f else if k = 3 then only3 f else if k = 4 then only4 f else if k = 5 then noF else only6 f
theorem tool_at {W : World} {g : Nat} {f : Fr} (h : f.at_ 48 W g) : (Instr.loadAt 43 (.pointer (some ⟨g, 4, none⟩))).run Tryz.prog W = .ok (.agg (nums .u8 f.tool).toArray) W :=
 run_loadAt_mid W g 4 43 (nums .u8 f.tool) _ h.r4 Tryz.underlying43 rfl (tool_size f h.tool)
theorem lim_at {W : World} {g : Nat} {f : Fr} (h : f.at_ 48 W g) : (Instr.loadAt 45 (.pointer (some ⟨g, 37, none⟩))).run Tryz.prog W = .ok (.agg f.lim.toArray) W :=
 run_loadAt_mid W g 37 45 f.lim _ h.r37 Tryz.underlying45 rfl (by kernel_rfl)
theorem hello_obuilt (f : Fr) (hf : f.tool.length = 32) (W : World) : (Instr.build 48 #[(2, .int .i64 f.v), (3, .int .i64 f.s), (4, .agg (nums .u8 f.tool).toArray)]).run Tryz.prog W = .ok (.agg (only1 f).arr) W := by
 refine built_of ?_
 unfold only1
 match f.tool, hf with
 | [a0,a1,a2,a3,a4,a5,a6,a7,a8,a9,a10,a11,a12,a13,a14,a15,a16,a17,a18,a19,a20,a21,a22,a23,a24,a25,a26,a27,a28,a29,a30,a31], _ => show _ = _; kernel_rfl
set_option maxHeartbeats 2000000 in
set_option maxRecDepth 100000 in
theorem hello_only (f : Fr) (hf : f.tool.length = 32) (w : World) : Calls Tryz.prog 109 #[f.val] w fun e w' => e = .returned (.agg (only1 f).arr) ∧ Below w.heap.size w w' := by
 have hsz := size_of (only1 f) hf
 have hone := arr_one (only1 f)
 have has := Fr.arr_size (only1 f) hf
 have hbl := hello_obuilt f hf
 generalize (only1 f).arr = GA at *
 show Calls Tryz.prog _ #[.agg f.arr] w _
 go_enter Tryz.func109, Tryz.ntmps109
 go_upto_region 1 with (fail)
 have hB := box_of2 w (.cells f.arr 48)
 have hF : f.at_ 48 ((w.alloc (.cells f.arr 48)).alloc (.cells zeroF.arr 48)) w.heap.size := Fr.at_.below ⟨heap_alloc_new w _, hf⟩ (below_alloc (Below.refl _ _) _)
 show Code.wp _ _ _ _ ((w.alloc (.cells f.arr 48)).alloc (.cells zeroF.arr 48))
 generalize (w.alloc (.cells f.arr 48)).alloc (.cells zeroF.arr 48) = w1 at *
 obtain ⟨⟨Z, hZ, hblk⟩, hbel, hge⟩ := hB
 generalize w.heap.size + 1 = g1 at *
 have q0 := hF.c2
 have q1 := hF.c3
 have rL := hF.r4
 go_wp2_with (first | (with_reducible show wpList _ _ _ (Oper.mk (some 8) _ _ _ _ _ :: _) _ _; refine wpList_load_mid rfl 43 (.tmp 7) rfl w.heap.size 4 rfl (nums .u8 f.tool) _ rL Tryz.underlying43 rfl (tool_size f hf) ?_) | (with_reducible show wpList _ _ _ (Oper.mk none _ _ _ _ _ :: _) _ _; refine wpList_store_row rfl 48 (.tmp 2) (.tmp 9) rfl g1 GA rfl rfl 48 Z hblk hsz (by rw [hZ]; exact has.symm) hone ?_))
 exact bodyPost_ret (v := .agg GA) (results_cell_row rfl _ _ g1 48 GA (0, 0) _ rfl (setRow_heap _ _ _ _ _ _ hblk) Tryz.underlying48 rfl hsz) rfl ⟨rfl, below_setRow hbel hge _⟩
theorem request_obuilt (f : Fr) (hf : f.tool.length = 32) (W : World) : (Instr.build 48 #[(1, .int .u64 f.id), (6, .agg f.lim.toArray), (7, .slice f.A f.n f.c), (8, .string f.body)]).run Tryz.prog W = .ok (.agg (only2 f).arr) W := built_of (by show _ = _; kernel_rfl)
set_option maxHeartbeats 2000000 in
set_option maxRecDepth 100000 in
theorem request_only (f : Fr) (hf : f.tool.length = 32) (w : World) : Calls Tryz.prog 117 #[f.val] w fun e w' => e = .returned (.agg (only2 f).arr) ∧ Below w.heap.size w w' := by
 have hsz := size_of (only2 f) rfl
 have hone := arr_one (only2 f)
 have has := Fr.arr_size (only2 f) rfl
 have hbl := request_obuilt f hf
 have hlim : (Tryz.prog.info? 45).map (·.size) = some f.lim.length := by show _ = some 3; kernel_rfl
 generalize (only2 f).arr = GA at *
 show Calls Tryz.prog _ #[.agg f.arr] w _
 go_enter Tryz.func117, Tryz.ntmps117
 go_upto_region 1 with (fail)
 have hB := box_of2 w (.cells f.arr 48)
 have hF : f.at_ 48 ((w.alloc (.cells f.arr 48)).alloc (.cells zeroF.arr 48)) w.heap.size := Fr.at_.below ⟨heap_alloc_new w _, hf⟩ (below_alloc (Below.refl _ _) _)
 show Code.wp _ _ _ _ ((w.alloc (.cells f.arr 48)).alloc (.cells zeroF.arr 48))
 generalize (w.alloc (.cells f.arr 48)).alloc (.cells zeroF.arr 48) = w1 at *
 obtain ⟨⟨Z, hZ, hblk⟩, hbel, hge⟩ := hB
 generalize w.heap.size + 1 = g1 at *
 have q0 := hF.c1
 have q1 := hF.c40
 have q2 := hF.c41
 have rL := hF.r37
 go_wp2_with (first | (with_reducible show wpList _ _ _ (Oper.mk (some 6) _ _ _ _ _ :: _) _ _; refine wpList_load_mid rfl 45 (.tmp 5) rfl w.heap.size 37 rfl f.lim _ rL Tryz.underlying45 rfl (hlim) ?_) | (with_reducible show wpList _ _ _ (Oper.mk none _ _ _ _ _ :: _) _ _; refine wpList_store_row rfl 48 (.tmp 2) (.tmp 11) rfl g1 GA rfl rfl 48 Z hblk hsz (by rw [hZ]; exact has.symm) hone ?_))
 exact bodyPost_ret (v := .agg GA) (results_cell_row rfl _ _ g1 48 GA (0, 0) _ rfl (setRow_heap _ _ _ _ _ _ hblk) Tryz.underlying48 rfl hsz) rfl ⟨rfl, below_setRow hbel hge _⟩
theorem response_obuilt (f : Fr) (hf : f.tool.length = 32) (W : World) : (Instr.build 48 #[(1, .int .u64 f.id), (5, .int .i64 f.st), (8, .string f.body)]).run Tryz.prog W = .ok (.agg (only3 f).arr) W := built_of (by show _ = _; kernel_rfl)
set_option maxHeartbeats 2000000 in
set_option maxRecDepth 100000 in
theorem response_only (f : Fr) (hf : f.tool.length = 32) (w : World) : Calls Tryz.prog 123 #[f.val] w fun e w' => e = .returned (.agg (only3 f).arr) ∧ Below w.heap.size w w' := by
 have hsz := size_of (only3 f) rfl
 have hone := arr_one (only3 f)
 have has := Fr.arr_size (only3 f) rfl
 have hbl := response_obuilt f hf
 generalize (only3 f).arr = GA at *
 show Calls Tryz.prog _ #[.agg f.arr] w _
 go_enter Tryz.func123, Tryz.ntmps123
 go_upto_region 1 with (fail)
 have hB := box_of2 w (.cells f.arr 48)
 have hF : f.at_ 48 ((w.alloc (.cells f.arr 48)).alloc (.cells zeroF.arr 48)) w.heap.size := Fr.at_.below ⟨heap_alloc_new w _, hf⟩ (below_alloc (Below.refl _ _) _)
 show Code.wp _ _ _ _ ((w.alloc (.cells f.arr 48)).alloc (.cells zeroF.arr 48))
 generalize (w.alloc (.cells f.arr 48)).alloc (.cells zeroF.arr 48) = w1 at *
 obtain ⟨⟨Z, hZ, hblk⟩, hbel, hge⟩ := hB
 generalize w.heap.size + 1 = g1 at *
 have q0 := hF.c1
 have q1 := hF.c36
 have q2 := hF.c41
 go_wp2_with (with_reducible show wpList _ _ _ (Oper.mk none _ _ _ _ _ :: _) _ _; refine wpList_store_row rfl 48 (.tmp 2) (.tmp 9) rfl g1 GA rfl rfl 48 Z hblk hsz (by rw [hZ]; exact has.symm) hone ?_)
 exact bodyPost_ret (v := .agg GA) (results_cell_row rfl _ _ g1 48 GA (0, 0) _ rfl (setRow_heap _ _ _ _ _ _ hblk) Tryz.underlying48 rfl hsz) rfl ⟨rfl, below_setRow hbel hge _⟩
theorem cancel_obuilt (f : Fr) (hf : f.tool.length = 32) (W : World) : (Instr.build 48 #[(1, .int .u64 f.id)]).run Tryz.prog W = .ok (.agg (only4 f).arr) W := built_of (by show _ = _; kernel_rfl)
set_option maxHeartbeats 2000000 in
set_option maxRecDepth 100000 in
theorem cancel_only (f : Fr) (hf : f.tool.length = 32) (w : World) : Calls Tryz.prog 127 #[f.val] w fun e w' => e = .returned (.agg (only4 f).arr) ∧ Below w.heap.size w w' := by
 have hsz := size_of (only4 f) rfl
 have hone := arr_one (only4 f)
 have has := Fr.arr_size (only4 f) rfl
 have hbl := cancel_obuilt f hf
 generalize (only4 f).arr = GA at *
 show Calls Tryz.prog _ #[.agg f.arr] w _
 go_enter Tryz.func127, Tryz.ntmps127
 go_upto_region 1 with (fail)
 have hB := box_of2 w (.cells f.arr 48)
 have hF : f.at_ 48 ((w.alloc (.cells f.arr 48)).alloc (.cells zeroF.arr 48)) w.heap.size := Fr.at_.below ⟨heap_alloc_new w _, hf⟩ (below_alloc (Below.refl _ _) _)
 show Code.wp _ _ _ _ ((w.alloc (.cells f.arr 48)).alloc (.cells zeroF.arr 48))
 generalize (w.alloc (.cells f.arr 48)).alloc (.cells zeroF.arr 48) = w1 at *
 obtain ⟨⟨Z, hZ, hblk⟩, hbel, hge⟩ := hB
 generalize w.heap.size + 1 = g1 at *
 have q0 := hF.c1
 go_wp2_with (with_reducible show wpList _ _ _ (Oper.mk none _ _ _ _ _ :: _) _ _; refine wpList_store_row rfl 48 (.tmp 2) (.tmp 5) rfl g1 GA rfl rfl 48 Z hblk hsz (by rw [hZ]; exact has.symm) hone ?_)
 exact bodyPost_ret (v := .agg GA) (results_cell_row rfl _ _ g1 48 GA (0, 0) _ rfl (setRow_heap _ _ _ _ _ _ hblk) Tryz.underlying48 rfl hsz) rfl ⟨rfl, below_setRow hbel hge _⟩
theorem bye_obuilt (f : Fr) (hf : f.tool.length = 32) (W : World) : (Instr.build 48 #[]).run Tryz.prog W = .ok (.agg (noF).arr) W := built_of (by show _ = _; kernel_rfl)
set_option maxHeartbeats 2000000 in
set_option maxRecDepth 100000 in
theorem bye_only (f : Fr) (hf : f.tool.length = 32) (w : World) : Calls Tryz.prog 131 #[f.val] w fun e w' => e = .returned (.agg (noF).arr) ∧ Below w.heap.size w w' := by
 have hsz := size_of (noF) rfl
 have hone := arr_one (noF)
 have has := Fr.arr_size (noF) rfl
 have hbl := bye_obuilt f hf
 generalize (noF).arr = GA at *
 show Calls Tryz.prog _ #[.agg f.arr] w _
 go_enter Tryz.func131, Tryz.ntmps131
 go_upto_region 1 with (fail)
 have hB := box_of2 w (.cells f.arr 48)
 have hF : f.at_ 48 ((w.alloc (.cells f.arr 48)).alloc (.cells zeroF.arr 48)) w.heap.size := Fr.at_.below ⟨heap_alloc_new w _, hf⟩ (below_alloc (Below.refl _ _) _)
 show Code.wp _ _ _ _ ((w.alloc (.cells f.arr 48)).alloc (.cells zeroF.arr 48))
 generalize (w.alloc (.cells f.arr 48)).alloc (.cells zeroF.arr 48) = w1 at *
 obtain ⟨⟨Z, hZ, hblk⟩, hbel, hge⟩ := hB
 generalize w.heap.size + 1 = g1 at *
 go_wp2_with (with_reducible show wpList _ _ _ (Oper.mk none _ _ _ _ _ :: _) _ _; refine wpList_store_row rfl 48 (.tmp 2) (.tmp 3) rfl g1 GA rfl rfl 48 Z hblk hsz (by rw [hZ]; exact has.symm) hone ?_)
 exact bodyPost_ret (v := .agg GA) (results_cell_row rfl _ _ g1 48 GA (0, 0) _ rfl (setRow_heap _ _ _ _ _ _ hblk) Tryz.underlying48 rfl hsz) rfl ⟨rfl, below_setRow hbel hge _⟩
theorem note_obuilt (f : Fr) (hf : f.tool.length = 32) (W : World) : (Instr.build 48 #[(8, .string f.body)]).run Tryz.prog W = .ok (.agg (only6 f).arr) W := built_of (by show _ = _; kernel_rfl)
set_option maxHeartbeats 2000000 in
set_option maxRecDepth 100000 in
theorem note_only (f : Fr) (hf : f.tool.length = 32) (w : World) : Calls Tryz.prog 134 #[f.val] w fun e w' => e = .returned (.agg (only6 f).arr) ∧ Below w.heap.size w w' := by
 have hsz := size_of (only6 f) rfl
 have hone := arr_one (only6 f)
 have has := Fr.arr_size (only6 f) rfl
 have hbl := note_obuilt f hf
 generalize (only6 f).arr = GA at *
 show Calls Tryz.prog _ #[.agg f.arr] w _
 go_enter Tryz.func134, Tryz.ntmps134
 go_upto_region 1 with (fail)
 have hB := box_of2 w (.cells f.arr 48)
 have hF : f.at_ 48 ((w.alloc (.cells f.arr 48)).alloc (.cells zeroF.arr 48)) w.heap.size := Fr.at_.below ⟨heap_alloc_new w _, hf⟩ (below_alloc (Below.refl _ _) _)
 show Code.wp _ _ _ _ ((w.alloc (.cells f.arr 48)).alloc (.cells zeroF.arr 48))
 generalize (w.alloc (.cells f.arr 48)).alloc (.cells zeroF.arr 48) = w1 at *
 obtain ⟨⟨Z, hZ, hblk⟩, hbel, hge⟩ := hB
 generalize w.heap.size + 1 = g1 at *
 have q0 := hF.c41
 go_wp2_with (with_reducible show wpList _ _ _ (Oper.mk none _ _ _ _ _ :: _) _ _; refine wpList_store_row rfl 48 (.tmp 2) (.tmp 5) rfl g1 GA rfl rfl 48 Z hblk hsz (by rw [hZ]; exact has.symm) hone ?_)
 exact bodyPost_ret (v := .agg GA) (results_cell_row rfl _ _ g1 48 GA (0, 0) _ rfl (setRow_heap _ _ _ _ _ _ hblk) Tryz.underlying48 rfl hsz) rfl ⟨rfl, below_setRow hbel hge _⟩
theorem only_any (k : Int) (h1 : 1 ≤ k) (h6 : k ≤ 6) (f : Fr) (hf : f.tool.length = 32) (w : World) : Calls Tryz.prog (onlyN k) #[f.val] w fun e w' => e = .returned (.agg (onlyG k f).arr) ∧ Below w.heap.size w w' := by
 rcases (by omega : k = 1 ∨ k = 2 ∨ k = 3 ∨ k = 4 ∨ k = 5 ∨ k = 6) with rfl | rfl | rfl | rfl | rfl | rfl
 ·exact hello_only f hf w
 ·exact request_only f hf w
 ·exact response_only f hf w
 ·exact cancel_only f hf w
 ·exact bye_only f hf w
 ·exact note_only f hf w
end Go.Proofs.YtpjpgcjhdbiepaaGreat
end
section
namespace Go.Proofs.YtpjpgcjhdbiepaaGreat
open Go.RowKit Go.Kit Go.Proofs.YtpjpgcjhdbiepaaGreatW.PrintWords
def BoolIs (t : Bool) (P : Prop) : Prop := t = true ↔ P
def SomeBool (P : Prop) (R : World → Prop) (e : Ending) (w' : World) : Prop := ∃ t : Bool, e = .returned (.bool t) ∧ Hid (BoolIs t P) ∧ R w'
def SomeInt (P : Int → Prop) (R : World → Prop) (e : Ending) (w' : World) : Prop := ∃ i : Int, e = .returned (.int .i64 i) ∧ Hid (P i) ∧ R w'
theorem bool_yes {P : Prop} (h : P) : Hid (BoolIs true P) := Lib.hid ⟨fun _ => h, fun _ => rfl⟩
theorem bool_no {P : Prop} (h : ¬ P) : Hid (BoolIs false P) := Lib.hid ⟨fun e => (by cases e), fun e => absurd e h⟩
set_option maxHeartbeats 1000000 in
theorem long_one (s : ByteArray) (hs : s.size ≤ 9223372036854775807) (w : World) : Calls Tryz.prog 120 #[.string s] w fun e w' => e = .returned (.bool (decide (4096 < s.size))) ∧ w' = w := by
 by_cases h : 4096 < s.size
 ·have hi : (4096 : Int) < (s.size : Int) := by omega
  have hd : decide (4096 < s.size) = true := decide_eq_true h
  rw [hd]
  clear h hd
  go_enter Tryz.func120, Tryz.ntmps120
  go_wp2_with fail
  go_ret
  exact ⟨rfl, rfl⟩
 ·have hi : ¬ (4096 : Int) < (s.size : Int) := by omega
  have hd : decide (4096 < s.size) = false := decide_eq_false h
  rw [hd]
  clear h hd
  go_enter Tryz.func120, Tryz.ntmps120
  go_wp2_with fail
  go_ret
  exact ⟨rfl, rfl⟩
set_option maxHeartbeats 2000000 in
theorem long_index (A : Option Addr) (n c : Nat) (xs : List ByteArray) (w : World) (hx : RT w A n xs) (hs : ∀ s ∈ xs, s.size ≤ 9223372036854775807) :
  Calls Tryz.prog 138 #[.slice A n c, .func (.func 120) #[] #[]] w (SomeInt (fun i => 0 ≤ i ↔ ∃ s ∈ xs, 4096 < s.size) (fun w' => w' = w)) := by
 have hmx := hx.max
 have HS := Lib.hid hs
 have HX := Lib.hid hx
 clear hs
 go_enter Tryz.func138, Tryz.ntmps138
 go_wp2_with fail
 go_loopg [8] n (fun gk v8 w' => ∃ k : Nat, v8 = .int .i64 (k : Int) ∧ w' = w ∧ Hid (k + gk = n ∧ ∀ j, j < k → ∀ s, xs[j]? = some s → ¬ 4096 < s.size))
 case atStart => exact ⟨0, rfl, rfl, by omega, fun j hj => absurd hj (by omega)⟩
 case round =>
  obtain ⟨k, rfl, rfl, HG⟩ := hrel
  by_cases hk : k < n
  ·obtain ⟨ad, s, rfl, hcell, HXX⟩ := HX.out.at_ k hk
   have hsz := HS.out s (List.mem_of_getElem? HXX.out)
   have hk2 : (k : Int) < (n : Int) := by omega
   by_cases hl : 4096 < s.size
   ·have hd : decide (4096 < s.size) = true := decide_eq_true hl
    have HF : Hid ((0 : Int) ≤ (k : Int) ↔ ∃ s ∈ xs, 4096 < s.size) := Lib.hid ⟨fun _ => ⟨s, List.mem_of_getElem? HXX.out, hl⟩, fun _ => by omega⟩
    clear hl
    go_wp2_with fail
    refine (long_one s hsz _).mono ?_
    rintro e w1 ⟨rfl, rfl⟩
    rw [hd]
    go_wp2_with fail
    go_ret
    exact ⟨_, rfl, HF, rfl⟩
   ·have hd : decide (4096 < s.size) = false := decide_eq_false hl
    have HL := Lib.hid hl
    clear hl
    go_wp2_with fail
    refine (long_one s hsz _).mono ?_
    rintro e w1 ⟨rfl, rfl⟩
    rw [hd]
    go_wp2_with fail
    go_roundg (gk - 1)
    case measure => have := HG.out.1; omega
    case rel =>
     refine ⟨k + 1, by simp, rfl, by have := HG.out.1; omega, fun j hj s2 h2 => ?_⟩
     rcases Nat.lt_or_ge j k with h | h
     ·exact HG.out.2 j h s2 h2
     ·obtain rfl : j = k := by omega
      rw [HXX.out] at h2
      cases h2
      exact HL.out
  ·have hk2 : ¬ (k : Int) < (n : Int) := by omega
   have HF : Hid ((0 : Int) ≤ -1 ↔ ∃ s ∈ xs, 4096 < s.size) := Lib.hid ⟨fun h => by omega, fun ⟨s, hm, hl⟩ => by
    obtain ⟨j, hj, e⟩ := List.mem_iff_getElem.1 hm
    have hlen := HX.out.len
    have := HG.out.1
    exact absurd hl (HG.out.2 j (by omega) s (by rw [List.getElem?_eq_getElem hj, e]))⟩
   go_wp2_with fail
   go_ret
   exact ⟨_, rfl, HF, rfl⟩
set_option maxHeartbeats 1000000 in
theorem long_any (A : Option Addr) (n c : Nat) (xs : List ByteArray) (w : World) (hx : RT w A n xs) (hs : ∀ s ∈ xs, s.size ≤ 9223372036854775807) :
  Calls Tryz.prog 119 #[.slice A n c, .func (.func 120) #[] #[]] w (SomeBool (∃ s ∈ xs, 4096 < s.size) (fun w' => w' = w)) := by
 go_enter Tryz.func119, Tryz.ntmps119
 go_wp2_with fail
 refine (long_index A n c xs _ hx hs).mono ?_
 rintro e w1 ⟨i, rfl, HI, rfl⟩
 by_cases h : 0 ≤ i
 ·have HF := bool_yes (HI.out.1 h)
  go_wp2_with fail
  go_ret
  exact ⟨true, rfl, HF, rfl⟩
 ·have HF := bool_no (fun e => h (HI.out.2 e))
  have hd : decide (0 ≤ i) = false := decide_eq_false h
  clear h
  go_wp2_with fail
  go_ret
  exact ⟨false, rfl, HF, rfl⟩
def MayK (k : Int) (f : Fr) : Prop :=
 (k = 1 → f.v = 1 ∧ 1 ≤ f.s ∧ f.s ≤ 64) ∧ (k = 2 → 0 ≤ f.mo ∧ 0 ≤ f.fu ∧ 0 ≤ f.di ∧ f.n ≤ 8 ∧ ∀ s ∈ f.args, s.size ≤ 4096) ∧ (k = 3 → f.st = 1 ∨ ((f.st = 2 ∨ f.st = 3) ∧ f.body.size = 0))
section
variable {f : Fr} {w : World}
theorem boxed (hf : f.tool.length = 32) (w : World) : f.at_ 48 (w.alloc (.cells f.arr 48)) w.heap.size := ⟨heap_alloc_new w _, hf⟩
set_option maxHeartbeats 2000000 in
set_option maxRecDepth 100000 in
theorem some_may (hf : f.ok w) : Calls Tryz.prog 128 #[f.val] w fun e w' => e = .returned (.bool true) ∧ Below w.heap.size w w' := by
 have hb := below_alloc (Below.refl _ w) (.cells f.arr 48)
 show Calls Tryz.prog _ #[.agg f.arr] w _
 go_enter Tryz.func128, Tryz.ntmps128
 go_wp2_with fail
 go_ret
 exact ⟨rfl, hb⟩
set_option maxHeartbeats 2000000 in
set_option maxRecDepth 100000 in
theorem hello_may (hf : f.ok w) : Calls Tryz.prog 110 #[f.val] w (SomeBool (MayK 1 f) (fun w' => Below w.heap.size w w')) := by
 have hb := below_alloc (Below.refl _ w) (.cells f.arr 48)
 have hF := boxed hf.tool w
 show Calls Tryz.prog _ #[.agg f.arr] w _
 go_enter Tryz.func110, Tryz.ntmps110
 go_upto_region 1 with (fail)
 generalize w.alloc (.cells f.arr 48) = w1 at *
 have q1 := hF.c2
 have q2 := hF.c3
 by_cases h1 : f.v = 1
 ·have b1 : (f.v == 1) = true := by rw [beq_iff_eq]; exact h1
  by_cases h2 : 1 ≤ f.s
  ·by_cases h3 : f.s ≤ 64
   ·have HF : Hid (BoolIs true (MayK 1 f)) := bool_yes ⟨fun _ => ⟨h1, h2, h3⟩, fun e => by omega, fun e => by omega⟩
    clear h1
    go_wp2_with fail
    go_ret
    exact ⟨true, rfl, HF, hb⟩
   ·have HF : Hid (BoolIs false (MayK 1 f)) := bool_no (fun e => h3 (e.1 rfl).2.2)
    clear h1
    go_wp2_with fail
    go_ret
    exact ⟨false, rfl, HF, hb⟩
  ·have HF : Hid (BoolIs false (MayK 1 f)) := bool_no (fun e => h2 (e.1 rfl).2.1)
   clear h1
   go_wp2_with fail
   go_ret
   exact ⟨false, rfl, HF, hb⟩
 ·have b1 : (f.v == 1) = false := by rw [beq_eq_false_iff_ne]; exact h1
  have HF : Hid (BoolIs false (MayK 1 f)) := bool_no (fun e => h1 (e.1 rfl).1)
  clear h1
  go_wp2_with fail
  go_ret
  exact ⟨false, rfl, HF, hb⟩
theorem not3 {f : Fr} (h : ¬ (f.st = 1 ∨ ((f.st = 2 ∨ f.st = 3) ∧ f.body.size = 0))) : Hid (BoolIs false (MayK 3 f)) := bool_no (fun e => h (e.2.2 rfl))
theorem yes3 {f : Fr} (h : f.st = 1 ∨ ((f.st = 2 ∨ f.st = 3) ∧ f.body.size = 0)) : Hid (BoolIs true (MayK 3 f)) := bool_yes ⟨fun e => by omega, fun e => by omega, fun _ => h⟩
theorem body_empty (s : ByteArray) : s.toList.isEmpty = decide (s.size = 0) := by
 rw [Bool.eq_iff_iff, List.isEmpty_iff, decide_eq_true_iff]
 constructor
 ·intro h
  have h2 : s.toList = ByteArray.empty.toList := by rw [h]; simp
  rw [bs_inj h2]; rfl
 ·intro h
  have : s = ByteArray.empty := by
   cases s with | mk d => 
    have : d = #[] := Array.eq_empty_of_size_eq_zero h
    rw [this]; rfl
  rw [this]; simp
set_option maxHeartbeats 2000000 in
set_option maxRecDepth 100000 in
theorem response_may (hf : f.ok w) : Calls Tryz.prog 124 #[f.val] w (SomeBool (MayK 3 f) (fun w' => Below w.heap.size w w')) := by
 have hb := below_alloc (Below.refl _ w) (.cells f.arr 48)
 have hF := boxed hf.tool w
 show Calls Tryz.prog _ #[.agg f.arr] w _
 go_enter Tryz.func124, Tryz.ntmps124
 go_upto_region 1 with (fail)
 generalize w.alloc (.cells f.arr 48) = w1 at *
 have q1 := hF.c36
 have q2 := hF.c41
 have hbe := body_empty f.body
 by_cases h1 : f.st = 1
 ·have b1 : (f.st == 1) = true := by rw [beq_iff_eq]; exact h1
  have HF := yes3 (f := f) (.inl h1)
  clear h1 hbe
  go_wp2_with fail
  go_ret
  exact ⟨true, rfl, HF, hb⟩
 ·have b1 : (f.st == 1) = false := by rw [beq_eq_false_iff_ne]; exact h1
  by_cases h2 : f.st = 2
  ·have b2 : (f.st == 2) = true := by rw [beq_iff_eq]; exact h2
   by_cases h0 : f.body.size = 0
   ·have b0 : f.body.toList.isEmpty = true := by rw [hbe]; exact decide_eq_true h0
    have HF := yes3 (f := f) (.inr ⟨.inl h2, h0⟩)
    clear h1 h2 hbe h0
    go_wp2_with fail
    go_ret
    exact ⟨true, rfl, HF, hb⟩
   ·have b0 : f.body.toList.isEmpty = false := by rw [hbe]; exact decide_eq_false h0
    have HF := not3 (f := f) (by omega)
    clear h1 h2 hbe h0
    go_wp2_with fail
    go_ret
    exact ⟨false, rfl, HF, hb⟩
  ·have b2 : (f.st == 2) = false := by rw [beq_eq_false_iff_ne]; exact h2
   by_cases h3 : f.st = 3
   ·have b3 : (f.st == 3) = true := by rw [beq_iff_eq]; exact h3
    by_cases h0 : f.body.size = 0
    ·have b0 : f.body.toList.isEmpty = true := by rw [hbe]; exact decide_eq_true h0
     have HF := yes3 (f := f) (.inr ⟨.inr h3, h0⟩)
     clear h1 h2 h3 hbe h0
     go_wp2_with fail
     go_ret
     exact ⟨true, rfl, HF, hb⟩
    ·have b0 : f.body.toList.isEmpty = false := by rw [hbe]; exact decide_eq_false h0
     have HF := not3 (f := f) (by omega)
     clear h1 h2 h3 hbe h0
     go_wp2_with fail
     go_ret
     exact ⟨false, rfl, HF, hb⟩
   ·have b3 : (f.st == 3) = false := by rw [beq_eq_false_iff_ne]; exact h3
    have HF := not3 (f := f) (by omega)
    clear h1 h2 h3 hbe
    go_wp2_with fail
    go_ret
    exact ⟨false, rfl, HF, hb⟩
theorem not2 {f : Fr} (h : ¬ (0 ≤ f.mo ∧ 0 ≤ f.fu ∧ 0 ≤ f.di ∧ f.n ≤ 8 ∧ ∀ s ∈ f.args, s.size ≤ 4096)) : Hid (BoolIs false (MayK 2 f)) := bool_no (fun e => h (e.2.1 rfl))
set_option maxHeartbeats 4000000 in
set_option maxRecDepth 100000 in
theorem request_may (hf : f.ok w) (hs : ∀ s ∈ f.args, s.size ≤ 9223372036854775807) : Calls Tryz.prog 118 #[f.val] w (SomeBool (MayK 2 f) (fun w' => Below w.heap.size w w')) := by
 have hb := below_alloc (Below.refl _ w) (.cells f.arr 48)
 have hF := boxed hf.tool w
 have HT := Lib.hid (hf.args.below hb)
 have hmx := hf.args.max
 show Calls Tryz.prog _ #[.agg f.arr] w _
 go_enter Tryz.func118, Tryz.ntmps118
 go_upto_region 1 with (fail)
 generalize w.alloc (.cells f.arr 48) = w1 at *
 have q1 := hF.c40
 have q2 := hF.c37
 have q3 := hF.c38
 have q4 := hF.c39
 go_wp2_with fail
 refine (long_any _ _ f.c _ _ HT.out hs).mono ?_
 rintro e w2 ⟨t, rfl, HL, rfl⟩
 by_cases h1 : 0 ≤ f.mo
 ·by_cases h2 : 0 ≤ f.fu
  ·by_cases h3 : 0 ≤ f.di
   ·by_cases h4 : f.n ≤ 8
    ·have h4i : (f.n : Int) ≤ 8 := by omega
     cases t with
     | false =>
      have HF : Hid (BoolIs true (MayK 2 f)) := bool_yes ⟨fun e => by omega, fun _ => ⟨h1, h2, h3, h4, fun s hm => by
       rcases Nat.lt_or_ge 4096 s.size with h | h
       ·exact absurd (HL.out.2 ⟨s, hm, h⟩) (by simp)
       ·exact h⟩, fun e => by omega⟩
      clear h4
      go_wp2_with fail
      go_ret
      exact ⟨true, rfl, HF, hb⟩
     | true =>
      have HF := not2 (f := f) (fun e => by
       obtain ⟨s, hm, hl⟩ := HL.out.1 rfl
       have := e.2.2.2.2 s hm
       omega)
      clear h4
      go_wp2_with fail
      go_ret
      exact ⟨false, rfl, HF, hb⟩
    ·have HF := not2 (f := f) (fun e => h4 e.2.2.2.1)
     have h4i : ¬ (f.n : Int) ≤ 8 := by omega
     clear h4
     go_wp2_with fail
     go_ret
     exact ⟨false, rfl, HF, hb⟩
   ·have HF := not2 (f := f) (fun e => h3 e.2.2.1)
    have hd : decide (0 ≤ f.di) = false := decide_eq_false h3
    clear h3
    go_wp2_with fail
    go_ret
    exact ⟨false, rfl, HF, hb⟩
  ·have HF := not2 (f := f) (fun e => h2 e.2.1)
   have hd : decide (0 ≤ f.fu) = false := decide_eq_false h2
   clear h2
   go_wp2_with fail
   go_ret
   exact ⟨false, rfl, HF, hb⟩
 ·have HF := not2 (f := f) (fun e => h1 e.1)
  have hd : decide (0 ≤ f.mo) = false := decide_eq_false h1
  clear h1
  go_wp2_with fail
  go_ret
  exact ⟨false, rfl, HF, hb⟩
theorem may_any (k : Int) (h1 : 1 ≤ k) (h6 : k ≤ 6) (hf : f.ok w) (hs : ∀ s ∈ f.args, s.size ≤ 9223372036854775807) : Calls Tryz.prog (mayN k) #[f.val] w (SomeBool (MayK k f) (fun w' => Below w.heap.size w w')) := by
 have yes : ∀ k : Int, k ≠ 1 → k ≠ 2 → k ≠ 3 → Hid (BoolIs true (MayK k f)) := fun k a b c => bool_yes ⟨fun e => absurd e a, fun e => absurd e b, fun e => absurd e c⟩
 rcases (by omega : k = 1 ∨ k = 2 ∨ k = 3 ∨ k = 4 ∨ k = 5 ∨ k = 6) with rfl | rfl | rfl | rfl | rfl | rfl
 ·exact hello_may hf
 ·exact request_may hf hs
 ·exact response_may hf
 ·exact (some_may hf).mono fun e w' ⟨he, hb⟩ => ⟨true, he, yes 4 (by omega) (by omega) (by omega), hb⟩
 ·exact (some_may hf).mono fun e w' ⟨he, hb⟩ => ⟨true, he, yes 5 (by omega) (by omega) (by omega), hb⟩
 ·exact (some_may hf).mono fun e w' ⟨he, hb⟩ => ⟨true, he, yes 6 (by omega) (by omega) (by omega), hb⟩
end
end Go.Proofs.YtpjpgcjhdbiepaaGreat
end
section
namespace Go.Proofs.YtpjpgcjhdbiepaaGreat
open Go.RowKit Go.Kit Go.Proofs.YtpjpgcjhdbiepaaGreatW.PrintWords
section
variable {A : Option Addr} {n cap : Nat} {xs : List Int} {w : World}
set_option maxHeartbeats 1000000 in
theorem PutUint_any (u : Int) (hx : RB w A n xs) (hl : n + 10 ≤ 140737488355328) (h0 : 0 ≤ u) (h1 : u ≤ 18446744073709551615) :
  Calls Tryz.prog 61 #[.slice A n cap, .int .u64 u] w fun e w' => ∃ v, e = .returned v ∧ OB 5 w' w.heap.size v (xs ++ sh u.toNat) ∧ Below w.heap.size w w' := by
 obtain ⟨m, rfl⟩ := Int.eq_ofNat_of_zero_le h0
 have HM : Hid (m < 18446744073709551616) := Lib.hid (by omega)
 have HL := Lib.hid hx.len
 clear h0 h1
 go_enter Tryz.func61, Tryz.ntmps61
 go_wp2_with fail
 refine (fresh_any A n cap 10 xs w hx (by omega)).mono ?_
 rintro e w1 ⟨v, rfl, hO, hb⟩
 go_wp2_with fail
 refine (short_any w.heap.size v xs m w1 hO hb.size (by rw [HL.out]; exact hl) HM.out).mono ?_
 rintro e w2 ⟨v2, rfl, hO2, hb2⟩
 have hb3 : Below w.heap.size w w2 := hb.trans hb2
 go_wp2_with fail
 go_ret
 exact ⟨_, rfl, hO2, hb3⟩
end
set_option maxHeartbeats 2000000 in
set_option maxRecDepth 100000 in
theorem texts_any (base : Nat) (v : Value) (xs : List Int) (w : World) (B : Option Addr) (m c : Nat) (l : List ByteArray) (hO : OB 5 w base v xs) (hb : base ≤ w.heap.size) (hT : RT w B m l)
  (hB : ∀ W, Below base w W → RT W B m l) (K : Nat) (hK : K ≤ 140737488355328) (hs : ∀ s ∈ l, s.size ≤ K) (hl : xs.length + m * (10 + K) ≤ 140737488355328) :
  Calls Tryz.prog 136 #[v, .slice B m c] w fun e w' => ∃ v', e = .returned v' ∧ OB 5 w' base v' (xs ++ txts l) ∧ Below base w w' := by
 have hmm := hT.max
 have HLn := Lib.hid hT.len
 have HS := Lib.hid hs
 have HL : Hid (∀ i, i < m → xs.length + (txts (l.take i)).length + 10 + K ≤ 140737488355328) := Lib.hid (fun i hi => by
  have h1 := txts_length (l.take i) K (by omega) (fun s h => hs s (List.mem_of_mem_take h))
  have h2 : (l.take i).length ≤ i := List.length_take_le _ _
  have h3 := Nat.mul_le_mul_right (10 + K) (show (l.take i).length + 1 ≤ m by omega)
  rw [Nat.add_mul] at h3
  omega)
 have HB := Lib.hid hB
 clear hs hl hB
 go_enter Tryz.func136, Tryz.ntmps136
 go_wp2_with fail
 go_loopg [0, 9] m (fun gk v0 v1 w' => ∃ (i : Nat), v1 = .int .i64 (i : Int) ∧ OB 5 w' base v0 (xs ++ txts (l.take i)) ∧ Below base w w' ∧ Hid (i ≤ m ∧ gk = m - i))
 case atStart => exact ⟨0, rfl, by simpa [txts] using hO, Below.refl _ _, by omega, rfl⟩
 case round =>
  clear hO
  obtain ⟨i, rfl, hO, hb1, HG⟩ := hrel
  have hsz := hb1.size
  by_cases hi : i < m
  ·have hi2 : (i : Int) < (m : Int) := by omega
   obtain ⟨ad, s, rfl, hc, HX⟩ := (HB.out _ hb1).at_ i hi
   have HSZ : Hid (s.size ≤ K) := Lib.hid (HS.out s (List.mem_of_getElem? HX.out))
   have HLi := Lib.hid (HL.out i hi)
   have hss : s.size < 9223372036854775808 := by have := HSZ.out; omega
   go_wp2_with fail
   refine (short_any base u0 _ s.size wr hO (Nat.le_trans hb hsz) (by have := HLi.out; rw [List.length_append]; omega) (by omega)).mono ?_
   rintro e w1 ⟨v1, rfl, hO1, hb2⟩
   have hb3 : Below base w w1 := hb1.trans hb2
   have hs3 := hb3.size
   have hln : ((xs ++ txts (l.take i)) ++ sh s.size).length + s.size ≤ 140737488355328 := by
    have h1 := HLi.out
    have h2 := HSZ.out
    have h3 := sh_ten (n := s.size) (by omega)
    rw [List.length_append, List.length_append]; omega
   go_wp2_with (at_builtin; refine push_text (w0 := w) base rfl (.tmp 17) (.tmp 18) 22 9 s rfl Tryz.underlying22 Tryz.underlying9 u8_info rfl rfl hO1 hb3 (Nat.le_trans hb hs3) hln ?_)
   intro v2 w2 hO2 hb4 _
   have hO3 : OB 5 w2 base v2 (xs ++ txts (l.take (i + 1))) := by
    rw [txts_snoc HX.out, txt]
    simpa only [List.append_assoc] using hO2
   clear hO2 hO1 hO hln
   go_wp2_with fail
   go_roundg (gk - 1)
   case measure => have := HG.out.2; omega
   case rel => exact ⟨i + 1, by simp, hO3, hb4, by omega, by have := HG.out.2; omega⟩
  ·have hn : i = m := by have := HG.out; omega
   subst hn
   rw [all_of (by rw [HLn.out]; exact Nat.le_refl _)] at hO
   go_wp2_with fail
   go_ret
   exact ⟨_, rfl, hO, hb1⟩
section
variable {A B : Option Addr} {n cap m c : Nat} {xs : List Int} {l : List ByteArray} {w : World}
set_option maxHeartbeats 1000000 in
theorem PutText_any (hx : RB w A n xs) (hT : RT w B m l) (K : Nat) (hK : K ≤ 140737488355328) (hs : ∀ s ∈ l, s.size ≤ K) (hl : n + 16 + m * (10 + K) ≤ 140737488355328) :
  Calls Tryz.prog 112 #[.slice A n cap, .slice B m c] w fun e w' => ∃ v, e = .returned v ∧ OB 5 w' w.heap.size v (xs ++ txts l) ∧ Below w.heap.size w w' := by
 have HL := Lib.hid hx.len
 have HS := Lib.hid hs
 clear hs
 go_enter Tryz.func112, Tryz.ntmps112
 go_wp2_with fail
 refine (fresh_any A n cap 16 xs w hx (by omega)).mono ?_
 rintro e w1 ⟨v, rfl, hO, hb⟩
 have hT1 := hT.below hb
 go_wp2_with fail
 refine (texts_any w.heap.size v xs w1 B m c l hO hb.size hT1 (fun W h => hT.below (hb.trans h)) K hK HS.out (by rw [HL.out]; omega)).mono ?_
 rintro e w2 ⟨v2, rfl, hO2, hb2⟩
 have hb3 : Below w.heap.size w w2 := hb.trans hb2
 go_wp2_with fail
 go_ret
 exact ⟨_, rfl, hO2, hb3⟩
set_option maxHeartbeats 1000000 in
theorem PutList_any (hx : RB w A n xs) (hT : RT w B m l) (K : Nat) (hK : K ≤ 140737488355328) (hs : ∀ s ∈ l, s.size ≤ K) (hl : n + 16 + m * (10 + K) ≤ 140737488355328) :
  Calls Tryz.prog 113 #[.slice A n cap, .slice B m c] w fun e w' => ∃ v, e = .returned v ∧ OB 5 w' w.heap.size v (xs ++ lst l) ∧ Below w.heap.size w w' := by
 have HL := Lib.hid hx.len
 have HS := Lib.hid hs
 have HM := Lib.hid hT.len
 have hmx := hT.max
 clear hs
 go_enter Tryz.func113, Tryz.ntmps113
 go_wp2_with fail
 refine (fresh_any A n cap 16 xs w hx (by omega)).mono ?_
 rintro e w1 ⟨v, rfl, hO, hb⟩
 go_wp2_with fail
 refine (short_any w.heap.size v xs m w1 hO hb.size (by rw [HL.out]; omega) (by omega)).mono ?_
 rintro e w2 ⟨v2, rfl, hO2, hb2⟩
 have hb3 : Below w.heap.size w w2 := hb.trans hb2
 have hT2 := hT.below hb3
 have hsh := sh_ten (n := m) (by omega)
 have HSH := Lib.hid hsh
 clear hsh
 go_wp2_with fail
 refine (texts_any w.heap.size v2 _ w2 B m c l hO2 hb3.size hT2 (fun W h => hT.below (hb3.trans h)) K hK HS.out (by rw [List.length_append, HL.out]; have := HSH.out; omega)).mono ?_
 rintro e w3 ⟨v3, rfl, hO3, hb4⟩
 have hb5 : Below w.heap.size w w3 := hb3.trans hb4
 have hO4 : OB 5 w3 w.heap.size v3 (xs ++ lst l) := by unfold lst; rw [HM.out]; simpa only [List.append_assoc] using hO3
 go_wp2_with fail
 go_ret
 exact ⟨_, rfl, hO4, hb5⟩
end
end Go.Proofs.YtpjpgcjhdbiepaaGreat
end
section
namespace Go.Proofs.YtpjpgcjhdbiepaaGreat
open Go.RowKit Go.Kit Go.Proofs.YtpjpgcjhdbiepaaGreatW.PrintWords
section
variable {w : World}
set_option maxHeartbeats 1000000 in
theorem rText_any (s : ByteArray) (hs : s.size ≤ 140737488355000) : Calls Tryz.prog 49 #[.string s] w fun e w' => ∃ v, e = .returned v ∧ OB 5 w' w.heap.size v (txt s) ∧ Below w.heap.size w w' := by
 have HS := Lib.hid hs
 go_enter Tryz.func49, Tryz.ntmps49
 go_wp2_with fail
 refine (rUint_any s.size w (by omega)).mono ?_
 rintro e w1 ⟨v, rfl, hO, hb⟩
 have hln : (sh s.size).length + s.size ≤ 140737488355328 := by
  have h3 := sh_ten (n := s.size) (by omega)
  omega
 go_wp2_with (at_builtin; refine push_text (w0 := w) w.heap.size rfl (.tmp 6) (.tmp 7) 22 9 s rfl Tryz.underlying22 Tryz.underlying9 u8_info rfl rfl hO hb hb.size hln ?_)
 intro v2 w2 hO2 hb4 _
 go_wp2_with fail
 go_ret
 exact ⟨_, rfl, hO2, hb4⟩
end
set_option maxHeartbeats 2000000 in
set_option maxRecDepth 100000 in
theorem rTexts_any {w : World} {B : Option Addr} {m c : Nat} {l : List ByteArray} (hT : RT w B m l) (K : Nat) (hK : K ≤ 140737488355000) (hs : ∀ s ∈ l, s.size ≤ K) (hl : m * (10 + K) ≤ 140737488355328) :
  Calls Tryz.prog 62 #[.slice B m c] w fun e w' => ∃ v', e = .returned v' ∧ OB 5 w' w.heap.size v' (txts l) ∧ Below w.heap.size w w' := by
 have hmm := hT.max
 have HLn := Lib.hid hT.len
 have HS := Lib.hid hs
 have HL : Hid (∀ i, i < m → (txts (l.take i)).length + 10 + K ≤ 140737488355328) := Lib.hid (fun i hi => by
  have h1 := txts_length (l.take i) K (by omega) (fun s h => hs s (List.mem_of_mem_take h))
  have h2 : (l.take i).length ≤ i := List.length_take_le _ _
  have h3 := Nat.mul_le_mul_right (10 + K) (show (l.take i).length + 1 ≤ m by omega)
  rw [Nat.add_mul] at h3
  omega)
 clear hs hl
 go_enter Tryz.func62, Tryz.ntmps62
 go_wp2_with fail
 go_loopg [3, 4] m (fun gk v0 v1 w' => ∃ (i : Nat), v1 = .int .i64 (i : Int) ∧ OB 5 w' w.heap.size v0 (txts (l.take i)) ∧ Below w.heap.size w w' ∧ Hid (i ≤ m ∧ gk = m - i))
 case atStart => exact ⟨0, rfl, by simpa [txts] using OB.nil _ _ _, Below.refl _ _, by omega, rfl⟩
 case round =>
  obtain ⟨i, rfl, hO, hb1, HG⟩ := hrel
  have hsz := hb1.size
  by_cases hi : i < m
  ·have hi2 : (i : Int) < (m : Int) := by omega
   obtain ⟨ad, s, rfl, hc, HX⟩ := (hT.below hb1).at_ i hi
   have HSZ : Hid (s.size ≤ K) := Lib.hid (HS.out s (List.mem_of_getElem? HX.out))
   have HLi := Lib.hid (HL.out i hi)
   go_wp2_with fail
   refine (rText_any s (by have := HSZ.out; omega)).mono ?_
   rintro e w1 ⟨v1, rfl, hO1, hb2⟩
   replace hO := hO.below hb2
   have hb3 : Below w.heap.size w w1 := below_step hb1 hb2
   have hs3 := hb3.size
   obtain ⟨A1, c1, rfl, hR1, _⟩ := hO1.reads'
   have hln : (txts (l.take i)).length + (txt s).length ≤ 140737488355328 := by
    have h1 := HLi.out
    have h2 := HSZ.out
    have h3 := txt_length (s := s) (by omega)
    omega
   go_wp2_with (at_builtin; refine push_row (w0 := w) w.heap.size rfl (.tmp 11) (.tmp 16) 22 (txt s) A1 _ c1 rfl Tryz.underlying22 u8_info rfl rfl hO hR1 hb3 hs3 hln ?_)
   intro v2 w2 hO2 hb4 _ _
   have hO3 : OB 5 w2 w.heap.size v2 (txts (l.take (i + 1))) := by
    rw [txts_snoc HX.out]; exact hO2
   clear hO2 hO1 hO hln
   go_wp2_with fail
   go_roundg (gk - 1)
   case measure => have := HG.out.2; omega
   case rel => exact ⟨i + 1, by simp, hO3, hb4, by omega, by have := HG.out.2; omega⟩
  ·have hn : i = m := by have := HG.out; omega
   subst hn
   rw [all_of (by rw [HLn.out]; exact Nat.le_refl _)] at hO
   go_wp2_with fail
   go_ret
   exact ⟨_, rfl, hO, hb1⟩
set_option maxHeartbeats 1000000 in
theorem rList_any {w : World} {B : Option Addr} {m c : Nat} {l : List ByteArray} (hT : RT w B m l) (K : Nat) (hK : K ≤ 140737488355000) (hs : ∀ s ∈ l, s.size ≤ K) (hl : 16 + m * (10 + K) ≤ 140737488355328) :
  Calls Tryz.prog 48 #[.slice B m c] w fun e w' => ∃ v', e = .returned v' ∧ OB 5 w' w.heap.size v' (lst l) ∧ Below w.heap.size w w' := by
 have HS := Lib.hid hs
 have HM := Lib.hid hT.len
 have hmx := hT.max
 have HLL : Hid ((txts l).length ≤ m * (10 + K)) := Lib.hid (by have := txts_length l K (by omega) hs; rw [hT.len] at this; exact this)
 clear hs
 go_enter Tryz.func48, Tryz.ntmps48
 go_wp2_with fail
 refine (rUint_any m w (by omega)).mono ?_
 rintro e w1 ⟨v, rfl, hO, hb⟩
 have hT1 := hT.below hb
 have HSH := Lib.hid (sh_ten (n := m) (by omega))
 go_wp2_with fail
 refine (rTexts_any hT1 K hK HS.out (by omega)).mono ?_
 rintro e w2 ⟨v2, rfl, hO2, hb2⟩
 replace hO := hO.below hb2
 have hb3 : Below w.heap.size w w2 := below_step hb hb2
 have hs3 := hb3.size
 obtain ⟨A1, c1, rfl, hR1, _⟩ := hO2.reads'
 have hln : (sh m).length + (txts l).length ≤ 140737488355328 := by
  have h1 := HLL.out
  have h2 := HSH.out
  omega
 go_wp2_with (at_builtin; refine push_row (w0 := w) w.heap.size rfl (.tmp 6) (.tmp 8) 22 (txts l) A1 _ c1 rfl Tryz.underlying22 u8_info rfl rfl hO hR1 hb3 hs3 hln ?_)
 intro v3 w3 hO3 hb4 _ _
 have hO4 : OB 5 w3 w.heap.size v3 (lst l) := by unfold lst; rw [HM.out]; exact hO3
 go_wp2_with fail
 go_ret
 exact ⟨_, rfl, hO4, hb4⟩
end Go.Proofs.YtpjpgcjhdbiepaaGreat
end
