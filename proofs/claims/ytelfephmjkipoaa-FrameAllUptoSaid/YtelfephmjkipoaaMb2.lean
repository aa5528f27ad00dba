/- Contracts of functions that the laws reach (texts laid together, part 2): each says of its call what it answers and what it leaves of memory; the conditions stand in each statement. -/
import Derived.Test.YtelfephmjkipoaaMb1
import Derived.Recover
import Derived.WalkLawsBesides
import Derived.Deep.RegionLaw
import Derived.Laws.CopyOwn
import Derived.Test.YtelfephmjkipoaaWEqStruct
import Derived.Test.YtelfephmjkipoaaWGuard
import Derived.Laws.Cover3
import Derived.Deep.RegionWith
import Derived.Deep.RegionHeld3
import Derived.Deep.DeepMust
import Derived.Deep.MidRow
set_option linter.unusedVariables false
/-! The program's reader: NewReader, text, Text, List. -/
section
namespace Go.Proofs.Ytelfephmjkipoaa
open Go.RowKit Go.Kit Go.Proofs.YtelfephmjkipoaaW.PrintWords
set_option maxHeartbeats 1000000 in
theorem NewReader_any (A : Option Addr) (n cap : Nat) (xs : List Int) (w : World) (hx : RB w A n xs) (hl : n ≤ 140737488355328) :
    Calls Try.prog 62 #[.slice A n cap] w fun e w' => ∃ r A' c, e = .returned (.pointer (some ⟨r, 0, none⟩)) ∧ RS w' r A' n c (Rd.new xs) ∧ (∀ k, rdf r A' k → w.heap.size ≤ k) ∧ Below w.heap.size w w' := by
  have HL := Lib.hid hx.len
  go_enter Try.func62, Try.ntmps62
  go_wp2_with fail
  refine (fresh_any A n cap 0 xs w hx (by omega)).mono ?_
  rintro e w1 ⟨v, rfl, hO, hb⟩
  obtain ⟨A', c, rfl, hR, hc⟩ := hO.reads'
  rw [HL.out] at hO hR hc ⊢
  have hold := hO.old
  have hfrom := hO.from
  have hbl := below_alloc (Below.refl _ w1) (.cells #[.slice A' n c, .int .i64 0, .bool true, .int .i64 0, .int .i64 0] 120)
  have hk := heap_alloc_new w1 (.cells #[.slice A' n c, .int .i64 0, .bool true, .int .i64 0, .int .i64 0] 120)
  have hR2 := hR.below hbl
  have hb2 := below_step hb hbl
  clear hO
  go_wp2_with fail
  go_ret
  have hblk : ∀ a, A' = some a → a.block < w1.heap.size := fun a e => hold a.block (by rw [e]; rfl)
  refine ⟨w1.heap.size, A', c, rfl, ⟨hk, hR2, hc, hl, Nat.zero_le _, fun _ => rfl, fun a e => Nat.ne_of_lt (hblk a e), fun a e => Nat.lt_of_lt_of_le (hblk a e) hbl.size⟩, ?_, hb2⟩
  rintro k (rfl | ⟨a, e, rfl⟩)
  · exact hb.size
  · exact hfrom a.block (by rw [e]; rfl)
theorem own_not_r {w : World} {base r : Nat} {v : Value} {xs : List ByteArray} {cs : Array Value} {fr : Nat × Nat} (h : OT 9 w base v xs) (hk : w.heap[r]? = some (.cells cs 120 fr)) : v.ownBlock = none ∨ v.ownBlock ≠ some r := by
  rcases h.2 with ⟨h1, _⟩ | ⟨g, cap, cur, h1, h2, h3, h4⟩
  · exact .inl (by rw [h1]; rfl)
  · refine .inr (fun e => ?_)
    rw [h1] at e; cases e
    rw [hk] at h3
    simp at h3
theorem sep_own {w : World} {base r n c : Nat} {A : Option Addr} {D : Rd} {v : Value} {xs : List ByteArray} (h : OT 9 w base v xs) (hk : RS w r A n c D) (hA : ∀ a, A = some a → a.block < base) : Sep (rdf r A) (rf v) := fun k hk1 hv => by
  rcases h.2 with ⟨h1, _⟩ | ⟨g, cap, cur, h1, h2, h3, h4⟩
  · rw [h1] at hv; cases hv
  · rw [h1] at hv; cases hv
    rcases hk1 with rfl | ⟨a, e, rfl⟩
    · rw [hk.rk] at h3; simp at h3
    · have := hA a e; omega
section
variable {w w1 : World} {r n c : Nat} {A : Option Addr} {D : Rd} {S : Nat → Prop}
attribute [-go_sem] run_slice_lh run_slice_any
set_option maxHeartbeats 2000000 in
set_option maxRecDepth 100000 in
theorem text_any (h : RS w r A n c D) (a : Nat) (ha : a ≤ n) (most : Int) (hmo0 : 0 ≤ most) (hmo : most ≤ 9223372036854775807) :
    Calls Try.prog 110 #[.pointer (some ⟨r, 0, none⟩), .int .i64 (a : Int), .int .i64 most] w fun e w' => ∃ (s : ByteArray) (en : Nat) (x : Int), e = .returned (.tuple #[.string s, .int .i64 (en : Int), .int .i64 x]) ∧ Hid (textAt D.bs a most = (s, en, x)) ∧ w' = w := by
  have h0 := h.r0
  have hm := h.max
  have hcc := h.cap
  have HL := Lib.hid h.row.len
  have hwm : IntKind.u64.wrap most = most := IntWalk.u64_in _ ⟨by omega, by omega⟩
  go_enter Try.func110, Try.ntmps110
  go_wp2_with fail
  refine (number_any h a ha).mono ?_
  rintro e w2 ⟨m, k, x, rfl, HN, rfl⟩
  have hnf := num_facts h.row.byt (a := a) (by rw [HL.out]; exact ha)
  rw [HN.out, HL.out] at hnf
  obtain ⟨g1, g2, g3, g4, g5⟩ := hnf
  dsimp only at g1 g2 g3 g4 g5
  by_cases hx : x = 0
  · have hxb : (x != 0) = false := by simp [hx]
    by_cases hmm : most < (m : Int)
    · have HF : Hid (textAt D.bs a most = (ByteArray.empty, 0, 3)) := Lib.hid (by
        unfold textAt
        rw [HN.out]
        rw [if_neg (by simpa using hx), if_pos hmm])
      clear hx g1 g2 g4 g5
      go_wp2_with fail
      go_ret3
      exact ⟨_, 0, _, rfl, HF, rfl⟩
    · have hmm2 : ¬ most < (m : Int) := hmm
      have hws : IntKind.u64.wrap ((n : Int) - (a : Int) - (k : Int)) = (n : Int) - (a : Int) - (k : Int) := IntWalk.u64_in _ ⟨by omega, by omega⟩
      have hwi : IntKind.i64.wrap ((n : Int) - (a : Int) - (k : Int)) = (n : Int) - (a : Int) - (k : Int) := IntWalk.i64_in _ ⟨by omega, by omega⟩
      have hwi2 : IntKind.i64.wrap ((n : Int) - (a : Int)) = (n : Int) - (a : Int) := IntWalk.i64_in _ ⟨by omega, by omega⟩
      by_cases hfit : n < a + k + m
      · have HF : Hid (textAt D.bs a most = (ByteArray.empty, 0, 4)) := Lib.hid (by
          unfold textAt
          rw [HN.out]
          rw [if_neg (by simpa using hx), if_neg hmm, if_pos (by rw [HL.out]; exact hfit)])
        have hf2 : (n : Int) - (a : Int) - (k : Int) < (m : Int) := by omega
        clear hx g1 g2 g4 g5 hmm
        go_wp2_with fail
        go_ret3
        exact ⟨_, 0, _, rfl, HF, rfl⟩
      · have HF : Hid (textAt D.bs a most = (strOfNums ((D.bs.drop (a + k)).take m), a + k + m, 0)) := Lib.hid (by
          unfold textAt
          rw [HN.out]
          rw [if_neg (by simpa using hx), if_neg hmm, if_neg (by rw [HL.out]; exact hfit)])
        have hf2 : (m : Int) ≤ (n : Int) - (a : Int) - (k : Int) := by omega
        obtain ⟨A', hcut, hA', _⟩ := mid_bytes A n c (a + k) (a + k + m) (by omega) (by omega) hcc
        replace hcut := hcut ((a : Int) + (k : Int)) ((a : Int) + (k : Int) + (m : Int)) (by omega) (by omega)
        have hrm := hA' _ _ h.row
        have hmn : a + k + m - (a + k) = m := by omega
        rw [hmn] at hcut hrm
        have hmb : (m : Int) ≤ 9223372036854775807 := by omega
        have ka := string_of_reads (P := Try.prog) (c := c - (a + k)) Try.underlying38 Try.underlying5 Try.underlying9 hrm.rd
        clear hx g1 g2 g4 g5 hmm hA' hmn hrm
        go_wp2_with fail
        go_ret3
        exact ⟨_, a + k + m, _, by simp, HF, rfl⟩
  · have hxb : (x != 0) = true := by simp [hx]
    have HF : Hid (textAt D.bs a most = (ByteArray.empty, 0, x)) := Lib.hid (by
      unfold textAt
      rw [HN.out]
      rw [if_pos (by simpa using hx)])
    clear hx g1 g2 g4 g5
    go_wp2_with fail
    go_ret3
    exact ⟨_, 0, _, rfl, HF, rfl⟩
set_option maxHeartbeats 2000000 in
theorem Text_any (h : RS w r A n c D) (most : Int) (hmo : most ≤ 9223372036854775807) : Calls Try.prog 85 #[.pointer (some ⟨r, 0, none⟩), .int .i64 most] w fun e w' => ∃ D1 s, e = .returned (.string s) ∧ Hid (textS D most = (D1, s)) ∧ RS w' r A n c D1 ∧ Only w w' (fun k => k = r) := by
  have h1 := h.r1
  have hf1 := h.fr 1
  have hm := h.max
  have HL := Lib.hid h.row.len
  by_cases hw : D.why = 0
  · have HW := Lib.hid hw
    go_enter Try.func85, Try.ntmps85
    go_wp2_with fail
    refine (well_any h true (by simpa using hw)).mono ?_
    rintro e w2 ⟨rfl, rfl⟩
    clear hw
    by_cases hneg : most < 0
    · have HF : Hid (textS D most = (D.fail 1 D.at_, ByteArray.empty)) := Lib.hid (by
        unfold textS
        rw [if_neg (by rw [HW.out]; simp), if_pos hneg])
      go_wp2_with fail
      refine (fails_any h 1 D.at_ (by decide)).mono ?_
      rintro e w4 ⟨rfl, hs, ho⟩
      go_wp2_with fail
      go_ret
      exact ⟨_, _, rfl, HF, hs, ho⟩
    · have hneg2 : ¬ most < 0 := hneg
      go_wp2_with fail
      refine (text_any h D.at_ h.low most (by omega) hmo).mono ?_
      rintro e w3 ⟨s, en, x, rfl, HN, rfl⟩
      have HF : Hid (textS D most = if x ≠ 0 then (D.fail x D.at_, ByteArray.empty) else (D.to en, s)) := Lib.hid (by
        unfold textS
        rw [if_neg (by rw [HW.out]; simp), if_neg (by omega), HN.out])
      by_cases hx : x = 0
      · rw [if_neg (by simpa using hx)] at HF
        have hen : en ≤ n := by
          have := textAt_end h.ok hx HN.out
          rw [HL.out] at this; exact this
        have hxb : (x != 0) = false := by simp [hx]
        have hs := h.set1 (en : Int) en rfl hen
        have ho := only_r w3 r 1 (.int .i64 (en : Int))
        clear hx hneg2
        go_wp2_with fail
        go_ret
        exact ⟨_, _, rfl, HF, hs, ho⟩
      · rw [if_pos hx] at HF
        have hxb : (x != 0) = true := by simp [hx]
        have HX := Lib.hid hx
        clear hx hneg2
        go_wp2_with fail
        refine (fails_any h x D.at_ HX.out).mono ?_
        rintro e w4 ⟨rfl, hs, ho⟩
        go_wp2_with fail
        go_ret
        exact ⟨_, _, rfl, HF, hs, ho⟩
  · have HF : Hid (textS D most = (D, ByteArray.empty)) := Lib.hid (by unfold textS; rw [if_pos hw])
    go_enter Try.func85, Try.ntmps85
    go_wp2_with fail
    refine (well_any h false (by simpa using hw)).mono ?_
    rintro e w2 ⟨rfl, rfl⟩
    clear hw
    go_wp2_with fail
    go_ret
    exact ⟨_, _, rfl, HF, h, Only.refl _ _⟩
set_option maxHeartbeats 4000000 in
set_option maxRecDepth 100000 in
theorem List_any (h : RS w r A n c D) (hn : n ≤ 4398046511104) (most each : Int) (hmo : most ≤ 9223372036854775807) (hea : each ≤ 9223372036854775807) : Calls Try.prog 84 #[.pointer (some ⟨r, 0, none⟩), .int .i64 most, .int .i64 each] w fun e w' => ∃ D1 v l, e = .returned v ∧ Hid (listS D most each = (D1, l)) ∧ OT 9 w' w.heap.size v l ∧ RS w' r A n c D1 ∧ Only w w' (fun k => k = r) := by
  have h1 := h.r1
  have hm := h.max
  have HL := Lib.hid h.row.len
  by_cases hw : D.why = 0
  · have HW := Lib.hid hw
    go_enter Try.func84, Try.ntmps84
    go_wp2_with fail
    refine (well_any h true (by simpa using hw)).mono ?_
    rintro e w2 ⟨rfl, rfl⟩
    clear hw
    by_cases hneg : most < 0 ∨ each < 0
    · have HF : Hid (listS D most each = (D.fail 1 D.at_, [])) := Lib.hid (by
        unfold listS
        rw [if_neg (by rw [HW.out]; simp), if_pos hneg])
      have hdd : (decide (most < 0) || decide (each < 0)) = true := by simpa using hneg
      by_cases hm0 : most < 0
      · clear hneg
        go_wp2_with fail
        refine (fails_any h 1 D.at_ (by decide)).mono ?_
        rintro e w4 ⟨rfl, hs, ho⟩
        go_wp2_with fail
        go_ret
        exact ⟨_, _, [], rfl, HF, OT.nil _ _ _, hs, ho⟩
      · have hm1 : each < 0 := hneg.resolve_left hm0
        clear hneg
        go_wp2_with fail
        refine (fails_any h 1 D.at_ (by decide)).mono ?_
        rintro e w4 ⟨rfl, hs, ho⟩
        go_wp2_with fail
        go_ret
        exact ⟨_, _, [], rfl, HF, OT.nil _ _ _, hs, ho⟩
    · have hm0 : ¬ most < 0 := fun e => hneg (.inl e)
      have he0 : ¬ each < 0 := fun e => hneg (.inr e)
      have HNG := Lib.hid hneg
      clear hneg
      go_wp2_with fail
      refine (number_any h D.at_ h.low).mono ?_
      rintro e w3 ⟨m, k, x, rfl, HN, rfl⟩
      obtain ⟨g1, g2, g3, g4, g5⟩ := numF h.ok HN.out
      rw [h.row.len] at g2
      have hwm : IntKind.u64.wrap most = most := IntWalk.u64_in _ ⟨by omega, by omega⟩
      by_cases hx : x = 0
      · subst hx
        by_cases hmm : most < (m : Int)
        · have HF : Hid (listS D most each = (D.fail 11 D.at_, [])) := Lib.hid (by
            unfold listS
            rw [if_neg (by rw [HW.out]; simp), if_neg HNG.out, HN.out, if_neg (by simp), if_pos hmm])
          clear g1 g4 g5
          go_wp2_with fail
          refine (fails_any h 11 D.at_ (by decide)).mono ?_
          rintro e w4 ⟨rfl, hs, ho⟩
          go_wp2_with fail
          go_ret
          exact ⟨_, _, [], rfl, HF, OT.nil _ _ _, hs, ho⟩
        · have HF : Hid (listS D most each = if (lstR D.bs each m (D.at_ + k) []).2.2 ≠ 0 then (D.fail (lstR D.bs each m (D.at_ + k) []).2.2 (lstR D.bs each m (D.at_ + k) []).2.1, []) else (D.to (lstR D.bs each m (D.at_ + k) []).2.1, (lstR D.bs each m (D.at_ + k) []).1)) := Lib.hid (by
            unfold listS
            rw [if_neg (by rw [HW.out]; simp), if_neg HNG.out, HN.out, if_neg (by simp), if_neg hmm])
          have HM : Hid (m < 18446744073709551616) := g1
          clear g1 g4 g5
          go_wp2_with fail
          go_loopg [7, 10, 11] m (fun gk v7 v10 v11 w' => ∃ (j a : Nat) (acc : List ByteArray), v7 = .int .u64 (j : Int) ∧ v11 = .int .i64 (a : Int) ∧ OT 9 w' w3.heap.size v10 acc ∧ RS w' r A n c D ∧ Below w3.heap.size w3 w' ∧ Hid (lstR D.bs each m (D.at_ + k) [] = lstR D.bs each j a acc ∧ a ≤ n ∧ acc.length ≤ a ∧ j ≤ m ∧ gk = j))
          case atStart => exact ⟨m, D.at_ + k, [], rfl, by simp, OT.nil _ _ _, h, Below.refl _ _, rfl, g2, by simp, by omega, rfl⟩
          case round =>
            have hAo := h.old
            clear h h1
            obtain ⟨j, a, acc, rfl, rfl, hO, h, hb1, HG⟩ := hrel
            have hsz := hb1.size
            rcases j with _ | j
            · have hs := h.set1 (a : Int) a rfl HG.out.2.1
              have ho : Only w3 (wr.setCell ⟨r, 1, none⟩ (.int .i64 (a : Int))) (fun k => k = r) := (Only.of_below hb1 _).set r 1 _ (.inl rfl)
              have hf1 := h.fr 1
              have h1 := h.r1
              have HFF : Hid (listS D most each = (D.to a, acc)) := Lib.hid (by
                rw [HF.out, HG.out.1]
                rfl)
              have hOk := hO.kept (grown_set wr r 1 (.int .i64 (a : Int))) (own_not_r hO h.rk)
              go_wp2_with fail
              go_ret
              exact ⟨_, _, acc, rfl, HFF, hOk, hs, ho⟩
            · have hj : (0 : Int) < ((j + 1 : Nat) : Int) := by omega
              have hj1 : IntKind.u64.wrap (((j + 1 : Nat) : Int) - 1) = (j : Int) := by rw [IntWalk.u64_in _ ⟨by omega, by have := HM.out; have := HG.out; omega⟩]; omega
              go_wp2_with fail
              refine (text_any h a HG.out.2.1 each (by omega) hea).mono ?_
              rintro e w4 ⟨s, en, x, rfl, HT, rfl⟩
              obtain ⟨q1, q2⟩ := textAt_facts h.row.byt (by rw [h.row.len]; exact HG.out.2.1) HT.out
              rw [h.row.len] at q1
              by_cases hx : x = 0
              · obtain ⟨q3, q4, q5, _⟩ := q1 hx
                have hxb : (x != 0) = false := by simp [hx]
                have HNX : Hid (lstR D.bs each m (D.at_ + k) [] = lstR D.bs each j en (acc ++ [s])) := Lib.hid (by
                  rw [HG.out.1, lstR, HT.out, if_neg (by simpa using hx)])
                have hln : (acc.length + 1) * 16 ≤ 140737488355328 := by have := HG.out.2.2.1; have := HG.out.2.1; omega
                have hlen : (acc ++ [s]).length ≤ en := by rw [List.length_append]; have := HG.out.2.2.1; simp; omega
                have HLEN := Lib.hid hlen
                have hjm := HG.out.2.2.2.1
                have hgk := HG.out.2.2.2.2
                clear hx q1 q2 q4 q5 hlen
                go_wp2_with (at_builtin; refine print_append_of (w0 := w3) Value.string w3.heap.size rfl (.tmp 85) (.tmp 87) 27 9 (.string ByteArray.empty) 16 rfl Try.underlying27 str_info rfl (by decide) _ acc s rfl rfl rfl hO hb1 hsz hln ?_)
                intro v1 w5 hown hb5 hg hat
                replace hown : OT 9 w5 w3.heap.size v1 (acc ++ [s]) := by unfold OT; simpa using hown
                have h5 : RS w5 r A n c D := h.only ((Only.refl w4 (rf u10)).grown hg (fun k e => .inl e)) (sep_own hO h hAo)
                clear hO hg hat hln
                go_wp2_with fail
                go_roundg j
                case measure => omega
                case rel => exact ⟨j, en, _, by first | rfl | (rw [hj1]) | simp, rfl, hown, h5, hb5, HNX.out, q3, HLEN.out, by omega, rfl⟩
              · have hxb : (x != 0) = true := by simp [hx]
                have HX := Lib.hid hx
                have HFF : Hid (listS D most each = (D.fail x a, [])) := Lib.hid (by
                  rw [HF.out, HG.out.1, lstR, HT.out, if_pos hx, if_pos hx])
                clear hx q1 q2
                go_wp2_with fail
                refine (fails_any h x a HX.out).mono ?_
                rintro e w5 ⟨rfl, hs, ho⟩
                have ho2 : Only w3 w5 (fun k => k = r) := (Only.of_below hb1 (fun k => k = r)).same ho
                go_wp2_with fail
                go_ret
                exact ⟨_, _, [], rfl, HFF, OT.nil _ _ _, hs, ho2⟩
      · have HF : Hid (listS D most each = (D.fail x D.at_, [])) := Lib.hid (by
          unfold listS
          rw [if_neg (by rw [HW.out]; simp), if_neg HNG.out, HN.out, if_pos hx])
        have hxb : (x != 0) = true := by simp [hx]
        have hxc : (x == 0) = false := by simp [hx]
        have HX := Lib.hid hx
        clear hx g1 g2 g3 g4 g5
        go_wp2_with fail
        refine (fails_any h x D.at_ HX.out).mono ?_
        rintro e w4 ⟨rfl, hs, ho⟩
        go_wp2_with fail
        go_ret
        exact ⟨_, _, [], rfl, HF, OT.nil _ _ _, hs, ho⟩
  · have HF : Hid (listS D most each = (D, [])) := Lib.hid (by unfold listS; rw [if_pos hw])
    go_enter Try.func84, Try.ntmps84
    go_wp2_with fail
    refine (well_any h false (by simpa using hw)).mono ?_
    rintro e w2 ⟨rfl, rfl⟩
    clear hw
    go_wp2_with fail
    go_ret
    exact ⟨_, _, [], rfl, HF, OT.nil _ _ _, h, Only.refl _ _⟩
end
end Go.Proofs.Ytelfephmjkipoaa
end
/-! The contracts of frame.head and frame.Need. -/
section
namespace Go.Proofs.Ytelfephmjkipoaa
open Go.RowKit Go.Kit Go.Proofs.YtelfephmjkipoaaW.PrintWords
attribute [local go_sem] Go.Proofs.YtelfephmjkipoaaW.PrintMore.max_two Go.Proofs.YtelfephmjkipoaaW.PrintMore.min_two
attribute [-go_sem] run_slice_h run_slice_any
theorem fault_why (x y : Int) (W : World) : (Instr.field 58 (.agg #[.int .i64 x, .int .i64 y]) 0).run Try.prog W = .ok (.int .i64 x) W := by kernel_rfl
attribute [local go_sem] fault_why
set_option maxHeartbeats 4000000 in
set_option maxRecDepth 100000 in
theorem head_any (A : Option Addr) (n cap : Nat) (xs : List Int) (w : World) (hx : RB w A n xs) (hc : n ≤ cap) :
    Calls Try.prog 42 #[.slice A n cap] w fun e w' => ∃ (m k : Nat) (x : Int), e = .returned (.tuple #[.int .i64 (m : Int), .int .i64 (k : Int), .int .i64 x]) ∧ Hid (headF xs = (m, k, x)) ∧ Below w.heap.size w w' := by
  obtain ⟨t, ht⟩ : ∃ t : Nat, t = min n 10 := ⟨_, rfl⟩
  have hmin : Builtin.min2 (.int .i64 (n : Int)) (.int .i64 10) = pure (.int .i64 (t : Int)) := min2_is (by omega)
  have hsl := head_bytes A n cap t (by omega)
  have hxt := RB.take_ hx t (by omega)
  have HN := Lib.hid (num_ten xs (t := t) (by rw [hx.len]; exact ht))
  have ht10 : t ≤ 10 := by omega
  clear ht
  go_enter Try.func42, Try.ntmps42
  go_wp2_with fail
  refine (NewReader_any A t cap _ _ hxt (by omega)).mono ?_
  rintro e w1 ⟨r, A', c, rfl, hR, hf, hb1⟩
  clear hmin hsl hxt
  go_wp2_with fail
  refine (Uint_any hR).mono ?_
  rintro e w2 ⟨D1, v, rfl, HU, hR2, ho2⟩
  have hb2 : Below w.heap.size w w2 := Below.only hb1 ho2 hb1.size (fun k e => hf k (.inl e))
  have hok := hR.ok
  go_wp2_with fail
  refine (Fault_any hR2).mono ?_
  rintro e w3 ⟨rfl, hb3⟩
  have hR3 := hR2.below hb3
  have hb4 := below_step hb2 hb3
  have HUU := HU.out
  rcases uintS_cases hok rfl with ⟨m, k, hN, hu, hm, hk, hk1⟩ | ⟨m, k, x, hx0, hN, hu⟩
  · rw [show (Rd.new (xs.take t)).bs = xs.take t from rfl, show (Rd.new (xs.take t)).at_ = 0 from rfl, HN.out] at hN
    rw [hu] at HUU
    cases HUU
    have HNX := Lib.hid hN
    have hv64 : IntKind.i64.wrap (v : Int) = (v : Int) ∨ 2097152 < v := by
      rcases Nat.lt_or_ge 2097152 v with h | h
      · exact .inr h
      · exact .inl (IntWalk.i64_in _ ⟨by omega, by omega⟩)
    have hat : (((Rd.new (xs.take t)).to ((Rd.new (xs.take t)).at_ + k)).at_ : Int) = (k : Int) := by show ((0 + k : Nat) : Int) = _; rw [Nat.zero_add]
    have hwhy : ((Rd.new (xs.take t)).to ((Rd.new (xs.take t)).at_ + k)).why = 0 := rfl
    have HX := Lib.hid hwhy
    rw [hwhy]
    generalize ((Rd.new (xs.take t)).to ((Rd.new (xs.take t)).at_ + k)).wat = wat
    clear hN hu hwhy HU hR hf ho2 hb2 hb3 hb1 hok
    by_cases hbig : 2097152 < v
    · have hbig2 : (2097152 : Int) < (v : Int) := by omega
      have HF : Hid (headF xs = (0, 0, 3)) := Lib.hid (by unfold headF; rw [HNX.out, if_neg (by simp), if_neg (by simp), if_pos hbig])
      clear hv64
      go_wp2_with fail
      go_ret3
      exact ⟨0, 0, 3, rfl, HF, hb4⟩
    · replace hv64 := hv64.resolve_right hbig
      have hbig2 : ¬ (2097152 : Int) < (v : Int) := by omega
      by_cases hz : v = 0
      · have hz2 : ((v : Int) == 0) = true := by rw [beq_iff_eq]; omega
        have HF : Hid (headF xs = (0, 0, 70)) := Lib.hid (by unfold headF; rw [HNX.out, if_neg (by simp), if_neg (by simp), if_neg hbig, if_pos hz])
        clear hz
        go_wp2_with fail
        go_ret3
        exact ⟨0, 0, 70, rfl, HF, hb4⟩
      · have hz2 : ((v : Int) == 0) = false := by rw [beq_eq_false_iff_ne]; omega
        have HF : Hid (headF xs = (v, k, 0)) := Lib.hid (by unfold headF; rw [HNX.out, if_neg (by simp), if_neg (by simp), if_neg hbig, if_neg hz])
        clear hz
        go_wp2_with fail
        refine (At_any hR3).mono ?_
        rintro e w5 ⟨rfl, rfl⟩
        rw [hat]
        go_wp2_with fail
        go_ret3
        exact ⟨v, k, 0, rfl, HF, hb4⟩
  · rw [show (Rd.new (xs.take t)).bs = xs.take t from rfl, show (Rd.new (xs.take t)).at_ = 0 from rfl, HN.out] at hN
    rw [hu] at HUU
    cases HUU
    have HNX := Lib.hid hN
    have hwhy : ((Rd.new (xs.take t)).fail x (Rd.new (xs.take t)).at_).why = x := rfl
    rw [hwhy]
    generalize ((Rd.new (xs.take t)).fail x (Rd.new (xs.take t)).at_).wat = wat
    clear hN hu hwhy HU hR hf ho2 hb2 hb3 hb1 hok hR2 hR3
    by_cases h4 : x = 4
    · subst h4
      have HF : Hid (headF xs = (0, 0, 0)) := Lib.hid (by unfold headF; rw [HNX.out, if_pos rfl])
      clear hx0
      go_wp2_with fail
      go_ret3
      exact ⟨0, 0, 0, rfl, HF, hb4⟩
    · have h4b : (x == 4) = false := by rw [beq_eq_false_iff_ne]; exact h4
      have h0b : (x != 0) = true := by simpa using hx0
      have HF : Hid (headF xs = (0, 0, x)) := Lib.hid (by unfold headF; rw [HNX.out, if_neg h4, if_pos hx0])
      clear h4 hx0
      go_wp2_with fail
      go_ret3
      exact ⟨0, 0, x, rfl, HF, hb4⟩
theorem headF_facts {xs : List Int} (hb : Byt xs) {m k : Nat} {x : Int} (h : headF xs = (m, k, x)) : m ≤ 2097152 ∧ k ≤ 10 ∧ k ≤ xs.length := by
  have hf := num_facts hb (Nat.zero_le xs.length)
  unfold headF at h
  split at h
  · cases h; omega
  split at h
  · cases h; omega
  split at h
  · cases h; omega
  split at h
  · cases h; omega
  · cases h; omega
set_option maxHeartbeats 4000000 in
set_option maxRecDepth 100000 in
theorem Need_any (A : Option Addr) (n cap : Nat) (xs : List Int) (w : World) (hx : RB w A n xs) (hc : n ≤ cap) :
    Calls Try.prog 28 #[.slice A n cap] w fun e w' => ∃ (m k : Nat) (x : Int), e = .returned (.tuple #[.int .i64 (m : Int), .int .i64 x]) ∧ Hid (needF xs = (m, k, x)) ∧ Below w.heap.size w w' := by
  have HB := Lib.hid hx.byt
  go_enter Try.func28, Try.ntmps28
  go_wp2_with fail
  refine (head_any A n cap xs _ hx hc).mono ?_
  rintro e w1 ⟨m, k, x, rfl, HH, hb⟩
  have hf := headF_facts HB.out HH.out
  have hm := hf.1
  have hk := hf.2.1
  clear hf
  by_cases h0 : x = 0
  · subst h0
    by_cases hk0 : k = 0
    · have hkb : ((k : Int) == 0) = true := by rw [beq_iff_eq]; omega
      have HF : Hid (needF xs = (0, 0, 0)) := Lib.hid (by unfold needF; rw [HH.out, if_pos (.inr hk0)])
      clear hk0
      go_wp2_with fail
      go_ret2
      exact ⟨0, 0, 0, rfl, HF, hb⟩
    · have hkb : ((k : Int) == 0) = false := by rw [beq_eq_false_iff_ne]; omega
      have HF : Hid (needF xs = (m + k + 4, k, 0)) := Lib.hid (by unfold needF; rw [HH.out, if_neg (by simp; exact hk0)])
      clear hk0
      go_wp2_with fail
      go_ret2
      exact ⟨m + k + 4, k, 0, rfl, HF, hb⟩
  · have h0b : (x != 0) = true := by simpa using h0
    have HF : Hid (needF xs = (0, 0, x)) := Lib.hid (by unfold needF; rw [HH.out, if_pos (.inl h0)])
    clear h0
    go_wp2_with fail
    go_ret2
    exact ⟨0, 0, x, rfl, HF, hb⟩
end Go.Proofs.Ytelfephmjkipoaa
end
/-! The contract of frame.part. -/
section
namespace Go.Proofs.Ytelfephmjkipoaa
open Go.RowKit Go.Kit Go.Proofs.YtelfephmjkipoaaW.PrintWords
section
variable {w w1 : World} {r n c : Nat} {A : Option Addr} {D : Rd}
/-- What is raised. -/
def raisedF (x y : Int) : List PanicEntry := [{ v := .iface 58 (.agg #[.int .i64 x, .int .i64 y]), recovered := false }]
theorem _root_.Go.Kit.Only.fault {S : Nat → Prop} {w w1 w2 : World} (h : Only w w1 S) (hb : Below w1.heap.size w1 w2) : Only w w2 S := h.below hb
set_option maxHeartbeats 4000000 in
set_option maxRecDepth 100000 in
theorem part_any (h : RS w r A n c D) (most : Int) (hmo : most ≤ 9223372036854775807) : Calls Try.prog 70 #[.pointer (some ⟨r, 0, none⟩), .int .i64 most] w fun e w' =>
    ∃ D1 v, Hid (countS D most = (D1, v)) ∧ RS w' r A n c D1 ∧ Only w w' (fun k => k = r) ∧ ((Hid (¬ (D1.why = 0 ∧ v = 0)) ∧ e = .returned (.int .i64 ((v : Nat) : Int))) ∨ (Hid (D1.why = 0 ∧ v = 0) ∧ e = .panicked (raisedF 70 (D.at_ : Int)))) := by
  have hqg : Try.prog.eqGuardType Try.prog.depth 58 = false := by kernel_rfl
  have hz : ∀ W : World, (Instr.build 58 #[]).run Try.prog W = .ok (.agg #[.int .i64 0, .int .i64 0]) W := fun W => by kernel_rfl
  have hb2 : ∀ (x y : Int) (W : World), (Instr.build 58 #[(0, .int .i64 x), (1, .int .i64 y)]).run Try.prog W = .ok (.agg #[.int .i64 x, .int .i64 y]) W := fun x y W => by kernel_rfl
  go_enter Try.func70, Try.ntmps70
  go_wp2_with fail
  refine (At_any h).mono ?_
  rintro e w0 ⟨rfl, rfl⟩
  go_wp2_with fail
  refine (Count_any h most hmo).mono ?_
  rintro e w2 ⟨D1, v, rfl, HC, hR, ho⟩
  by_cases hv : v = 0
  · have hvb : ((v : Int) == 0) = true := by rw [beq_iff_eq]; omega
    by_cases hw : D1.why = 0
    · have HV : Hid (D1.why = 0 ∧ v = 0) := Lib.hid ⟨hw, hv⟩
      have heq := run_fault D1.why D1.wat true (by rw [hw, hR.inv hw]; rfl)
      clear hv hw
      go_wp2_with fail
      refine (Fault_any hR).mono ?_
      rintro e w3 ⟨rfl, hb⟩
      have hR3 := hR.below hb
      have ho3 := Only.fault ho hb
      go_wp2_with fail
      exact ⟨rfl, D1, v, HC, hR3, ho3, .inr ⟨HV, rfl⟩⟩
    · have HV : Hid (¬ (D1.why = 0 ∧ v = 0)) := Lib.hid (fun e => hw e.1)
      have heq := run_fault D1.why D1.wat false (by rw [Bool.and_eq_false_iff]; left; rw [beq_eq_false_iff_ne]; exact hw)
      clear hv hw
      go_wp2_with fail
      refine (Fault_any hR).mono ?_
      rintro e w3 ⟨rfl, hb⟩
      have hR3 := hR.below hb
      have ho3 := Only.fault ho hb
      go_wp2_with fail
      go_ret
      exact ⟨D1, v, HC, hR3, ho3, .inl ⟨HV, rfl⟩⟩
  · have hvb : ((v : Int) == 0) = false := by rw [beq_eq_false_iff_ne]; omega
    have HV : Hid (¬ (D1.why = 0 ∧ v = 0)) := Lib.hid (fun e => hv e.2)
    clear hv
    go_wp2_with fail
    go_ret
    exact ⟨D1, v, HC, hR, ho, .inl ⟨HV, rfl⟩⟩
end
end Go.Proofs.Ytelfephmjkipoaa
end
/-! Frames in memory that are written; the contracts of what reads a kind's fields. -/
section
namespace Go.Kit
open Go.RowKit Go.Proofs.YtelfephmjkipoaaW.PrintWords
namespace Fr
section
variable {t : TypeId} {w w1 : World} {g : Nat} {f : Fr} {S : Nat → Prop}
theorem at_.only (h : f.at_ t w g) (ho : Only w w1 S) (hs : ¬ S g) : f.at_ t w1 g := ⟨ho.kept h.blk hs, h.tool⟩
theorem at_.lt (h : f.at_ t w g) : g < w.heap.size := lt_of_block h.blk
theorem at_.fz (h : f.at_ t w g) (j : Nat) : w.frozen? ⟨g, j, none⟩ = false := frozen_of_row w g j _ _ h.blk
theorem set_tail (T : List Value) (hT : T.length = 32) (a b c d : Value) (R : List Value) (j : Nat) (v : Value) : ([a, b, c, d] ++ (T ++ R)).set (36 + j) v = [a, b, c, d] ++ (T ++ R.set j v) := by
  rw [List.set_append_right _ _ (by simp; omega), List.set_append_right _ _ (by simp; omega)]
  congr 3
  simp; omega
theorem at_.put (h : f.at_ t w g) {f1 : Fr} (j : Nat) (v : Value) (he : f.cells.set j v = f1.cells) (ht : f1.tool = f.tool) : f1.at_ t (w.setCell ⟨g, j, none⟩ v) g := by
  refine ⟨?_, by rw [ht]; exact h.tool⟩
  have h1 := heap_set_same w g j _ _ v h.blk
  rw [h1]
  unfold Fr.arr
  rw [List.setIfInBounds_toArray, he]
theorem at_.set0 (h : f.at_ t w g) (x : Int) : ({ f with k := x } : Fr).at_ t (w.setCell ⟨g, 0, none⟩ (.int .i64 x)) g := h.put 0 _ rfl rfl
theorem at_.set1 (h : f.at_ t w g) (x : Int) : ({ f with id := x } : Fr).at_ t (w.setCell ⟨g, 1, none⟩ (.int .u64 x)) g := h.put 1 _ rfl rfl
theorem at_.set2 (h : f.at_ t w g) (x : Int) : ({ f with v := x } : Fr).at_ t (w.setCell ⟨g, 2, none⟩ (.int .i64 x)) g := h.put 2 _ rfl rfl
theorem at_.set3 (h : f.at_ t w g) (x : Int) : ({ f with s := x } : Fr).at_ t (w.setCell ⟨g, 3, none⟩ (.int .i64 x)) g := h.put 3 _ rfl rfl
theorem len32 (h : f.at_ t w g) : (nums .u8 f.tool).length = 32 := by simp [nums, h.tool]
theorem at_.set36 (h : f.at_ t w g) (x : Int) : ({ f with st := x } : Fr).at_ t (w.setCell ⟨g, 36, none⟩ (.int .i64 x)) g := h.put 36 _ (set_tail _ (len32 h) _ _ _ _ _ 0 _) rfl
theorem at_.set37 (h : f.at_ t w g) (x : Int) : ({ f with mo := x } : Fr).at_ t (w.setCell ⟨g, 37, none⟩ (.int .i64 x)) g := h.put 37 _ (set_tail _ (len32 h) _ _ _ _ _ 1 _) rfl
theorem at_.set38 (h : f.at_ t w g) (x : Int) : ({ f with fu := x } : Fr).at_ t (w.setCell ⟨g, 38, none⟩ (.int .i64 x)) g := h.put 38 _ (set_tail _ (len32 h) _ _ _ _ _ 2 _) rfl
theorem at_.set39 (h : f.at_ t w g) (x : Int) : ({ f with di := x } : Fr).at_ t (w.setCell ⟨g, 39, none⟩ (.int .i64 x)) g := h.put 39 _ (set_tail _ (len32 h) _ _ _ _ _ 3 _) rfl
theorem at_.set40 (h : f.at_ t w g) (A : Option Addr) (n c : Nat) (l : List ByteArray) : ({ f with A := A, n := n, c := c, args := l } : Fr).at_ t (w.setCell ⟨g, 40, none⟩ (.slice A n c)) g := h.put 40 _ (set_tail _ (len32 h) _ _ _ _ _ 4 _) rfl
theorem at_.set41 (h : f.at_ t w g) (s : ByteArray) : ({ f with body := s } : Fr).at_ t (w.setCell ⟨g, 41, none⟩ (.string s)) g := h.put 41 _ (set_tail _ (len32 h) _ _ _ _ _ 5 _) rfl
theorem tool_splice (T U : List Value) (hT : T.length = 32) (a b c d : Value) (R : List Value) : ([a, b, c, d] ++ (T ++ R)).take 4 ++ (U ++ ([a, b, c, d] ++ (T ++ R)).drop (4 + 32)) = [a, b, c, d] ++ (U ++ R) := by
  have h1 : ([a, b, c, d] ++ (T ++ R)).drop (4 + 32) = R := by
    rw [← List.append_assoc, List.drop_append_of_le_length (by simp; omega)]
    rw [List.drop_of_length_le (by simp; omega), List.nil_append]
  rw [h1]; rfl
theorem at_.c37 (h : f.at_ t w g) : w.cell? ⟨g, 37, none⟩ = some (.int .i64 f.mo) := h.cell 37 _ (by rw [tail_at f h.tool 1]; rfl)
theorem at_.c38 (h : f.at_ t w g) : w.cell? ⟨g, 38, none⟩ = some (.int .i64 f.fu) := h.cell 38 _ (by rw [tail_at f h.tool 2]; rfl)
theorem at_.c39 (h : f.at_ t w g) : w.cell? ⟨g, 39, none⟩ = some (.int .i64 f.di) := h.cell 39 _ (by rw [tail_at f h.tool 3]; rfl)
/-- The tool written over. -/
theorem at_.tooled (h : f.at_ t w g) (ts : List Int) (hl : ts.length = 32) : ({ f with tool := ts } : Fr).at_ t (w.setRow g (f.arr.toList.take 4 ++ (nums .u8 ts ++ f.arr.toList.drop (4 + (nums .u8 ts).length))).toArray) g := by
  refine ⟨?_, hl⟩
  rw [setRow_heap w g _ _ t _ h.blk]
  have h2 : (nums .u8 ts).length = 32 := by simp [nums, hl]
  rw [h2]
  exact congrArg (fun l : List Value => some (Obj.cells l.toArray t (0, 0))) (tool_splice (nums .u8 f.tool) (nums .u8 ts) (len32 h) _ _ _ _ _)
theorem only_row (w : World) (g : Nat) (cs : Array Value) : Only w (w.setRow g cs) (fun k => k = g) :=
  ⟨rfl, rfl, rfl, by simp, fun k _ hk => setRow_other w g k cs hk⟩
theorem only_at (w : World) (g j : Nat) (v : Value) : Only w (w.setCell ⟨g, j, none⟩ v) (fun k => k = g) := (Only.refl w _).set g j v (.inl rfl)
end
end Fr
theorem RT.apart {w w1 : World} {A : Option Addr} {n : Nat} {xs : List ByteArray} {S : Nat → Prop} (h : RT w A n xs) (ho : Only w w1 S) (hs : ∀ a, A = some a → ¬ S a.block) : RT w1 A n xs :=
  ⟨h.1, h.2.1, fun hn => by
    obtain ⟨ad, e, hc⟩ := h.2.2 hn
    exact ⟨ad, e, fun j hj => ho.cell (hc j hj) (by rw [add_block]; exact hs ad e)⟩⟩
/-- A row of texts of the call's own: where it lies. -/
theorem OT.open_ {e : TypeId} {w : World} {base : Nat} {v : Value} {xs : List ByteArray} (h : OT e w base v xs) : ∃ A c, v = .slice A xs.length c ∧ RT w A xs.length xs ∧ xs.length ≤ c ∧ ∀ a, A = some a → base ≤ a.block ∧ a.block < w.heap.size := by
  obtain ⟨A, c, hv, hr⟩ := h.reads
  rcases h.2 with ⟨h1, h2⟩ | ⟨g, cap, cur, h1, h2, h3, h4, h5⟩
  · rw [h1] at hv
    injection hv with e1 e2 e3
    subst e1
    exact ⟨none, c, by rw [h1, ← e2, ← e3], hr, by omega, fun a e => by cases e⟩
  · rw [h1] at hv
    injection hv with e1 e2 e3
    refine ⟨A, c, by rw [h1, e1, e3], hr, by omega, fun a ha => ?_⟩
    rw [← e1] at ha
    cases ha
    exact ⟨h2, lt_of_block h3⟩
end Go.Kit
end
/-! The contracts of what reads a kind's fields: hello, response, cancel, bye, note. -/
section
namespace Go.Proofs.Ytelfephmjkipoaa
open Go.RowKit Go.Kit Go.Proofs.YtelfephmjkipoaaW.PrintWords
/-- A frame of a kind without fields. -/
def kF (k : Int) : Fr := ⟨k, 0, 0, 0, z32, 0, 0, 0, 0, none, 0, 0, [], ByteArray.empty⟩
/-- A frame's texts lie in a row of the call's own. -/
def OwnA (w : World) (base : Nat) (F : Fr) : Prop := OT 9 w base (.slice F.A F.n F.c) F.args
theorem OwnA.none (w : World) (base : Nat) {F : Fr} (h : F.A = none ∧ F.n = 0 ∧ F.c = 0 ∧ F.args = []) : OwnA w base F := by
  unfold OwnA; rw [h.1, h.2.1, h.2.2.1, h.2.2.2]; exact OT.nil _ _ _
theorem OwnA.below {w w1 : World} {base : Nat} {F : Fr} (h : OwnA w base F) (hb : Below w.heap.size w w1) : OwnA w1 base F := OT.below h hb
theorem OwnA.less {w : World} {base b : Nat} {F : Fr} (h : OwnA w base F) (hle : b ≤ base) : OwnA w b F := OT.less h hle
theorem ot_only {e : TypeId} {w w1 : World} {base : Nat} {v : Value} {xs : List ByteArray} {S : Nat → Prop} (h : OT e w base v xs) (ho : Only w w1 S) (hs : Sep (rf v) S) : OT e w1 base v xs := by
  refine ⟨h.1, ?_⟩
  rcases h.2 with h1 | ⟨g, cap, cur, h1, h2, h3, h4⟩
  · exact .inl h1
  · exact .inr ⟨g, cap, cur, h1, h2, ho.kept h3 (hs g (by rw [h1]; rfl)), h4⟩
theorem own_block_at {A : Option Addr} {n c k : Nat} (h : rf (.slice A n c) k) : ∃ a, A = some a ∧ a.block = k := by
  unfold rf Value.ownBlock at h
  cases A with
  | none => simp at h
  | some a => exact ⟨a, rfl, by simpa using h⟩
theorem OwnA.only {w w1 : World} {base : Nat} {F : Fr} {S : Nat → Prop} (h : OwnA w base F) (ho : Only w w1 S) (hs : ∀ a, F.A = some a → ¬ S a.block) : OwnA w1 base F :=
  ot_only h ho (fun k hk hS => by obtain ⟨a, e, rfl⟩ := own_block_at hk; exact hs a e hS)
theorem OwnA.fresh {w : World} {base : Nat} {F : Fr} (h : OwnA w base F) : ∀ a, F.A = some a → base ≤ a.block ∧ a.block < w.heap.size := fun a e => by
  obtain ⟨A, c, hv, _, _, hA⟩ := OT.open_ h
  injection hv with h1
  exact hA a (h1 ▸ e)
/-- What a kind's reading leaves. -/
def KindPost (w : World) (r g n c : Nat) (A : Option Addr) (D : Rd) (k : Nat) (e : Ending) (w' : World) : Prop :=
  (∃ (D1 : Rd) (F : Fr), e = .returned (.tuple #[]) ∧ Hid (kindS D k = (D1, F.core)) ∧ RS w' r A n c D1 ∧ F.at_ 29 w' g ∧ F.ok w' ∧ OwnA w' w.heap.size F ∧ Only w w' (fun k => k = r ∨ k = g)) ∨
  (∃ (F : Fr), e = .panicked (raisedF 70 (kindS D k).1.wat) ∧ Hid ((kindS D k).1.why = 70) ∧ F.at_ 29 w' g ∧ Only w w' (fun k => k = r ∨ k = g))
theorem notr {r g : Nat} {A : Option Addr} (h : ¬ rdf r A g) : ¬ g = r := fun e => h (.inl e)
theorem sepg {r g : Nat} {A : Option Addr} (h : ¬ rdf r A g) : Sep (rdf r A) (fun k => k = g) := fun k hk e => h (e ▸ hk)
theorem _root_.Go.Kit.Only.orr {w w1 w2 : World} {r g : Nat} (h : Only w w1 (fun k => k = r ∨ k = g)) (h2 : Only w1 w2 (fun k => k = r)) : Only w w2 (fun k => k = r ∨ k = g) := h.same (h2.mono (fun _ e => .inl e))
theorem _root_.Go.Kit.Only.org {w w1 w2 : World} {r g : Nat} (h : Only w w1 (fun k => k = r ∨ k = g)) (h2 : Only w1 w2 (fun k => k = g)) : Only w w2 (fun k => k = r ∨ k = g) := h.same (h2.mono (fun _ e => .inr e))
section
variable {w : World} {r g n c : Nat} {A : Option Addr} {D : Rd}
theorem rt_none (w : World) {F : Fr} (hA : F.A = none) (hn : F.n = 0) (ha : F.args = []) : RT w F.A F.n F.args := by rw [hA, hn, ha]; exact RT.nil w
set_option maxHeartbeats 4000000 in
set_option maxRecDepth 100000 in
theorem cancel_read (h : RS w r A n c D) (hF : (kF 4).at_ 29 w g) (hs : ¬ rdf r A g) : Calls Try.prog 95 #[.pointer (some ⟨r, 0, none⟩), .pointer (some ⟨g, 0, none⟩)] w (KindPost w r g n c A D 4) := by
  go_enter Try.func95, Try.ntmps95
  go_wp2_with fail
  refine (Uint_any h).mono ?_
  rintro e w2 ⟨D1, v, rfl, HU, hR, ho⟩
  have hF2 := hF.only ho (notr hs)
  have q1 := hF2.c1
  have f1 := hF2.fz 1
  have ho2 := (Only.refl w (fun k => k = r ∨ k = g)).orr ho
  have hF3 := hF2.set1 (v : Int)
  have hR3 := hR.only (Fr.only_at w2 g 1 (.int .u64 (v : Int))) (sepg hs)
  have ho3 := ho2.org (Fr.only_at w2 g 1 (.int .u64 (v : Int)))
  have HK : Hid (kindS D 4 = (D1, ({ kF 4 with id := (v : Int) } : Fr).core)) := Lib.hid (by
    show cancelS D = _
    unfold cancelS; rw [HU.out]; rfl)
  clear hF hF2 hR ho ho2 HU
  go_wp2_with fail
  exact bodyPost_end (v := .tuple #[]) (by simp [results, Try.results95, go_sem]) rfl (.inl ⟨D1, _, rfl, HK, hR3, hF3, ⟨rfl, rt_none _ rfl rfl rfl⟩, OwnA.none _ _ ⟨rfl, rfl, rfl, rfl⟩, ho3⟩)
set_option maxHeartbeats 4000000 in
set_option maxRecDepth 100000 in
theorem note_read (h : RS w r A n c D) (hF : (kF 6).at_ 29 w g) (hs : ¬ rdf r A g) : Calls Try.prog 102 #[.pointer (some ⟨r, 0, none⟩), .pointer (some ⟨g, 0, none⟩)] w (KindPost w r g n c A D 6) := by
  go_enter Try.func102, Try.ntmps102
  go_wp2_with fail
  refine (Text_any h 2097152 (by omega)).mono ?_
  rintro e w2 ⟨D1, v, rfl, HU, hR, ho⟩
  have hF2 := hF.only ho (notr hs)
  have q1 := hF2.c41
  have f1 := hF2.fz 41
  have ho2 := (Only.refl w (fun k => k = r ∨ k = g)).orr ho
  have hF3 := hF2.set41 v
  have hR3 := hR.only (Fr.only_at w2 g 41 (.string v)) (sepg hs)
  have ho3 := ho2.org (Fr.only_at w2 g 41 (.string v))
  have HK : Hid (kindS D 6 = (D1, ({ kF 6 with body := v } : Fr).core)) := Lib.hid (by
    show noteS D = _
    unfold noteS; rw [HU.out]; rfl)
  clear hF hF2 hR ho ho2 HU
  go_wp2_with fail
  exact bodyPost_end (v := .tuple #[]) (by simp [results, Try.results102, go_sem]) rfl (.inl ⟨D1, _, rfl, HK, hR3, hF3, ⟨rfl, rt_none _ rfl rfl rfl⟩, OwnA.none _ _ ⟨rfl, rfl, rfl, rfl⟩, ho3⟩)
set_option maxHeartbeats 4000000 in
set_option maxRecDepth 100000 in
theorem bye_read (h : RS w r A n c D) (hF : (kF 5).at_ 29 w g) : Calls Try.prog 99 #[.pointer (some ⟨r, 0, none⟩), .pointer (some ⟨g, 0, none⟩)] w (KindPost w r g n c A D 5) := by
  go_enter Try.func99, Try.ntmps99
  go_wp2_with fail
  exact bodyPost_end (v := .tuple #[]) (by simp [results, Try.results99, go_sem]) rfl (.inl ⟨D, kF 5, rfl, Lib.hid rfl, h, hF, ⟨rfl, rt_none _ rfl rfl rfl⟩, OwnA.none _ _ ⟨rfl, rfl, rfl, rfl⟩, Only.refl _ _⟩)
set_option maxHeartbeats 4000000 in
set_option maxRecDepth 100000 in
theorem response_read (h : RS w r A n c D) (hF : (kF 3).at_ 29 w g) (hs : ¬ rdf r A g) : Calls Try.prog 91 #[.pointer (some ⟨r, 0, none⟩), .pointer (some ⟨g, 0, none⟩)] w (KindPost w r g n c A D 3) := by
  go_enter Try.func91, Try.ntmps91
  go_wp2_with fail
  refine (Uint_any h).mono ?_
  rintro e w2 ⟨D1, v, rfl, HU, hR, ho⟩
  have hF2 := hF.only ho (notr hs)
  have q1 := hF2.c1
  have f1 := hF2.fz 1
  have ho2 := (Only.refl w (fun k => k = r ∨ k = g)).orr ho
  have hF3 := hF2.set1 (v : Int)
  have hR3 := hR.only (Fr.only_at w2 g 1 (.int .u64 (v : Int))) (sepg hs)
  have ho3 := ho2.org (Fr.only_at w2 g 1 (.int .u64 (v : Int)))
  clear hF hF2 hR ho ho2
  go_wp2_with fail
  generalize w2.setCell ⟨g, 1, none⟩ (.int .u64 (v : Int)) = w3 at *
  clear q1 f1
  refine (part_any hR3 3 (by omega)).mono ?_
  rintro e w4 ⟨D2, st, HC, hR4, ho4, (⟨HV, rfl⟩ | ⟨HV, rfl⟩)⟩
  · have hF4 := hF3.only ho4 (notr hs)
    have ho5 := ho3.orr ho4
    have q1 := hF4.c36
    have f1 := hF4.fz 36
    have hF5 := hF4.set36 (st : Int)
    have hR5 := hR4.only (Fr.only_at w4 g 36 (.int .i64 (st : Int))) (sepg hs)
    have ho6 := ho5.org (Fr.only_at w4 g 36 (.int .i64 (st : Int)))
    clear hR3 hF3 ho3 hR4 ho4 hF4 ho5
    go_wp2_with fail
    generalize w4.setCell ⟨g, 36, none⟩ (.int .i64 (st : Int)) = w5 at *
    clear q1 f1
    refine (Text_any hR5 2097152 (by omega)).mono ?_
    rintro e w6 ⟨D3, s, rfl, HT, hR6, ho7⟩
    have hF6 := hF5.only ho7 (notr hs)
    have q1 := hF6.c41
    have f1 := hF6.fz 41
    have ho8 := ho6.orr ho7
    have hF7 := hF6.set41 s
    have hR7 := hR6.only (Fr.only_at w6 g 41 (.string s)) (sepg hs)
    have ho9 := ho8.org (Fr.only_at w6 g 41 (.string s))
    have HK : Hid (kindS D 3 = (D3, ({ kF 3 with id := (v : Int), st := (st : Int), body := s } : Fr).core)) := Lib.hid (by
      show responseS D = _
      unfold responseS; rw [HU.out]; dsimp only; rw [someS_some HC.out HV.out]; dsimp only; rw [HT.out]; rfl)
    clear hF5 hF6 hR5 hR6 ho6 ho7 ho8
    go_wp2_with fail
    exact bodyPost_end (v := .tuple #[]) (by simp [results, Try.results91, go_sem]) rfl (.inl ⟨D3, _, rfl, HK, hR7, hF7, ⟨rfl, rt_none _ rfl rfl rfl⟩, OwnA.none _ _ ⟨rfl, rfl, rfl, rfl⟩, ho9⟩)
  · have ho5 := ho3.orr ho4
    have HK : Hid ((kindS D 3).1 = D1.fail 70 D1.at_) := Lib.hid (by
      have hbad : (D1.fail 70 D1.at_).why ≠ 0 := by show (70 : Int) ≠ 0; decide
      show (responseS D).1 = _
      unfold responseS; rw [HU.out]; dsimp only
      have h0 := HV.out.2
      subst h0
      rw [someS_none HC.out HV.out.1]; dsimp only; rw [textS_bad hbad])
    have hF4 := hF3.only ho4 (notr hs)
    clear hR3 hF3 ho3 hR4 ho4
    refine ⟨rfl, .inr ⟨_, ?_, ?_, hF4, ho5⟩⟩
    · rw [HK.out]; rfl
    · exact Lib.hid (by rw [HK.out]; rfl)
end
end Go.Proofs.Ytelfephmjkipoaa
end
/-! The contracts of frame's Same and the document's Same. (frsame.py) -/
section
namespace Go.Proofs.Ytelfephmjkipoaa
open Go.RowKit Go.Kit Go.Proofs.YtelfephmjkipoaaW.PrintWords

theorem event_eq {P : Program} {ops : Array Oper} {rest : List Oper} {o : Oper} {a : Act} {Q : Exit → Act → World → Prop} {W : World} (hgd : o.guard = none) (t u : TypeId) (x y : Operand) (ho : o.op = .binOp .eql t x y u)
    (X Y : Array Value) (b : Bool) (hx : a.eval x = .agg X) (hy : a.eval y = .agg Y) (hm : P.eqGuardType P.depth t = false) (he : (Op.equalIn 10000 t (.agg X) (.agg Y)).run P W = .ok b W)
    (h : wpList P ops Q rest (a.put o.dst (.bool b)) W) : wpList P ops Q (o :: rest) a W := by
  refine Kd.event_run hgd (w1 := W) (v := .bool b) ?_ h
  unfold execOp
  simp only [ho, hx, hy]
  simp [run_eqGuard_agg W .eql t x y X Y hm, run_eql_struct W t X Y, he]
theorem lim_eq3 (a b c x y z : Int) (W : World) : (Op.equalIn 10000 26 (.agg #[.int .i64 a, .int .i64 b, .int .i64 c]) (.agg #[.int .i64 x, .int .i64 y, .int .i64 z])).run Try.prog W = .ok (a == x && (b == y && c == z)) W := by
  cases h0 : a == x <;> cases h1 : b == y <;> cases h2 : c == z <;> go_simp
theorem lim_eq (f g : Fr) : ∀ W, (Op.equalIn 10000 26 (.agg f.lim.toArray) (.agg g.lim.toArray)).run Try.prog W = .ok (f.mo == g.mo && (f.fu == g.fu && f.di == g.di)) W := fun W => lim_eq3 _ _ _ _ _ _ W
theorem tool_eq (x y : List Int) (hx : x.length = 32) (hy : y.length = 32) : ∀ W, (Op.equalIn 10000 24 (.agg (nums .u8 x).toArray) (.agg (nums .u8 y).toArray)).run Try.prog W = .ok (decide (x = y)) W := by
  intro W
  obtain ⟨i0, hi, hz0, hz1, hz2⟩ := info_parts u8_info
  exact run_equalIn_nums (P := Try.prog) (w := W) 9998 x y Try.underlying24 hi hz1 Try.underlying5 hx hy
theorem tool_size (f : Fr) (h : f.tool.length = 32) : (Try.prog.info? 24).map (·.size) = some (nums .u8 f.tool).length := by
  rw [show (nums .u8 f.tool).length = 32 from by simp [nums, h]]; kernel_rfl
set_option maxHeartbeats 8000000 in
set_option maxRecDepth 100000 in
theorem Same_any (f g : Fr) (w : World) (hf : f.ok w) (hg : g.ok w) :
    Calls Try.prog 12 #[f.val, g.val] w fun e w' => ∃ t, e = .returned (.bool t) ∧ Hid (t = f.same g) ∧ Below w.heap.size w w' := by
  have hT := tool_eq f.tool g.tool hf.tool hg.tool
  have hL := lim_eq f g
  have hs4 := tool_size f hf.tool
  have ht4 := tool_size g hg.tool
  have hq4 : Try.prog.eqGuardType Try.prog.depth 24 = false := by kernel_rfl
  have hq37 : Try.prog.eqGuardType Try.prog.depth 26 = false := by kernel_rfl
  have hsz : (Try.prog.info? 26).map (·.size) = some 3 := by kernel_rfl
  show Calls Try.prog _ #[.agg f.arr, .agg g.arr] w _
  go_enter Try.func12, Try.ntmps12
  have hF : f.at_ 29 ((w.alloc (.cells f.arr 29)).alloc (.cells g.arr 29)) w.heap.size := Fr.at_.below ⟨heap_alloc_new w _, hf.tool⟩ (below_alloc (Below.refl _ _) _)
  have hG : g.at_ 29 ((w.alloc (.cells f.arr 29)).alloc (.cells g.arr 29)) (w.heap.size + 1) := ⟨by simpa using heap_alloc_new (w.alloc (.cells f.arr 29)) (.cells g.arr 29), hg.tool⟩
  have hb := below_alloc (below_alloc (Below.refl _ w) (.cells f.arr 29)) (.cells g.arr 29)
  go_upto_region 1 with (fail)
  generalize (w.alloc (.cells f.arr 29)).alloc (.cells g.arr 29) = w2 at *
  generalize w.heap.size + 1 = g2 at *
  have rL := hF.r4
  have rM := hG.r4
  have rX := hF.r37
  have rY := hG.r37
  have hs37 : (Try.prog.info? 26).map (·.size) = some f.lim.length := hsz
  have ht37 : (Try.prog.info? 26).map (·.size) = some g.lim.length := hsz
  generalize nums .u8 f.tool = L at hT rL hs4
  generalize nums .u8 g.tool = M at hT rM ht4
  generalize f.lim = X at hL rX hs37
  generalize g.lim = Y at hL rY ht37
  have hf2 := hf.args.below hb
  have hg2 := hg.args.below hb
  have ac0 := hF.c0
  have bc0 := hG.c0
  have ac1 := hF.c1
  have bc1 := hG.c1
  have ac2 := hF.c2
  have bc2 := hG.c2
  have ac3 := hF.c3
  have bc3 := hG.c3
  have ac36 := hF.c36
  have bc36 := hG.c36
  have ac40 := hF.c40
  have bc40 := hG.c40
  have ac41 := hF.c41
  have bc41 := hG.c41
  cases h0 : f.k == g.k with
  | false =>
    have HS : Hid (false = f.same g) := Lib.hid (by simp only [Fr.same, h0, Bool.false_and])
    go_wp2_with fail
    go_ret
    exact ⟨_, rfl, HS, hb⟩
  | true =>
  cases h1 : f.id == g.id with
  | false =>
    have HS : Hid (false = f.same g) := Lib.hid (by simp only [Fr.same, h0, h1, Bool.true_and, Bool.false_and])
    go_wp2_with fail
    go_ret
    exact ⟨_, rfl, HS, hb⟩
  | true =>
  cases h2 : f.v == g.v with
  | false =>
    have HS : Hid (false = f.same g) := Lib.hid (by simp only [Fr.same, h0, h1, h2, Bool.true_and, Bool.false_and])
    go_wp2_with fail
    go_ret
    exact ⟨_, rfl, HS, hb⟩
  | true =>
  cases h3 : f.s == g.s with
  | false =>
    have HS : Hid (false = f.same g) := Lib.hid (by simp only [Fr.same, h0, h1, h2, h3, Bool.true_and, Bool.false_and])
    go_wp2_with fail
    go_ret
    exact ⟨_, rfl, HS, hb⟩
  | true =>
  cases h4 : decide (f.tool = g.tool) with
  | false =>
    have HS : Hid (false = f.same g) := Lib.hid (by simp only [Fr.same, h0, h1, h2, h3, h4, Bool.true_and, Bool.false_and])
    rw [h4] at hT
    go_wp2_with (first | (with_reducible show wpList _ _ _ (Oper.mk (some 33) _ _ _ _ _ :: _) _ _; refine gate_guard rfl ?_; refine wpList_load_mid rfl 24 (.tmp 32) rfl w.heap.size 4 rfl L _ rL Try.underlying24 rfl hs4 ?_) | (with_reducible show wpList _ _ _ (Oper.mk (some 35) _ _ _ _ _ :: _) _ _; refine gate_guard rfl ?_; refine wpList_load_mid rfl 24 (.tmp 34) rfl g2 4 rfl M _ rM Try.underlying24 rfl ht4 ?_) | (with_reducible show wpList _ _ _ (Oper.mk (some 36) _ _ _ _ _ :: _) _ _; refine gate_guard rfl ?_; refine event_eq rfl 24 24 (.tmp 33) (.tmp 35) rfl L.toArray M.toArray _ rfl rfl hq4 (hT _) ?_))
    go_ret
    exact ⟨_, rfl, HS, hb⟩
  | true =>
  rw [h4] at hT
  cases h5 : f.st == g.st with
  | false =>
    have HS : Hid (false = f.same g) := Lib.hid (by simp only [Fr.same, h0, h1, h2, h3, h4, h5, Bool.true_and, Bool.false_and])
    go_wp2_with (first | (with_reducible show wpList _ _ _ (Oper.mk (some 33) _ _ _ _ _ :: _) _ _; refine gate_guard rfl ?_; refine wpList_load_mid rfl 24 (.tmp 32) rfl w.heap.size 4 rfl L _ rL Try.underlying24 rfl hs4 ?_) | (with_reducible show wpList _ _ _ (Oper.mk (some 35) _ _ _ _ _ :: _) _ _; refine gate_guard rfl ?_; refine wpList_load_mid rfl 24 (.tmp 34) rfl g2 4 rfl M _ rM Try.underlying24 rfl ht4 ?_) | (with_reducible show wpList _ _ _ (Oper.mk (some 36) _ _ _ _ _ :: _) _ _; refine gate_guard rfl ?_; refine event_eq rfl 24 24 (.tmp 33) (.tmp 35) rfl L.toArray M.toArray _ rfl rfl hq4 (hT _) ?_))
    go_ret
    exact ⟨_, rfl, HS, hb⟩
  | true =>
  cases h6 : (f.mo == g.mo && (f.fu == g.fu && f.di == g.di)) with
  | false =>
    have HS : Hid (false = f.same g) := Lib.hid (by simp only [Fr.same, h0, h1, h2, h3, h4, h5, h6, Bool.true_and, Bool.false_and])
    rw [h6] at hL
    go_wp2_with (first | (with_reducible show wpList _ _ _ (Oper.mk (some 33) _ _ _ _ _ :: _) _ _; refine gate_guard rfl ?_; refine wpList_load_mid rfl 24 (.tmp 32) rfl w.heap.size 4 rfl L _ rL Try.underlying24 rfl hs4 ?_) | (with_reducible show wpList _ _ _ (Oper.mk (some 35) _ _ _ _ _ :: _) _ _; refine gate_guard rfl ?_; refine wpList_load_mid rfl 24 (.tmp 34) rfl g2 4 rfl M _ rM Try.underlying24 rfl ht4 ?_) | (with_reducible show wpList _ _ _ (Oper.mk (some 36) _ _ _ _ _ :: _) _ _; refine gate_guard rfl ?_; refine event_eq rfl 24 24 (.tmp 33) (.tmp 35) rfl L.toArray M.toArray _ rfl rfl hq4 (hT _) ?_) | (with_reducible show wpList _ _ _ (Oper.mk (some 47) _ _ _ _ _ :: _) _ _; refine gate_guard rfl ?_; refine wpList_load_mid rfl 26 (.tmp 46) rfl w.heap.size 37 rfl X _ rX Try.underlying26 rfl hs37 ?_) | (with_reducible show wpList _ _ _ (Oper.mk (some 49) _ _ _ _ _ :: _) _ _; refine gate_guard rfl ?_; refine wpList_load_mid rfl 26 (.tmp 48) rfl g2 37 rfl Y _ rY Try.underlying26 rfl ht37 ?_) | (with_reducible show wpList _ _ _ (Oper.mk (some 50) _ _ _ _ _ :: _) _ _; refine gate_guard rfl ?_; refine event_eq rfl 26 26 (.tmp 47) (.tmp 49) rfl X.toArray Y.toArray _ rfl rfl hq37 (hL _) ?_))
    go_ret
    exact ⟨_, rfl, HS, hb⟩
  | true =>
  rw [h6] at hL
  go_wp2_with (first | (with_reducible show wpList _ _ _ (Oper.mk (some 33) _ _ _ _ _ :: _) _ _; refine gate_guard rfl ?_; refine wpList_load_mid rfl 24 (.tmp 32) rfl w.heap.size 4 rfl L _ rL Try.underlying24 rfl hs4 ?_) | (with_reducible show wpList _ _ _ (Oper.mk (some 35) _ _ _ _ _ :: _) _ _; refine gate_guard rfl ?_; refine wpList_load_mid rfl 24 (.tmp 34) rfl g2 4 rfl M _ rM Try.underlying24 rfl ht4 ?_) | (with_reducible show wpList _ _ _ (Oper.mk (some 36) _ _ _ _ _ :: _) _ _; refine gate_guard rfl ?_; refine event_eq rfl 24 24 (.tmp 33) (.tmp 35) rfl L.toArray M.toArray _ rfl rfl hq4 (hT _) ?_) | (with_reducible show wpList _ _ _ (Oper.mk (some 47) _ _ _ _ _ :: _) _ _; refine gate_guard rfl ?_; refine wpList_load_mid rfl 26 (.tmp 46) rfl w.heap.size 37 rfl X _ rX Try.underlying26 rfl hs37 ?_) | (with_reducible show wpList _ _ _ (Oper.mk (some 49) _ _ _ _ _ :: _) _ _; refine gate_guard rfl ?_; refine wpList_load_mid rfl 26 (.tmp 48) rfl g2 37 rfl Y _ rY Try.underlying26 rfl ht37 ?_) | (with_reducible show wpList _ _ _ (Oper.mk (some 50) _ _ _ _ _ :: _) _ _; refine gate_guard rfl ?_; refine event_eq rfl 26 26 (.tmp 47) (.tmp 49) rfl X.toArray Y.toArray _ rfl rfl hq37 (hL _) ?_))
  refine (SEq_any f.A g.A f.n g.n f.c g.c f.args g.args w2 hf2 hg2).mono ?_
  rintro e w3 ⟨t7, rfl, h7, hb7⟩
  have a41 := (hF.below hb7).c41
  have b41 := (hG.below hb7).c41
  replace hb := below_step hb hb7
  cases t7
  · have HS : Hid (false = f.same g) := Lib.hid (by simp only [Fr.same, h0, h1, h2, h3, h4, h5, h6, ← h7.out, Bool.true_and, Bool.false_and])
    go_wp2_with fail
    go_ret
    exact ⟨_, rfl, HS, hb⟩
  · have HS : Hid ((f.body.toList == g.body.toList) = f.same g) := Lib.hid (by simp only [Fr.same, h0, h1, h2, h3, h4, h5, h6, ← h7.out, Bool.true_and])
    go_wp2_with fail
    go_ret
    exact ⟨_, rfl, HS, hb⟩
set_option maxHeartbeats 8000000 in
set_option maxRecDepth 100000 in
theorem rSame_any (f g : Fr) (w : World) (hf : f.ok w) (hg : g.ok w) :
    Calls Try.prog 13 #[f.val, g.val] w fun e w' => ∃ t, e = .returned (.bool t) ∧ Hid (t = f.same g) ∧ Below w.heap.size w w' := by
  have hT := tool_eq f.tool g.tool hf.tool hg.tool
  have hL := lim_eq f g
  have hs4 := tool_size f hf.tool
  have ht4 := tool_size g hg.tool
  have hq4 : Try.prog.eqGuardType Try.prog.depth 24 = false := by kernel_rfl
  have hq37 : Try.prog.eqGuardType Try.prog.depth 26 = false := by kernel_rfl
  have hsz : (Try.prog.info? 26).map (·.size) = some 3 := by kernel_rfl
  show Calls Try.prog _ #[.agg f.arr, .agg g.arr] w _
  go_enter Try.func13, Try.ntmps13
  have hF : f.at_ 29 ((w.alloc (.cells f.arr 29)).alloc (.cells g.arr 29)) w.heap.size := Fr.at_.below ⟨heap_alloc_new w _, hf.tool⟩ (below_alloc (Below.refl _ _) _)
  have hG : g.at_ 29 ((w.alloc (.cells f.arr 29)).alloc (.cells g.arr 29)) (w.heap.size + 1) := ⟨by simpa using heap_alloc_new (w.alloc (.cells f.arr 29)) (.cells g.arr 29), hg.tool⟩
  have hb := below_alloc (below_alloc (Below.refl _ w) (.cells f.arr 29)) (.cells g.arr 29)
  go_upto_region 1 with (fail)
  generalize (w.alloc (.cells f.arr 29)).alloc (.cells g.arr 29) = w2 at *
  generalize w.heap.size + 1 = g2 at *
  have rL := hF.r4
  have rM := hG.r4
  have rX := hF.r37
  have rY := hG.r37
  have hs37 : (Try.prog.info? 26).map (·.size) = some f.lim.length := hsz
  have ht37 : (Try.prog.info? 26).map (·.size) = some g.lim.length := hsz
  generalize nums .u8 f.tool = L at hT rL hs4
  generalize nums .u8 g.tool = M at hT rM ht4
  generalize f.lim = X at hL rX hs37
  generalize g.lim = Y at hL rY ht37
  have hf2 := hf.args.below hb
  have hg2 := hg.args.below hb
  have ac0 := hF.c0
  have bc0 := hG.c0
  have ac1 := hF.c1
  have bc1 := hG.c1
  have ac2 := hF.c2
  have bc2 := hG.c2
  have ac3 := hF.c3
  have bc3 := hG.c3
  have ac36 := hF.c36
  have bc36 := hG.c36
  have ac40 := hF.c40
  have bc40 := hG.c40
  have ac41 := hF.c41
  have bc41 := hG.c41
  cases h0 : f.k == g.k with
  | false =>
    have HS : Hid (false = f.same g) := Lib.hid (by simp only [Fr.same, h0, Bool.false_and])
    go_wp2_with fail
    go_ret
    exact ⟨_, rfl, HS, hb⟩
  | true =>
  cases h1 : f.id == g.id with
  | false =>
    have HS : Hid (false = f.same g) := Lib.hid (by simp only [Fr.same, h0, h1, Bool.true_and, Bool.false_and])
    go_wp2_with fail
    go_ret
    exact ⟨_, rfl, HS, hb⟩
  | true =>
  cases h2 : f.v == g.v with
  | false =>
    have HS : Hid (false = f.same g) := Lib.hid (by simp only [Fr.same, h0, h1, h2, Bool.true_and, Bool.false_and])
    go_wp2_with fail
    go_ret
    exact ⟨_, rfl, HS, hb⟩
  | true =>
  cases h3 : f.s == g.s with
  | false =>
    have HS : Hid (false = f.same g) := Lib.hid (by simp only [Fr.same, h0, h1, h2, h3, Bool.true_and, Bool.false_and])
    go_wp2_with fail
    go_ret
    exact ⟨_, rfl, HS, hb⟩
  | true =>
  cases h4 : decide (f.tool = g.tool) with
  | false =>
    have HS : Hid (false = f.same g) := Lib.hid (by simp only [Fr.same, h0, h1, h2, h3, h4, Bool.true_and, Bool.false_and])
    rw [h4] at hT
    go_wp2_with (first | (with_reducible show wpList _ _ _ (Oper.mk (some 33) _ _ _ _ _ :: _) _ _; refine gate_guard rfl ?_; refine wpList_load_mid rfl 24 (.tmp 32) rfl w.heap.size 4 rfl L _ rL Try.underlying24 rfl hs4 ?_) | (with_reducible show wpList _ _ _ (Oper.mk (some 35) _ _ _ _ _ :: _) _ _; refine gate_guard rfl ?_; refine wpList_load_mid rfl 24 (.tmp 34) rfl g2 4 rfl M _ rM Try.underlying24 rfl ht4 ?_) | (with_reducible show wpList _ _ _ (Oper.mk (some 36) _ _ _ _ _ :: _) _ _; refine gate_guard rfl ?_; refine event_eq rfl 24 24 (.tmp 33) (.tmp 35) rfl L.toArray M.toArray _ rfl rfl hq4 (hT _) ?_))
    go_ret
    exact ⟨_, rfl, HS, hb⟩
  | true =>
  rw [h4] at hT
  cases h5 : f.st == g.st with
  | false =>
    have HS : Hid (false = f.same g) := Lib.hid (by simp only [Fr.same, h0, h1, h2, h3, h4, h5, Bool.true_and, Bool.false_and])
    go_wp2_with (first | (with_reducible show wpList _ _ _ (Oper.mk (some 33) _ _ _ _ _ :: _) _ _; refine gate_guard rfl ?_; refine wpList_load_mid rfl 24 (.tmp 32) rfl w.heap.size 4 rfl L _ rL Try.underlying24 rfl hs4 ?_) | (with_reducible show wpList _ _ _ (Oper.mk (some 35) _ _ _ _ _ :: _) _ _; refine gate_guard rfl ?_; refine wpList_load_mid rfl 24 (.tmp 34) rfl g2 4 rfl M _ rM Try.underlying24 rfl ht4 ?_) | (with_reducible show wpList _ _ _ (Oper.mk (some 36) _ _ _ _ _ :: _) _ _; refine gate_guard rfl ?_; refine event_eq rfl 24 24 (.tmp 33) (.tmp 35) rfl L.toArray M.toArray _ rfl rfl hq4 (hT _) ?_))
    go_ret
    exact ⟨_, rfl, HS, hb⟩
  | true =>
  cases h6 : (f.mo == g.mo && (f.fu == g.fu && f.di == g.di)) with
  | false =>
    have HS : Hid (false = f.same g) := Lib.hid (by simp only [Fr.same, h0, h1, h2, h3, h4, h5, h6, Bool.true_and, Bool.false_and])
    rw [h6] at hL
    go_wp2_with (first | (with_reducible show wpList _ _ _ (Oper.mk (some 33) _ _ _ _ _ :: _) _ _; refine gate_guard rfl ?_; refine wpList_load_mid rfl 24 (.tmp 32) rfl w.heap.size 4 rfl L _ rL Try.underlying24 rfl hs4 ?_) | (with_reducible show wpList _ _ _ (Oper.mk (some 35) _ _ _ _ _ :: _) _ _; refine gate_guard rfl ?_; refine wpList_load_mid rfl 24 (.tmp 34) rfl g2 4 rfl M _ rM Try.underlying24 rfl ht4 ?_) | (with_reducible show wpList _ _ _ (Oper.mk (some 36) _ _ _ _ _ :: _) _ _; refine gate_guard rfl ?_; refine event_eq rfl 24 24 (.tmp 33) (.tmp 35) rfl L.toArray M.toArray _ rfl rfl hq4 (hT _) ?_) | (with_reducible show wpList _ _ _ (Oper.mk (some 47) _ _ _ _ _ :: _) _ _; refine gate_guard rfl ?_; refine wpList_load_mid rfl 26 (.tmp 46) rfl w.heap.size 37 rfl X _ rX Try.underlying26 rfl hs37 ?_) | (with_reducible show wpList _ _ _ (Oper.mk (some 49) _ _ _ _ _ :: _) _ _; refine gate_guard rfl ?_; refine wpList_load_mid rfl 26 (.tmp 48) rfl g2 37 rfl Y _ rY Try.underlying26 rfl ht37 ?_) | (with_reducible show wpList _ _ _ (Oper.mk (some 50) _ _ _ _ _ :: _) _ _; refine gate_guard rfl ?_; refine event_eq rfl 26 26 (.tmp 47) (.tmp 49) rfl X.toArray Y.toArray _ rfl rfl hq37 (hL _) ?_))
    go_ret
    exact ⟨_, rfl, HS, hb⟩
  | true =>
  rw [h6] at hL
  go_wp2_with (first | (with_reducible show wpList _ _ _ (Oper.mk (some 33) _ _ _ _ _ :: _) _ _; refine gate_guard rfl ?_; refine wpList_load_mid rfl 24 (.tmp 32) rfl w.heap.size 4 rfl L _ rL Try.underlying24 rfl hs4 ?_) | (with_reducible show wpList _ _ _ (Oper.mk (some 35) _ _ _ _ _ :: _) _ _; refine gate_guard rfl ?_; refine wpList_load_mid rfl 24 (.tmp 34) rfl g2 4 rfl M _ rM Try.underlying24 rfl ht4 ?_) | (with_reducible show wpList _ _ _ (Oper.mk (some 36) _ _ _ _ _ :: _) _ _; refine gate_guard rfl ?_; refine event_eq rfl 24 24 (.tmp 33) (.tmp 35) rfl L.toArray M.toArray _ rfl rfl hq4 (hT _) ?_) | (with_reducible show wpList _ _ _ (Oper.mk (some 47) _ _ _ _ _ :: _) _ _; refine gate_guard rfl ?_; refine wpList_load_mid rfl 26 (.tmp 46) rfl w.heap.size 37 rfl X _ rX Try.underlying26 rfl hs37 ?_) | (with_reducible show wpList _ _ _ (Oper.mk (some 49) _ _ _ _ _ :: _) _ _; refine gate_guard rfl ?_; refine wpList_load_mid rfl 26 (.tmp 48) rfl g2 37 rfl Y _ rY Try.underlying26 rfl ht37 ?_) | (with_reducible show wpList _ _ _ (Oper.mk (some 50) _ _ _ _ _ :: _) _ _; refine gate_guard rfl ?_; refine event_eq rfl 26 26 (.tmp 47) (.tmp 49) rfl X.toArray Y.toArray _ rfl rfl hq37 (hL _) ?_))
  refine (RSame_any f.A g.A f.n g.n f.c g.c f.args g.args w2 hf2 hg2).mono ?_
  rintro e w3 ⟨t7, rfl, h7, hb7⟩
  have a41 := (hF.below hb7).c41
  have b41 := (hG.below hb7).c41
  replace hb := below_step hb hb7
  cases t7
  · have HS : Hid (false = f.same g) := Lib.hid (by simp only [Fr.same, h0, h1, h2, h3, h4, h5, h6, ← h7.out, Bool.true_and, Bool.false_and])
    go_wp2_with fail
    go_ret
    exact ⟨_, rfl, HS, hb⟩
  · have HS : Hid ((f.body.toList == g.body.toList) = f.same g) := Lib.hid (by simp only [Fr.same, h0, h1, h2, h3, h4, h5, h6, ← h7.out, Bool.true_and])
    go_wp2_with fail
    go_ret
    exact ⟨_, rfl, HS, hb⟩
end Go.Proofs.Ytelfephmjkipoaa
end
/-! slices.Clone of a row of texts; rows of texts of the call's own. -/
section
namespace Go.Proofs.Ytelfephmjkipoaa
open Go.RowKit Go.Kit Go.Proofs.YtelfephmjkipoaaW.PrintWords
set_option maxHeartbeats 1000000 in
set_option maxRecDepth 100000 in
theorem Clone_any (A : Option Addr) (n c : Nat) (xs : List ByteArray) (w : World) (hx : RT w A n xs) (hl : n * 16 ≤ 140737488351232) :
    Calls Try.prog 33 #[.slice A n c] w fun e w' => ∃ v, e = .returned v ∧ OT 9 w' w.heap.size v xs ∧ Below w.heap.size w w' := by
  have hnil : ∀ (W : World) (a : Option Addr) (l c : Nat), (binOp .eql 27 (.slice a l c) (.slice none 0 0)).run Try.prog W = .ok (.bool a.isNone) W := fun W a l c => by
    simp only [binOp]
    simp [run_equal_slice_nil W 27 9 a l c Try.underlying27]
  have HL := Lib.hid hl
  clear hl
  go_enter Try.func33, Try.ntmps33
  rcases A with _ | ad
  · obtain rfl : n = 0 := by
      rcases Nat.eq_zero_or_pos n with h | h
      · exact h
      · obtain ⟨ad, e, _⟩ := hx.2.2 h; cases e
    obtain rfl : xs = [] := List.length_eq_zero_iff.1 hx.len
    go_wp2_with fail
    go_ret
    exact ⟨_, rfl, OT.nil _ _ _, Below.refl _ _⟩
  · have hO : OT 9 (w.alloc (.cells #[] 9)) w.heap.size (.slice (some ⟨w.heap.size, 0, none⟩) 0 0) [] :=
      (OB.of_block (rest := []) (Nat.le_refl _) (heap_alloc_new w _) rfl rfl (by simp) Byt.nil).own
    have hb0 := below_alloc (Below.refl _ w) (.cells #[] 9)
    go_wp2_with (at_builtin; refine print_append_row_of Value.string ByteArray.empty w.heap.size rfl (.tmp 5) (.tmp 6) 27 9 (.string ByteArray.empty) 16 rfl Try.underlying27 str_info rfl (by decide) (fun _ => rfl) _ [] xs (some ad) n c rfl rfl hO (RT.below hx hb0) hb0 hb0.size (by have := HL.out; simp; omega) ?_)
    intro v1 w1 hown hb1 _ _
    go_wp2_with fail
    go_ret
    exact ⟨_, rfl, hown, hb1⟩
end Go.Proofs.Ytelfephmjkipoaa
end
/-! The contracts of frame's makers. -/
section
namespace Go.Proofs.Ytelfephmjkipoaa
open Go.RowKit Go.Kit Go.Proofs.YtelfephmjkipoaaW.PrintWords
def zero32 : List Int := List.replicate 32 0
def helloF (s : Int) (tool : List Int) : Fr := ⟨1, 0, 1, s, tool, 0, 0, 0, 0, none, 0, 0, [], ByteArray.empty⟩
def reqF (id mo fu di : Int) (A : Option Addr) (n c : Nat) (args : List ByteArray) (body : ByteArray) : Fr := ⟨2, id, 0, 0, zero32, 0, mo, fu, di, A, n, c, args, body⟩
def respF (id st : Int) (body : ByteArray) : Fr := ⟨3, id, 0, 0, zero32, st, 0, 0, 0, none, 0, 0, [], body⟩
def cancelF (id : Int) : Fr := ⟨4, id, 0, 0, zero32, 0, 0, 0, 0, none, 0, 0, [], ByteArray.empty⟩
def byeF : Fr := ⟨5, 0, 0, 0, zero32, 0, 0, 0, 0, none, 0, 0, [], ByteArray.empty⟩
def noteF (body : ByteArray) : Fr := ⟨6, 0, 0, 0, zero32, 0, 0, 0, 0, none, 0, 0, [], body⟩
def zeroF : Fr := ⟨0, 0, 0, 0, zero32, 0, 0, 0, 0, none, 0, 0, [], ByteArray.empty⟩
theorem frame_size : (Try.prog.info? 29).map (·.size) = some 42 := by kernel_rfl
theorem arr_one (f : Fr) : f.arr.all (·.oneCell') = true := by
  simp only [Fr.arr, Fr.cells, Fr.lim, List.all_toArray, List.all_append, Bool.and_eq_true, List.all_eq_true]
  refine ⟨?_, ?_, ?_, ?_, ?_⟩ <;> intro x hx
  · simp at hx; rcases hx with rfl | rfl | rfl | rfl <;> rfl
  · simp only [nums, List.mem_map] at hx; obtain ⟨q, _, rfl⟩ := hx; rfl
  all_goals simp at hx; rcases hx with rfl | rfl | rfl <;> rfl
theorem size_of (f : Fr) (h : f.tool.length = 32) : (Try.prog.info? 29).map (·.size) = some f.arr.size := by rw [frame_size, Fr.arr_size f h]
/-- What is built of some fields. -/
theorem built_of {w : World} {parts : Array (Nat × Value)} {cs : Array Value} (h : Try.prog.built 29 parts.toList = some cs) : (Instr.build 29 parts).run Try.prog w = .ok (.agg cs) w := run_build w _ _ _ h
theorem hello_built (s : Int) (tool : List Int) (h : tool.length = 32) (W : World) : (Instr.build 29 #[(0, .int .i64 1), (2, .int .i64 1), (3, .int .i64 s), (4, .agg (nums .u8 tool).toArray)]).run Try.prog W = .ok (.agg (helloF s tool).arr) W := by
  refine built_of ?_
  match tool, h with
  | [a0,a1,a2,a3,a4,a5,a6,a7,a8,a9,a10,a11,a12,a13,a14,a15,a16,a17,a18,a19,a20,a21,a22,a23,a24,a25,a26,a27,a28,a29,a30,a31], _ => show _ = _; kernel_rfl
theorem req_built (id mo fu di : Int) (A : Option Addr) (n c : Nat) (args : List ByteArray) (body : ByteArray) (W : World) : (Instr.build 29 #[(0, .int .i64 2), (1, .int .u64 id), (6, .agg #[.int .i64 mo, .int .i64 fu, .int .i64 di]), (7, .slice A n c), (8, .string body)]).run Try.prog W = .ok (.agg (reqF id mo fu di A n c args body).arr) W :=
  built_of (by show _ = _; kernel_rfl)
theorem resp_built (id st : Int) (body : ByteArray) (W : World) : (Instr.build 29 #[(0, .int .i64 3), (1, .int .u64 id), (5, .int .i64 st), (8, .string body)]).run Try.prog W = .ok (.agg (respF id st body).arr) W :=
  built_of (by show _ = _; kernel_rfl)
theorem cancel_built (id : Int) (W : World) : (Instr.build 29 #[(0, .int .i64 4), (1, .int .u64 id)]).run Try.prog W = .ok (.agg (cancelF id).arr) W :=
  built_of (by show _ = _; kernel_rfl)
theorem bye_built (W : World) : (Instr.build 29 #[(0, .int .i64 5)]).run Try.prog W = .ok (.agg byeF.arr) W :=
  built_of (by kernel_rfl)
theorem note_built (body : ByteArray) (W : World) : (Instr.build 29 #[(0, .int .i64 6), (8, .string body)]).run Try.prog W = .ok (.agg (noteF body).arr) W :=
  built_of (by show _ = _; kernel_rfl)
/-- The box of a frame that is to be returned. -/
structure Box (w w1 : World) (g : Nat) : Prop where
  blk : ∃ Z : Array Value, Z.size = 42 ∧ w1.heap[g]? = some (.cells Z 29 (0, 0))
  bel : Below w.heap.size w w1
  base : w.heap.size ≤ g
theorem box_of (w : World) : Box w (w.alloc (.cells zeroF.arr 29)) w.heap.size :=
  ⟨⟨zeroF.arr, by kernel_rfl, heap_alloc_new w _⟩, below_alloc (Below.refl _ w) _, Nat.le_refl _⟩
theorem box_of2 (w : World) (o : Obj) : Box w ((w.alloc o).alloc (.cells zeroF.arr 29)) (w.heap.size + 1) :=
  ⟨⟨zeroF.arr, by kernel_rfl, by simpa using heap_alloc_new (w.alloc o) (.cells zeroF.arr 29)⟩, below_alloc (below_alloc (Below.refl _ w) _) _, by omega⟩
attribute [-go_sem] Instr.build
set_option maxRecDepth 100000 in
theorem Bye_any (w : World) :
    Calls Try.prog 18 #[] w fun e w' => e = .returned (byeF).val ∧ Below w.heap.size w w' := by
  have hsz := size_of (byeF) rfl
  have hone := arr_one (byeF)
  have has := Fr.arr_size (byeF) rfl
  have hbl := bye_built
  unfold Fr.val
  generalize (byeF).arr = FA at *
  go_enter Try.func18, Try.ntmps18
  go_upto_region 1 with (fail)
  have hB := box_of w
  show Code.wp _ _ _ _ (w.alloc (.cells zeroF.arr 29))
  generalize w.alloc (.cells zeroF.arr 29) = w1 at *
  obtain ⟨⟨Z, hZ, hblk⟩, hbel, _⟩ := hB
  go_wp2_with (with_reducible show wpList _ _ _ (Oper.mk none _ _ _ _ _ :: _) _ _; refine wpList_store_row rfl 29 (.tmp 0) (.tmp 1) rfl w.heap.size FA rfl rfl 29 Z hblk hsz (by rw [hZ]; exact has.symm) hone ?_)
  exact bodyPost_ret (v := .agg FA) (results_cell_row rfl _ _ w.heap.size 29 FA (0, 0) _ rfl (setRow_heap _ _ _ _ _ _ hblk) Try.underlying29 rfl hsz) rfl ⟨rfl, below_setRow hbel (Nat.le_refl _) _⟩
set_option maxRecDepth 100000 in
theorem Note_any (body : ByteArray) (w : World) :
    Calls Try.prog 19 #[.string body] w fun e w' => e = .returned (noteF body).val ∧ Below w.heap.size w w' := by
  have hsz := size_of (noteF body) rfl
  have hone := arr_one (noteF body)
  have has := Fr.arr_size (noteF body) rfl
  have hbl := note_built body
  unfold Fr.val
  generalize (noteF body).arr = FA at *
  go_enter Try.func19, Try.ntmps19
  go_upto_region 1 with (fail)
  have hB := box_of w
  show Code.wp _ _ _ _ (w.alloc (.cells zeroF.arr 29))
  generalize w.alloc (.cells zeroF.arr 29) = w1 at *
  obtain ⟨⟨Z, hZ, hblk⟩, hbel, _⟩ := hB
  go_wp2_with (with_reducible show wpList _ _ _ (Oper.mk none _ _ _ _ _ :: _) _ _; refine wpList_store_row rfl 29 (.tmp 2) (.tmp 4) rfl w.heap.size FA rfl rfl 29 Z hblk hsz (by rw [hZ]; exact has.symm) hone ?_)
  exact bodyPost_ret (v := .agg FA) (results_cell_row rfl _ _ w.heap.size 29 FA (0, 0) _ rfl (setRow_heap _ _ _ _ _ _ hblk) Try.underlying29 rfl hsz) rfl ⟨rfl, below_setRow hbel (Nat.le_refl _) _⟩
set_option maxRecDepth 100000 in
theorem Cancel_any (id : Int) (w : World) :
    Calls Try.prog 17 #[.int .u64 id] w fun e w' => e = .returned (cancelF id).val ∧ Below w.heap.size w w' := by
  have hsz := size_of (cancelF id) rfl
  have hone := arr_one (cancelF id)
  have has := Fr.arr_size (cancelF id) rfl
  have hbl := cancel_built id
  unfold Fr.val
  generalize (cancelF id).arr = FA at *
  go_enter Try.func17, Try.ntmps17
  go_upto_region 1 with (fail)
  have hB := box_of w
  show Code.wp _ _ _ _ (w.alloc (.cells zeroF.arr 29))
  generalize w.alloc (.cells zeroF.arr 29) = w1 at *
  obtain ⟨⟨Z, hZ, hblk⟩, hbel, _⟩ := hB
  go_wp2_with (with_reducible show wpList _ _ _ (Oper.mk none _ _ _ _ _ :: _) _ _; refine wpList_store_row rfl 29 (.tmp 2) (.tmp 4) rfl w.heap.size FA rfl rfl 29 Z hblk hsz (by rw [hZ]; exact has.symm) hone ?_)
  exact bodyPost_ret (v := .agg FA) (results_cell_row rfl _ _ w.heap.size 29 FA (0, 0) _ rfl (setRow_heap _ _ _ _ _ _ hblk) Try.underlying29 rfl hsz) rfl ⟨rfl, below_setRow hbel (Nat.le_refl _) _⟩
set_option maxRecDepth 100000 in
theorem Response_any (id st : Int) (body : ByteArray) (w : World) :
    Calls Try.prog 16 #[.int .u64 id, .int .i64 st, .string body] w fun e w' => e = .returned (respF id st body).val ∧ Below w.heap.size w w' := by
  have hsz := size_of (respF id st body) rfl
  have hone := arr_one (respF id st body)
  have has := Fr.arr_size (respF id st body) rfl
  have hbl := resp_built id st body
  unfold Fr.val
  generalize (respF id st body).arr = FA at *
  go_enter Try.func16, Try.ntmps16
  go_upto_region 1 with (fail)
  have hB := box_of w
  show Code.wp _ _ _ _ (w.alloc (.cells zeroF.arr 29))
  generalize w.alloc (.cells zeroF.arr 29) = w1 at *
  obtain ⟨⟨Z, hZ, hblk⟩, hbel, _⟩ := hB
  go_wp2_with (with_reducible show wpList _ _ _ (Oper.mk none _ _ _ _ _ :: _) _ _; refine wpList_store_row rfl 29 (.tmp 6) (.tmp 10) rfl w.heap.size FA rfl rfl 29 Z hblk hsz (by rw [hZ]; exact has.symm) hone ?_)
  exact bodyPost_ret (v := .agg FA) (results_cell_row rfl _ _ w.heap.size 29 FA (0, 0) _ rfl (setRow_heap _ _ _ _ _ _ hblk) Try.underlying29 rfl hsz) rfl ⟨rfl, below_setRow hbel (Nat.le_refl _) _⟩
theorem grown_setRow (W : World) (g : Nat) (cs : Array Value) : W.grownBy (W.setRow g cs) (some g) :=
  ⟨rfl, rfl, rfl, Nat.le_of_eq (by simp [World.setRow]), fun k _ hk => by
    show (W.heap.modify g _)[k]? = _
    rw [Array.getElem?_modify, if_neg (fun e => hk (by rw [e]))]⟩
attribute [-go_sem] Instr.loadAt
set_option maxRecDepth 100000 in
theorem Hello_any (s : Int) (tool : List Int) (ht : tool.length = 32) (w : World) :
    Calls Try.prog 14 #[.int .i64 s, .agg (nums .u8 tool).toArray] w fun e w' => e = .returned (helloF s tool).val ∧ Below w.heap.size w w' := by
  have hsz := size_of (helloF s tool) ht
  have hone := arr_one (helloF s tool)
  have has := Fr.arr_size (helloF s tool) ht
  have hbl := hello_built s tool ht
  have hi : (Try.prog.info? 24).map (·.size) = some (nums .u8 tool).length := by rw [nums_length, ht]; kernel_rfl
  have hl : ∀ W : World, W.heap[w.heap.size]? = some (.cells (nums .u8 tool).toArray 24 (0, 0)) → (Instr.loadAt 24 (.pointer (some ⟨w.heap.size, 0, none⟩))).run Try.prog W = .ok (.agg (nums .u8 tool).toArray) W := fun W h =>
    run_loadAt_mid W _ 0 24 (nums .u8 tool) _ (fun j v hj => by rw [Nat.zero_add, cell_of_row W _ j _ _ _ h]; simpa using hj) Try.underlying24 rfl hi
  unfold Fr.val
  clear hi
  generalize (helloF s tool).arr = FA at *
  generalize (nums .u8 tool).toArray = TA at *
  go_enter Try.func14, Try.ntmps14
  go_upto_region 1 with (fail)
  have hB := box_of2 w (.cells TA 24)
  have hT : ((w.alloc (.cells TA 24)).alloc (.cells zeroF.arr 29)).heap[w.heap.size]? = some (.cells TA 24 (0, 0)) := (heap_alloc_old _ _ (by simp)).trans (heap_alloc_new w _)
  show Code.wp _ _ _ _ ((w.alloc (.cells TA 24)).alloc (.cells zeroF.arr 29))
  generalize (w.alloc (.cells TA 24)).alloc (.cells zeroF.arr 29) = w1 at *
  replace hl := hl w1 hT
  obtain ⟨⟨Z, hZ, hblk⟩, hbel, hge⟩ := hB
  clear hT
  generalize w.heap.size + 1 = g1 at *
  go_wp2_with (with_reducible show wpList _ _ _ (Oper.mk none _ _ _ _ _ :: _) _ _; refine wpList_store_row rfl 29 (.tmp 4) (.tmp 7) rfl g1 FA rfl rfl 29 Z hblk hsz (by rw [hZ]; exact has.symm) hone ?_)
  exact bodyPost_ret (v := .agg FA) (results_cell_row rfl _ _ g1 29 FA (0, 0) _ rfl (setRow_heap _ _ _ _ _ _ hblk) Try.underlying29 rfl hsz) rfl ⟨rfl, below_setRow hbel hge _⟩
attribute [-go_sem] Instr.storeAt
set_option maxHeartbeats 1000000 in
set_option maxRecDepth 100000 in
theorem Request_any (id mo fu di : Int) (A : Option Addr) (n c : Nat) (args : List ByteArray) (body : ByteArray) (w : World) (hx : RT w A n args) (hn : n * 16 ≤ 140737488351232) :
    Calls Try.prog 15 #[.int .u64 id, .agg #[.int .i64 mo, .int .i64 fu, .int .i64 di], .string body, .slice A n c] w fun e w' => ∃ A1 c1, e = .returned (reqF id mo fu di A1 n c1 args body).val ∧ OT 9 w' w.heap.size (.slice A1 n c1) args ∧ RT w' A1 n args ∧ Below w.heap.size w w' := by
  have hi : (Try.prog.info? 26).map (·.size) = some 3 := by kernel_rfl
  have hl : ∀ W : World, W.heap[w.heap.size]? = some (.cells #[.int .i64 mo, .int .i64 fu, .int .i64 di] 26 (0, 0)) → (Instr.loadAt 26 (.pointer (some ⟨w.heap.size, 0, none⟩))).run Try.prog W = .ok (.agg #[.int .i64 mo, .int .i64 fu, .int .i64 di]) W := fun W h =>
    run_loadAt_mid W _ 0 26 [.int .i64 mo, .int .i64 fu, .int .i64 di] _ (fun j v hj => by rw [Nat.zero_add, cell_of_row W _ j _ _ _ h]; simpa using hj) Try.underlying26 rfl hi
  obtain ⟨FA, hFA⟩ : ∃ FA : Option Addr → Nat → Array Value, ∀ A c, (reqF id mo fu di A n c args body).arr = FA A c := ⟨_, fun _ _ => rfl⟩
  have hbl := fun A c => req_built id mo fu di A n c args body
  have hsz := fun A c => size_of (reqF id mo fu di A n c args body) rfl
  have hst : ∀ (W : World) (g : Nat) (Z : Array Value) (A : Option Addr) (c : Nat), W.heap[g]? = some (.cells Z 29 (0, 0)) → Z.size = 42 → (Instr.storeAt 29 (.pointer (some ⟨g, 0, none⟩)) (.agg (FA A c))).run Try.prog W = .ok () (W.setRow g (FA A c)) := fun W g Z A c h hz => by
    rw [← hFA]
    simp only [Instr.storeAt, Instr.sureAddr, Sem.run_bind, Sem.run_pure, Result.andThen_ok, run_storeVar_row W g 29 29 Z _ h (hsz A c) (by rw [hz]; exact (Fr.arr_size (reqF id mo fu di A n c args body) rfl).symm) (arr_one _)]
  unfold Fr.val
  simp only [hFA] at hbl hsz ⊢
  clear hi hFA
  have HN := Lib.hid hn
  have HLn := Lib.hid hx.len
  clear hn
  go_enter Try.func15, Try.ntmps15
  go_upto_region 1 with (fail)
  have hB := box_of2 w (.cells #[.int .i64 mo, .int .i64 fu, .int .i64 di] 26)
  have hT : ((w.alloc (.cells #[.int .i64 mo, .int .i64 fu, .int .i64 di] 26)).alloc (.cells zeroF.arr 29)).heap[w.heap.size]? = some (.cells #[.int .i64 mo, .int .i64 fu, .int .i64 di] 26 (0, 0)) := (heap_alloc_old _ _ (by simp)).trans (heap_alloc_new w _)
  show Code.wp _ _ _ _ ((w.alloc (.cells #[.int .i64 mo, .int .i64 fu, .int .i64 di] 26)).alloc (.cells zeroF.arr 29))
  generalize (w.alloc (.cells #[.int .i64 mo, .int .i64 fu, .int .i64 di] 26)).alloc (.cells zeroF.arr 29) = w1 at *
  obtain ⟨⟨Z, hZ, hblk⟩, hbel, hge⟩ := hB
  have hx1 := hx.below hbel
  have hg1 : w.heap.size + 1 < w1.heap.size := by
    rcases Nat.lt_or_ge (w.heap.size + 1) w1.heap.size with h | h
    · exact h
    · rw [Array.getElem?_eq_none h] at hblk; cases hblk
  have hTd : w1.drew.heap[w.heap.size]? = some (.cells #[.int .i64 mo, .int .i64 fu, .int .i64 di] 26 (0, 0)) := hT
  generalize w.heap.size + 1 = g1 at *
  go_region_with (first
    | (go_at_call 33; refine (Clone_any A n c args _ (RT.drewN hx1 1) HN.out).mono ?_; rintro e w3 ⟨v3, rfl, hO3, hb3⟩; obtain ⟨A3, c3, hv3, hn3, hR3⟩ := own_reads_of_le (d := ByteArray.empty) hO3; rw [HLn.out] at hv3 hR3; subst hv3; have HN3 := Lib.hid hn3; clear hn3; have hT3 := (hb3.block _ (by show w.heap.size < w1.heap.size; omega)).trans hTd; have hB3 := (hb3.block g1 hg1).trans hblk))
  all_goals
    have hb4 : Below w.heap.size w w3 := below_step (pw_below_drewN hbel 1) hb3
    have hne : (Value.slice A3 n c3).ownBlock = none ∨ (Value.slice A3 n c3).ownBlock ≠ some g1 := by
      rcases hO3.2 with ⟨h1, h2⟩ | ⟨g, cap, cur, h1, hb, _⟩
      · left; rw [h1]; rfl
      · right; rw [h1]; intro e
        have e1 : g = g1 := Option.some.inj e
        have : w1.heap.size ≤ g := hb
        omega
    have hO4 := hO3.kept (grown_setRow w3 g1 (FA A3 c3)) hne
    have hO5 : OT 9 (w3.setRow g1 (FA A3 c3)) w.heap.size (.slice A3 n c3) args := own_less hO4 (by show w.heap.size ≤ w1.heap.size; omega)
    have hR5 : RT (w3.setRow g1 (FA A3 c3)) A3 n args := own_reads_of' (by have := hO5; unfold OT at this; rwa [HLn.out] at this)
    have HR : (w3.setRow g1 (FA A3 c3)).heap[g1]? = some (.cells (FA A3 c3) 29 (0, 0)) := setRow_heap _ _ _ _ _ _ hB3
    have hb5 := below_setRow hb4 hge (FA A3 c3)
    clear hb3 hO3 hR3 hT3 hne hO4
    go_wp2_with fail
    exact bodyPost_ret (v := .agg (FA A3 c3)) (results_cell_row rfl _ _ g1 29 (FA A3 c3) (0, 0) _ rfl HR Try.underlying29 rfl (hsz _ _)) rfl ⟨A3, c3, rfl, hO5, hR5, hb5⟩
end Go.Proofs.Ytelfephmjkipoaa
end
/-! The kinds: their makers, of, and the fields that each has. (mk_frs.py) -/
section
namespace Go.Proofs.Ytelfephmjkipoaa
open Go.RowKit Go.Kit Go.Proofs.YtelfephmjkipoaaW.PrintWords
attribute [-go_sem] Instr.build
def fnV (f : Nat) : Value := .func (.func f) #[] #[]
def layN (k : Int) : Nat := if k = 1 then 75 else if k = 2 then 79 else if k = 3 then 90 else if k = 4 then 94 else if k = 5 then 98 else 101
def readN (k : Int) : Nat := if k = 1 then 76 else if k = 2 then 82 else if k = 3 then 91 else if k = 4 then 95 else if k = 5 then 99 else 102
def onlyN (k : Int) : Nat := if k = 1 then 77 else if k = 2 then 86 else if k = 3 then 92 else if k = 4 then 96 else if k = 5 then 100 else 103
def mayN (k : Int) : Nat := if k = 1 then 78 else if k = 2 then 87 else if k = 3 then 93 else if k = 4 then 97 else if k = 5 then 97 else 97
/-- A kind's row. -/
def kV (k : Int) : Array Value := #[fnV (layN k), fnV (readN k), fnV (onlyN k), fnV (mayN k)]
theorem kind_size4 : (Try.prog.info? 75).map (·.size) = some 4 := by kernel_rfl
theorem kind_size {k : Int} : (Try.prog.info? 75).map (·.size) = some (kV k).size := kind_size4
theorem hello_row : kV 1 = #[fnV 75, fnV 76, fnV 77, fnV 78] := by simp [kV, layN, readN, onlyN, mayN]
set_option maxRecDepth 100000 in
theorem hello_kind (k : Int) (hk : k = 1) (w : World) : Calls Try.prog 56 #[] w fun e w' => e = .returned (.agg (kV k)) ∧ Below w.heap.size w w' := by
  subst hk
  rw [hello_row]
  obtain ⟨KK, hKK⟩ : ∃ KK : Array Value, #[.func (.func 75) #[] #[], .func (.func 76) #[] #[], .func (.func 77) #[] #[], .func (.func 78) #[] #[]] = KK := ⟨_, rfl⟩
  have hsz : (Try.prog.info? 75).map (·.size) = some KK.size := by rw [← hKK]; exact kind_size4
  have hone : KK.all (·.oneCell') = true := by rw [← hKK]; simp [Value.oneCell']
  have h4 : (#[.nilFunc, .nilFunc, .nilFunc, .nilFunc] : Array Value).size = KK.size := by rw [← hKK]; rfl
  have hbl : ∀ W : World, (Instr.build 75 #[(0, .func (.func 75) #[] #[]), (1, .func (.func 76) #[] #[]), (2, .func (.func 77) #[] #[]), (3, .func (.func 78) #[] #[])]).run Try.prog W = .ok (.agg KK) W := fun W => by rw [← hKK]; kernel_rfl
  show Calls Try.prog _ _ _ fun e w' => e = .returned (.agg #[.func (.func 75) #[] #[], .func (.func 76) #[] #[], .func (.func 77) #[] #[], .func (.func 78) #[] #[]]) ∧ _
  rw [hKK]
  clear hKK
  go_enter Try.func56, Try.ntmps56
  go_upto_region 1 with (fail)
  have hblk := heap_alloc_new w (.cells #[.nilFunc, .nilFunc, .nilFunc, .nilFunc] 75)
  have hbel := below_alloc (Below.refl w.heap.size w) (.cells #[.nilFunc, .nilFunc, .nilFunc, .nilFunc] 75)
  generalize w.alloc (.cells #[.nilFunc, .nilFunc, .nilFunc, .nilFunc] 75) = w1 at *
  go_wp2_with (with_reducible show wpList _ _ _ (Oper.mk none _ _ _ _ _ :: _) _ _; refine wpList_store_row rfl 75 (.tmp 0) (.tmp 1) rfl w.heap.size KK rfl rfl 75 _ hblk hsz h4 hone ?_)
  exact bodyPost_ret (v := .agg KK) (results_cell_row rfl _ _ w.heap.size 75 KK (0, 0) _ rfl (setRow_heap _ _ _ _ _ _ hblk) Try.underlying75 rfl hsz) rfl ⟨rfl, below_setRow hbel (Nat.le_refl _) _⟩
theorem request_row : kV 2 = #[fnV 79, fnV 82, fnV 86, fnV 87] := by simp [kV, layN, readN, onlyN, mayN]
set_option maxRecDepth 100000 in
theorem request_kind (k : Int) (hk : k = 2) (w : World) : Calls Try.prog 57 #[] w fun e w' => e = .returned (.agg (kV k)) ∧ Below w.heap.size w w' := by
  subst hk
  rw [request_row]
  obtain ⟨KK, hKK⟩ : ∃ KK : Array Value, #[.func (.func 79) #[] #[], .func (.func 82) #[] #[], .func (.func 86) #[] #[], .func (.func 87) #[] #[]] = KK := ⟨_, rfl⟩
  have hsz : (Try.prog.info? 75).map (·.size) = some KK.size := by rw [← hKK]; exact kind_size4
  have hone : KK.all (·.oneCell') = true := by rw [← hKK]; simp [Value.oneCell']
  have h4 : (#[.nilFunc, .nilFunc, .nilFunc, .nilFunc] : Array Value).size = KK.size := by rw [← hKK]; rfl
  have hbl : ∀ W : World, (Instr.build 75 #[(0, .func (.func 79) #[] #[]), (1, .func (.func 82) #[] #[]), (2, .func (.func 86) #[] #[]), (3, .func (.func 87) #[] #[])]).run Try.prog W = .ok (.agg KK) W := fun W => by rw [← hKK]; kernel_rfl
  show Calls Try.prog _ _ _ fun e w' => e = .returned (.agg #[.func (.func 79) #[] #[], .func (.func 82) #[] #[], .func (.func 86) #[] #[], .func (.func 87) #[] #[]]) ∧ _
  rw [hKK]
  clear hKK
  go_enter Try.func57, Try.ntmps57
  go_upto_region 1 with (fail)
  have hblk := heap_alloc_new w (.cells #[.nilFunc, .nilFunc, .nilFunc, .nilFunc] 75)
  have hbel := below_alloc (Below.refl w.heap.size w) (.cells #[.nilFunc, .nilFunc, .nilFunc, .nilFunc] 75)
  generalize w.alloc (.cells #[.nilFunc, .nilFunc, .nilFunc, .nilFunc] 75) = w1 at *
  go_wp2_with (with_reducible show wpList _ _ _ (Oper.mk none _ _ _ _ _ :: _) _ _; refine wpList_store_row rfl 75 (.tmp 0) (.tmp 1) rfl w.heap.size KK rfl rfl 75 _ hblk hsz h4 hone ?_)
  exact bodyPost_ret (v := .agg KK) (results_cell_row rfl _ _ w.heap.size 75 KK (0, 0) _ rfl (setRow_heap _ _ _ _ _ _ hblk) Try.underlying75 rfl hsz) rfl ⟨rfl, below_setRow hbel (Nat.le_refl _) _⟩
theorem response_row : kV 3 = #[fnV 90, fnV 91, fnV 92, fnV 93] := by simp [kV, layN, readN, onlyN, mayN]
set_option maxRecDepth 100000 in
theorem response_kind (k : Int) (hk : k = 3) (w : World) : Calls Try.prog 58 #[] w fun e w' => e = .returned (.agg (kV k)) ∧ Below w.heap.size w w' := by
  subst hk
  rw [response_row]
  obtain ⟨KK, hKK⟩ : ∃ KK : Array Value, #[.func (.func 90) #[] #[], .func (.func 91) #[] #[], .func (.func 92) #[] #[], .func (.func 93) #[] #[]] = KK := ⟨_, rfl⟩
  have hsz : (Try.prog.info? 75).map (·.size) = some KK.size := by rw [← hKK]; exact kind_size4
  have hone : KK.all (·.oneCell') = true := by rw [← hKK]; simp [Value.oneCell']
  have h4 : (#[.nilFunc, .nilFunc, .nilFunc, .nilFunc] : Array Value).size = KK.size := by rw [← hKK]; rfl
  have hbl : ∀ W : World, (Instr.build 75 #[(0, .func (.func 90) #[] #[]), (1, .func (.func 91) #[] #[]), (2, .func (.func 92) #[] #[]), (3, .func (.func 93) #[] #[])]).run Try.prog W = .ok (.agg KK) W := fun W => by rw [← hKK]; kernel_rfl
  show Calls Try.prog _ _ _ fun e w' => e = .returned (.agg #[.func (.func 90) #[] #[], .func (.func 91) #[] #[], .func (.func 92) #[] #[], .func (.func 93) #[] #[]]) ∧ _
  rw [hKK]
  clear hKK
  go_enter Try.func58, Try.ntmps58
  go_upto_region 1 with (fail)
  have hblk := heap_alloc_new w (.cells #[.nilFunc, .nilFunc, .nilFunc, .nilFunc] 75)
  have hbel := below_alloc (Below.refl w.heap.size w) (.cells #[.nilFunc, .nilFunc, .nilFunc, .nilFunc] 75)
  generalize w.alloc (.cells #[.nilFunc, .nilFunc, .nilFunc, .nilFunc] 75) = w1 at *
  go_wp2_with (with_reducible show wpList _ _ _ (Oper.mk none _ _ _ _ _ :: _) _ _; refine wpList_store_row rfl 75 (.tmp 0) (.tmp 1) rfl w.heap.size KK rfl rfl 75 _ hblk hsz h4 hone ?_)
  exact bodyPost_ret (v := .agg KK) (results_cell_row rfl _ _ w.heap.size 75 KK (0, 0) _ rfl (setRow_heap _ _ _ _ _ _ hblk) Try.underlying75 rfl hsz) rfl ⟨rfl, below_setRow hbel (Nat.le_refl _) _⟩
theorem cancel_row : kV 4 = #[fnV 94, fnV 95, fnV 96, fnV 97] := by simp [kV, layN, readN, onlyN, mayN]
set_option maxRecDepth 100000 in
theorem cancel_kind (k : Int) (hk : k = 4) (w : World) : Calls Try.prog 59 #[] w fun e w' => e = .returned (.agg (kV k)) ∧ Below w.heap.size w w' := by
  subst hk
  rw [cancel_row]
  obtain ⟨KK, hKK⟩ : ∃ KK : Array Value, #[.func (.func 94) #[] #[], .func (.func 95) #[] #[], .func (.func 96) #[] #[], .func (.func 97) #[] #[]] = KK := ⟨_, rfl⟩
  have hsz : (Try.prog.info? 75).map (·.size) = some KK.size := by rw [← hKK]; exact kind_size4
  have hone : KK.all (·.oneCell') = true := by rw [← hKK]; simp [Value.oneCell']
  have h4 : (#[.nilFunc, .nilFunc, .nilFunc, .nilFunc] : Array Value).size = KK.size := by rw [← hKK]; rfl
  have hbl : ∀ W : World, (Instr.build 75 #[(0, .func (.func 94) #[] #[]), (1, .func (.func 95) #[] #[]), (2, .func (.func 96) #[] #[]), (3, .func (.func 97) #[] #[])]).run Try.prog W = .ok (.agg KK) W := fun W => by rw [← hKK]; kernel_rfl
  show Calls Try.prog _ _ _ fun e w' => e = .returned (.agg #[.func (.func 94) #[] #[], .func (.func 95) #[] #[], .func (.func 96) #[] #[], .func (.func 97) #[] #[]]) ∧ _
  rw [hKK]
  clear hKK
  go_enter Try.func59, Try.ntmps59
  go_upto_region 1 with (fail)
  have hblk := heap_alloc_new w (.cells #[.nilFunc, .nilFunc, .nilFunc, .nilFunc] 75)
  have hbel := below_alloc (Below.refl w.heap.size w) (.cells #[.nilFunc, .nilFunc, .nilFunc, .nilFunc] 75)
  generalize w.alloc (.cells #[.nilFunc, .nilFunc, .nilFunc, .nilFunc] 75) = w1 at *
  go_wp2_with (with_reducible show wpList _ _ _ (Oper.mk none _ _ _ _ _ :: _) _ _; refine wpList_store_row rfl 75 (.tmp 0) (.tmp 1) rfl w.heap.size KK rfl rfl 75 _ hblk hsz h4 hone ?_)
  exact bodyPost_ret (v := .agg KK) (results_cell_row rfl _ _ w.heap.size 75 KK (0, 0) _ rfl (setRow_heap _ _ _ _ _ _ hblk) Try.underlying75 rfl hsz) rfl ⟨rfl, below_setRow hbel (Nat.le_refl _) _⟩
theorem bye_row : kV 5 = #[fnV 98, fnV 99, fnV 100, fnV 97] := by simp [kV, layN, readN, onlyN, mayN]
set_option maxRecDepth 100000 in
theorem bye_kind (k : Int) (hk : k = 5) (w : World) : Calls Try.prog 60 #[] w fun e w' => e = .returned (.agg (kV k)) ∧ Below w.heap.size w w' := by
  subst hk
  rw [bye_row]
  obtain ⟨KK, hKK⟩ : ∃ KK : Array Value, #[.func (.func 98) #[] #[], .func (.func 99) #[] #[], .func (.func 100) #[] #[], .func (.func 97) #[] #[]] = KK := ⟨_, rfl⟩
  have hsz : (Try.prog.info? 75).map (·.size) = some KK.size := by rw [← hKK]; exact kind_size4
  have hone : KK.all (·.oneCell') = true := by rw [← hKK]; simp [Value.oneCell']
  have h4 : (#[.nilFunc, .nilFunc, .nilFunc, .nilFunc] : Array Value).size = KK.size := by rw [← hKK]; rfl
  have hbl : ∀ W : World, (Instr.build 75 #[(0, .func (.func 98) #[] #[]), (1, .func (.func 99) #[] #[]), (2, .func (.func 100) #[] #[]), (3, .func (.func 97) #[] #[])]).run Try.prog W = .ok (.agg KK) W := fun W => by rw [← hKK]; kernel_rfl
  show Calls Try.prog _ _ _ fun e w' => e = .returned (.agg #[.func (.func 98) #[] #[], .func (.func 99) #[] #[], .func (.func 100) #[] #[], .func (.func 97) #[] #[]]) ∧ _
  rw [hKK]
  clear hKK
  go_enter Try.func60, Try.ntmps60
  go_upto_region 1 with (fail)
  have hblk := heap_alloc_new w (.cells #[.nilFunc, .nilFunc, .nilFunc, .nilFunc] 75)
  have hbel := below_alloc (Below.refl w.heap.size w) (.cells #[.nilFunc, .nilFunc, .nilFunc, .nilFunc] 75)
  generalize w.alloc (.cells #[.nilFunc, .nilFunc, .nilFunc, .nilFunc] 75) = w1 at *
  go_wp2_with (with_reducible show wpList _ _ _ (Oper.mk none _ _ _ _ _ :: _) _ _; refine wpList_store_row rfl 75 (.tmp 0) (.tmp 1) rfl w.heap.size KK rfl rfl 75 _ hblk hsz h4 hone ?_)
  exact bodyPost_ret (v := .agg KK) (results_cell_row rfl _ _ w.heap.size 75 KK (0, 0) _ rfl (setRow_heap _ _ _ _ _ _ hblk) Try.underlying75 rfl hsz) rfl ⟨rfl, below_setRow hbel (Nat.le_refl _) _⟩
theorem note_row : kV 6 = #[fnV 101, fnV 102, fnV 103, fnV 97] := by simp [kV, layN, readN, onlyN, mayN]
set_option maxRecDepth 100000 in
theorem note_kind (k : Int) (hk : k = 6) (w : World) : Calls Try.prog 61 #[] w fun e w' => e = .returned (.agg (kV k)) ∧ Below w.heap.size w w' := by
  subst hk
  rw [note_row]
  obtain ⟨KK, hKK⟩ : ∃ KK : Array Value, #[.func (.func 101) #[] #[], .func (.func 102) #[] #[], .func (.func 103) #[] #[], .func (.func 97) #[] #[]] = KK := ⟨_, rfl⟩
  have hsz : (Try.prog.info? 75).map (·.size) = some KK.size := by rw [← hKK]; exact kind_size4
  have hone : KK.all (·.oneCell') = true := by rw [← hKK]; simp [Value.oneCell']
  have h4 : (#[.nilFunc, .nilFunc, .nilFunc, .nilFunc] : Array Value).size = KK.size := by rw [← hKK]; rfl
  have hbl : ∀ W : World, (Instr.build 75 #[(0, .func (.func 101) #[] #[]), (1, .func (.func 102) #[] #[]), (2, .func (.func 103) #[] #[]), (3, .func (.func 97) #[] #[])]).run Try.prog W = .ok (.agg KK) W := fun W => by rw [← hKK]; kernel_rfl
  show Calls Try.prog _ _ _ fun e w' => e = .returned (.agg #[.func (.func 101) #[] #[], .func (.func 102) #[] #[], .func (.func 103) #[] #[], .func (.func 97) #[] #[]]) ∧ _
  rw [hKK]
  clear hKK
  go_enter Try.func61, Try.ntmps61
  go_upto_region 1 with (fail)
  have hblk := heap_alloc_new w (.cells #[.nilFunc, .nilFunc, .nilFunc, .nilFunc] 75)
  have hbel := below_alloc (Below.refl w.heap.size w) (.cells #[.nilFunc, .nilFunc, .nilFunc, .nilFunc] 75)
  generalize w.alloc (.cells #[.nilFunc, .nilFunc, .nilFunc, .nilFunc] 75) = w1 at *
  go_wp2_with (with_reducible show wpList _ _ _ (Oper.mk none _ _ _ _ _ :: _) _ _; refine wpList_store_row rfl 75 (.tmp 0) (.tmp 1) rfl w.heap.size KK rfl rfl 75 _ hblk hsz h4 hone ?_)
  exact bodyPost_ret (v := .agg KK) (results_cell_row rfl _ _ w.heap.size 75 KK (0, 0) _ rfl (setRow_heap _ _ _ _ _ _ hblk) Try.underlying75 rfl hsz) rfl ⟨rfl, below_setRow hbel (Nat.le_refl _) _⟩
end Go.Proofs.Ytelfephmjkipoaa
end
/-! The contract of frame.of. (mk_frt.py) -/
section
namespace Go.Proofs.Ytelfephmjkipoaa
open Go.RowKit Go.Kit Go.Proofs.YtelfephmjkipoaaW.PrintWords
theorem results_cell_row_tmp {P : Program} {fn : Func} {p u : Tmp} {ty : TypeId} (h : fn.results = #[.cell p ty, .tmp u]) (tmps : Array Value) (w : World) (g : Nat) (t : TypeId) (cs : Array Value) (fr : Nat × Nat) (d : TypeDesc)
    (hp : tmps.getD p undef = .pointer (some ⟨g, 0, none⟩)) (hg : w.heap[g]? = some (.cells cs t fr))
    (hu : P.underlying ty = some d) (hd : (match d with | .struct _ | .array _ _ => true | _ => false) = true) (hi : (P.info? ty).map (·.size) = some cs.size) (v : Value) (hv : tmps.getD u undef = v) :
    (results fn tmps).run P w = .ok (.tuple #[.agg cs, v]) w := by
  subst hv
  have hp' : tmps[p]?.getD undef = .pointer (some ⟨g, 0, none⟩) := by simpa using hp
  simp [results, h, hp', asAddr, run_loadVar_row w g t ty cs fr d hg hu hd hi]
theorem results_cell_row2 {P : Program} {fn : Func} {p q : Tmp} {ty ty2 : TypeId} (h : fn.results = #[.cell p ty, .cell q ty2]) (tmps : Array Value) (w : World) (g g2 : Nat) (t t2 : TypeId) (cs cs2 : Array Value) (fr fr2 : Nat × Nat) (d d2 : TypeDesc)
    (hp : tmps.getD p undef = .pointer (some ⟨g, 0, none⟩)) (hg : w.heap[g]? = some (.cells cs t fr))
    (hu : P.underlying ty = some d) (hd : (match d with | .struct _ | .array _ _ => true | _ => false) = true) (hi : (P.info? ty).map (·.size) = some cs.size)
    (hp2 : tmps.getD q undef = .pointer (some ⟨g2, 0, none⟩)) (hg2 : w.heap[g2]? = some (.cells cs2 t2 fr2))
    (hu2 : P.underlying ty2 = some d2) (hd2 : (match d2 with | .struct _ | .array _ _ => true | _ => false) = true) (hi2 : (P.info? ty2).map (·.size) = some cs2.size) :
    (results fn tmps).run P w = .ok (.tuple #[.agg cs, .agg cs2]) w := by
  have hp' : tmps[p]?.getD undef = .pointer (some ⟨g, 0, none⟩) := by simpa using hp
  have hp2' : tmps[q]?.getD undef = .pointer (some ⟨g2, 0, none⟩) := by simpa using hp2
  simp [results, h, hp', hp2', asAddr, run_loadVar_row w g t ty cs fr d hg hu hd hi, run_loadVar_row w g2 t2 ty2 cs2 fr2 d2 hg2 hu2 hd2 hi2]
theorem kind_one (k : Int) : (kV k).all (·.oneCell') = true := by unfold kV fnV; simp [Value.oneCell']
attribute [-go_sem] Instr.storeAt
set_option maxHeartbeats 1000000 in
set_option maxRecDepth 100000 in
theorem of_hello (k : Int) (hk : k = 1) (w : World) : Calls Try.prog 41 #[.int .i64 k] w fun e w' => e = .returned (.tuple #[.agg (kV k), .bool true]) ∧ Below w.heap.size w w' := by
  have hc := fun W => hello_kind k hk W
  have hsz := kind_size (k := k)
  have hone := kind_one k
  have h4 : (#[.nilFunc, .nilFunc, .nilFunc, .nilFunc] : Array Value).size = (kV k).size := rfl
  generalize kV k = KK at *
  subst hk
  go_enter Try.func41, Try.ntmps41
  have hblk : ((w.alloc (.cells #[.nilFunc, .nilFunc, .nilFunc, .nilFunc] 75)).alloc (.cells #[.func (.func 56) #[] #[], .func (.func 57) #[] #[], .func (.func 58) #[] #[], .func (.func 59) #[] #[], .func (.func 60) #[] #[], .func (.func 61) #[] #[]] 93)).heap[w.heap.size]? = some (.cells #[.nilFunc, .nilFunc, .nilFunc, .nilFunc] 75 (0, 0)) := (heap_alloc_old _ _ (by simp)).trans (heap_alloc_new w _)
  have hbel := below_alloc (below_alloc (Below.refl _ w) (.cells #[.nilFunc, .nilFunc, .nilFunc, .nilFunc] 75)) (.cells #[.func (.func 56) #[] #[], .func (.func 57) #[] #[], .func (.func 58) #[] #[], .func (.func 59) #[] #[], .func (.func 60) #[] #[], .func (.func 61) #[] #[]] 93)
  go_wp2_with fail
  refine (hc _).mono ?_
  rintro e w2 ⟨rfl, hb2⟩
  have hblk2 := (hb2.block _ (lt_of_block hblk)).trans hblk
  have hb3 := below_step hbel hb2
  clear hblk hbel hb2 hc
  go_wp2_with (with_reducible show wpList _ _ _ (Oper.mk none _ _ _ _ _ :: _) _ _; refine wpList_store_row rfl 75 (.tmp 2) (.tmp 20) rfl w.heap.size KK rfl rfl 75 _ hblk2 hsz h4 hone ?_)
  exact bodyPost_ret (v := .tuple #[.agg KK, .bool true]) (results_cell_row_tmp rfl _ _ w.heap.size 75 KK (0, 0) _ rfl (setRow_heap _ _ _ _ _ _ hblk2) Try.underlying75 rfl hsz _ rfl) rfl ⟨rfl, below_setRow hb3 (Nat.le_refl _) _⟩
set_option maxHeartbeats 1000000 in
set_option maxRecDepth 100000 in
theorem of_request (k : Int) (hk : k = 2) (w : World) : Calls Try.prog 41 #[.int .i64 k] w fun e w' => e = .returned (.tuple #[.agg (kV k), .bool true]) ∧ Below w.heap.size w w' := by
  have hc := fun W => request_kind k hk W
  have hsz := kind_size (k := k)
  have hone := kind_one k
  have h4 : (#[.nilFunc, .nilFunc, .nilFunc, .nilFunc] : Array Value).size = (kV k).size := rfl
  generalize kV k = KK at *
  subst hk
  go_enter Try.func41, Try.ntmps41
  have hblk : ((w.alloc (.cells #[.nilFunc, .nilFunc, .nilFunc, .nilFunc] 75)).alloc (.cells #[.func (.func 56) #[] #[], .func (.func 57) #[] #[], .func (.func 58) #[] #[], .func (.func 59) #[] #[], .func (.func 60) #[] #[], .func (.func 61) #[] #[]] 93)).heap[w.heap.size]? = some (.cells #[.nilFunc, .nilFunc, .nilFunc, .nilFunc] 75 (0, 0)) := (heap_alloc_old _ _ (by simp)).trans (heap_alloc_new w _)
  have hbel := below_alloc (below_alloc (Below.refl _ w) (.cells #[.nilFunc, .nilFunc, .nilFunc, .nilFunc] 75)) (.cells #[.func (.func 56) #[] #[], .func (.func 57) #[] #[], .func (.func 58) #[] #[], .func (.func 59) #[] #[], .func (.func 60) #[] #[], .func (.func 61) #[] #[]] 93)
  go_wp2_with fail
  refine (hc _).mono ?_
  rintro e w2 ⟨rfl, hb2⟩
  have hblk2 := (hb2.block _ (lt_of_block hblk)).trans hblk
  have hb3 := below_step hbel hb2
  clear hblk hbel hb2 hc
  go_wp2_with (with_reducible show wpList _ _ _ (Oper.mk none _ _ _ _ _ :: _) _ _; refine wpList_store_row rfl 75 (.tmp 2) (.tmp 20) rfl w.heap.size KK rfl rfl 75 _ hblk2 hsz h4 hone ?_)
  exact bodyPost_ret (v := .tuple #[.agg KK, .bool true]) (results_cell_row_tmp rfl _ _ w.heap.size 75 KK (0, 0) _ rfl (setRow_heap _ _ _ _ _ _ hblk2) Try.underlying75 rfl hsz _ rfl) rfl ⟨rfl, below_setRow hb3 (Nat.le_refl _) _⟩
set_option maxHeartbeats 1000000 in
set_option maxRecDepth 100000 in
theorem of_response (k : Int) (hk : k = 3) (w : World) : Calls Try.prog 41 #[.int .i64 k] w fun e w' => e = .returned (.tuple #[.agg (kV k), .bool true]) ∧ Below w.heap.size w w' := by
  have hc := fun W => response_kind k hk W
  have hsz := kind_size (k := k)
  have hone := kind_one k
  have h4 : (#[.nilFunc, .nilFunc, .nilFunc, .nilFunc] : Array Value).size = (kV k).size := rfl
  generalize kV k = KK at *
  subst hk
  go_enter Try.func41, Try.ntmps41
  have hblk : ((w.alloc (.cells #[.nilFunc, .nilFunc, .nilFunc, .nilFunc] 75)).alloc (.cells #[.func (.func 56) #[] #[], .func (.func 57) #[] #[], .func (.func 58) #[] #[], .func (.func 59) #[] #[], .func (.func 60) #[] #[], .func (.func 61) #[] #[]] 93)).heap[w.heap.size]? = some (.cells #[.nilFunc, .nilFunc, .nilFunc, .nilFunc] 75 (0, 0)) := (heap_alloc_old _ _ (by simp)).trans (heap_alloc_new w _)
  have hbel := below_alloc (below_alloc (Below.refl _ w) (.cells #[.nilFunc, .nilFunc, .nilFunc, .nilFunc] 75)) (.cells #[.func (.func 56) #[] #[], .func (.func 57) #[] #[], .func (.func 58) #[] #[], .func (.func 59) #[] #[], .func (.func 60) #[] #[], .func (.func 61) #[] #[]] 93)
  go_wp2_with fail
  refine (hc _).mono ?_
  rintro e w2 ⟨rfl, hb2⟩
  have hblk2 := (hb2.block _ (lt_of_block hblk)).trans hblk
  have hb3 := below_step hbel hb2
  clear hblk hbel hb2 hc
  go_wp2_with (with_reducible show wpList _ _ _ (Oper.mk none _ _ _ _ _ :: _) _ _; refine wpList_store_row rfl 75 (.tmp 2) (.tmp 20) rfl w.heap.size KK rfl rfl 75 _ hblk2 hsz h4 hone ?_)
  exact bodyPost_ret (v := .tuple #[.agg KK, .bool true]) (results_cell_row_tmp rfl _ _ w.heap.size 75 KK (0, 0) _ rfl (setRow_heap _ _ _ _ _ _ hblk2) Try.underlying75 rfl hsz _ rfl) rfl ⟨rfl, below_setRow hb3 (Nat.le_refl _) _⟩
set_option maxHeartbeats 1000000 in
set_option maxRecDepth 100000 in
theorem of_cancel (k : Int) (hk : k = 4) (w : World) : Calls Try.prog 41 #[.int .i64 k] w fun e w' => e = .returned (.tuple #[.agg (kV k), .bool true]) ∧ Below w.heap.size w w' := by
  have hc := fun W => cancel_kind k hk W
  have hsz := kind_size (k := k)
  have hone := kind_one k
  have h4 : (#[.nilFunc, .nilFunc, .nilFunc, .nilFunc] : Array Value).size = (kV k).size := rfl
  generalize kV k = KK at *
  subst hk
  go_enter Try.func41, Try.ntmps41
  have hblk : ((w.alloc (.cells #[.nilFunc, .nilFunc, .nilFunc, .nilFunc] 75)).alloc (.cells #[.func (.func 56) #[] #[], .func (.func 57) #[] #[], .func (.func 58) #[] #[], .func (.func 59) #[] #[], .func (.func 60) #[] #[], .func (.func 61) #[] #[]] 93)).heap[w.heap.size]? = some (.cells #[.nilFunc, .nilFunc, .nilFunc, .nilFunc] 75 (0, 0)) := (heap_alloc_old _ _ (by simp)).trans (heap_alloc_new w _)
  have hbel := below_alloc (below_alloc (Below.refl _ w) (.cells #[.nilFunc, .nilFunc, .nilFunc, .nilFunc] 75)) (.cells #[.func (.func 56) #[] #[], .func (.func 57) #[] #[], .func (.func 58) #[] #[], .func (.func 59) #[] #[], .func (.func 60) #[] #[], .func (.func 61) #[] #[]] 93)
  go_wp2_with fail
  refine (hc _).mono ?_
  rintro e w2 ⟨rfl, hb2⟩
  have hblk2 := (hb2.block _ (lt_of_block hblk)).trans hblk
  have hb3 := below_step hbel hb2
  clear hblk hbel hb2 hc
  go_wp2_with (with_reducible show wpList _ _ _ (Oper.mk none _ _ _ _ _ :: _) _ _; refine wpList_store_row rfl 75 (.tmp 2) (.tmp 20) rfl w.heap.size KK rfl rfl 75 _ hblk2 hsz h4 hone ?_)
  exact bodyPost_ret (v := .tuple #[.agg KK, .bool true]) (results_cell_row_tmp rfl _ _ w.heap.size 75 KK (0, 0) _ rfl (setRow_heap _ _ _ _ _ _ hblk2) Try.underlying75 rfl hsz _ rfl) rfl ⟨rfl, below_setRow hb3 (Nat.le_refl _) _⟩
set_option maxHeartbeats 1000000 in
set_option maxRecDepth 100000 in
theorem of_bye (k : Int) (hk : k = 5) (w : World) : Calls Try.prog 41 #[.int .i64 k] w fun e w' => e = .returned (.tuple #[.agg (kV k), .bool true]) ∧ Below w.heap.size w w' := by
  have hc := fun W => bye_kind k hk W
  have hsz := kind_size (k := k)
  have hone := kind_one k
  have h4 : (#[.nilFunc, .nilFunc, .nilFunc, .nilFunc] : Array Value).size = (kV k).size := rfl
  generalize kV k = KK at *
  subst hk
  go_enter Try.func41, Try.ntmps41
  have hblk : ((w.alloc (.cells #[.nilFunc, .nilFunc, .nilFunc, .nilFunc] 75)).alloc (.cells #[.func (.func 56) #[] #[], .func (.func 57) #[] #[], .func (.func 58) #[] #[], .func (.func 59) #[] #[], .func (.func 60) #[] #[], .func (.func 61) #[] #[]] 93)).heap[w.heap.size]? = some (.cells #[.nilFunc, .nilFunc, .nilFunc, .nilFunc] 75 (0, 0)) := (heap_alloc_old _ _ (by simp)).trans (heap_alloc_new w _)
  have hbel := below_alloc (below_alloc (Below.refl _ w) (.cells #[.nilFunc, .nilFunc, .nilFunc, .nilFunc] 75)) (.cells #[.func (.func 56) #[] #[], .func (.func 57) #[] #[], .func (.func 58) #[] #[], .func (.func 59) #[] #[], .func (.func 60) #[] #[], .func (.func 61) #[] #[]] 93)
  go_wp2_with fail
  refine (hc _).mono ?_
  rintro e w2 ⟨rfl, hb2⟩
  have hblk2 := (hb2.block _ (lt_of_block hblk)).trans hblk
  have hb3 := below_step hbel hb2
  clear hblk hbel hb2 hc
  go_wp2_with (with_reducible show wpList _ _ _ (Oper.mk none _ _ _ _ _ :: _) _ _; refine wpList_store_row rfl 75 (.tmp 2) (.tmp 20) rfl w.heap.size KK rfl rfl 75 _ hblk2 hsz h4 hone ?_)
  exact bodyPost_ret (v := .tuple #[.agg KK, .bool true]) (results_cell_row_tmp rfl _ _ w.heap.size 75 KK (0, 0) _ rfl (setRow_heap _ _ _ _ _ _ hblk2) Try.underlying75 rfl hsz _ rfl) rfl ⟨rfl, below_setRow hb3 (Nat.le_refl _) _⟩
set_option maxHeartbeats 1000000 in
set_option maxRecDepth 100000 in
theorem of_note (k : Int) (hk : k = 6) (w : World) : Calls Try.prog 41 #[.int .i64 k] w fun e w' => e = .returned (.tuple #[.agg (kV k), .bool true]) ∧ Below w.heap.size w w' := by
  have hc := fun W => note_kind k hk W
  have hsz := kind_size (k := k)
  have hone := kind_one k
  have h4 : (#[.nilFunc, .nilFunc, .nilFunc, .nilFunc] : Array Value).size = (kV k).size := rfl
  generalize kV k = KK at *
  subst hk
  go_enter Try.func41, Try.ntmps41
  have hblk : ((w.alloc (.cells #[.nilFunc, .nilFunc, .nilFunc, .nilFunc] 75)).alloc (.cells #[.func (.func 56) #[] #[], .func (.func 57) #[] #[], .func (.func 58) #[] #[], .func (.func 59) #[] #[], .func (.func 60) #[] #[], .func (.func 61) #[] #[]] 93)).heap[w.heap.size]? = some (.cells #[.nilFunc, .nilFunc, .nilFunc, .nilFunc] 75 (0, 0)) := (heap_alloc_old _ _ (by simp)).trans (heap_alloc_new w _)
  have hbel := below_alloc (below_alloc (Below.refl _ w) (.cells #[.nilFunc, .nilFunc, .nilFunc, .nilFunc] 75)) (.cells #[.func (.func 56) #[] #[], .func (.func 57) #[] #[], .func (.func 58) #[] #[], .func (.func 59) #[] #[], .func (.func 60) #[] #[], .func (.func 61) #[] #[]] 93)
  go_wp2_with fail
  refine (hc _).mono ?_
  rintro e w2 ⟨rfl, hb2⟩
  have hblk2 := (hb2.block _ (lt_of_block hblk)).trans hblk
  have hb3 := below_step hbel hb2
  clear hblk hbel hb2 hc
  go_wp2_with (with_reducible show wpList _ _ _ (Oper.mk none _ _ _ _ _ :: _) _ _; refine wpList_store_row rfl 75 (.tmp 2) (.tmp 20) rfl w.heap.size KK rfl rfl 75 _ hblk2 hsz h4 hone ?_)
  exact bodyPost_ret (v := .tuple #[.agg KK, .bool true]) (results_cell_row_tmp rfl _ _ w.heap.size 75 KK (0, 0) _ rfl (setRow_heap _ _ _ _ _ _ hblk2) Try.underlying75 rfl hsz _ rfl) rfl ⟨rfl, below_setRow hb3 (Nat.le_refl _) _⟩
theorem of_any (k : Int) (h1 : 1 ≤ k) (h6 : k ≤ 6) (w : World) : Calls Try.prog 41 #[.int .i64 k] w fun e w' => e = .returned (.tuple #[.agg (kV k), .bool true]) ∧ Below w.heap.size w w' := by
  rcases (by omega : k = 1 ∨ k = 2 ∨ k = 3 ∨ k = 4 ∨ k = 5 ∨ k = 6) with h | h | h | h | h | h
  · exact of_hello k h w
  · exact of_request k h w
  · exact of_response k h w
  · exact of_cancel k h w
  · exact of_bye k h w
  · exact of_note k h w
set_option maxHeartbeats 1000000 in
set_option maxRecDepth 100000 in
theorem of_bad (k : Int) (hk : k < 1 ∨ 6 < k) (w : World) : Calls Try.prog 41 #[.int .i64 k] w fun e w' => e = .returned (.tuple #[.agg #[.nilFunc, .nilFunc, .nilFunc, .nilFunc], .bool false]) ∧ Below w.heap.size w w' := by
  have hsz : (Try.prog.info? 75).map (·.size) = some (#[.nilFunc, .nilFunc, .nilFunc, .nilFunc] : Array Value).size := kind_size4
  have hbl : ∀ W : World, (Instr.build 75 #[]).run Try.prog W = .ok (.agg #[.nilFunc, .nilFunc, .nilFunc, .nilFunc]) W := fun W => by kernel_rfl
  have hbel := below_alloc (below_alloc (Below.refl _ w) (.cells #[.nilFunc, .nilFunc, .nilFunc, .nilFunc] 75)) (.cells #[.func (.func 56) #[] #[], .func (.func 57) #[] #[], .func (.func 58) #[] #[], .func (.func 59) #[] #[], .func (.func 60) #[] #[], .func (.func 61) #[] #[]] 93)
  have hblk : ((w.alloc (.cells #[.nilFunc, .nilFunc, .nilFunc, .nilFunc] 75)).alloc (.cells #[.func (.func 56) #[] #[], .func (.func 57) #[] #[], .func (.func 58) #[] #[], .func (.func 59) #[] #[], .func (.func 60) #[] #[], .func (.func 61) #[] #[]] 93)).heap[w.heap.size]? = some (.cells #[.nilFunc, .nilFunc, .nilFunc, .nilFunc] 75 (0, 0)) := (heap_alloc_old _ _ (by simp)).trans (heap_alloc_new w _)
  by_cases h1 : k < 1
  all_goals
    have h6 : ¬ k < 1 → k > 6 := fun h => by omega
    try have h6 := h6 h1
    clear hk
    go_enter Try.func41, Try.ntmps41
    go_upto_region 3 with (fail)
    generalize ((w.alloc (.cells #[.nilFunc, .nilFunc, .nilFunc, .nilFunc] 75)).alloc (.cells #[.func (.func 56) #[] #[], .func (.func 57) #[] #[], .func (.func 58) #[] #[], .func (.func 59) #[] #[], .func (.func 60) #[] #[], .func (.func 61) #[] #[]] 93)) = w1 at *
    go_wp2_with (with_reducible show wpList _ _ _ (Oper.mk none _ _ _ _ _ :: _) _ _; refine wpList_store_row rfl 75 (.tmp 2) (.tmp 14) rfl w.heap.size #[.nilFunc, .nilFunc, .nilFunc, .nilFunc] rfl rfl 75 _ hblk hsz rfl (by simp [Value.oneCell']) ?_)
    exact bodyPost_ret (v := .tuple #[.agg #[.nilFunc, .nilFunc, .nilFunc, .nilFunc], .bool false]) (results_cell_row_tmp rfl _ _ w.heap.size 75 #[.nilFunc, .nilFunc, .nilFunc, .nilFunc] (0, 0) _ rfl (setRow_heap _ _ _ _ _ _ hblk) Try.underlying75 rfl hsz _ rfl) rfl ⟨rfl, below_setRow hbel (Nat.le_refl _) _⟩
end Go.Proofs.Ytelfephmjkipoaa
end
/-! The walk of FrameSame. -/
section
namespace Go.Proofs.Ytelfephmjkipoaa
open Go.RowKit Go.Kit Go.Proofs.YtelfephmjkipoaaW.PrintWords
theorem sameT_self (l : List ByteArray) : sameT l l = true := decide_eq_true rfl
theorem same_self (f : Fr) : f.same f = true := by simp [Fr.same, sameT_self]
theorem beq_sym (a b : Int) : (a == b) = (b == a) := by rw [Bool.eq_iff_iff, beq_iff_eq, beq_iff_eq]; exact eq_comm
theorem same_sym (f g : Fr) : f.same g = g.same f := by
  have h1 : decide (f.tool = g.tool) = decide (g.tool = f.tool) := by rw [decide_eq_decide]; exact eq_comm
  have h2 : sameT f.args g.args = sameT g.args f.args := by unfold sameT; rw [decide_eq_decide]; exact eq_comm
  have h3 : (f.body.toList == g.body.toList) = (g.body.toList == f.body.toList) := by rw [Bool.eq_iff_iff, beq_iff_eq, beq_iff_eq]; exact eq_comm
  unfold Fr.same
  rw [h1, h2, h3, beq_sym f.k, beq_sym f.id, beq_sym f.v, beq_sym f.s, beq_sym f.st, beq_sym f.mo, beq_sym f.fu, beq_sym f.di]
theorem Same_is (f g : Fr) (s : Bool) (h : f.same g = s) (w : World) (hf : f.ok w) (hg : g.ok w) :
    Calls Try.prog 12 #[f.val, g.val] w fun e w' => e = .returned (.bool s) ∧ Below w.heap.size w w' :=
  (Same_any f g w hf hg).mono fun e w' ⟨t, he, ht, hb⟩ => ⟨by rw [he, ht.out, h], hb⟩
theorem rSame_is (f g : Fr) (s : Bool) (h : f.same g = s) (w : World) (hf : f.ok w) (hg : g.ok w) :
    Calls Try.prog 13 #[f.val, g.val] w fun e w' => e = .returned (.bool s) ∧ Below w.heap.size w w' :=
  (rSame_any f g w hf hg).mono fun e w' ⟨t, he, ht, hb⟩ => ⟨by rw [he, ht.out, h], hb⟩
theorem load_frame (f : Fr) (hi : (Try.prog.info? 29).map (·.size) = some f.cells.length) (W : World) (ga : Nat) (h : f.at_ 29 W ga) :
    (Instr.loadAt 29 (.pointer (some ⟨ga, 0, none⟩))).run Try.prog W = .ok (.agg f.arr) W :=
  run_loadAt_mid W ga 0 29 f.cells _ (h.range 0 _ (fun j v h => by rw [Nat.zero_add]; exact h)) Try.underlying29 rfl hi
theorem keepS {f g : Fr} {w W W1 : World} {ga gb : Nat} {t : TypeId} (hF : f.at_ t W ga) (hG : g.at_ t W gb) (hb : Below w.heap.size w W) (hk : Below W.heap.size W W1) :
    Below w.heap.size w W1 ∧ f.at_ t W1 ga ∧ g.at_ t W1 gb := ⟨below_step hb hk, hF.below hk, hG.below hk⟩
attribute [-go_sem] Instr.loadAt
set_option maxHeartbeats 8000000 in
set_option maxRecDepth 100000 in
theorem FrameSame_walk (f g : Fr) (w : World) (hf : f.ok w) (hg : g.ok w) :
    Calls Try.prog 3 #[f.val, g.val] w fun e w' => e = .returned (.bool true) ∧ Below w.heap.size w w' := by
  obtain ⟨s, hs⟩ : ∃ s, f.same g = s := ⟨_, rfl⟩
  have cAB : ∀ W, f.ok W → g.ok W → Calls Try.prog 12 #[.agg f.arr, .agg g.arr] W (fun e w' => e = .returned (.bool s) ∧ Below W.heap.size W w') := Same_is f g s hs
  have cRAB : ∀ W, f.ok W → g.ok W → Calls Try.prog 13 #[.agg f.arr, .agg g.arr] W (fun e w' => e = .returned (.bool s) ∧ Below W.heap.size W w') := rSame_is f g s hs
  have cAA : ∀ W, f.ok W → f.ok W → Calls Try.prog 12 #[.agg f.arr, .agg f.arr] W (fun e w' => e = .returned (.bool true) ∧ Below W.heap.size W w') := Same_is f f true (same_self f)
  have cBB : ∀ W, g.ok W → g.ok W → Calls Try.prog 12 #[.agg g.arr, .agg g.arr] W (fun e w' => e = .returned (.bool true) ∧ Below W.heap.size W w') := Same_is g g true (same_self g)
  have cBA : ∀ W, g.ok W → f.ok W → Calls Try.prog 12 #[.agg g.arr, .agg f.arr] W (fun e w' => e = .returned (.bool s) ∧ Below W.heap.size W w') := Same_is g f s (by rw [same_sym]; exact hs)
  have hu := Try.underlying29
  have hsz : (Try.prog.info? 29).map (·.size) = some 42 := by kernel_rfl
  have hif : (Try.prog.info? 29).map (·.size) = some f.cells.length := by rw [hsz]; have := Fr.arr_size f hf.tool; simp [Fr.arr] at this; rw [this]
  have hig : (Try.prog.info? 29).map (·.size) = some g.cells.length := by rw [hsz]; have := Fr.arr_size g hg.tool; simp [Fr.arr] at this; rw [this]
  clear hs hsz
  show Calls Try.prog _ #[.agg f.arr, .agg g.arr] w _
  go_enter Try.func3, Try.ntmps3
  have hF : f.at_ 29 ((w.alloc (.cells f.arr 29)).alloc (.cells g.arr 29)) w.heap.size := Fr.at_.below ⟨heap_alloc_new w _, hf.tool⟩ (below_alloc (Below.refl _ _) _)
  have hG : g.at_ 29 ((w.alloc (.cells f.arr 29)).alloc (.cells g.arr 29)) (w.heap.size + 1) := ⟨by simpa using heap_alloc_new (w.alloc (.cells f.arr 29)) (.cells g.arr 29), hg.tool⟩
  have hb := below_alloc (below_alloc (Below.refl _ w) (.cells f.arr 29)) (.cells g.arr 29)
  go_upto_region 1 with (fail)
  generalize (w.alloc (.cells f.arr 29)).alloc (.cells g.arr 29) = w2 at *
  generalize w.heap.size + 1 = g2 at *
  have hl1 : ∀ W, f.at_ 29 W w.heap.size → (Instr.loadAt 29 (.pointer (some ⟨w.heap.size, 0, none⟩))).run Try.prog W = .ok (.agg f.arr) W := fun W h => load_frame f hif W _ h
  have hl2 : ∀ W, g.at_ 29 W g2 → (Instr.loadAt 29 (.pointer (some ⟨g2, 0, none⟩))).run Try.prog W = .ok (.agg g.arr) W := fun W h => load_frame g hig W _ h
  generalize f.arr = FA at *
  generalize g.arr = GA at *
  clear hif hig hu
  go_region_held3 (fun w' => Below w.heap.size w w' ∧ f.at_ 29 w' w.heap.size ∧ g.at_ 29 w' g2)
    (first
      | assumption
      | (refine keepS hF hG hb ?_; exact below_drew (Below.refl _ _))
      | (refine keepS hF hG hb ?_; exact Below.refl _ _)
      | (go_split_ands; refine keepS ?_ ?_ ?_ hb3 <;> assumption))
    (first
      | (go_at_call 12; go_split_ands; with_reducible refine (cAB _ (hf.below (by assumption)) (hg.below (by assumption))).mono ?_; rintro e w3 ⟨rfl, hb3⟩)
      | (go_at_call 12; go_split_ands; with_reducible refine (cAA _ (hf.below (by assumption)) (hf.below (by assumption))).mono ?_; rintro e w3 ⟨rfl, hb3⟩)
      | (go_at_call 12; go_split_ands; with_reducible refine (cBB _ (hg.below (by assumption)) (hg.below (by assumption))).mono ?_; rintro e w3 ⟨rfl, hb3⟩)
      | (go_at_call 12; go_split_ands; with_reducible refine (cBA _ (hg.below (by assumption)) (hf.below (by assumption))).mono ?_; rintro e w3 ⟨rfl, hb3⟩)
      | (go_at_call 13; go_split_ands; with_reducible refine (cRAB _ (hf.below (by assumption)) (hg.below (by assumption))).mono ?_; rintro e w3 ⟨rfl, hb3⟩))
  all_goals
    go_split_ands
    go_wp2_with fail
    go_ret
    exact ⟨rfl, by assumption⟩
end Go.Proofs.Ytelfephmjkipoaa
end
/-! The contracts of what the kinds' only and may do. (mk_fru.py) -/
section
namespace Go.Proofs.Ytelfephmjkipoaa
open Go.RowKit Go.Kit Go.Proofs.YtelfephmjkipoaaW.PrintWords
attribute [-go_sem] Instr.build
def only1 (f : Fr) : Fr := ⟨0, 0, f.v, f.s, f.tool, 0, 0, 0, 0, none, 0, 0, [], ByteArray.empty⟩
def only2 (f : Fr) : Fr := ⟨0, f.id, 0, 0, z32, 0, f.mo, f.fu, f.di, f.A, f.n, f.c, f.args, f.body⟩
def only3 (f : Fr) : Fr := ⟨0, f.id, 0, 0, z32, f.st, 0, 0, 0, none, 0, 0, [], f.body⟩
def only4 (f : Fr) : Fr := ⟨0, f.id, 0, 0, z32, 0, 0, 0, 0, none, 0, 0, [], ByteArray.empty⟩
def only6 (f : Fr) : Fr := ⟨0, 0, 0, 0, z32, 0, 0, 0, 0, none, 0, 0, [], f.body⟩
def onlyG (k : Int) (f : Fr) : Fr := if k = 1 then only1 f else if k = 2 then only2 f else if k = 3 then only3 f else if k = 4 then only4 f else if k = 5 then noF else only6 f
theorem tool_at {W : World} {g : Nat} {f : Fr} (h : f.at_ 29 W g) : (Instr.loadAt 24 (.pointer (some ⟨g, 4, none⟩))).run Try.prog W = .ok (.agg (nums .u8 f.tool).toArray) W :=
  run_loadAt_mid W g 4 24 (nums .u8 f.tool) _ h.r4 Try.underlying24 rfl (tool_size f h.tool)
theorem lim_at {W : World} {g : Nat} {f : Fr} (h : f.at_ 29 W g) : (Instr.loadAt 26 (.pointer (some ⟨g, 37, none⟩))).run Try.prog W = .ok (.agg f.lim.toArray) W :=
  run_loadAt_mid W g 37 26 f.lim _ h.r37 Try.underlying26 rfl (by kernel_rfl)
theorem hello_obuilt (f : Fr) (hf : f.tool.length = 32) (W : World) : (Instr.build 29 #[(2, .int .i64 f.v), (3, .int .i64 f.s), (4, .agg (nums .u8 f.tool).toArray)]).run Try.prog W = .ok (.agg (only1 f).arr) W := by
  refine built_of ?_
  unfold only1
  match f.tool, hf with
  | [a0,a1,a2,a3,a4,a5,a6,a7,a8,a9,a10,a11,a12,a13,a14,a15,a16,a17,a18,a19,a20,a21,a22,a23,a24,a25,a26,a27,a28,a29,a30,a31], _ => show _ = _; kernel_rfl
set_option maxHeartbeats 2000000 in
set_option maxRecDepth 100000 in
theorem hello_only (f : Fr) (hf : f.tool.length = 32) (w : World) : Calls Try.prog 77 #[f.val] w fun e w' => e = .returned (.agg (only1 f).arr) ∧ Below w.heap.size w w' := by
  have hsz := size_of (only1 f) hf
  have hone := arr_one (only1 f)
  have has := Fr.arr_size (only1 f) hf
  have hbl := hello_obuilt f hf
  generalize (only1 f).arr = GA at *
  show Calls Try.prog _ #[.agg f.arr] w _
  go_enter Try.func77, Try.ntmps77
  go_upto_region 1 with (fail)
  have hB := box_of2 w (.cells f.arr 29)
  have hF : f.at_ 29 ((w.alloc (.cells f.arr 29)).alloc (.cells zeroF.arr 29)) w.heap.size := Fr.at_.below ⟨heap_alloc_new w _, hf⟩ (below_alloc (Below.refl _ _) _)
  show Code.wp _ _ _ _ ((w.alloc (.cells f.arr 29)).alloc (.cells zeroF.arr 29))
  generalize (w.alloc (.cells f.arr 29)).alloc (.cells zeroF.arr 29) = w1 at *
  obtain ⟨⟨Z, hZ, hblk⟩, hbel, hge⟩ := hB
  generalize w.heap.size + 1 = g1 at *
  have q0 := hF.c2
  have q1 := hF.c3
  have rL := hF.r4
  go_wp2_with (first | (with_reducible show wpList _ _ _ (Oper.mk (some 8) _ _ _ _ _ :: _) _ _; refine wpList_load_mid rfl 24 (.tmp 7) rfl w.heap.size 4 rfl (nums .u8 f.tool) _ rL Try.underlying24 rfl (tool_size f hf) ?_) | (with_reducible show wpList _ _ _ (Oper.mk none _ _ _ _ _ :: _) _ _; refine wpList_store_row rfl 29 (.tmp 2) (.tmp 9) rfl g1 GA rfl rfl 29 Z hblk hsz (by rw [hZ]; exact has.symm) hone ?_))
  exact bodyPost_ret (v := .agg GA) (results_cell_row rfl _ _ g1 29 GA (0, 0) _ rfl (setRow_heap _ _ _ _ _ _ hblk) Try.underlying29 rfl hsz) rfl ⟨rfl, below_setRow hbel hge _⟩
theorem request_obuilt (f : Fr) (hf : f.tool.length = 32) (W : World) : (Instr.build 29 #[(1, .int .u64 f.id), (6, .agg f.lim.toArray), (7, .slice f.A f.n f.c), (8, .string f.body)]).run Try.prog W = .ok (.agg (only2 f).arr) W := built_of (by show _ = _; kernel_rfl)
set_option maxHeartbeats 2000000 in
set_option maxRecDepth 100000 in
theorem request_only (f : Fr) (hf : f.tool.length = 32) (w : World) : Calls Try.prog 86 #[f.val] w fun e w' => e = .returned (.agg (only2 f).arr) ∧ Below w.heap.size w w' := by
  have hsz := size_of (only2 f) rfl
  have hone := arr_one (only2 f)
  have has := Fr.arr_size (only2 f) rfl
  have hbl := request_obuilt f hf
  have hlim : (Try.prog.info? 26).map (·.size) = some f.lim.length := by show _ = some 3; kernel_rfl
  generalize (only2 f).arr = GA at *
  show Calls Try.prog _ #[.agg f.arr] w _
  go_enter Try.func86, Try.ntmps86
  go_upto_region 1 with (fail)
  have hB := box_of2 w (.cells f.arr 29)
  have hF : f.at_ 29 ((w.alloc (.cells f.arr 29)).alloc (.cells zeroF.arr 29)) w.heap.size := Fr.at_.below ⟨heap_alloc_new w _, hf⟩ (below_alloc (Below.refl _ _) _)
  show Code.wp _ _ _ _ ((w.alloc (.cells f.arr 29)).alloc (.cells zeroF.arr 29))
  generalize (w.alloc (.cells f.arr 29)).alloc (.cells zeroF.arr 29) = w1 at *
  obtain ⟨⟨Z, hZ, hblk⟩, hbel, hge⟩ := hB
  generalize w.heap.size + 1 = g1 at *
  have q0 := hF.c1
  have q1 := hF.c40
  have q2 := hF.c41
  have rL := hF.r37
  go_wp2_with (first | (with_reducible show wpList _ _ _ (Oper.mk (some 6) _ _ _ _ _ :: _) _ _; refine wpList_load_mid rfl 26 (.tmp 5) rfl w.heap.size 37 rfl f.lim _ rL Try.underlying26 rfl (hlim) ?_) | (with_reducible show wpList _ _ _ (Oper.mk none _ _ _ _ _ :: _) _ _; refine wpList_store_row rfl 29 (.tmp 2) (.tmp 11) rfl g1 GA rfl rfl 29 Z hblk hsz (by rw [hZ]; exact has.symm) hone ?_))
  exact bodyPost_ret (v := .agg GA) (results_cell_row rfl _ _ g1 29 GA (0, 0) _ rfl (setRow_heap _ _ _ _ _ _ hblk) Try.underlying29 rfl hsz) rfl ⟨rfl, below_setRow hbel hge _⟩
theorem response_obuilt (f : Fr) (hf : f.tool.length = 32) (W : World) : (Instr.build 29 #[(1, .int .u64 f.id), (5, .int .i64 f.st), (8, .string f.body)]).run Try.prog W = .ok (.agg (only3 f).arr) W := built_of (by show _ = _; kernel_rfl)
set_option maxHeartbeats 2000000 in
set_option maxRecDepth 100000 in
theorem response_only (f : Fr) (hf : f.tool.length = 32) (w : World) : Calls Try.prog 92 #[f.val] w fun e w' => e = .returned (.agg (only3 f).arr) ∧ Below w.heap.size w w' := by
  have hsz := size_of (only3 f) rfl
  have hone := arr_one (only3 f)
  have has := Fr.arr_size (only3 f) rfl
  have hbl := response_obuilt f hf
  generalize (only3 f).arr = GA at *
  show Calls Try.prog _ #[.agg f.arr] w _
  go_enter Try.func92, Try.ntmps92
  go_upto_region 1 with (fail)
  have hB := box_of2 w (.cells f.arr 29)
  have hF : f.at_ 29 ((w.alloc (.cells f.arr 29)).alloc (.cells zeroF.arr 29)) w.heap.size := Fr.at_.below ⟨heap_alloc_new w _, hf⟩ (below_alloc (Below.refl _ _) _)
  show Code.wp _ _ _ _ ((w.alloc (.cells f.arr 29)).alloc (.cells zeroF.arr 29))
  generalize (w.alloc (.cells f.arr 29)).alloc (.cells zeroF.arr 29) = w1 at *
  obtain ⟨⟨Z, hZ, hblk⟩, hbel, hge⟩ := hB
  generalize w.heap.size + 1 = g1 at *
  have q0 := hF.c1
  have q1 := hF.c36
  have q2 := hF.c41
  go_wp2_with (with_reducible show wpList _ _ _ (Oper.mk none _ _ _ _ _ :: _) _ _; refine wpList_store_row rfl 29 (.tmp 2) (.tmp 9) rfl g1 GA rfl rfl 29 Z hblk hsz (by rw [hZ]; exact has.symm) hone ?_)
  exact bodyPost_ret (v := .agg GA) (results_cell_row rfl _ _ g1 29 GA (0, 0) _ rfl (setRow_heap _ _ _ _ _ _ hblk) Try.underlying29 rfl hsz) rfl ⟨rfl, below_setRow hbel hge _⟩
theorem cancel_obuilt (f : Fr) (hf : f.tool.length = 32) (W : World) : (Instr.build 29 #[(1, .int .u64 f.id)]).run Try.prog W = .ok (.agg (only4 f).arr) W := built_of (by show _ = _; kernel_rfl)
set_option maxHeartbeats 2000000 in
set_option maxRecDepth 100000 in
theorem cancel_only (f : Fr) (hf : f.tool.length = 32) (w : World) : Calls Try.prog 96 #[f.val] w fun e w' => e = .returned (.agg (only4 f).arr) ∧ Below w.heap.size w w' := by
  have hsz := size_of (only4 f) rfl
  have hone := arr_one (only4 f)
  have has := Fr.arr_size (only4 f) rfl
  have hbl := cancel_obuilt f hf
  generalize (only4 f).arr = GA at *
  show Calls Try.prog _ #[.agg f.arr] w _
  go_enter Try.func96, Try.ntmps96
  go_upto_region 1 with (fail)
  have hB := box_of2 w (.cells f.arr 29)
  have hF : f.at_ 29 ((w.alloc (.cells f.arr 29)).alloc (.cells zeroF.arr 29)) w.heap.size := Fr.at_.below ⟨heap_alloc_new w _, hf⟩ (below_alloc (Below.refl _ _) _)
  show Code.wp _ _ _ _ ((w.alloc (.cells f.arr 29)).alloc (.cells zeroF.arr 29))
  generalize (w.alloc (.cells f.arr 29)).alloc (.cells zeroF.arr 29) = w1 at *
  obtain ⟨⟨Z, hZ, hblk⟩, hbel, hge⟩ := hB
  generalize w.heap.size + 1 = g1 at *
  have q0 := hF.c1
  go_wp2_with (with_reducible show wpList _ _ _ (Oper.mk none _ _ _ _ _ :: _) _ _; refine wpList_store_row rfl 29 (.tmp 2) (.tmp 5) rfl g1 GA rfl rfl 29 Z hblk hsz (by rw [hZ]; exact has.symm) hone ?_)
  exact bodyPost_ret (v := .agg GA) (results_cell_row rfl _ _ g1 29 GA (0, 0) _ rfl (setRow_heap _ _ _ _ _ _ hblk) Try.underlying29 rfl hsz) rfl ⟨rfl, below_setRow hbel hge _⟩
theorem bye_obuilt (f : Fr) (hf : f.tool.length = 32) (W : World) : (Instr.build 29 #[]).run Try.prog W = .ok (.agg (noF).arr) W := built_of (by show _ = _; kernel_rfl)
set_option maxHeartbeats 2000000 in
set_option maxRecDepth 100000 in
theorem bye_only (f : Fr) (hf : f.tool.length = 32) (w : World) : Calls Try.prog 100 #[f.val] w fun e w' => e = .returned (.agg (noF).arr) ∧ Below w.heap.size w w' := by
  have hsz := size_of (noF) rfl
  have hone := arr_one (noF)
  have has := Fr.arr_size (noF) rfl
  have hbl := bye_obuilt f hf
  generalize (noF).arr = GA at *
  show Calls Try.prog _ #[.agg f.arr] w _
  go_enter Try.func100, Try.ntmps100
  go_upto_region 1 with (fail)
  have hB := box_of2 w (.cells f.arr 29)
  have hF : f.at_ 29 ((w.alloc (.cells f.arr 29)).alloc (.cells zeroF.arr 29)) w.heap.size := Fr.at_.below ⟨heap_alloc_new w _, hf⟩ (below_alloc (Below.refl _ _) _)
  show Code.wp _ _ _ _ ((w.alloc (.cells f.arr 29)).alloc (.cells zeroF.arr 29))
  generalize (w.alloc (.cells f.arr 29)).alloc (.cells zeroF.arr 29) = w1 at *
  obtain ⟨⟨Z, hZ, hblk⟩, hbel, hge⟩ := hB
  generalize w.heap.size + 1 = g1 at *
  go_wp2_with (with_reducible show wpList _ _ _ (Oper.mk none _ _ _ _ _ :: _) _ _; refine wpList_store_row rfl 29 (.tmp 2) (.tmp 3) rfl g1 GA rfl rfl 29 Z hblk hsz (by rw [hZ]; exact has.symm) hone ?_)
  exact bodyPost_ret (v := .agg GA) (results_cell_row rfl _ _ g1 29 GA (0, 0) _ rfl (setRow_heap _ _ _ _ _ _ hblk) Try.underlying29 rfl hsz) rfl ⟨rfl, below_setRow hbel hge _⟩
theorem note_obuilt (f : Fr) (hf : f.tool.length = 32) (W : World) : (Instr.build 29 #[(8, .string f.body)]).run Try.prog W = .ok (.agg (only6 f).arr) W := built_of (by show _ = _; kernel_rfl)
set_option maxHeartbeats 2000000 in
set_option maxRecDepth 100000 in
theorem note_only (f : Fr) (hf : f.tool.length = 32) (w : World) : Calls Try.prog 103 #[f.val] w fun e w' => e = .returned (.agg (only6 f).arr) ∧ Below w.heap.size w w' := by
  have hsz := size_of (only6 f) rfl
  have hone := arr_one (only6 f)
  have has := Fr.arr_size (only6 f) rfl
  have hbl := note_obuilt f hf
  generalize (only6 f).arr = GA at *
  show Calls Try.prog _ #[.agg f.arr] w _
  go_enter Try.func103, Try.ntmps103
  go_upto_region 1 with (fail)
  have hB := box_of2 w (.cells f.arr 29)
  have hF : f.at_ 29 ((w.alloc (.cells f.arr 29)).alloc (.cells zeroF.arr 29)) w.heap.size := Fr.at_.below ⟨heap_alloc_new w _, hf⟩ (below_alloc (Below.refl _ _) _)
  show Code.wp _ _ _ _ ((w.alloc (.cells f.arr 29)).alloc (.cells zeroF.arr 29))
  generalize (w.alloc (.cells f.arr 29)).alloc (.cells zeroF.arr 29) = w1 at *
  obtain ⟨⟨Z, hZ, hblk⟩, hbel, hge⟩ := hB
  generalize w.heap.size + 1 = g1 at *
  have q0 := hF.c41
  go_wp2_with (with_reducible show wpList _ _ _ (Oper.mk none _ _ _ _ _ :: _) _ _; refine wpList_store_row rfl 29 (.tmp 2) (.tmp 5) rfl g1 GA rfl rfl 29 Z hblk hsz (by rw [hZ]; exact has.symm) hone ?_)
  exact bodyPost_ret (v := .agg GA) (results_cell_row rfl _ _ g1 29 GA (0, 0) _ rfl (setRow_heap _ _ _ _ _ _ hblk) Try.underlying29 rfl hsz) rfl ⟨rfl, below_setRow hbel hge _⟩
theorem only_any (k : Int) (h1 : 1 ≤ k) (h6 : k ≤ 6) (f : Fr) (hf : f.tool.length = 32) (w : World) : Calls Try.prog (onlyN k) #[f.val] w fun e w' => e = .returned (.agg (onlyG k f).arr) ∧ Below w.heap.size w w' := by
  rcases (by omega : k = 1 ∨ k = 2 ∨ k = 3 ∨ k = 4 ∨ k = 5 ∨ k = 6) with rfl | rfl | rfl | rfl | rfl | rfl
  · exact hello_only f hf w
  · exact request_only f hf w
  · exact response_only f hf w
  · exact cancel_only f hf w
  · exact bye_only f hf w
  · exact note_only f hf w
end Go.Proofs.Ytelfephmjkipoaa
end
/-! The contracts of slices.ContainsFunc over long texts, and of the kinds' may. -/
section
namespace Go.Proofs.Ytelfephmjkipoaa
open Go.RowKit Go.Kit Go.Proofs.YtelfephmjkipoaaW.PrintWords
/-- A truth that says whether P. -/
def BoolIs (t : Bool) (P : Prop) : Prop := t = true ↔ P
def SomeBool (P : Prop) (R : World → Prop) (e : Ending) (w' : World) : Prop := ∃ t : Bool, e = .returned (.bool t) ∧ Hid (BoolIs t P) ∧ R w'
def SomeInt (P : Int → Prop) (R : World → Prop) (e : Ending) (w' : World) : Prop := ∃ i : Int, e = .returned (.int .i64 i) ∧ Hid (P i) ∧ R w'
theorem bool_yes {P : Prop} (h : P) : Hid (BoolIs true P) := Lib.hid ⟨fun _ => h, fun _ => rfl⟩
theorem bool_no {P : Prop} (h : ¬ P) : Hid (BoolIs false P) := Lib.hid ⟨fun e => (by cases e), fun e => absurd e h⟩
set_option maxHeartbeats 1000000 in
theorem long_one (s : ByteArray) (hs : s.size ≤ 9223372036854775807) (w : World) : Calls Try.prog 89 #[.string s] w fun e w' => e = .returned (.bool (decide (4096 < s.size))) ∧ w' = w := by
  by_cases h : 4096 < s.size
  · have hi : (4096 : Int) < (s.size : Int) := by omega
    have hd : decide (4096 < s.size) = true := decide_eq_true h
    rw [hd]
    clear h hd
    go_enter Try.func89, Try.ntmps89
    go_wp2_with fail
    go_ret
    exact ⟨rfl, rfl⟩
  · have hi : ¬ (4096 : Int) < (s.size : Int) := by omega
    have hd : decide (4096 < s.size) = false := decide_eq_false h
    rw [hd]
    clear h hd
    go_enter Try.func89, Try.ntmps89
    go_wp2_with fail
    go_ret
    exact ⟨rfl, rfl⟩
set_option maxHeartbeats 2000000 in
theorem long_index (A : Option Addr) (n c : Nat) (xs : List ByteArray) (w : World) (hx : RT w A n xs) (hs : ∀ s ∈ xs, s.size ≤ 9223372036854775807) :
    Calls Try.prog 111 #[.slice A n c, .func (.func 89) #[] #[]] w (SomeInt (fun i => 0 ≤ i ↔ ∃ s ∈ xs, 4096 < s.size) (fun w' => w' = w)) := by
  have hmx := hx.max
  have HS := Lib.hid hs
  have HX := Lib.hid hx
  clear hs
  go_enter Try.func111, Try.ntmps111
  go_wp2_with fail
  go_loopg [8] n (fun gk v8 w' => ∃ k : Nat, v8 = .int .i64 (k : Int) ∧ w' = w ∧ Hid (k + gk = n ∧ ∀ j, j < k → ∀ s, xs[j]? = some s → ¬ 4096 < s.size))
  case atStart => exact ⟨0, rfl, rfl, by omega, fun j hj => absurd hj (by omega)⟩
  case round =>
    obtain ⟨k, rfl, rfl, HG⟩ := hrel
    by_cases hk : k < n
    · obtain ⟨ad, s, rfl, hcell, HXX⟩ := HX.out.at_ k hk
      have hsz := HS.out s (List.mem_of_getElem? HXX.out)
      have hk2 : (k : Int) < (n : Int) := by omega
      by_cases hl : 4096 < s.size
      · have hd : decide (4096 < s.size) = true := decide_eq_true hl
        have HF : Hid ((0 : Int) ≤ (k : Int) ↔ ∃ s ∈ xs, 4096 < s.size) := Lib.hid ⟨fun _ => ⟨s, List.mem_of_getElem? HXX.out, hl⟩, fun _ => by omega⟩
        clear hl
        go_wp2_with fail
        refine (long_one s hsz _).mono ?_
        rintro e w1 ⟨rfl, rfl⟩
        rw [hd]
        go_wp2_with fail
        go_ret
        exact ⟨_, rfl, HF, rfl⟩
      · have hd : decide (4096 < s.size) = false := decide_eq_false hl
        have HL := Lib.hid hl
        clear hl
        go_wp2_with fail
        refine (long_one s hsz _).mono ?_
        rintro e w1 ⟨rfl, rfl⟩
        rw [hd]
        go_wp2_with fail
        go_roundg (gk - 1)
        case measure => have := HG.out.1; omega
        case rel =>
          refine ⟨k + 1, by simp, rfl, by have := HG.out.1; omega, fun j hj s2 h2 => ?_⟩
          rcases Nat.lt_or_ge j k with h | h
          · exact HG.out.2 j h s2 h2
          · obtain rfl : j = k := by omega
            rw [HXX.out] at h2
            cases h2
            exact HL.out
    · have hk2 : ¬ (k : Int) < (n : Int) := by omega
      have HF : Hid ((0 : Int) ≤ -1 ↔ ∃ s ∈ xs, 4096 < s.size) := Lib.hid ⟨fun h => by omega, fun ⟨s, hm, hl⟩ => by
        obtain ⟨j, hj, e⟩ := List.mem_iff_getElem.1 hm
        have hlen := HX.out.len
        have := HG.out.1
        exact absurd hl (HG.out.2 j (by omega) s (by rw [List.getElem?_eq_getElem hj, e]))⟩
      go_wp2_with fail
      go_ret
      exact ⟨_, rfl, HF, rfl⟩
set_option maxHeartbeats 1000000 in
theorem long_any (A : Option Addr) (n c : Nat) (xs : List ByteArray) (w : World) (hx : RT w A n xs) (hs : ∀ s ∈ xs, s.size ≤ 9223372036854775807) :
    Calls Try.prog 88 #[.slice A n c, .func (.func 89) #[] #[]] w (SomeBool (∃ s ∈ xs, 4096 < s.size) (fun w' => w' = w)) := by
  go_enter Try.func88, Try.ntmps88
  go_wp2_with fail
  refine (long_index A n c xs _ hx hs).mono ?_
  rintro e w1 ⟨i, rfl, HI, rfl⟩
  by_cases h : 0 ≤ i
  · have HF := bool_yes (HI.out.1 h)
    go_wp2_with fail
    go_ret
    exact ⟨true, rfl, HF, rfl⟩
  · have HF := bool_no (fun e => h (HI.out.2 e))
    have hd : decide (0 ≤ i) = false := decide_eq_false h
    clear h
    go_wp2_with fail
    go_ret
    exact ⟨false, rfl, HF, rfl⟩
/-- What a kind asks of its fields. -/
def MayK (k : Int) (f : Fr) : Prop :=
  (k = 1 → f.v = 1 ∧ 1 ≤ f.s ∧ f.s ≤ 64) ∧ (k = 2 → 0 ≤ f.mo ∧ 0 ≤ f.fu ∧ 0 ≤ f.di ∧ f.n ≤ 8 ∧ ∀ s ∈ f.args, s.size ≤ 4096) ∧ (k = 3 → f.st = 1 ∨ ((f.st = 2 ∨ f.st = 3) ∧ f.body.size = 0))
section
variable {f : Fr} {w : World}
theorem boxed (hf : f.tool.length = 32) (w : World) : f.at_ 29 (w.alloc (.cells f.arr 29)) w.heap.size := ⟨heap_alloc_new w _, hf⟩
set_option maxHeartbeats 2000000 in
set_option maxRecDepth 100000 in
theorem some_may (hf : f.ok w) : Calls Try.prog 97 #[f.val] w fun e w' => e = .returned (.bool true) ∧ Below w.heap.size w w' := by
  have hb := below_alloc (Below.refl _ w) (.cells f.arr 29)
  show Calls Try.prog _ #[.agg f.arr] w _
  go_enter Try.func97, Try.ntmps97
  go_wp2_with fail
  go_ret
  exact ⟨rfl, hb⟩
set_option maxHeartbeats 2000000 in
set_option maxRecDepth 100000 in
theorem hello_may (hf : f.ok w) : Calls Try.prog 78 #[f.val] w (SomeBool (MayK 1 f) (fun w' => Below w.heap.size w w')) := by
  have hb := below_alloc (Below.refl _ w) (.cells f.arr 29)
  have hF := boxed hf.tool w
  show Calls Try.prog _ #[.agg f.arr] w _
  go_enter Try.func78, Try.ntmps78
  go_upto_region 1 with (fail)
  generalize w.alloc (.cells f.arr 29) = w1 at *
  have q1 := hF.c2
  have q2 := hF.c3
  by_cases h1 : f.v = 1
  · have b1 : (f.v == 1) = true := by rw [beq_iff_eq]; exact h1
    by_cases h2 : 1 ≤ f.s
    · by_cases h3 : f.s ≤ 64
      · have HF : Hid (BoolIs true (MayK 1 f)) := bool_yes ⟨fun _ => ⟨h1, h2, h3⟩, fun e => by omega, fun e => by omega⟩
        clear h1
        go_wp2_with fail
        go_ret
        exact ⟨true, rfl, HF, hb⟩
      · have HF : Hid (BoolIs false (MayK 1 f)) := bool_no (fun e => h3 (e.1 rfl).2.2)
        clear h1
        go_wp2_with fail
        go_ret
        exact ⟨false, rfl, HF, hb⟩
    · have HF : Hid (BoolIs false (MayK 1 f)) := bool_no (fun e => h2 (e.1 rfl).2.1)
      clear h1
      go_wp2_with fail
      go_ret
      exact ⟨false, rfl, HF, hb⟩
  · have b1 : (f.v == 1) = false := by rw [beq_eq_false_iff_ne]; exact h1
    have HF : Hid (BoolIs false (MayK 1 f)) := bool_no (fun e => h1 (e.1 rfl).1)
    clear h1
    go_wp2_with fail
    go_ret
    exact ⟨false, rfl, HF, hb⟩
theorem not3 {f : Fr} (h : ¬ (f.st = 1 ∨ ((f.st = 2 ∨ f.st = 3) ∧ f.body.size = 0))) : Hid (BoolIs false (MayK 3 f)) := bool_no (fun e => h (e.2.2 rfl))
theorem yes3 {f : Fr} (h : f.st = 1 ∨ ((f.st = 2 ∨ f.st = 3) ∧ f.body.size = 0)) : Hid (BoolIs true (MayK 3 f)) := bool_yes ⟨fun e => by omega, fun e => by omega, fun _ => h⟩
theorem body_empty (s : ByteArray) : s.toList.isEmpty = decide (s.size = 0) := by
  rw [Bool.eq_iff_iff, List.isEmpty_iff, decide_eq_true_iff]
  constructor
  · intro h
    have h2 : s.toList = ByteArray.empty.toList := by rw [h]; simp
    rw [bs_inj h2]; rfl
  · intro h
    have : s = ByteArray.empty := by
      cases s with | mk d => 
        have : d = #[] := Array.eq_empty_of_size_eq_zero h
        rw [this]; rfl
    rw [this]; simp
set_option maxHeartbeats 2000000 in
set_option maxRecDepth 100000 in
theorem response_may (hf : f.ok w) : Calls Try.prog 93 #[f.val] w (SomeBool (MayK 3 f) (fun w' => Below w.heap.size w w')) := by
  have hb := below_alloc (Below.refl _ w) (.cells f.arr 29)
  have hF := boxed hf.tool w
  show Calls Try.prog _ #[.agg f.arr] w _
  go_enter Try.func93, Try.ntmps93
  go_upto_region 1 with (fail)
  generalize w.alloc (.cells f.arr 29) = w1 at *
  have q1 := hF.c36
  have q2 := hF.c41
  have hbe := body_empty f.body
  by_cases h1 : f.st = 1
  · have b1 : (f.st == 1) = true := by rw [beq_iff_eq]; exact h1
    have HF := yes3 (f := f) (.inl h1)
    clear h1 hbe
    go_wp2_with fail
    go_ret
    exact ⟨true, rfl, HF, hb⟩
  · have b1 : (f.st == 1) = false := by rw [beq_eq_false_iff_ne]; exact h1
    by_cases h2 : f.st = 2
    · have b2 : (f.st == 2) = true := by rw [beq_iff_eq]; exact h2
      by_cases h0 : f.body.size = 0
      · have b0 : f.body.toList.isEmpty = true := by rw [hbe]; exact decide_eq_true h0
        have HF := yes3 (f := f) (.inr ⟨.inl h2, h0⟩)
        clear h1 h2 hbe h0
        go_wp2_with fail
        go_ret
        exact ⟨true, rfl, HF, hb⟩
      · have b0 : f.body.toList.isEmpty = false := by rw [hbe]; exact decide_eq_false h0
        have HF := not3 (f := f) (by omega)
        clear h1 h2 hbe h0
        go_wp2_with fail
        go_ret
        exact ⟨false, rfl, HF, hb⟩
    · have b2 : (f.st == 2) = false := by rw [beq_eq_false_iff_ne]; exact h2
      by_cases h3 : f.st = 3
      · have b3 : (f.st == 3) = true := by rw [beq_iff_eq]; exact h3
        by_cases h0 : f.body.size = 0
        · have b0 : f.body.toList.isEmpty = true := by rw [hbe]; exact decide_eq_true h0
          have HF := yes3 (f := f) (.inr ⟨.inr h3, h0⟩)
          clear h1 h2 h3 hbe h0
          go_wp2_with fail
          go_ret
          exact ⟨true, rfl, HF, hb⟩
        · have b0 : f.body.toList.isEmpty = false := by rw [hbe]; exact decide_eq_false h0
          have HF := not3 (f := f) (by omega)
          clear h1 h2 h3 hbe h0
          go_wp2_with fail
          go_ret
          exact ⟨false, rfl, HF, hb⟩
      · have b3 : (f.st == 3) = false := by rw [beq_eq_false_iff_ne]; exact h3
        have HF := not3 (f := f) (by omega)
        clear h1 h2 h3 hbe
        go_wp2_with fail
        go_ret
        exact ⟨false, rfl, HF, hb⟩
theorem not2 {f : Fr} (h : ¬ (0 ≤ f.mo ∧ 0 ≤ f.fu ∧ 0 ≤ f.di ∧ f.n ≤ 8 ∧ ∀ s ∈ f.args, s.size ≤ 4096)) : Hid (BoolIs false (MayK 2 f)) := bool_no (fun e => h (e.2.1 rfl))
set_option maxHeartbeats 4000000 in
set_option maxRecDepth 100000 in
theorem request_may (hf : f.ok w) (hs : ∀ s ∈ f.args, s.size ≤ 9223372036854775807) : Calls Try.prog 87 #[f.val] w (SomeBool (MayK 2 f) (fun w' => Below w.heap.size w w')) := by
  have hb := below_alloc (Below.refl _ w) (.cells f.arr 29)
  have hF := boxed hf.tool w
  have HT := Lib.hid (hf.args.below hb)
  have hmx := hf.args.max
  show Calls Try.prog _ #[.agg f.arr] w _
  go_enter Try.func87, Try.ntmps87
  go_upto_region 1 with (fail)
  generalize w.alloc (.cells f.arr 29) = w1 at *
  have q1 := hF.c40
  have q2 := hF.c37
  have q3 := hF.c38
  have q4 := hF.c39
  go_wp2_with fail
  refine (long_any _ _ f.c _ _ HT.out hs).mono ?_
  rintro e w2 ⟨t, rfl, HL, rfl⟩
  by_cases h1 : 0 ≤ f.mo
  · by_cases h2 : 0 ≤ f.fu
    · by_cases h3 : 0 ≤ f.di
      · by_cases h4 : f.n ≤ 8
        · have h4i : (f.n : Int) ≤ 8 := by omega
          cases t with
          | false =>
            have HF : Hid (BoolIs true (MayK 2 f)) := bool_yes ⟨fun e => by omega, fun _ => ⟨h1, h2, h3, h4, fun s hm => by
              rcases Nat.lt_or_ge 4096 s.size with h | h
              · exact absurd (HL.out.2 ⟨s, hm, h⟩) (by simp)
              · exact h⟩, fun e => by omega⟩
            clear h4
            go_wp2_with fail
            go_ret
            exact ⟨true, rfl, HF, hb⟩
          | true =>
            have HF := not2 (f := f) (fun e => by
              obtain ⟨s, hm, hl⟩ := HL.out.1 rfl
              have := e.2.2.2.2 s hm
              omega)
            clear h4
            go_wp2_with fail
            go_ret
            exact ⟨false, rfl, HF, hb⟩
        · have HF := not2 (f := f) (fun e => h4 e.2.2.2.1)
          have h4i : ¬ (f.n : Int) ≤ 8 := by omega
          clear h4
          go_wp2_with fail
          go_ret
          exact ⟨false, rfl, HF, hb⟩
      · have HF := not2 (f := f) (fun e => h3 e.2.2.1)
        have hd : decide (0 ≤ f.di) = false := decide_eq_false h3
        clear h3
        go_wp2_with fail
        go_ret
        exact ⟨false, rfl, HF, hb⟩
    · have HF := not2 (f := f) (fun e => h2 e.2.1)
      have hd : decide (0 ≤ f.fu) = false := decide_eq_false h2
      clear h2
      go_wp2_with fail
      go_ret
      exact ⟨false, rfl, HF, hb⟩
  · have HF := not2 (f := f) (fun e => h1 e.1)
    have hd : decide (0 ≤ f.mo) = false := decide_eq_false h1
    clear h1
    go_wp2_with fail
    go_ret
    exact ⟨false, rfl, HF, hb⟩
theorem may_any (k : Int) (h1 : 1 ≤ k) (h6 : k ≤ 6) (hf : f.ok w) (hs : ∀ s ∈ f.args, s.size ≤ 9223372036854775807) : Calls Try.prog (mayN k) #[f.val] w (SomeBool (MayK k f) (fun w' => Below w.heap.size w w')) := by
  have yes : ∀ k : Int, k ≠ 1 → k ≠ 2 → k ≠ 3 → Hid (BoolIs true (MayK k f)) := fun k a b c => bool_yes ⟨fun e => absurd e a, fun e => absurd e b, fun e => absurd e c⟩
  rcases (by omega : k = 1 ∨ k = 2 ∨ k = 3 ∨ k = 4 ∨ k = 5 ∨ k = 6) with rfl | rfl | rfl | rfl | rfl | rfl
  · exact hello_may hf
  · exact request_may hf hs
  · exact response_may hf
  · exact (some_may hf).mono fun e w' ⟨he, hb⟩ => ⟨true, he, yes 4 (by omega) (by omega) (by omega), hb⟩
  · exact (some_may hf).mono fun e w' ⟨he, hb⟩ => ⟨true, he, yes 5 (by omega) (by omega) (by omega), hb⟩
  · exact (some_may hf).mono fun e w' ⟨he, hb⟩ => ⟨true, he, yes 6 (by omega) (by omega) (by omega), hb⟩
end
end Go.Proofs.Ytelfephmjkipoaa
end
/-! wire.PutUint, PutInt, PutBool, texts, PutText, PutList, Size; the document's Int, Bool, Text, Texts, List. -/
section
namespace Go.Proofs.Ytelfephmjkipoaa
open Go.RowKit Go.Kit Go.Proofs.YtelfephmjkipoaaW.PrintWords
section
variable {A : Option Addr} {n cap : Nat} {xs : List Int} {w : World}
set_option maxHeartbeats 1000000 in
theorem PutUint_any (u : Int) (hx : RB w A n xs) (hl : n + 10 ≤ 140737488355328) (h0 : 0 ≤ u) (h1 : u ≤ 18446744073709551615) :
    Calls Try.prog 36 #[.slice A n cap, .int .u64 u] w fun e w' => ∃ v, e = .returned v ∧ OB 5 w' w.heap.size v (xs ++ sh u.toNat) ∧ Below w.heap.size w w' := by
  obtain ⟨m, rfl⟩ := Int.eq_ofNat_of_zero_le h0
  have HM : Hid (m < 18446744073709551616) := Lib.hid (by omega)
  have HL := Lib.hid hx.len
  clear h0 h1
  go_enter Try.func36, Try.ntmps36
  go_wp2_with fail
  refine (fresh_any A n cap 10 xs w hx (by omega)).mono ?_
  rintro e w1 ⟨v, rfl, hO, hb⟩
  go_wp2_with fail
  refine (short_any w.heap.size v xs m w1 hO hb.size (by rw [HL.out]; exact hl) HM.out).mono ?_
  rintro e w2 ⟨v2, rfl, hO2, hb2⟩
  have hb3 : Below w.heap.size w w2 := hb.trans hb2
  go_wp2_with fail
  go_ret
  exact ⟨_, rfl, hO2, hb3⟩
end
set_option maxHeartbeats 2000000 in
set_option maxRecDepth 100000 in
theorem texts_any (base : Nat) (v : Value) (xs : List Int) (w : World) (B : Option Addr) (m c : Nat) (l : List ByteArray) (hO : OB 5 w base v xs) (hb : base ≤ w.heap.size) (hT : RT w B m l)
    (hB : ∀ W, Below base w W → RT W B m l) (K : Nat) (hK : K ≤ 140737488355328) (hs : ∀ s ∈ l, s.size ≤ K) (hl : xs.length + m * (10 + K) ≤ 140737488355328) :
    Calls Try.prog 109 #[v, .slice B m c] w fun e w' => ∃ v', e = .returned v' ∧ OB 5 w' base v' (xs ++ txts l) ∧ Below base w w' := by
  have hmm := hT.max
  have HLn := Lib.hid hT.len
  have HS := Lib.hid hs
  have HL : Hid (∀ i, i < m → xs.length + (txts (l.take i)).length + 10 + K ≤ 140737488355328) := Lib.hid (fun i hi => by
    have h1 := txts_length (l.take i) K (by omega) (fun s h => hs s (List.mem_of_mem_take h))
    have h2 : (l.take i).length ≤ i := List.length_take_le _ _
    have h3 := Nat.mul_le_mul_right (10 + K) (show (l.take i).length + 1 ≤ m by omega)
    rw [Nat.add_mul] at h3
    omega)
  have HB := Lib.hid hB
  clear hs hl hB
  go_enter Try.func109, Try.ntmps109
  go_wp2_with fail
  go_loopg [0, 9] m (fun gk v0 v1 w' => ∃ (i : Nat), v1 = .int .i64 (i : Int) ∧ OB 5 w' base v0 (xs ++ txts (l.take i)) ∧ Below base w w' ∧ Hid (i ≤ m ∧ gk = m - i))
  case atStart => exact ⟨0, rfl, by simpa [txts] using hO, Below.refl _ _, by omega, rfl⟩
  case round =>
    clear hO
    obtain ⟨i, rfl, hO, hb1, HG⟩ := hrel
    have hsz := hb1.size
    by_cases hi : i < m
    · have hi2 : (i : Int) < (m : Int) := by omega
      obtain ⟨ad, s, rfl, hc, HX⟩ := (HB.out _ hb1).at_ i hi
      have HSZ : Hid (s.size ≤ K) := Lib.hid (HS.out s (List.mem_of_getElem? HX.out))
      have HLi := Lib.hid (HL.out i hi)
      have hss : s.size < 9223372036854775808 := by have := HSZ.out; omega
      go_wp2_with fail
      refine (short_any base u0 _ s.size wr hO (Nat.le_trans hb hsz) (by have := HLi.out; rw [List.length_append]; omega) (by omega)).mono ?_
      rintro e w1 ⟨v1, rfl, hO1, hb2⟩
      have hb3 : Below base w w1 := hb1.trans hb2
      have hs3 := hb3.size
      have hln : ((xs ++ txts (l.take i)) ++ sh s.size).length + s.size ≤ 140737488355328 := by
        have h1 := HLi.out
        have h2 := HSZ.out
        have h3 := sh_ten (n := s.size) (by omega)
        rw [List.length_append, List.length_append]; omega
      go_wp2_with (at_builtin; refine push_text (w0 := w) base rfl (.tmp 17) (.tmp 18) 38 9 s rfl Try.underlying38 Try.underlying9 u8_info rfl rfl hO1 hb3 (Nat.le_trans hb hs3) hln ?_)
      intro v2 w2 hO2 hb4 _
      have hO3 : OB 5 w2 base v2 (xs ++ txts (l.take (i + 1))) := by
        rw [txts_snoc HX.out, txt]
        simpa only [List.append_assoc] using hO2
      clear hO2 hO1 hO hln
      go_wp2_with fail
      go_roundg (gk - 1)
      case measure => have := HG.out.2; omega
      case rel => exact ⟨i + 1, by simp, hO3, hb4, by omega, by have := HG.out.2; omega⟩
    · have hn : i = m := by have := HG.out; omega
      subst hn
      rw [all_of (by rw [HLn.out]; exact Nat.le_refl _)] at hO
      go_wp2_with fail
      go_ret
      exact ⟨_, rfl, hO, hb1⟩
section
variable {A B : Option Addr} {n cap m c : Nat} {xs : List Int} {l : List ByteArray} {w : World}
set_option maxHeartbeats 1000000 in
theorem PutText_any (hx : RB w A n xs) (hT : RT w B m l) (K : Nat) (hK : K ≤ 140737488355328) (hs : ∀ s ∈ l, s.size ≤ K) (hl : n + 16 + m * (10 + K) ≤ 140737488355328) :
    Calls Try.prog 80 #[.slice A n cap, .slice B m c] w fun e w' => ∃ v, e = .returned v ∧ OB 5 w' w.heap.size v (xs ++ txts l) ∧ Below w.heap.size w w' := by
  have HL := Lib.hid hx.len
  have HS := Lib.hid hs
  clear hs
  go_enter Try.func80, Try.ntmps80
  go_wp2_with fail
  refine (fresh_any A n cap 16 xs w hx (by omega)).mono ?_
  rintro e w1 ⟨v, rfl, hO, hb⟩
  have hT1 := hT.below hb
  go_wp2_with fail
  refine (texts_any w.heap.size v xs w1 B m c l hO hb.size hT1 (fun W h => hT.below (hb.trans h)) K hK HS.out (by rw [HL.out]; omega)).mono ?_
  rintro e w2 ⟨v2, rfl, hO2, hb2⟩
  have hb3 : Below w.heap.size w w2 := hb.trans hb2
  go_wp2_with fail
  go_ret
  exact ⟨_, rfl, hO2, hb3⟩
set_option maxHeartbeats 1000000 in
theorem PutList_any (hx : RB w A n xs) (hT : RT w B m l) (K : Nat) (hK : K ≤ 140737488355328) (hs : ∀ s ∈ l, s.size ≤ K) (hl : n + 16 + m * (10 + K) ≤ 140737488355328) :
    Calls Try.prog 81 #[.slice A n cap, .slice B m c] w fun e w' => ∃ v, e = .returned v ∧ OB 5 w' w.heap.size v (xs ++ lst l) ∧ Below w.heap.size w w' := by
  have HL := Lib.hid hx.len
  have HS := Lib.hid hs
  have HM := Lib.hid hT.len
  have hmx := hT.max
  clear hs
  go_enter Try.func81, Try.ntmps81
  go_wp2_with fail
  refine (fresh_any A n cap 16 xs w hx (by omega)).mono ?_
  rintro e w1 ⟨v, rfl, hO, hb⟩
  go_wp2_with fail
  refine (short_any w.heap.size v xs m w1 hO hb.size (by rw [HL.out]; omega) (by omega)).mono ?_
  rintro e w2 ⟨v2, rfl, hO2, hb2⟩
  have hb3 : Below w.heap.size w w2 := hb.trans hb2
  have hT2 := hT.below hb3
  have hsh := sh_ten (n := m) (by omega)
  have HSH := Lib.hid hsh
  clear hsh
  go_wp2_with fail
  refine (texts_any w.heap.size v2 _ w2 B m c l hO2 hb3.size hT2 (fun W h => hT.below (hb3.trans h)) K hK HS.out (by rw [List.length_append, HL.out]; have := HSH.out; omega)).mono ?_
  rintro e w3 ⟨v3, rfl, hO3, hb4⟩
  have hb5 : Below w.heap.size w w3 := hb3.trans hb4
  have hO4 : OB 5 w3 w.heap.size v3 (xs ++ lst l) := by unfold lst; rw [HM.out]; simpa only [List.append_assoc] using hO3
  go_wp2_with fail
  go_ret
  exact ⟨_, rfl, hO4, hb5⟩
end
end Go.Proofs.Ytelfephmjkipoaa
end
