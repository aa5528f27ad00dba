/- The program's reader: NewReader, text, Text, List. -/
import Derived.Test.YtiadfmbddkcleaaWiV
import Derived.Test.YtiadfmbddkcleaaStrI
namespace Go.Proofs.Ytiadfmbddkcleaa
open Go.RowKit Go.Kit Go.Proofs.YtiadfmbddkcleaaW.PrintWords
set_option maxHeartbeats 1000000 in
theorem NewReader_any (A : Option Addr) (n cap : Nat) (xs : List Int) (w : World) (hx : RB w A n xs) (hl : n ≤ 140737488355328) :
    Calls Try.prog 17 #[.slice A n cap] w fun e w' => ∃ r A' c, e = .returned (.pointer (some ⟨r, 0, none⟩)) ∧ RS w' r A' n c (Rd.new xs) ∧ (∀ k, rdf r A' k → w.heap.size ≤ k) ∧ Below w.heap.size w w' := by
  have HL := Lib.hid hx.len
  go_enter Try.func17, Try.ntmps17
  go_wp2_with fail
  refine (fresh_any A n cap 0 xs w hx (by omega)).mono ?_
  rintro e w1 ⟨v, rfl, hO, hb⟩
  obtain ⟨A', c, rfl, hR, hc⟩ := hO.reads'
  rw [HL.out] at hO hR hc ⊢
  have hold := hO.old
  have hfrom := hO.from
  have hbl := below_alloc (Below.refl _ w1) (.cells #[.slice A' n c, .int .i64 0, .bool true, .int .i64 0, .int .i64 0] 78)
  have hk := heap_alloc_new w1 (.cells #[.slice A' n c, .int .i64 0, .bool true, .int .i64 0, .int .i64 0] 78)
  have hR2 := hR.below hbl
  have hb2 := below_step hb hbl
  clear hO
  go_wp2_with fail
  go_ret
  have hblk : ∀ a, A' = some a → a.block < w1.heap.size := fun a e => hold a.block (by rw [e]; rfl)
  refine ⟨w1.heap.size, A', c, rfl, ⟨hk, hR2, hc, hl, Nat.zero_le _, fun _ => rfl, fun a e => Nat.ne_of_lt (hblk a e), fun a e => Nat.lt_of_lt_of_le (hblk a e) hbl.size⟩, ?_, hb2⟩
  rintro k (rfl | ⟨a, e, rfl⟩)
  · exact hb.size
  · exact hfrom a.block (by rw [e]; rfl)
theorem own_not_r {w : World} {base r : Nat} {v : Value} {xs : List ByteArray} {cs : Array Value} {fr : Nat × Nat} (h : OT 9 w base v xs) (hk : w.heap[r]? = some (.cells cs 78 fr)) : v.ownBlock = none ∨ v.ownBlock ≠ some r := by
  rcases h.2 with ⟨h1, _⟩ | ⟨g, cap, cur, h1, h2, h3, h4⟩
  · exact .inl (by rw [h1]; rfl)
  · refine .inr (fun e => ?_)
    rw [h1] at e; cases e
    rw [hk] at h3
    simp at h3
theorem sep_own {w : World} {base r n c : Nat} {A : Option Addr} {D : Rd} {v : Value} {xs : List ByteArray} (h : OT 9 w base v xs) (hk : RS w r A n c D) (hA : ∀ a, A = some a → a.block < base) : Sep (rdf r A) (rf v) := fun k hk1 hv => by
  rcases h.2 with ⟨h1, _⟩ | ⟨g, cap, cur, h1, h2, h3, h4⟩
  · rw [h1] at hv; cases hv
  · rw [h1] at hv; cases hv
    rcases hk1 with rfl | ⟨a, e, rfl⟩
    · rw [hk.rk] at h3; simp at h3
    · have := hA a e; omega
section
variable {w w1 : World} {r n c : Nat} {A : Option Addr} {D : Rd} {S : Nat → Prop}
attribute [-go_sem] run_slice_lh run_slice_any
set_option maxHeartbeats 2000000 in
set_option maxRecDepth 100000 in
theorem text_any (h : RS w r A n c D) (a : Nat) (ha : a ≤ n) (most : Int) (hmo0 : 0 ≤ most) (hmo : most ≤ 9223372036854775807) :
    Calls Try.prog 48 #[.pointer (some ⟨r, 0, none⟩), .int .i64 (a : Int), .int .i64 most] w fun e w' => ∃ (s : ByteArray) (en : Nat) (x : Int), e = .returned (.tuple #[.string s, .int .i64 (en : Int), .int .i64 x]) ∧ Hid (textAt D.bs a most = (s, en, x)) ∧ w' = w := by
  have h0 := h.r0
  have hm := h.max
  have hcc := h.cap
  have HL := Lib.hid h.row.len
  have hwm : IntKind.u64.wrap most = most := IntWalk.u64_in _ ⟨by omega, by omega⟩
  go_enter Try.func48, Try.ntmps48
  go_wp2_with fail
  refine (number_any h a ha).mono ?_
  rintro e w2 ⟨m, k, x, rfl, HN, rfl⟩
  have hnf := num_facts h.row.byt (a := a) (by rw [HL.out]; exact ha)
  rw [HN.out, HL.out] at hnf
  obtain ⟨g1, g2, g3, g4, g5⟩ := hnf
  dsimp only at g1 g2 g3 g4 g5
  by_cases hx : x = 0
  · have hxb : (x != 0) = false := by simp [hx]
    by_cases hmm : most < (m : Int)
    · have HF : Hid (textAt D.bs a most = (ByteArray.empty, 0, 3)) := Lib.hid (by
        unfold textAt
        rw [HN.out]
        rw [if_neg (by simpa using hx), if_pos hmm])
      clear hx g1 g2 g4 g5
      go_wp2_with fail
      go_ret3
      exact ⟨_, 0, _, rfl, HF, rfl⟩
    · have hmm2 : ¬ most < (m : Int) := hmm
      have hws : IntKind.u64.wrap ((n : Int) - (a : Int) - (k : Int)) = (n : Int) - (a : Int) - (k : Int) := IntWalk.u64_in _ ⟨by omega, by omega⟩
      have hwi : IntKind.i64.wrap ((n : Int) - (a : Int) - (k : Int)) = (n : Int) - (a : Int) - (k : Int) := IntWalk.i64_in _ ⟨by omega, by omega⟩
      have hwi2 : IntKind.i64.wrap ((n : Int) - (a : Int)) = (n : Int) - (a : Int) := IntWalk.i64_in _ ⟨by omega, by omega⟩
      by_cases hfit : n < a + k + m
      · have HF : Hid (textAt D.bs a most = (ByteArray.empty, 0, 4)) := Lib.hid (by
          unfold textAt
          rw [HN.out]
          rw [if_neg (by simpa using hx), if_neg hmm, if_pos (by rw [HL.out]; exact hfit)])
        have hf2 : (n : Int) - (a : Int) - (k : Int) < (m : Int) := by omega
        clear hx g1 g2 g4 g5 hmm
        go_wp2_with fail
        go_ret3
        exact ⟨_, 0, _, rfl, HF, rfl⟩
      · have HF : Hid (textAt D.bs a most = (strOfNums ((D.bs.drop (a + k)).take m), a + k + m, 0)) := Lib.hid (by
          unfold textAt
          rw [HN.out]
          rw [if_neg (by simpa using hx), if_neg hmm, if_neg (by rw [HL.out]; exact hfit)])
        have hf2 : (m : Int) ≤ (n : Int) - (a : Int) - (k : Int) := by omega
        obtain ⟨A', hcut, hA', _⟩ := mid_bytes A n c (a + k) (a + k + m) (by omega) (by omega) hcc
        replace hcut := hcut ((a : Int) + (k : Int)) ((a : Int) + (k : Int) + (m : Int)) (by omega) (by omega)
        have hrm := hA' _ _ h.row
        have hmn : a + k + m - (a + k) = m := by omega
        rw [hmn] at hcut hrm
        have hmb : (m : Int) ≤ 9223372036854775807 := by omega
        have ka := string_of_reads (P := Try.prog) (c := c - (a + k)) Try.underlying23 Try.underlying5 Try.underlying9 hrm.rd
        clear hx g1 g2 g4 g5 hmm hA' hmn hrm
        go_wp2_with fail
        go_ret3
        exact ⟨_, a + k + m, _, by simp, HF, rfl⟩
  · have hxb : (x != 0) = true := by simp [hx]
    have HF : Hid (textAt D.bs a most = (ByteArray.empty, 0, x)) := Lib.hid (by
      unfold textAt
      rw [HN.out]
      rw [if_pos (by simpa using hx)])
    clear hx g1 g2 g4 g5
    go_wp2_with fail
    go_ret3
    exact ⟨_, 0, _, rfl, HF, rfl⟩
set_option maxHeartbeats 2000000 in
theorem Text_any (h : RS w r A n c D) (most : Int) (hmo : most ≤ 9223372036854775807) : Calls Try.prog 23 #[.pointer (some ⟨r, 0, none⟩), .int .i64 most] w fun e w' => ∃ D1 s, e = .returned (.string s) ∧ Hid (textS D most = (D1, s)) ∧ RS w' r A n c D1 ∧ Only w w' (fun k => k = r) := by
  have h1 := h.r1
  have hf1 := h.fr 1
  have hm := h.max
  have HL := Lib.hid h.row.len
  by_cases hw : D.why = 0
  · have HW := Lib.hid hw
    go_enter Try.func23, Try.ntmps23
    go_wp2_with fail
    refine (well_any h true (by simpa using hw)).mono ?_
    rintro e w2 ⟨rfl, rfl⟩
    clear hw
    by_cases hneg : most < 0
    · have HF : Hid (textS D most = (D.fail 1 D.at_, ByteArray.empty)) := Lib.hid (by
        unfold textS
        rw [if_neg (by rw [HW.out]; simp), if_pos hneg])
      go_wp2_with fail
      refine (fails_any h 1 D.at_ (by decide)).mono ?_
      rintro e w4 ⟨rfl, hs, ho⟩
      go_wp2_with fail
      go_ret
      exact ⟨_, _, rfl, HF, hs, ho⟩
    · have hneg2 : ¬ most < 0 := hneg
      go_wp2_with fail
      refine (text_any h D.at_ h.low most (by omega) hmo).mono ?_
      rintro e w3 ⟨s, en, x, rfl, HN, rfl⟩
      have HF : Hid (textS D most = if x ≠ 0 then (D.fail x D.at_, ByteArray.empty) else (D.to en, s)) := Lib.hid (by
        unfold textS
        rw [if_neg (by rw [HW.out]; simp), if_neg (by omega), HN.out])
      by_cases hx : x = 0
      · rw [if_neg (by simpa using hx)] at HF
        have hen : en ≤ n := by
          have := textAt_end h.ok hx HN.out
          rw [HL.out] at this; exact this
        have hxb : (x != 0) = false := by simp [hx]
        have hs := h.set1 (en : Int) en rfl hen
        have ho := only_r w3 r 1 (.int .i64 (en : Int))
        clear hx hneg2
        go_wp2_with fail
        go_ret
        exact ⟨_, _, rfl, HF, hs, ho⟩
      · rw [if_pos hx] at HF
        have hxb : (x != 0) = true := by simp [hx]
        have HX := Lib.hid hx
        clear hx hneg2
        go_wp2_with fail
        refine (fails_any h x D.at_ HX.out).mono ?_
        rintro e w4 ⟨rfl, hs, ho⟩
        go_wp2_with fail
        go_ret
        exact ⟨_, _, rfl, HF, hs, ho⟩
  · have HF : Hid (textS D most = (D, ByteArray.empty)) := Lib.hid (by unfold textS; rw [if_pos hw])
    go_enter Try.func23, Try.ntmps23
    go_wp2_with fail
    refine (well_any h false (by simpa using hw)).mono ?_
    rintro e w2 ⟨rfl, rfl⟩
    clear hw
    go_wp2_with fail
    go_ret
    exact ⟨_, _, rfl, HF, h, Only.refl _ _⟩
set_option maxHeartbeats 4000000 in
set_option maxRecDepth 100000 in
theorem List_any (h : RS w r A n c D) (hn : n ≤ 4398046511104) (most each : Int) (hmo : most ≤ 9223372036854775807) (hea : each ≤ 9223372036854775807) : Calls Try.prog 25 #[.pointer (some ⟨r, 0, none⟩), .int .i64 most, .int .i64 each] w fun e w' => ∃ D1 v l, e = .returned v ∧ Hid (listS D most each = (D1, l)) ∧ OT 9 w' w.heap.size v l ∧ RS w' r A n c D1 ∧ Only w w' (fun k => k = r) := by
  have h1 := h.r1
  have hm := h.max
  have HL := Lib.hid h.row.len
  by_cases hw : D.why = 0
  · have HW := Lib.hid hw
    go_enter Try.func25, Try.ntmps25
    go_wp2_with fail
    refine (well_any h true (by simpa using hw)).mono ?_
    rintro e w2 ⟨rfl, rfl⟩
    clear hw
    by_cases hneg : most < 0 ∨ each < 0
    · have HF : Hid (listS D most each = (D.fail 1 D.at_, [])) := Lib.hid (by
        unfold listS
        rw [if_neg (by rw [HW.out]; simp), if_pos hneg])
      have hdd : (decide (most < 0) || decide (each < 0)) = true := by simpa using hneg
      by_cases hm0 : most < 0
      · clear hneg
        go_wp2_with fail
        refine (fails_any h 1 D.at_ (by decide)).mono ?_
        rintro e w4 ⟨rfl, hs, ho⟩
        go_wp2_with fail
        go_ret
        exact ⟨_, _, [], rfl, HF, OT.nil _ _ _, hs, ho⟩
      · have hm1 : each < 0 := hneg.resolve_left hm0
        clear hneg
        go_wp2_with fail
        refine (fails_any h 1 D.at_ (by decide)).mono ?_
        rintro e w4 ⟨rfl, hs, ho⟩
        go_wp2_with fail
        go_ret
        exact ⟨_, _, [], rfl, HF, OT.nil _ _ _, hs, ho⟩
    · have hm0 : ¬ most < 0 := fun e => hneg (.inl e)
      have he0 : ¬ each < 0 := fun e => hneg (.inr e)
      have HNG := Lib.hid hneg
      clear hneg
      go_wp2_with fail
      refine (number_any h D.at_ h.low).mono ?_
      rintro e w3 ⟨m, k, x, rfl, HN, rfl⟩
      obtain ⟨g1, g2, g3, g4, g5⟩ := numF h.ok HN.out
      rw [h.row.len] at g2
      have hwm : IntKind.u64.wrap most = most := IntWalk.u64_in _ ⟨by omega, by omega⟩
      by_cases hx : x = 0
      · subst hx
        by_cases hmm : most < (m : Int)
        · have HF : Hid (listS D most each = (D.fail 11 D.at_, [])) := Lib.hid (by
            unfold listS
            rw [if_neg (by rw [HW.out]; simp), if_neg HNG.out, HN.out, if_neg (by simp), if_pos hmm])
          clear g1 g4 g5
          go_wp2_with fail
          refine (fails_any h 11 D.at_ (by decide)).mono ?_
          rintro e w4 ⟨rfl, hs, ho⟩
          go_wp2_with fail
          go_ret
          exact ⟨_, _, [], rfl, HF, OT.nil _ _ _, hs, ho⟩
        · have HF : Hid (listS D most each = if (lstR D.bs each m (D.at_ + k) []).2.2 ≠ 0 then (D.fail (lstR D.bs each m (D.at_ + k) []).2.2 (lstR D.bs each m (D.at_ + k) []).2.1, []) else (D.to (lstR D.bs each m (D.at_ + k) []).2.1, (lstR D.bs each m (D.at_ + k) []).1)) := Lib.hid (by
            unfold listS
            rw [if_neg (by rw [HW.out]; simp), if_neg HNG.out, HN.out, if_neg (by simp), if_neg hmm])
          have HM : Hid (m < 18446744073709551616) := g1
          clear g1 g4 g5
          go_wp2_with fail
          go_loopg [7, 10, 11] m (fun gk v7 v10 v11 w' => ∃ (j a : Nat) (acc : List ByteArray), v7 = .int .u64 (j : Int) ∧ v11 = .int .i64 (a : Int) ∧ OT 9 w' w3.heap.size v10 acc ∧ RS w' r A n c D ∧ Below w3.heap.size w3 w' ∧ Hid (lstR D.bs each m (D.at_ + k) [] = lstR D.bs each j a acc ∧ a ≤ n ∧ acc.length ≤ a ∧ j ≤ m ∧ gk = j))
          case atStart => exact ⟨m, D.at_ + k, [], rfl, by simp, OT.nil _ _ _, h, Below.refl _ _, rfl, g2, by simp, by omega, rfl⟩
          case round =>
            have hAo := h.old
            clear h h1
            obtain ⟨j, a, acc, rfl, rfl, hO, h, hb1, HG⟩ := hrel
            have hsz := hb1.size
            rcases j with _ | j
            · have hs := h.set1 (a : Int) a rfl HG.out.2.1
              have ho : Only w3 (wr.setCell ⟨r, 1, none⟩ (.int .i64 (a : Int))) (fun k => k = r) := (Only.of_below hb1 _).set r 1 _ (.inl rfl)
              have hf1 := h.fr 1
              have h1 := h.r1
              have HFF : Hid (listS D most each = (D.to a, acc)) := Lib.hid (by
                rw [HF.out, HG.out.1]
                rfl)
              have hOk := hO.kept (grown_set wr r 1 (.int .i64 (a : Int))) (own_not_r hO h.rk)
              go_wp2_with fail
              go_ret
              exact ⟨_, _, acc, rfl, HFF, hOk, hs, ho⟩
            · have hj : (0 : Int) < ((j + 1 : Nat) : Int) := by omega
              have hj1 : IntKind.u64.wrap (((j + 1 : Nat) : Int) - 1) = (j : Int) := by rw [IntWalk.u64_in _ ⟨by omega, by have := HM.out; have := HG.out; omega⟩]; omega
              go_wp2_with fail
              refine (text_any h a HG.out.2.1 each (by omega) hea).mono ?_
              rintro e w4 ⟨s, en, x, rfl, HT, rfl⟩
              obtain ⟨q1, q2⟩ := textAt_facts h.row.byt (by rw [h.row.len]; exact HG.out.2.1) HT.out
              rw [h.row.len] at q1
              by_cases hx : x = 0
              · obtain ⟨q3, q4, q5, _⟩ := q1 hx
                have hxb : (x != 0) = false := by simp [hx]
                have HNX : Hid (lstR D.bs each m (D.at_ + k) [] = lstR D.bs each j en (acc ++ [s])) := Lib.hid (by
                  rw [HG.out.1, lstR, HT.out, if_neg (by simpa using hx)])
                have hln : (acc.length + 1) * 16 ≤ 140737488355328 := by have := HG.out.2.2.1; have := HG.out.2.1; omega
                have hlen : (acc ++ [s]).length ≤ en := by rw [List.length_append]; have := HG.out.2.2.1; simp; omega
                have HLEN := Lib.hid hlen
                have hjm := HG.out.2.2.2.1
                have hgk := HG.out.2.2.2.2
                clear hx q1 q2 q4 q5 hlen
                go_wp2_with (at_builtin; refine print_append_of (w0 := w3) Value.string w3.heap.size rfl (.tmp 85) (.tmp 87) 25 9 (.string ByteArray.empty) 16 rfl Try.underlying25 str_info rfl (by decide) _ acc s rfl rfl rfl hO hb1 hsz hln ?_)
                intro v1 w5 hown hb5 hg hat
                replace hown : OT 9 w5 w3.heap.size v1 (acc ++ [s]) := by unfold OT; simpa using hown
                have h5 : RS w5 r A n c D := h.only ((Only.refl w4 (rf u10)).grown hg (fun k e => .inl e)) (sep_own hO h hAo)
                clear hO hg hat hln
                go_wp2_with fail
                go_roundg j
                case measure => omega
                case rel => exact ⟨j, en, _, by first | rfl | (rw [hj1]) | simp, rfl, hown, h5, hb5, HNX.out, q3, HLEN.out, by omega, rfl⟩
              · have hxb : (x != 0) = true := by simp [hx]
                have HX := Lib.hid hx
                have HFF : Hid (listS D most each = (D.fail x a, [])) := Lib.hid (by
                  rw [HF.out, HG.out.1, lstR, HT.out, if_pos hx, if_pos hx])
                clear hx q1 q2
                go_wp2_with fail
                refine (fails_any h x a HX.out).mono ?_
                rintro e w5 ⟨rfl, hs, ho⟩
                have ho2 : Only w3 w5 (fun k => k = r) := (Only.of_below hb1 (fun k => k = r)).same ho
                go_wp2_with fail
                go_ret
                exact ⟨_, _, [], rfl, HFF, OT.nil _ _ _, hs, ho2⟩
      · have HF : Hid (listS D most each = (D.fail x D.at_, [])) := Lib.hid (by
          unfold listS
          rw [if_neg (by rw [HW.out]; simp), if_neg HNG.out, HN.out, if_pos hx])
        have hxb : (x != 0) = true := by simp [hx]
        have hxc : (x == 0) = false := by simp [hx]
        have HX := Lib.hid hx
        clear hx g1 g2 g3 g4 g5
        go_wp2_with fail
        refine (fails_any h x D.at_ HX.out).mono ?_
        rintro e w4 ⟨rfl, hs, ho⟩
        go_wp2_with fail
        go_ret
        exact ⟨_, _, [], rfl, HF, OT.nil _ _ _, hs, ho⟩
  · have HF : Hid (listS D most each = (D, [])) := Lib.hid (by unfold listS; rw [if_pos hw])
    go_enter Try.func25, Try.ntmps25
    go_wp2_with fail
    refine (well_any h false (by simpa using hw)).mono ?_
    rintro e w2 ⟨rfl, rfl⟩
    clear hw
    go_wp2_with fail
    go_ret
    exact ⟨_, _, [], rfl, HF, OT.nil _ _ _, h, Only.refl _ _⟩
end
end Go.Proofs.Ytiadfmbddkcleaa
