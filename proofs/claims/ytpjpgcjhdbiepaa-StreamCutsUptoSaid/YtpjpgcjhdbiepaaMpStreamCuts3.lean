/- Contracts of functions that the law reaches (texts laid together, part 3): each says of its call what it answers and what it leaves of memory; the conditions stand in each statement. -/
import Derived.Test.YtpjpgcjhdbiepaaMpStreamCuts2
import Derived.Test.YtpjpgcjhdbiepaaProg
import Derived.Test.YtpjpgcjhdbiepaaWWords
import Derived.WalkKit
import Derived.Lib.Hide
import Derived.Laws.BitsAllLaws
import Derived.Deep.WholeRow
import Derived.Deep.CutBlock
import Derived.Deep.Cut
import Derived.Deep.LoopGhost
import Derived.Laws.CopyOwn
import Derived.Lib.SlBytesConst
import Derived.ChangeKeysEq
import Derived.Laws.StructEq
import Derived.Test.YtpjpgcjhdbiepaaWMore
import Derived.Deep.RegionHeld3
import Derived.Deep.RegionLaw
import Derived.Deep.DeepMust
import Derived.Laws.Cover3
import Derived.Laws.Bits64b
import Derived.IntWalk
import Derived.Test.YtpjpgcjhdbiepaaWGuard
import Derived.Deep.MidRow
import Derived.Test.YtpjpgcjhdbiepaaWEqStruct
import Derived.StillTailTactics
import Derived.Recover
import Derived.WalkLawsBesides
import Derived.Deep.RegionWith
import Derived.Laws.CopyRow
import Derived.Deep.QuietTactic
import Derived.BigQuiet
import Derived.RegionTactic
import Derived.BigRegion
set_option linter.unusedVariables false
/-! The contracts of bytes.Equal, Bytes and Seal, and of the document's Bytes and Seal. -/
section
namespace Go.Proofs.Ytpjpgcjhdbiepaa
open Go.RowKit Go.Kit CrcM Go.Proofs.YtpjpgcjhdbiepaaW.PrintWords

theorem b4_four (c : W) : ∃ x0 x1 x2 x3 : Int, b4 c = [x0, x1, x2, x3] ∧ (c.toNat : Int) % 256 = x0 ∧ (c.toNat : Int) / 256 % 256 = x1 ∧ (c.toNat : Int) / 65536 % 256 = x2 ∧ (c.toNat : Int) / 16777216 = x3 ∧
    (0 ≤ x0 ∧ x0 < 256) ∧ (0 ≤ x1 ∧ x1 < 256) ∧ (0 ≤ x2 ∧ x2 < 256) ∧ 0 ≤ x3 ∧ x3 < 256 := by
  have h255 : ∀ d : W, (d &&& 255#32).toNat = d.toNat % 256 := fun d => by rw [BitVec.toNat_and]; exact Nat.and_two_pow_sub_one_eq_mod _ 8
  refine ⟨_, _, _, _, rfl, ?_, ?_, ?_, ?_, ?_, ?_, ?_, ?_⟩
  all_goals have hlt := c.isLt
  all_goals simp only [h255, BitVec.toNat_ushiftRight, Nat.shiftRight_eq_div_pow]
  all_goals omega
theorem b4_byt (c : W) : Byt (b4 c) := by
  obtain ⟨x0, x1, x2, x3, h, _, _, _, _, h0, h1, h2, h3⟩ := b4_four c
  rw [h]; intro x hx; simp at hx; omega
theorem b4_length (c : W) : (b4 c).length = 4 := rfl
theorem info_b4 : (Try.prog.info? 75).map (fun i => (i.zero, i.size)) = some (some (.agg #[.int .u8 0, .int .u8 0, .int .u8 0, .int .u8 0]), 4) := by kernel_rfl
set_option maxHeartbeats 400000 in
theorem Bytes_any (c : W) (n : Int) (hn : n = (c.toNat : Int)) (w : World) :
    Calls Try.prog 49 #[.int .u32 n] w fun e w' => ∃ x0 x1 x2 x3, e = .returned (.agg #[.int .u8 x0, .int .u8 x1, .int .u8 x2, .int .u8 x3]) ∧ Hid (b4 c = [x0, x1, x2, x3]) ∧ Below w.heap.size w w' := by
  subst hn
  have hlt := u32_lt c
  obtain ⟨x0, x1, x2, x3, h, e0, e1, e2, e3, h0, h1, h2, h3⟩ := b4_four c
  have H := Lib.hid h
  clear h
  have hz := (zero_of_info info_b4).1
  go_enter Try.func49, Try.ntmps49
  go_wp2_with fail
  refine bodyPost_ret (v := .agg #[.int .u8 x0, .int .u8 x1, .int .u8 x2, .int .u8 x3]) (by simp [results, Try.results49, go_sem]) rfl ⟨x0, x1, x2, x3, rfl, H, (Below.refl _ _).alloc (Nat.le_refl _) _⟩
set_option maxHeartbeats 400000 in
theorem rBytes_any (c : W) (n : Int) (hn : n = (c.toNat : Int)) (w : World) :
    Calls Try.prog 33 #[.int .u32 n] w fun e w' => ∃ x0 x1 x2 x3, e = .returned (.agg #[.int .u8 x0, .int .u8 x1, .int .u8 x2, .int .u8 x3]) ∧ Hid (b4 c = [x0, x1, x2, x3]) ∧ Below w.heap.size w w' := by
  subst hn
  have hlt := u32_lt c
  obtain ⟨x0, x1, x2, x3, h, e0, e1, e2, e3, h0, h1, h2, h3⟩ := b4_four c
  have H := Lib.hid h
  clear h
  have hz := (zero_of_info info_b4).1
  go_enter Try.func33, Try.ntmps33
  go_wp2_with fail
  refine bodyPost_ret (v := .agg #[.int .u8 x0, .int .u8 x1, .int .u8 x2, .int .u8 x3]) (by simp [results, Try.results33, go_sem]) rfl ⟨x0, x1, x2, x3, rfl, H, (Below.refl _ _).alloc (Nat.le_refl _) _⟩

/-! Sealed bytes -/
def sealed (xs : List Int) : List Int := xs ++ b4 (more 0#32 xs)
theorem sealed_length (xs : List Int) : (sealed xs).length = xs.length + 4 := by unfold sealed; rw [List.length_append, b4_length]
set_option maxHeartbeats 1000000 in
set_option maxRecDepth 100000 in
theorem rSeal_any (A : Option Addr) (len cap : Nat) (xs : List Int) (w : World) (hx : RB w A len xs) (hl : len ≤ 140737488355000) :
    Calls Try.prog 25 #[.slice A len cap] w fun e w' => ∃ v, e = .returned v ∧ OB 5 w' w.heap.size v (sealed xs) ∧ Below w.heap.size w w' := by
  have HL := Lib.hid hx.len
  go_enter Try.func25, Try.ntmps25
  go_wp2_with (at_builtin; refine print_append_row (w0 := w) w.heap.size rfl (.const (.slice none 0 0)) (.tmp 5) 23 5 .u8 1 rfl Try.underlying23 u8_info (by decide) (.slice none 0 0) [] xs A len cap rfl rfl (own_nil w _ _ _) hx.rd (Below.refl _ _) (Nat.le_refl _) (by simp; omega) ?_)
  intro v1 w1 hown hb1 _ _
  have hO : OB 5 w1 w.heap.size v1 xs := ⟨by simpa using hown, hx.byt⟩
  clear hown
  have hx1 := hx.below hb1
  go_wp2_with fail
  refine (rMore_any 0#32 _ (by decide) A len cap xs _ hx1).mono ?_
  rintro e w2 ⟨rfl, rfl⟩
  obtain ⟨s, hs⟩ : ∃ s, s = more 0#32 xs := ⟨_, rfl⟩
  rw [← hs]
  have HS := Lib.hid hs
  clear hs
  go_wp2_with fail
  refine (rBytes_any s _ rfl _).mono ?_
  rintro e w3 ⟨x0, x1, x2, x3, rfl, HB, hb3⟩
  replace hO := hO.below hb3
  replace hb1 := below_step hb1 hb3
  have hz := (zero_of_info info_b4).1
  clear hb3 hx1
  have hfour : Byt [x0, x1, x2, x3] := by rw [← HB.out]; exact b4_byt s
  obtain ⟨wb, hwb⟩ : ∃ wb, wb = w3.alloc (.cells #[.int .u8 x0, .int .u8 x1, .int .u8 x2, .int .u8 x3] 75) := ⟨_, rfl⟩
  have HR := RB.lit wb [x0, x1, x2, x3] hfour (by simp) 5 (0, 0)
  simp only [nums, List.map_cons, List.map_nil, List.length_cons, List.length_nil, Nat.reduceAdd] at HR
  have HO := (hO.below (below_alloc (Below.refl _ w3) (.cells #[.int .u8 x0, .int .u8 x1, .int .u8 x2, .int .u8 x3] 75)))
  have hbw := below_alloc hb1 (.cells #[.int .u8 x0, .int .u8 x1, .int .u8 x2, .int .u8 x3] 75)
  rw [← hwb] at HO hbw
  replace HO := HO.below (below_alloc (Below.refl _ wb) (.cells #[.int .u8 x0, .int .u8 x1, .int .u8 x2, .int .u8 x3] 5))
  replace hbw := below_alloc hbw (.cells #[.int .u8 x0, .int .u8 x1, .int .u8 x2, .int .u8 x3] 5)
  subst hwb
  simp only [World.size_alloc] at HR
  clear hO hb1
  go_wp2_with (at_builtin; refine print_append_row (w0 := w) w.heap.size rfl (.tmp 10) (.tmp 19) 23 5 .u8 1 rfl Try.underlying23 u8_info (by decide) _ xs [x0, x1, x2, x3] _ 4 4 rfl rfl HO.own HR.rd hbw (by have := hbw.size; simpa using this) (by rw [HL.out]; omega) ?_)
  intro v2 w4 hown hb4 _ _
  have hF : OB 5 w4 w.heap.size v2 (sealed xs) := by
    unfold sealed
    rw [← HS.out, HB.out]
    exact ⟨by simpa using hown, hx.byt.append hfour⟩
  clear HO HR hbw hown
  go_wp2_with fail
  go_ret
  exact ⟨_, rfl, hF, hb4⟩
end Go.Proofs.Ytpjpgcjhdbiepaa
end
/-! The contracts of Open and of the document's Open. -/
section
namespace Go.Proofs.Ytpjpgcjhdbiepaa
open Go.RowKit Go.Kit CrcM Go.Proofs.YtpjpgcjhdbiepaaW.PrintWords

/-- What Open answers. -/
def openR (xs : List Int) : List Int × Int :=
  if xs.length < 4 then ([], 4) else if b4 (more 0#32 (xs.take (xs.length - 4))) = xs.drop (xs.length - 4) then (xs.take (xs.length - 4), 0) else ([], 71)
theorem openR_short {xs : List Int} (h : xs.length < 4) : openR xs = ([], 4) := if_pos h
theorem openR_good {xs : List Int} {N : Nat} (h : xs.length = N + 4) (e : b4 (more 0#32 (xs.take N)) = xs.drop N) : openR xs = (xs.take N, 0) := by
  unfold openR; rw [if_neg (by omega), show xs.length - 4 = N from by omega, if_pos e]
theorem openR_bad {xs : List Int} {N : Nat} (h : xs.length = N + 4) (e : b4 (more 0#32 (xs.take N)) ≠ xs.drop N) : openR xs = ([], 71) := by
  unfold openR; rw [if_neg (by omega), show xs.length - 4 = N from by omega, if_neg e]
theorem last_four {xs : List Int} {N : Nat} (h : xs.length = N + 4) : ∃ y0 y1 y2 y3, xs.drop N = [y0, y1, y2, y3] := by
  have hl : (xs.drop N).length = 4 := by rw [List.length_drop]; omega
  match hd : xs.drop N, hl with
  | [y0, y1, y2, y3], _ => exact ⟨y0, y1, y2, y3, rfl⟩
theorem RBs.drew {w : World} {A : Option Addr} {n : Nat} {L : List (List Int)} (h : RBs w A n L) : RBs w.drew A n L := ⟨h.len, h.max, fun i hi => by
  obtain ⟨ad, Ai, ci, xs, e, hc, hx, hr⟩ := h.at0 i hi
  exact ⟨ad, Ai, ci, xs, e, hc, hx, hr.drew⟩⟩
theorem Sum_of {A : Option Addr} {n : Nat} {xs : List Int} {w : World} (h : RBs w A n [xs]) (c : Nat) :
    Calls Try.prog 50 #[.slice A n c] w fun e w' => ∃ s : W, e = .returned (.int .u32 (s.toNat : Int)) ∧ Hid (s = more 0#32 xs) ∧ Below w.heap.size w w' := by
  refine (Sum_any _ n c [xs] _ h).mono ?_
  rintro e w1 ⟨rfl, hb1⟩
  exact ⟨_, rfl, Lib.hid (by simp), hb1⟩
theorem openS {w w1 : World} {a0 a1 a2 a3 : Addr} {v0 v1 v2 v3 : Value} (h0 : w.cell? a0 = some v0) (h1 : w.cell? a1 = some v1) (h2 : w.cell? a2 = some v2) (h3 : w.cell? a3 = some v3) (hb : Below w.heap.size w w1) :
    Below w.heap.size w w1 ∧ w1.cell? a0 = some v0 ∧ w1.cell? a1 = some v1 ∧ w1.cell? a2 = some v2 ∧ w1.cell? a3 = some v3 :=
  ⟨hb, pw_cell_below hb h0, pw_cell_below hb h1, pw_cell_below hb h2, pw_cell_below hb h3⟩
def sameL (l m : List Int) : Bool := decide (l = m)
set_option maxHeartbeats 2000000 in
set_option maxRecDepth 100000 in
theorem Open_any (A : Option Addr) (len cap : Nat) (xs : List Int) (w : World) (hx : RB w A len xs) (hcap : len ≤ cap) (hl : len ≤ 140737488355000) :
    Calls Try.prog 43 #[.slice A len cap] w fun e w' => ∃ v ys err, e = .returned (.tuple #[v, .int .i64 err]) ∧ OB 5 w' w.heap.size v ys ∧ Hid ((ys, err) = openR xs) ∧ Below w.heap.size w w' := by
  by_cases h4 : len < 4
  · have HF : Hid (([], 4) = openR xs) := (openR_short (by rw [hx.len]; exact h4)).symm
    go_enter Try.func43, Try.ntmps43
    go_wp2_with fail
    go_ret2
    exact ⟨_, _, _, rfl, OB.nil _ _ _, HF, Below.refl _ _⟩
  · obtain ⟨N, rfl⟩ : ∃ N, len = N + 4 := ⟨len - 4, by omega⟩
    obtain ⟨y0, y1, y2, y3, hd⟩ := last_four hx.len
    obtain ⟨ad, rfl, hcells⟩ := hx.rd.2.2 (by omega)
    have hget : ∀ j, xs.getD (N + j) 0 = (xs.drop N).getD j 0 := fun j => by simp [List.getD_eq_getElem?_getD, List.getElem?_drop]
    have c0 : w.cell? (ad.add N) = some (.int .u8 y0) := by rw [hcells N (by omega)]; have := hget 0; rw [Nat.add_zero] at this; rw [this, hd]; rfl
    have c1 : w.cell? ⟨(ad.add N).block, (ad.add N).off + 1, none⟩ = some (.int .u8 y1) := by rw [← add_field ad N 1 (by omega), hcells (N + 1) (by omega), hget 1, hd]; rfl
    have c2 : w.cell? ⟨(ad.add N).block, (ad.add N).off + 2, none⟩ = some (.int .u8 y2) := by rw [← add_field ad N 2 (by omega), hcells (N + 2) (by omega), hget 2, hd]; rfl
    have c3 : w.cell? ⟨(ad.add N).block, (ad.add N).off + 3, none⟩ = some (.int .u8 y3) := by rw [← add_field ad N 3 (by omega), hcells (N + 3) (by omega), hget 3, hd]; rfl
    have HD := Lib.hid hd
    clear hd hget hcells
    have hcN : ¬ cap = N := by omega
    go_enter Try.func43, Try.ntmps43
    go_wp2_with fail
    have hxN := RB.take_ hx N (by omega)
    have harr : ∀ (W : World) (a : Option Addr) (c : Nat), (Instr.arrayAt 75 (.slice a 4 c)).run Try.prog W = .ok (.pointer a) W := fun W a c => run_arrayAt W 75 5 4 a 4 c Try.underlying75 (by omega)
    have heq : ∀ (W : World) (x0 x1 x2 x3 : Int), (Op.equalIn 10000 75 (.agg #[.int .u8 x0, .int .u8 x1, .int .u8 x2, .int .u8 x3]) (.agg #[.int .u8 y0, .int .u8 y1, .int .u8 y2, .int .u8 y3])).run Try.prog W = .ok (sameL [x0, x1, x2, x3] [y0, y1, y2, y3]) W := by
      intro W x0 x1 x2 x3
      obtain ⟨i0, hi, hz0, hz1, hz2⟩ := info_parts u8_info
      exact run_equalIn_nums (P := Try.prog) (w := W) 9998 [x0, x1, x2, x3] [y0, y1, y2, y3] Try.underlying75 hi hz1 Try.underlying5 rfl rfl
    have b1 : (0 : Int) ≤ (N : Int) := by omega
    have b2 : (N : Int) ≤ (cap : Int) := by omega
    have b3 : (N : Int) ≤ (N : Int) + 4 := by omega
    have b4 : (N : Int) + 4 ≤ (cap : Int) := by omega
    go_region_held3 (fun w' => Below w.heap.size w w' ∧ w'.cell? (ad.add N) = some (.int .u8 y0) ∧ w'.cell? ⟨(ad.add N).block, (ad.add N).off + 1, none⟩ = some (.int .u8 y1) ∧ w'.cell? ⟨(ad.add N).block, (ad.add N).off + 2, none⟩ = some (.int .u8 y2) ∧ w'.cell? ⟨(ad.add N).block, (ad.add N).off + 3, none⟩ = some (.int .u8 y3))
      (first
        | assumption
        | (go_split_ands; refine ⟨?_, ?_, ?_, ?_, ?_⟩ <;> assumption)
        | exact openS c0 c1 c2 c3 (below_drew (Below.refl _ _))
        | (go_split_ands; refine openS c0 c1 c2 c3 (below_step ?_ hb3); assumption)
        | (go_split_ands; refine openS c0 c1 c2 c3 (below_step ?_ hb2); assumption)
        | (go_split_ands; refine openS c0 c1 c2 c3 (below_alloc ?_ _); assumption)
        | exact openS c0 c1 c2 c3 (below_drew (below_alloc (Below.refl _ _) _)))
      (first
        | (go_at_call 50; go_split_ands; go_must (refine (Sum_of (RBs.drew (RBs.one _ hxN)) _).mono ?_); rintro e w2 ⟨s, rfl, HS, hb2⟩)
        | (go_at_call 49; refine (Bytes_any s _ rfl _).mono ?_; rintro e w3 ⟨x0, x1, x2, x3, rfl, HB, hb3⟩))
    all_goals
      clear harr heq c0 c1 c2 c3 hcN
      go_split_ands
      by_cases hq : [x0, x1, x2, x3] = [y0, y1, y2, y3]
      · have HF : Hid ((xs.take N, 0) = openR xs) := (openR_good hx.len (by rw [← HS.out, HB.out, HD.out]; exact hq)).symm
        have hqd : sameL [x0, x1, x2, x3] [y0, y1, y2, y3] = true := decide_eq_true hq
        rw [hqd]
        clear hq hqd
        obtain ⟨i0, hi, hz0, hz1, hz2⟩ := info_parts u8_info
        have hmk := fun W => run_make_rowN 23 5 i0 _ Try.underlying23 hi hz0 N N (Nat.le_refl _) (by rw [hz2]; omega) (by omega) W (N : Int) (N : Int) rfl rfl
        simp only [hz1, Value.cells, Nat.mul_one, made_u8] at hmk
        clear hi hz0 hz1 hz2
        go_wp2_with (refine wpList_copy_bytes (w := w) rfl (.tmp 26) (.tmp 27) 23 5 rfl Try.underlying23 u8_size (some ad) N N (N + 4) cap xs _ rfl rfl ((hx.below (by assumption)).alloc _) (by omega) (heap_alloc_new _ _) (Nat.le_refl _) (by omega) (below_alloc (by assumption) _) (Below.size (by assumption)) ?_)
        intro w9 hO hb9
        go_wp2_with fail
        go_ret2
        exact ⟨_, _, _, rfl, hO, HF, hb9⟩
      · have HF : Hid (([], 71) = openR xs) := (openR_bad hx.len (by rw [← HS.out, HB.out, HD.out]; exact hq)).symm
        have hqd : sameL [x0, x1, x2, x3] [y0, y1, y2, y3] = false := decide_eq_false hq
        rw [hqd]
        clear hq hqd
        go_wp2_with fail
        go_ret2
        exact ⟨_, _, _, rfl, OB.nil _ _ _, HF, by assumption⟩
end Go.Proofs.Ytpjpgcjhdbiepaa
end
/-! The contract of frame.Decode. (mk_frzj.py) -/
section
namespace Go.Proofs.Ytpjpgcjhdbiepaa
open Go.RowKit Go.Kit Go.Proofs.YtpjpgcjhdbiepaaW.PrintWords
/-- The frame that bytes say, why not, and where. -/
def decF (xs : List Int) : Fr × Int × Int :=
  if (needF xs).2.2 ≠ 0 then (noF, (needF xs).2.2, 0) else if (needF xs).1 = 0 ∨ xs.length < (needF xs).1 then (noF, 4, (xs.length : Int)) else if (needF xs).1 < xs.length then (noF, 6, ((needF xs).1 : Int))
  else if (openR xs).2 ≠ 0 then (noF, 71, ((needF xs).1 : Int) - 4) else readF (openR xs).1 (needF xs).2.1
def DecPost (w : World) (xs : List Int) (e : Ending) (w' : World) : Prop :=
  ∃ (F : Fr) (x y : Int), e = .returned (.tuple #[.agg F.arr, .agg (fv x y)]) ∧ Hid ((decF xs).2 = (x, y) ∧ F.core = (decF xs).1) ∧ F.ok w' ∧ OwnA w' w.heap.size F ∧ Below w.heap.size w w'
theorem two_new (W : World) : Below W.heap.size W ((W.alloc (.cells #[.int .i64 0, .int .u64 0, .int .i64 0, .int .i64 0, .int .u8 0, .int .u8 0, .int .u8 0, .int .u8 0, .int .u8 0, .int .u8 0, .int .u8 0, .int .u8 0, .int .u8 0, .int .u8 0, .int .u8 0, .int .u8 0, .int .u8 0, .int .u8 0, .int .u8 0, .int .u8 0, .int .u8 0, .int .u8 0, .int .u8 0, .int .u8 0, .int .u8 0, .int .u8 0, .int .u8 0, .int .u8 0, .int .u8 0, .int .u8 0, .int .u8 0, .int .u8 0, .int .u8 0, .int .u8 0, .int .u8 0, .int .u8 0, .int .i64 0, .int .i64 0, .int .i64 0, .int .i64 0, .slice none 0 0, .string ⟨#[]⟩] 42)).alloc (.cells #[.int .i64 0, .int .i64 0] 30)) ∧
    (kF 0).at_ 42 ((W.alloc (.cells #[.int .i64 0, .int .u64 0, .int .i64 0, .int .i64 0, .int .u8 0, .int .u8 0, .int .u8 0, .int .u8 0, .int .u8 0, .int .u8 0, .int .u8 0, .int .u8 0, .int .u8 0, .int .u8 0, .int .u8 0, .int .u8 0, .int .u8 0, .int .u8 0, .int .u8 0, .int .u8 0, .int .u8 0, .int .u8 0, .int .u8 0, .int .u8 0, .int .u8 0, .int .u8 0, .int .u8 0, .int .u8 0, .int .u8 0, .int .u8 0, .int .u8 0, .int .u8 0, .int .u8 0, .int .u8 0, .int .u8 0, .int .u8 0, .int .i64 0, .int .i64 0, .int .i64 0, .int .i64 0, .slice none 0 0, .string ⟨#[]⟩] 42)).alloc (.cells #[.int .i64 0, .int .i64 0] 30)) W.heap.size ∧
    ((W.alloc (.cells #[.int .i64 0, .int .u64 0, .int .i64 0, .int .i64 0, .int .u8 0, .int .u8 0, .int .u8 0, .int .u8 0, .int .u8 0, .int .u8 0, .int .u8 0, .int .u8 0, .int .u8 0, .int .u8 0, .int .u8 0, .int .u8 0, .int .u8 0, .int .u8 0, .int .u8 0, .int .u8 0, .int .u8 0, .int .u8 0, .int .u8 0, .int .u8 0, .int .u8 0, .int .u8 0, .int .u8 0, .int .u8 0, .int .u8 0, .int .u8 0, .int .u8 0, .int .u8 0, .int .u8 0, .int .u8 0, .int .u8 0, .int .u8 0, .int .i64 0, .int .i64 0, .int .i64 0, .int .i64 0, .slice none 0 0, .string ⟨#[]⟩] 42)).alloc (.cells #[.int .i64 0, .int .i64 0] 30)).heap[W.heap.size + 1]? = some (.cells (fv 0 0) 30 (0, 0)) := by
  refine ⟨below_alloc (below_alloc (Below.refl _ W) _) _, ⟨(heap_alloc_old _ _ (by simp)).trans (heap_alloc_new W _), rfl⟩, ?_⟩
  have := heap_alloc_new (W.alloc (.cells #[.int .i64 0, .int .u64 0, .int .i64 0, .int .i64 0, .int .u8 0, .int .u8 0, .int .u8 0, .int .u8 0, .int .u8 0, .int .u8 0, .int .u8 0, .int .u8 0, .int .u8 0, .int .u8 0, .int .u8 0, .int .u8 0, .int .u8 0, .int .u8 0, .int .u8 0, .int .u8 0, .int .u8 0, .int .u8 0, .int .u8 0, .int .u8 0, .int .u8 0, .int .u8 0, .int .u8 0, .int .u8 0, .int .u8 0, .int .u8 0, .int .u8 0, .int .u8 0, .int .u8 0, .int .u8 0, .int .u8 0, .int .u8 0, .int .i64 0, .int .i64 0, .int .i64 0, .int .i64 0, .slice none 0 0, .string ⟨#[]⟩] 42)) (.cells #[.int .i64 0, .int .i64 0] 30)
  simpa [fv] using this
theorem put_fault {W : World} {g : Nat} {x y : Int} (a b : Int) (h : W.heap[g]? = some (.cells (fv x y) 30 (0, 0))) : (Instr.storeAt 30 (.pointer (some ⟨g, 0, none⟩)) (.agg #[.int .i64 a, .int .i64 b])).run Try.prog W = .ok () (W.setRow g (fv a b)) :=
  storeAt_all (P := Try.prog) W g 30 30 (fv a b) (fv x y) h rfl (fv_size a b) (fv_one a b)
theorem put_frame {W : World} {g : Nat} {F : Fr} (f : Fr) (hf : f.tool.length = 32) (h : F.at_ 42 W g) : (Instr.storeAt 42 (.pointer (some ⟨g, 0, none⟩)) (.agg f.arr)).run Try.prog W = .ok () (W.setRow g f.arr) :=
  storeAt_all (P := Try.prog) W g 42 42 f.arr F.arr h.blk (by rw [Fr.arr_size F h.tool, Fr.arr_size f hf]) (by rw [Fr.arr_size f hf]; kernel_rfl) (arr_one f)
theorem put_at {W : World} {g : Nat} {F : Fr} (f : Fr) (hf : f.tool.length = 32) (h : F.at_ 42 W g) : f.at_ 42 (W.setRow g f.arr) g := ⟨setRow_heap _ _ _ _ _ _ h.blk, hf⟩
theorem get_fault {W : World} {g : Nat} {a b : Int} (h : W.heap[g]? = some (.cells (fv a b) 30 (0, 0))) : (Instr.loadAt 30 (.pointer (some ⟨g, 0, none⟩))).run Try.prog W = .ok (.agg #[.int .i64 a, .int .i64 b]) W := load_fault h
theorem get_frame {W : World} {g : Nat} {F : Fr} (h : F.at_ 42 W g) : (Instr.loadAt 42 (.pointer (some ⟨g, 0, none⟩))).run Try.prog W = .ok (.agg F.arr) W :=
  load_frame F (by have := Fr.arr_size F h.tool; rw [frame_size]; simp [Fr.arr] at this; rw [this]) W g h
theorem keep_fault {W W1 : World} {g : Nat} {a b : Int} {S : Nat → Prop} (h : W.heap[g]? = some (.cells (fv a b) 30 (0, 0))) (ho : Only W W1 S) (hs : ¬ S g) : W1.heap[g]? = some (.cells (fv a b) 30 (0, 0)) := ho.kept h hs
theorem set_fault {W : World} {g : Nat} {x y : Int} (a b : Int) (h : W.heap[g]? = some (.cells (fv x y) 30 (0, 0))) : (W.setRow g (fv a b)).heap[g]? = some (.cells (fv a b) 30 (0, 0)) := setRow_heap _ _ _ _ _ _ h
set_option maxRecDepth 100000 in
theorem same_zero {W : World} {g : Nat} (h : (kF 0).at_ 42 W g) : (Instr.storeAt 42 (.pointer (some ⟨g, 0, none⟩)) (.agg #[.int .i64 0, .int .u64 0, .int .i64 0, .int .i64 0, .int .u8 0, .int .u8 0, .int .u8 0, .int .u8 0, .int .u8 0, .int .u8 0, .int .u8 0, .int .u8 0, .int .u8 0, .int .u8 0, .int .u8 0, .int .u8 0, .int .u8 0, .int .u8 0, .int .u8 0, .int .u8 0, .int .u8 0, .int .u8 0, .int .u8 0, .int .u8 0, .int .u8 0, .int .u8 0, .int .u8 0, .int .u8 0, .int .u8 0, .int .u8 0, .int .u8 0, .int .u8 0, .int .u8 0, .int .u8 0, .int .u8 0, .int .u8 0, .int .i64 0, .int .i64 0, .int .i64 0, .int .i64 0, .slice none 0 0, .string ⟨#[]⟩])).run Try.prog W = .ok () W := same_frame h
theorem zero_frame (W : World) : (Instr.build 42 #[]).run Try.prog W = .ok (.agg (kF 0).arr) W := by kernel_rfl
theorem run_fault_ne (x y : Int) (b : Bool) (hb : ((x == 0) && (y == 0)) = b) (W : World) : (binOp .neq 30 (.agg #[.int .i64 x, .int .i64 y]) (.agg #[.int .i64 0, .int .i64 0])).run Try.prog W = .ok (.bool !b) W := by
  have he : (Op.equalIn 10000 30 (.agg #[.int .i64 x, .int .i64 y]) (.agg #[.int .i64 0, .int .i64 0])).run Try.prog W = .ok b W := by
    subst hb
    by_cases h1 : x = 0 <;> by_cases h2 : y = 0 <;> go_simp
  simp [run_neq_struct W 30 _ _, he]
theorem need_head {xs : List Int} {m k : Nat} (h : needF xs = (m, k, 0)) (hm : m ≠ 0) : ∃ m0, headF xs = (m0, k, 0) ∧ m = m0 + k + 4 := by
  unfold needF at h
  split at h
  · exact absurd (congrArg Prod.fst h).symm hm
  · next hn =>
    have h0 : (headF xs).2.2 = 0 := Classical.byContradiction fun e => hn (.inl e)
    simp only [Prod.mk.injEq] at h
    obtain ⟨h1, h2, _⟩ := h
    exact ⟨(headF xs).1, Prod.ext rfl (Prod.ext h2 h0), by omega⟩
theorem readF_none {p : List Int} {head : Nat} (h : (readF p head).2.1 ≠ 0) : (readF p head).1 = noF := by
  unfold readF at h ⊢
  split at h
  · next D f he =>
    split at h
    · next hc => rw [if_pos hc]
    · exact absurd rfl h
theorem open_take {xs ys : List Int} (h : openR xs = (ys, 0)) : ys = xs.take (xs.length - 4) ∧ ¬ xs.length < 4 := by
  unfold openR at h
  split at h
  · cases h
  split at h
  · next h4 _ => cases h; exact ⟨rfl, h4⟩
  · cases h
theorem two_put (W : World) (F : Fr) (hT : F.tool.length = 32) (x y : Int) : ∃ W1 W2 W3 : World, (W.alloc (.cells #[.int .i64 0, .int .u64 0, .int .i64 0, .int .i64 0, .int .u8 0, .int .u8 0, .int .u8 0, .int .u8 0, .int .u8 0, .int .u8 0, .int .u8 0, .int .u8 0, .int .u8 0, .int .u8 0, .int .u8 0, .int .u8 0, .int .u8 0, .int .u8 0, .int .u8 0, .int .u8 0, .int .u8 0, .int .u8 0, .int .u8 0, .int .u8 0, .int .u8 0, .int .u8 0, .int .u8 0, .int .u8 0, .int .u8 0, .int .u8 0, .int .u8 0, .int .u8 0, .int .u8 0, .int .u8 0, .int .u8 0, .int .u8 0, .int .i64 0, .int .i64 0, .int .i64 0, .int .i64 0, .slice none 0 0, .string ⟨#[]⟩] 42)).alloc (.cells #[.int .i64 0, .int .i64 0] 30) = W1 ∧
    (Instr.storeAt 42 (.pointer (some ⟨W.heap.size, 0, none⟩)) (.agg F.arr)).run Try.prog W1 = .ok () W2 ∧
    (Instr.storeAt 30 (.pointer (some ⟨W.heap.size + 1, 0, none⟩)) (.agg (fv x y))).run Try.prog W2 = .ok () W3 ∧
    F.at_ 42 W3 W.heap.size ∧ W3.heap[W.heap.size + 1]? = some (.cells (fv x y) 30 (0, 0)) ∧ Below W.heap.size W W3 := by
  obtain ⟨hbn, hFz, hXz⟩ := two_new W
  obtain ⟨W1, h1⟩ : ∃ W1, (W.alloc (.cells #[.int .i64 0, .int .u64 0, .int .i64 0, .int .i64 0, .int .u8 0, .int .u8 0, .int .u8 0, .int .u8 0, .int .u8 0, .int .u8 0, .int .u8 0, .int .u8 0, .int .u8 0, .int .u8 0, .int .u8 0, .int .u8 0, .int .u8 0, .int .u8 0, .int .u8 0, .int .u8 0, .int .u8 0, .int .u8 0, .int .u8 0, .int .u8 0, .int .u8 0, .int .u8 0, .int .u8 0, .int .u8 0, .int .u8 0, .int .u8 0, .int .u8 0, .int .u8 0, .int .u8 0, .int .u8 0, .int .u8 0, .int .u8 0, .int .i64 0, .int .i64 0, .int .i64 0, .int .i64 0, .slice none 0 0, .string ⟨#[]⟩] 42)).alloc (.cells #[.int .i64 0, .int .i64 0] 30) = W1 := ⟨_, rfl⟩
  rw [h1] at hbn hFz hXz
  refine ⟨W1, W1.setRow W.heap.size F.arr, (W1.setRow W.heap.size F.arr).setRow (W.heap.size + 1) (fv x y), h1, ?_⟩
  clear h1
  have hFa := put_at F hT hFz
  have ho1 := Fr.only_row W1 W.heap.size F.arr
  have hXa := keep_fault hXz ho1 (fun e => by omega)
  have ho2 := Fr.only_row (W1.setRow W.heap.size F.arr) (W.heap.size + 1) (fv x y)
  exact ⟨put_frame F hT hFz, put_fault x y hXa, hFa.only ho2 (fun e => by omega), set_fault x y hXa, below_setRow (below_setRow hbn (Nat.le_refl _) _) (Nat.le_succ _) _⟩
theorem dec_ret {W : World} {g g2 : Nat} {tmps : Array Value} {F : Fr} {x y : Int} (hp : tmps.getD 2 undef = .pointer (some ⟨g, 0, none⟩)) (hq : tmps.getD 3 undef = .pointer (some ⟨g2, 0, none⟩)) (hF : F.at_ 42 W g) (hX : W.heap[g2]? = some (.cells (fv x y) 30 (0, 0))) :
    (results Try.f39 tmps).run Try.prog W = .ok (.tuple #[.agg F.arr, .agg (fv x y)]) W :=
  results_cell_row2 (P := Try.prog) (fn := Try.f39) (p := 2) (q := 3) rfl tmps W g g2 42 30 F.arr (fv x y) (0, 0) (0, 0) _ _ hp hF.blk Try.underlying42 rfl (by rw [Fr.arr_size F hF.tool]; kernel_rfl) hq hX Try.underlying30 rfl (fv_size x y)
theorem dec_bad {w W : World} {xs : List Int} {x y : Int} (h : Hid (decF xs = (noF, x, y))) (hb : Below w.heap.size w W) : DecPost w xs (.returned (.tuple #[.agg (kF 0).arr, .agg (fv x y)])) W :=
  ⟨kF 0, x, y, rfl, Lib.hid ⟨by rw [h.out], by rw [h.out]; rfl⟩, ⟨rfl, rt_none _ rfl rfl rfl⟩, OwnA.none _ _ ⟨rfl, rfl, rfl, rfl⟩, hb⟩
attribute [-go_sem] Instr.loadAt Instr.storeAt
section
variable {A : Option Addr} {n cap : Nat} {xs : List Int} {w : World}
set_option maxHeartbeats 8000000 in
set_option maxRecDepth 100000 in
theorem Decode_any (hx : RB w A n xs) (hc : n ≤ cap) : Calls Try.prog 39 #[.slice A n cap] w (DecPost w xs) := by
  have HXL := Lib.hid hx.len
  have HBY := Lib.hid hx.byt
  obtain ⟨hb0, hF0, hf0⟩ := two_new w
  have hbd : ∀ (x : Int) (W : World), (Instr.build 30 #[(0, .int .i64 x)]).run Try.prog W = .ok (.agg #[.int .i64 x, .int .i64 0]) W := fun x W => by kernel_rfl
  have hb2 : ∀ (x y : Int) (W : World), (Instr.build 30 #[(0, .int .i64 x), (1, .int .i64 y)]).run Try.prog W = .ok (.agg #[.int .i64 x, .int .i64 y]) W := fun x y W => by kernel_rfl
  have hz : ∀ W : World, (Instr.build 30 #[]).run Try.prog W = .ok (.agg #[.int .i64 0, .int .i64 0]) W := fun W => by kernel_rfl
  go_enter Try.func39, Try.ntmps39
  go_upto_region 1 with (fail)
  generalize (w.alloc (.cells #[.int .i64 0, .int .u64 0, .int .i64 0, .int .i64 0, .int .u8 0, .int .u8 0, .int .u8 0, .int .u8 0, .int .u8 0, .int .u8 0, .int .u8 0, .int .u8 0, .int .u8 0, .int .u8 0, .int .u8 0, .int .u8 0, .int .u8 0, .int .u8 0, .int .u8 0, .int .u8 0, .int .u8 0, .int .u8 0, .int .u8 0, .int .u8 0, .int .u8 0, .int .u8 0, .int .u8 0, .int .u8 0, .int .u8 0, .int .u8 0, .int .u8 0, .int .u8 0, .int .u8 0, .int .u8 0, .int .u8 0, .int .u8 0, .int .i64 0, .int .i64 0, .int .i64 0, .int .i64 0, .slice none 0 0, .string ⟨#[]⟩] 42)).alloc (.cells #[.int .i64 0, .int .i64 0] 30) = w1 at *
  obtain ⟨g, hg⟩ : ∃ g, w.heap.size = g := ⟨_, rfl⟩
  obtain ⟨g2, hg2⟩ : ∃ g2, w.heap.size + 1 = g2 := ⟨_, rfl⟩
  have HG := Lib.hid hg
  have HG2 := Lib.hid hg2
  have hgg : g ≠ g2 := by omega
  rw [hg] at hF0
  rw [hg2] at hf0
  rw [hg2, hg]
  have hxb := hx.below hb0
  clear hg hg2 hx
  go_wp2_with fail
  refine (Need_any A n cap xs _ hxb hc).mono ?_
  rintro e w2 ⟨m, k, x, rfl, HN, hb1⟩
  have hF1 := hF0.below hb1
  have hX1 := (hb1.block _ (lt_of_block hf0)).trans hf0
  have hbw := below_step hb0 hb1
  have hx1 := hxb.below hb1
  have HWX := hbw.size
  clear hb0 hb1 hf0 hF0 hxb
  by_cases h0 : x = 0
  · subst h0
    by_cases hm : m = 0 ∨ n < m
    · have hdm : decide ((n : Int) < (m : Int)) = decide (n < m) := by simp
      have HD : Hid (decF xs = (noF, 4, (n : Int))) := Lib.hid (by unfold decF; rw [HN.out, if_neg (by simp), if_pos (by rw [HXL.out]; exact hm), HXL.out])
      have sF := same_zero hF1
      have sX := put_fault 4 (n : Int) hX1
      have hXn := set_fault 4 (n : Int) hX1
      have hFn := hF1.only (Fr.only_row w2 g2 (fv 4 (n : Int))) hgg
      have hbn := below_setRow (cs := fv 4 (n : Int)) hbw (g := g2) (by have := HG2.out; omega)
      by_cases hm0 : m = 0
      · have bm : ((m : Int) == 0) = true := by rw [beq_iff_eq]; omega
        clear hm hm0 hdm
        go_wp2_with fail
        try simp only [Exit.inBlock, Exit.then]
        exact bodyPost_ret (v := .tuple #[.agg (kF 0).arr, .agg (fv 4 (n : Int))]) (dec_ret rfl rfl hFn hXn) rfl (dec_bad HD hbn)
      · have bm : ((m : Int) == 0) = false := by rw [beq_eq_false_iff_ne]; omega
        have hlt : (n : Int) < (m : Int) := by omega
        clear hm hm0 hdm
        go_wp2_with fail
        try simp only [Exit.inBlock, Exit.then]
        exact bodyPost_ret (v := .tuple #[.agg (kF 0).arr, .agg (fv 4 (n : Int))]) (dec_ret rfl rfl hFn hXn) rfl (dec_bad HD hbn)
    · have bm : ((m : Int) == 0) = false := by rw [beq_eq_false_iff_ne]; omega
      have hlt : ¬ (n : Int) < (m : Int) := by omega
      by_cases hm2 : m < n
      · have hgt : (n : Int) > (m : Int) := by omega
        have HD : Hid (decF xs = (noF, 6, (m : Int))) := Lib.hid (by unfold decF; rw [HN.out, if_neg (by simp), if_neg (by rw [HXL.out]; exact hm), if_pos (by rw [HXL.out]; exact hm2)])
        have sF := same_zero hF1
        have sX := put_fault 6 (m : Int) hX1
        have hXn := set_fault 6 (m : Int) hX1
        have hFn := hF1.only (Fr.only_row w2 g2 (fv 6 (m : Int))) hgg
        have hbn := below_setRow (cs := fv 6 (m : Int)) hbw (g := g2) (by have := HG2.out; omega)
        clear hm hm2
        go_wp2_with fail
        try simp only [Exit.inBlock, Exit.then]
        exact bodyPost_ret (v := .tuple #[.agg (kF 0).arr, .agg (fv 6 (m : Int))]) (dec_ret rfl rfl hFn hXn) rfl (dec_bad HD hbn)
      · have hmn : m = n := by omega
        have hgt : ¬ (n : Int) > (m : Int) := by omega
        have hl : n ≤ 140737488355000 := by
          obtain ⟨m0, hh0, hm0⟩ := need_head HN.out (fun e => hm (.inl e))
          have := headF_facts HBY.out hh0
          omega
        have HM := Lib.hid hm
        have HMN := Lib.hid hmn
        clear hm hm2 hmn
        go_wp2_with fail
        refine (Open_any A n cap xs _ hx1 hc hl).mono ?_
        rintro e w3 ⟨v, ys, x, rfl, hO, HO, hb3⟩
        have hF2 := hF1.below hb3
        have hX2 := (hb3.block _ (lt_of_block hX1)).trans hX1
        have hbx := below_step hbw hb3
        have hx2 := hx1.below hb3
        clear hF1 hX1 hx1
        by_cases h1 : x = 0
        · subst h1
          obtain ⟨A2, c2, rfl, hR2, hc2⟩ := hO.reads'
          have HOT := Lib.hid (open_take HO.out.symm)
          obtain ⟨N, hN⟩ : ∃ N, ys.length = N := ⟨_, rfl⟩
          have HNL := Lib.hid hN
          rw [hN] at hR2 hc2 ⊢
          clear hO hN
          go_wp2_with fail
          refine (head_any A n cap xs _ hx2 hc).mono ?_
          rintro e w4 ⟨m1, k1, x1, rfl, HH, hb4⟩
          obtain ⟨m0, hh0, hm0⟩ := need_head HN.out (fun e => HM.out (.inl e))
          have he := HH.out.symm.trans hh0
          cases he
          have hfa := headF_facts HBY.out HH.out
          have hF3 := hF2.below hb4
          have hX3 := (hb4.block _ (lt_of_block hX2)).trans hX2
          have hby := below_step hbx hb4
          have hR3 := hR2.below hb4
          have hyl : N = n - 4 := by rw [← HNL.out]; have e := HOT.out; rw [HXL.out] at e; rw [e.1, List.length_take, HXL.out]; omega
          have hk2 : k ≤ N := by have := HMN.out; omega
          have hn2 : N ≤ 4194304 := by have := HMN.out; omega
          clear hF2 hX2 hbx hx2 hR2 hfa hm0 hh0 hb4 hyl
          go_wp2_with fail
          refine (read_any hR3 hn2 k hk2).mono ?_
          rintro e w5 ⟨F, x, y, rfl, hT, HRD, hok, hb5⟩
          obtain ⟨w6, w7, w8, s0, s1, s2, hFb, hXb, hbq⟩ := two_put w5 F hT x y
          have HFB := Lib.hid hFb
          have HXB := Lib.hid hXb
          have HBQ := Lib.hid hbq
          clear hFb hXb hbq
          go_upto_region 13 with (fail)
          clear s0 s1 s2
          have hbq := HBQ.out
          have hgl := hF3.lt
          have hF4 := (hF3.below hb5).below hbq
          have hbz := below_step (below_step hby hb5) hbq
          have hX4a := (hb5.block _ (lt_of_block hX3)).trans hX3
          have hX4 := (hbq.block _ (lt_of_block hX4a)).trans hX4a
          clear hX4a hF3 hX3
          have hF5 := HFB.out
          have hX5 := HXB.out
          have hg3 : ¬ w5.heap.size + 1 = g := by have := hb5.size; omega
          have HD : Hid (decF xs = readF ys k) := Lib.hid (by
            have e := HO.out
            unfold decF; rw [HN.out, if_neg (by simp), if_neg (by rw [HXL.out]; exact HM.out), if_neg (by rw [HXL.out, HMN.out]; simp), ← e, if_neg (by simp)])
          have hok2 : x = 0 → F.ok w8 ∧ OwnA w8 w.heap.size F ∧ (∀ a, F.A = some a → ¬ a.block = g) := fun h0 => ⟨(hok h0).1.below hbq, ((hok h0).2.below hbq).less hby.size, fun a e => by have := (hok h0).2.fresh a e; have := hby.size; omega⟩
          have HOK := Lib.hid hok2
          obtain ⟨g3, hg3e⟩ : ∃ g3, w5.heap.size = g3 := ⟨_, rfl⟩
          obtain ⟨g4, hg4e⟩ : ∃ g4, w5.heap.size + 1 = g4 := ⟨_, rfl⟩
          rw [hg4e] at hX5 hg3
          rw [hg3e] at hF5
          rw [hg4e, hg3e]
          clear HFB HXB HBQ hbq hok hok2 hb5 hby hR3 hgl hg3e hg4e hk2 hn2
          have hdr := below_drew (Below.refl w8.heap.size w8)
          have eX0 := get_fault hX5
          have hF4d := hF4.below hdr
          have hX4d := (hdr.block _ (lt_of_block hX4)).trans hX4
          have hF5d := hF5.below hdr
          have hX5d := (hdr.block _ (lt_of_block hX5)).trans hX5
          have hbzd := below_step hbz hdr
          have hg2g : g2 ≠ g := fun e => hgg e.symm
          by_cases hx0 : x = 0
          · have hy0 : y = 0 := (HRD.out.2 hx0).2
            have HRR := Lib.hid (HRD.out.2 hx0).1
            have HR2 := HRD
            have hok3 := HOK.out hx0
            subst hx0
            subst hy0
            have heq := run_fault_ne 0 0 true rfl
            have e1 := get_frame hF5d
            have e2 := get_fault hX5d
            have s1 := put_frame F hT hF4d
            have sX : (Instr.storeAt 30 (.pointer (some ⟨g2, 0, none⟩)) (.agg #[.int .i64 0, .int .i64 0])).run Try.prog w8.drew = .ok () w8.drew := same_fault hX4d
            have ho1 := Fr.only_row w8.drew g F.arr
            have hXg4 := keep_fault hX5d ho1 hg3
            have hXg2 := keep_fault hX4d ho1 hg2g
            have e3 := get_fault hXg4
            have sX2 : (Instr.storeAt 30 (.pointer (some ⟨g2, 0, none⟩)) (.agg #[.int .i64 0, .int .i64 0])).run Try.prog (w8.drew.setRow g F.arr) = .ok () (w8.drew.setRow g F.arr) := same_fault hXg2
            have hFg := put_at F hT hF4d
            have hbg := below_setRow (cs := F.arr) hbzd (g := g) (by have := HG.out; omega)
            have hokg : F.ok (w8.drew.setRow g F.arr) := ⟨hT, (hok3.1.below hdr).args.apart ho1 hok3.2.2⟩
            have HP : Hid (DecPost w xs (.returned (.tuple #[.agg F.arr, .agg (fv 0 0)])) (w8.drew.setRow g F.arr)) := Lib.hid ⟨F, 0, 0, rfl, Lib.hid ⟨by rw [HD.out]; exact HR2.out.1, by rw [HD.out]; exact HRR.out⟩, hokg, (hok3.2.1.below hdr).only ho1 hok3.2.2, hbg⟩
            clear hok3 hokg ho1 HOK
            generalize w8.drew.setRow g F.arr = w9 at *
            go_wp2_with fail
            go_region_law (fail)
            all_goals
              try go_wp2_with fail
              try simp only [Exit.inBlock, Exit.then]
              exact bodyPost_ret (v := .tuple #[.agg F.arr, .agg (fv 0 0)]) (dec_ret rfl rfl hFg hXg2) rfl HP.out
          · have heq := run_fault_ne x y false (by rw [Bool.and_eq_false_iff]; left; rw [beq_eq_false_iff_ne]; exact hx0)
            have HD2 : Hid (decF xs = (noF, x, y)) := Lib.hid (by
              rw [HD.out]
              have e := HRD.out.1
              refine Prod.ext ?_ e
              have hh := readF_none (p := ys) (head := k) (by rw [e]; exact hx0)
              exact hh)
            have e2 := get_fault hX5d
            have sF := same_zero hF4d
            have s1 := put_fault x y hX4d
            have ho1 := Fr.only_row w8.drew g2 (fv x y)
            have hFq := hF4d.only ho1 hgg
            have sF2 := same_zero hFq
            have hXq := set_fault x y hX4d
            have hbq := below_setRow (cs := fv x y) hbzd (g := g2) (by have := HG2.out; omega)
            have HP : Hid (DecPost w xs (.returned (.tuple #[.agg (kF 0).arr, .agg (fv x y)])) (w8.drew.setRow g2 (fv x y))) := Lib.hid (dec_bad HD2 hbq)
            clear hx0 ho1 HOK
            generalize w8.drew.setRow g2 (fv x y) = w9 at *
            go_wp2_with fail
            go_region_law (fail)
            all_goals
              try go_wp2_with fail
              try simp only [Exit.inBlock, Exit.then]
              exact bodyPost_ret (v := .tuple #[.agg (kF 0).arr, .agg (fv x y)]) (dec_ret rfl rfl hFq hXq) rfl HP.out
        · have b1 : (x != 0) = true := by simpa using h1
          have HD : Hid (decF xs = (noF, 71, (m : Int) - 4)) := Lib.hid (by
            have e := HO.out
            unfold decF; rw [HN.out, if_neg (by simp), if_neg (by rw [HXL.out]; exact HM.out), if_neg (by rw [HXL.out, HMN.out]; simp), if_pos (by rw [← e]; exact h1)])
          have hwr : IntKind.i64.wrap ((m : Int) - 4) = (m : Int) - 4 := IntWalk.i64_in _ ⟨by have := HMN.out; omega, by have := HMN.out; omega⟩
          have sF := same_zero hF2
          have sX := put_fault 71 ((m : Int) - 4) hX2
          have hXn := set_fault 71 ((m : Int) - 4) hX2
          have hFn := hF2.only (Fr.only_row w3 g2 (fv 71 ((m : Int) - 4))) hgg
          have hbn := below_setRow (cs := fv 71 ((m : Int) - 4)) hbx (g := g2) (by have := HG2.out; omega)
          clear h1
          go_wp2_with fail
          try simp only [Exit.inBlock, Exit.then]
          exact bodyPost_ret (v := .tuple #[.agg (kF 0).arr, .agg (fv 71 ((m : Int) - 4))]) (dec_ret rfl rfl hFn hXn) rfl (dec_bad HD hbn)
  · have b0 : (x != 0) = true := by simpa using h0
    have HD : Hid (decF xs = (noF, x, 0)) := Lib.hid (by unfold decF; rw [HN.out, if_pos h0])
    have sF := same_zero hF1
    have sX := put_fault x 0 hX1
    have hXn := set_fault x 0 hX1
    have hFn := hF1.only (Fr.only_row w2 g2 (fv x 0)) hgg
    have hbn := below_setRow (cs := fv x 0) hbw (g := g2) (by have := HG2.out; omega)
    clear h0
    go_wp2_with fail
    try simp only [Exit.inBlock, Exit.then]
    exact bodyPost_ret (v := .tuple #[.agg (kF 0).arr, .agg (fv x 0)]) (dec_ret rfl rfl hFn hXn) rfl (dec_bad HD hbn)
end
end Go.Proofs.Ytpjpgcjhdbiepaa
end
/-! The contracts of frame.Check, Encode, Size. -/
section
namespace Go.Kit
open Go.RowKit Go.Proofs.YtpjpgcjhdbiepaaW.PrintWords
end Go.Kit
namespace Go.Proofs.Ytpjpgcjhdbiepaa
open Go.RowKit Go.Kit Go.Proofs.YtpjpgcjhdbiepaaW.PrintWords
/-- The fields of its kind, and the kind. -/
def ownG (f : Fr) : Fr := { onlyG f.k f with k := f.k }
theorem own_core {f : Fr} (h1 : 1 ≤ f.k) (h6 : f.k ≤ 6) : (ownG f).core = onlyF f := by
  unfold ownG onlyG onlyF Fr.core
  rcases (by omega : f.k = 1 ∨ f.k = 2 ∨ f.k = 3 ∨ f.k = 4 ∨ f.k = 5 ∨ f.k = 6) with h | h | h | h | h | h <;> simp [h, only1, only2, only3, only4, only6, noF]
theorem may_lay {f : Fr} (h : May f) (hn : f.args.length = f.n) (hs : f.body.size ≤ 2097152) : LayOk f :=
  ⟨fun e => by have := h.hello e; omega, fun e => ⟨⟨h.mo, h.fu, h.di⟩, by have := h.many; omega, h.each⟩, fun e => by have := (h.resp e).1; omega, hs⟩
theorem chk_no {f : Fr} (h : ¬ May f) : chkF f = 70 := by unfold chkF; rw [if_neg (fun e => h ((may_iff f).1 e))]
theorem chk_long {f : Fr} (h : May f) (hs : 2097152 < f.body.size ∨ 2097152 < (bodyF f).length) : chkF f = 3 := by unfold chkF MF; rw [if_pos ((may_iff f).2 h), if_pos hs]
theorem chk_ok {f : Fr} (h : May f) (hs : ¬ (2097152 < f.body.size ∨ 2097152 < (bodyF f).length)) : chkF f = 0 := by unfold chkF MF; rw [if_pos ((may_iff f).2 h), if_neg hs]
section
variable {f : Fr} {w : World}
attribute [-go_sem] Instr.loadAt
theorem chk_facts {f : Fr} (h : chkF f = 0) : May f ∧ f.body.size ≤ 2097152 ∧ (bodyF f).length ≤ 2097152 := by
  unfold chkF MF at h
  split at h
  · next hm =>
    split at h
    · omega
    · exact ⟨(may_iff f).1 hm, by omega, by omega⟩
  · omega
/-- A frame's bytes. -/
def encF (f : Fr) : List Int := if chkF f ≠ 0 then [] else sealed (sh (bodyF f).length ++ bodyF f)
end
end Go.Proofs.Ytpjpgcjhdbiepaa
end
/-! Decoded bytes are the one form of the frame that they say: the plain law. -/
section
namespace Go.Proofs.Ytpjpgcjhdbiepaa
open Go.RowKit Go.Kit CrcM Go.Proofs.YtpjpgcjhdbiepaaW.PrintWords
theorem head_num {xs : List Int} {m k : Nat} (h : headF xs = (m, k, 0)) (hk : k ≠ 0 ∨ m ≠ 0) : num xs 0 = (m, k, 0) ∧ m ≤ 2097152 ∧ m ≠ 0 := by
  obtain ⟨p, q, x, hN⟩ : ∃ p q x, num xs 0 = (p, q, x) := ⟨_, _, _, rfl⟩
  unfold headF at h
  rw [hN] at h
  dsimp only at h
  split at h
  · cases h; omega
  split at h
  · next h0 => exact absurd (congrArg (fun p => p.2.2) h) h0
  · next h0 =>
    have h0 := Classical.not_not.mp h0
    split at h
    · exact absurd (congrArg (fun p => p.2.2) h) (by show ¬ (3 : Int) = 0; decide)
    split at h
    · exact absurd (congrArg (fun p => p.2.2) h) (by show ¬ (70 : Int) = 0; decide)
    · cases h
      exact ⟨by rw [hN, h0], by omega, by assumption⟩
theorem need_k {xs : List Int} {m k : Nat} (h : needF xs = (m, k, 0)) (hm : m ≠ 0) : k ≠ 0 := by
  unfold needF at h
  split at h
  · exact absurd (congrArg Prod.fst h).symm hm
  · next hn =>
    have e : (headF xs).2.1 = k := congrArg (fun p => p.2.1) h
    rw [← e]
    exact fun e => hn (.inr e)
theorem core_wf {f g : Fr} (h : g.core = f) (ho : ReadOk f) (hk : 1 ≤ f.k ∧ f.k ≤ 6) : g.wf := by
  subst h
  have h1 := ho.hello
  have h2 := ho.resp
  have e := ho.only
  have hv : g.core.v = (onlyF g.core).v := by have t := congrArg Fr.v e; exact t
  have hs : g.core.s = (onlyF g.core).s := by have t := congrArg Fr.s e; exact t
  have ht : g.core.st = (onlyF g.core).st := by have t := congrArg Fr.st e; exact t
  have b1 : -9223372036854775808 ≤ g.core.v ∧ g.core.v ≤ 9223372036854775807 := by
    by_cases hc : g.core.k = 1
    · have := h1 hc; omega
    · rw [hv, show (onlyF g.core).v = if g.core.k = 1 then g.core.v else 0 from rfl, if_neg hc]; omega
  have b2 : -9223372036854775808 ≤ g.core.s ∧ g.core.s ≤ 9223372036854775807 := by
    by_cases hc : g.core.k = 1
    · have := h1 hc; omega
    · rw [hs, show (onlyF g.core).s = if g.core.k = 1 then g.core.s else 0 from rfl, if_neg hc]; omega
  have b3 : -9223372036854775808 ≤ g.core.st ∧ g.core.st ≤ 9223372036854775807 := by
    by_cases hc : g.core.k = 3
    · have := h2 hc; omega
    · rw [ht, show (onlyF g.core).st = if g.core.k = 3 then g.core.st else 0 from rfl, if_neg hc]; omega
  have m1 := ho.mo
  have m2 := ho.fu
  have m3 := ho.di
  exact ⟨ho.id.1, ho.id.2, ⟨by show _ ≤ g.core.k; omega, by show g.core.k ≤ _; omega⟩, b1, b2, b3, ⟨by show _ ≤ g.core.mo; omega, by show g.core.mo ≤ _; omega⟩, ⟨by show _ ≤ g.core.fu; omega, by show g.core.fu ≤ _; omega⟩, ⟨by show _ ≤ g.core.di; omega, by show g.core.di ≤ _; omega⟩, ho.byt⟩
end Go.Proofs.Ytpjpgcjhdbiepaa
end
/-! The length with which a frame begins: its bytes, and what they say; frames whose sum is wrong. No program in it. -/
section
namespace Go.Proofs.Ytpjpgcjhdbiepaa
open Go.RowKit Go.Kit CrcM Go.Proofs.YtpjpgcjhdbiepaaW.PrintWords
theorem head_of {L : Nat} (rest : List Int) (h1 : 1 ≤ L) (h2 : L ≤ 2097152) : headF (sh L ++ rest) = (L, (sh L).length, 0) := by
  have hn := num_sh [] rest L (by omega)
  rw [List.nil_append] at hn
  unfold headF
  rw [show ([] : List Int).length = 0 from rfl] at hn
  rw [hn]
  dsimp only
  rw [if_neg (by decide), if_neg (by simp), if_neg (by omega), if_neg (by omega)]
theorem need_of' {L : Nat} (rest : List Int) (h1 : 1 ≤ L) (h2 : L ≤ 2097152) : needF (sh L ++ rest) = (L + (sh L).length + 4, (sh L).length, 0) := by
  have hp := sh_pos L
  unfold needF
  rw [head_of rest h1 h2]
  dsimp only
  rw [if_neg (by omega)]
end Go.Proofs.Ytpjpgcjhdbiepaa
end
/-! The walk of CrcSeals. -/
section
namespace Go.Proofs.Ytpjpgcjhdbiepaa
open Go.RowKit Go.Kit CrcM Go.Proofs.YtpjpgcjhdbiepaaW.PrintWords

theorem open_sealed (xs : List Int) : openR (sealed xs) = (xs, 0) := by
  have hl : (sealed xs).length = xs.length + 4 := sealed_length xs
  have h := openR_good (xs := sealed xs) (N := xs.length) hl (by unfold sealed; rw [List.take_left, List.drop_left])
  rw [h]; unfold sealed; rw [List.take_left]
end Go.Proofs.Ytpjpgcjhdbiepaa
end
/-! What was laid down as a frame is read back, and no beginning of it is a frame: the plain law. No program in it. -/
section
namespace Go.Proofs.Ytpjpgcjhdbiepaa
open Go.RowKit Go.Kit CrcM Go.Proofs.YtpjpgcjhdbiepaaW.PrintWords
/-- A reader without a fault, ahead of these bytes. -/
structure Has (D : Rd) (l : List Int) : Prop where
  why : D.why = 0
  wat : D.wat = 0
  le : D.at_ ≤ D.bs.length
  eq : D.bs.drop D.at_ = l
section
variable {D : Rd} {ys : List Int}
theorem Has.num {n : Nat} (h : Has D (sh n ++ ys)) (hn : n < 18446744073709551616) : num D.bs D.at_ = (n, (sh n).length, 0) := by
  unfold Go.Kit.num
  rw [h.eq, numR_sh n 0 0 ys (by omega) (by omega) (by omega)]
  simp
theorem Has.to {l : List Int} (h : Has D (l ++ ys)) : Has (D.to (D.at_ + l.length)) ys := by
  have hl := congrArg List.length h.eq
  rw [List.length_drop, List.length_append] at hl
  have := h.le
  refine ⟨h.why, h.wat, ?_, ?_⟩
  · show D.at_ + l.length ≤ D.bs.length
    omega
  · show D.bs.drop (D.at_ + l.length) = ys
    rw [← List.drop_drop, h.eq, List.drop_left]
theorem Has.uint {n : Nat} (h : Has D (sh n ++ ys)) (hn : n < 18446744073709551616) : ∃ D1, uintS D = (D1, n) ∧ Has D1 ys := by
  refine ⟨_, ?_, h.to⟩
  unfold uintS
  rw [if_neg (by simp [h.why]), h.num hn]
  dsimp only
  rw [if_neg (by simp)]
theorem Has.count {n : Nat} {most : Int} (h : Has D (sh n ++ ys)) (hn : n < 18446744073709551616) (hm : (n : Int) ≤ most) : ∃ D1, countS D most = (D1, n) ∧ Has D1 ys := by
  refine ⟨_, ?_, h.to⟩
  unfold countS
  rw [if_neg (by simp [h.why]), if_neg (by omega), h.num hn]
  dsimp only
  rw [if_neg (by simp), if_neg (by omega)]
theorem Has.over {n : Nat} {most : Int} (h : Has D (sh n ++ ys)) (hn : n < 18446744073709551616) (h0 : 0 ≤ most) (hm : most < (n : Int)) : ∃ D1, countS D most = (D1, 0) ∧ D1.why = 11 := by
  refine ⟨D.fail 11 D.at_, ?_, rfl⟩
  unfold countS
  rw [if_neg (by simp [h.why]), if_neg (by omega), h.num hn]
  dsimp only
  rw [if_neg (by simp), if_pos hm]
theorem Has.some_ {n : Nat} {most : Int} (h : Has D (sh n ++ ys)) (hn : n < 18446744073709551616) (hm : (n : Int) ≤ most) (h0 : 0 < n) : ∃ D1, someS D most = (D1, n) ∧ Has D1 ys := by
  obtain ⟨D1, e, h1⟩ := h.count hn hm
  exact ⟨D1, someS_some e (by omega), h1⟩
theorem Has.raw {t : List Int} {k : Int} (h : Has D (t ++ ys)) (hk : k = (t.length : Int)) : ∃ D1, rawS D k = (D1, t) ∧ Has D1 ys := by
  have hl := congrArg List.length h.eq
  rw [List.length_drop, List.length_append] at hl
  have := h.le
  refine ⟨_, ?_, h.to⟩
  unfold rawS
  rw [if_neg (by simp [h.why]), if_neg (by omega), if_neg (by omega), hk, Int.toNat_natCast, h.eq, List.take_left]
theorem Has.cut (h : Has D ys) : D.bs = D.bs.take D.at_ ++ ys ∧ (D.bs.take D.at_).length = D.at_ := by
  have := h.le
  exact ⟨by rw [← h.eq, List.take_append_drop], by rw [List.length_take]; omega⟩
theorem Has.text {s : ByteArray} {most : Int} (h : Has D (txt s ++ ys)) (hs : s.size < 18446744073709551616) (hm : (s.size : Int) ≤ most) : ∃ D1, textS D most = (D1, s) ∧ Has D1 ys := by
  refine ⟨_, ?_, h.to⟩
  obtain ⟨e, hl⟩ := h.cut
  have ht := textAt_txt (D.bs.take D.at_) ys s most hs hm
  rw [← e, hl] at ht
  unfold textS
  rw [if_neg (by simp [h.why]), if_neg (by omega), ht]
  dsimp only
  rw [if_neg (by simp)]
theorem Has.list {l : List ByteArray} {most each : Int} (h : Has D (lst l ++ ys)) (hl : l.length < 18446744073709551616) (hm : (l.length : Int) ≤ most) (he : 0 ≤ each) (hs : ∀ s ∈ l, s.size < 18446744073709551616 ∧ (s.size : Int) ≤ each) : ∃ D1, listS D most each = (D1, l) ∧ Has D1 ys := by
  have h' : Has D (sh l.length ++ (txts l ++ ys)) := by
    have e : lst l ++ ys = sh l.length ++ (txts l ++ ys) := by unfold lst; rw [List.append_assoc]
    rwa [e] at h
  have hN := h'.num hl
  have h2 := h'.to
  obtain ⟨e, hl2⟩ := h2.cut
  have hT := lstR_txts each l ((D.to (D.at_ + (sh l.length).length)).bs.take (D.to (D.at_ + (sh l.length).length)).at_) ys [] hs
  rw [← e, hl2] at hT
  have hT' : lstR D.bs each l.length (D.at_ + (sh l.length).length) [] = (l, D.at_ + (sh l.length).length + (txts l).length, 0) := hT
  refine ⟨_, ?_, h2.to⟩
  unfold listS
  rw [if_neg (by simp [h.why]), if_neg (by omega), hN]
  dsimp only
  rw [if_neg (by simp), if_neg (by omega), hT']
  dsimp only
  rw [if_neg (by simp)]
  rfl
theorem Has.end_ (h : Has D []) : endS D = D := by
  have hl := congrArg List.length h.eq
  rw [List.length_drop, List.length_nil] at hl
  unfold endS
  rw [if_neg (by omega)]
end
theorem nat_of {x : Int} (h : 0 ≤ x) : ((x.toNat : Nat) : Int) = x := Int.toNat_of_nonneg h
section
variable {D : Rd} {ys : List Int} {f : Fr}
/-- The numbers of a frame's limits may be read. -/
def Lim (f : Fr) : Prop := f.mo ≤ 2147483648 ∧ f.fu ≤ 2147483648 ∧ f.di ≤ 2147483648
theorem kind_has (hm : May f) (hw : f.wf) (hs : f.body.size ≤ 2097152) (hl : Lim f) (ht : f.tool.length = 32) (h : Has D (layF f ++ ys)) : ∃ D1, kindS D f.k.toNat = (D1, f.core) ∧ Has D1 ys := by
  have a0 := hw.id0
  have a1 := hw.id1
  have k1 := hm.k1
  have k6 := hm.k6
  have hb := hm.mo
  have hc := hm.fu
  have hd := hm.di
  rw [hm.only]
  rcases (by omega : f.k = 1 ∨ f.k = 2 ∨ f.k = 3 ∨ f.k = 4 ∨ f.k = 5 ∨ f.k = 6) with hk | hk | hk | hk | hk | hk
  · obtain ⟨v1, s1, s64⟩ := hm.hello hk
    have e : layF f ++ ys = sh f.v.toNat ++ (sh f.s.toNat ++ (f.tool ++ ys)) := by unfold layF; rw [if_pos hk]; simp only [List.append_assoc]
    rw [e] at h
    obtain ⟨D1, e1, h⟩ := h.some_ (most := 1) (by omega) (by omega) (by omega)
    obtain ⟨D2, e2, h⟩ := h.some_ (most := 64) (by omega) (by omega) (by omega)
    obtain ⟨D3, e3, h⟩ := h.raw (k := 32) (by omega)
    refine ⟨D3, ?_, h⟩
    rw [hk]
    show helloS D = _
    unfold helloS
    rw [e1]; dsimp only
    rw [e2]; dsimp only
    rw [e3]; dsimp only
    unfold onlyF
    simp [hk, ht, nat_of (show 0 ≤ f.v by omega), nat_of (show 0 ≤ f.s by omega)]
  · have e : layF f ++ ys = sh f.id.toNat ++ (sh f.mo.toNat ++ (sh f.fu.toNat ++ (sh f.di.toNat ++ (lst f.args ++ (txt f.body ++ ys))))) := by unfold layF; rw [if_neg (by omega), if_pos hk]; simp only [List.append_assoc]
    rw [e] at h
    have hmany := hm.many
    obtain ⟨l1, l2, l3⟩ := hl
    obtain ⟨D1, e1, h⟩ := h.uint (by omega)
    obtain ⟨D2, e2, h⟩ := h.count (most := 2147483648) (by omega) (by omega)
    obtain ⟨D3, e3, h⟩ := h.count (most := 2147483648) (by omega) (by omega)
    obtain ⟨D4, e4, h⟩ := h.count (most := 2147483648) (by omega) (by omega)
    obtain ⟨D5, e5, h⟩ := h.list (most := 8) (each := 4096) (by omega) (by omega) (by omega) (fun s hs => by have := hm.each s hs; omega)
    obtain ⟨D6, e6, h⟩ := h.text (most := 2097152) (by omega) (by omega)
    refine ⟨D6, ?_, h⟩
    rw [hk]
    show requestS D = _
    unfold requestS
    rw [e1]; dsimp only
    rw [e2]; dsimp only
    rw [e3]; dsimp only
    rw [e4]; dsimp only
    rw [e5]; dsimp only
    rw [e6]; dsimp only
    unfold onlyF
    simp [hk, nat_of a0, nat_of hb, nat_of hc, nat_of hd]
  · have e : layF f ++ ys = sh f.id.toNat ++ (sh f.st.toNat ++ (txt f.body ++ ys)) := by unfold layF; rw [if_neg (by omega), if_neg (by omega), if_pos hk]; simp only [List.append_assoc]
    rw [e] at h
    obtain ⟨r1, r3, _⟩ := hm.resp hk
    obtain ⟨D1, e1, h⟩ := h.uint (by omega)
    obtain ⟨D2, e2, h⟩ := h.some_ (most := 3) (by omega) (by omega) (by omega)
    obtain ⟨D3, e3, h⟩ := h.text (most := 2097152) (by omega) (by omega)
    refine ⟨D3, ?_, h⟩
    rw [hk]
    show responseS D = _
    unfold responseS
    rw [e1]; dsimp only
    rw [e2]; dsimp only
    rw [e3]; dsimp only
    unfold onlyF
    simp [hk, nat_of a0, nat_of (show 0 ≤ f.st by omega)]
  · have e : layF f ++ ys = sh f.id.toNat ++ ys := by unfold layF; rw [if_neg (by omega), if_neg (by omega), if_neg (by omega), if_pos hk]
    rw [e] at h
    obtain ⟨D1, e1, h⟩ := h.uint (by omega)
    refine ⟨D1, ?_, h⟩
    rw [hk]
    show cancelS D = _
    unfold cancelS
    rw [e1]; dsimp only
    unfold onlyF
    simp [hk, nat_of a0]
  · have e : layF f ++ ys = ys := by unfold layF; rw [if_neg (by omega), if_neg (by omega), if_neg (by omega), if_neg (by omega), if_neg (by omega), List.nil_append]
    rw [e] at h
    refine ⟨D, ?_, h⟩
    rw [hk]
    show (D, _) = _
    unfold onlyF
    simp [hk]
  · have e : layF f ++ ys = txt f.body ++ ys := by unfold layF; rw [if_neg (by omega), if_neg (by omega), if_neg (by omega), if_neg (by omega), if_pos hk]
    rw [e] at h
    obtain ⟨D1, e1, h⟩ := h.text (most := 2097152) (by omega) (by omega)
    refine ⟨D1, ?_, h⟩
    rw [hk]
    show noteS D = _
    unfold noteS
    rw [e1]; dsimp only
    unfold onlyF
    simp [hk]
theorem new_has (L : Nat) (l : List Int) : Has ((Rd.new (sh L ++ l)).to (sh L).length) l :=
  ⟨rfl, rfl, by show (sh L).length ≤ (sh L ++ l).length; rw [List.length_append]; omega, by show (sh L ++ l).drop (sh L).length = l; rw [List.drop_left]⟩
theorem fields_has (hm : May f) (h : Has D (bodyF f ++ ys)) : ∃ D1, fieldsS D = kindS D1 f.k.toNat ∧ Has D1 (layF f ++ ys) := by
  have k1 := hm.k1
  have k6 := hm.k6
  have e : bodyF f ++ ys = sh f.k.toNat ++ (layF f ++ ys) := by unfold bodyF; rw [List.append_assoc]
  rw [e] at h
  obtain ⟨D1, e1, h⟩ := h.some_ (most := 6) (by omega) (by omega) (by omega)
  exact ⟨D1, by unfold fieldsS; rw [e1], h⟩
/-- A frame that may be is read back. -/
theorem read_back (hm : May f) (hw : f.wf) (hs : f.body.size ≤ 2097152) (hl : Lim f) (ht : f.tool.length = 32) (L : Nat) : readF (sh L ++ bodyF f) (sh L).length = (f.core, 0, 0) := by
  have h0 := new_has L (bodyF f)
  rw [← List.append_nil (bodyF f)] at h0
  obtain ⟨D1, e1, h1⟩ := fields_has (ys := []) hm h0
  obtain ⟨D2, e2, h2⟩ := kind_has hm hw hs hl ht h1
  rw [List.append_nil] at e1
  rw [readF_of (e1.trans e2)]
  have hf : finS D2 f.core (sh L).length = (0, 0) := by
    unfold finS
    rw [h2.end_, if_neg, h2.why, h2.wat]
    rintro ⟨_, k3, s1, b0⟩
    exact b0 ((hm.resp k3).2.2 s1)
  rw [hf, if_neg (by simp)]
end
theorem len_enc {f : Fr} (hc : chkF f = 0) : 1 ≤ (bodyF f).length ∧ (bodyF f).length ≤ 2097152 ∧ encF f = sealed (sh (bodyF f).length ++ bodyF f) ∧ (encF f).length = (bodyF f).length + (sh (bodyF f).length).length + 4 := by
  obtain ⟨hm, hs, hl⟩ := chk_facts hc
  have h1 : 1 ≤ (bodyF f).length := by unfold bodyF; rw [List.length_append]; have := sh_pos f.k.toNat; omega
  have e : encF f = sealed (sh (bodyF f).length ++ bodyF f) := by unfold encF; rw [if_neg (by rw [hc]; decide)]
  exact ⟨h1, hl, e, by rw [e, sealed_length, List.length_append]; omega⟩
theorem sealed_apart (xs rest : List Int) : sealed xs ++ rest = xs ++ (b4 (more 0#32 xs) ++ rest) := by unfold sealed; rw [List.append_assoc]
theorem need_enc {f : Fr} (hc : chkF f = 0) (rest : List Int) : needF (encF f ++ rest) = ((encF f).length, (sh (bodyF f).length).length, 0) := by
  obtain ⟨h1, h2, e, hl⟩ := len_enc hc
  rw [hl, e, sealed_apart, List.append_assoc, need_of' _ h1 h2]
theorem dec_enc_of {f : Fr} (hc : chkF f = 0) : decF (encF f) = readF (sh (bodyF f).length ++ bodyF f) (sh (bodyF f).length).length := by
  obtain ⟨h1, h2, e, hl⟩ := len_enc hc
  have hn := need_enc hc []
  rw [List.append_nil] at hn
  have ho : openR (encF f) = (sh (bodyF f).length ++ bodyF f, 0) := by rw [e, open_sealed]
  unfold decF
  rw [hn, ho]
  dsimp only
  rw [if_neg (by simp), if_neg (by omega), if_neg (by omega), if_neg (by simp)]
/-- A frame that was written is read back. -/
theorem dec_enc {f : Fr} (hw : f.wf) (ht : f.tool.length = 32) (hc : chkF f = 0) (hl : Lim f) : decF (encF f) = (f.core, 0, 0) := by
  obtain ⟨hm, hs, _⟩ := chk_facts hc
  rw [dec_enc_of hc, read_back hm hw hs hl ht]
theorem numR_cut : ∀ (n k acc j : Nat), k ≤ 9 → acc + n * 128 ^ k < 18446744073709551616 → j < (sh n).length → numR ((sh n).take j) k acc = (0, 0, 4) := by
  intro n
  induction n using Nat.strongRecOn with
  | ind n ih =>
    intro k acc j hk hlt hj
    have e9 : (128 : Nat) ^ 9 = 9223372036854775808 := by decide
    cases j with
    | zero => rw [List.take_zero, numR]
    | succ j =>
      rcases Nat.lt_or_ge n 128 with h | h
      · rw [sh_small h] at hj; simp at hj
      · rw [sh_big h] at hj ⊢
        rw [List.length_cons] at hj
        have hk9 : k < 9 := by
          rcases Nat.lt_or_ge k 9 with h9 | h9
          · exact h9
          · have : k = 9 := by omega
            subst this
            rw [e9] at hlt
            omega
        have h1 : (((n % 128 + 128 : Nat) : Int).toNat) % 128 = n % 128 := by omega
        have h2 : acc + n % 128 * 128 ^ k + n / 128 * 128 ^ (k + 1) = acc + n * 128 ^ k := by
          have h3 : n * 128 ^ k = (n % 128 + 128 * (n / 128)) * 128 ^ k := by rw [Nat.mod_add_div]
          rw [h3, Nat.add_mul, Nat.pow_succ, Nat.mul_comm 128 (n / 128), Nat.mul_assoc, Nat.mul_comm (128 ^ k) 128]
          omega
        rw [List.take_succ_cons, numR, if_neg (by omega), if_neg (by omega), h1, ih (n / 128) (by omega) (k + 1) _ j (by omega) (by rw [h2]; exact hlt) (by omega)]
end Go.Proofs.Ytpjpgcjhdbiepaa
end
/-! Frames out of bytes that come in any pieces: the plain law. No program in it. -/
section
namespace Go.Proofs.Ytpjpgcjhdbiepaa
open Go.RowKit Go.Kit CrcM Go.Proofs.YtpjpgcjhdbiepaaW.PrintWords
/-- A decoder's state. -/
structure Sm where
  most : Nat
  rest : List Int
  came : Nat
  whole : Nat
  why : Int
  wat : Int
def Sm.new (most : Nat) : Sm := ⟨most, [], 0, 0, 0, 0⟩
/-- How many bytes the frame has with which bytes begin (0: it can't be told yet), and the error. -/
def needS (most : Nat) (xs : List Int) : Nat × Int :=
  if (needF xs).2.2 ≠ 0 then (0, (needF xs).2.2) else if most + (needF xs).2.1 + 4 < (needF xs).1 then (0, 3) else ((needF xs).1, 0)
/-- The state with a byte more. -/
def Sm.put (s : Sm) (c : Int) : Sm := { s with rest := s.rest ++ [c], came := s.came + 1 }
/-- Poisoned, at a place of the rest. -/
def Sm.bad (s : Sm) (e a : Int) : Sm := { s with why := e, wat := (s.came : Int) - s.rest.length + a }
/-- A frame is whole. -/
def Sm.done (s : Sm) : Sm := { s with rest := [], whole := s.whole + 1 }
def takeS (s : Sm) (c : Int) : Sm × List Fr :=
  if (needS s.most (s.rest ++ [c])).2 ≠ 0 then ((s.put c).bad (needS s.most (s.rest ++ [c])).2 0, [])
  else if (needS s.most (s.rest ++ [c])).1 = 0 ∨ (s.rest ++ [c]).length < (needS s.most (s.rest ++ [c])).1 then (s.put c, [])
  else if (decF (s.rest ++ [c])).2.1 ≠ 0 then ((s.put c).bad (decF (s.rest ++ [c])).2.1 (decF (s.rest ++ [c])).2.2, [])
  else ((s.put c).done, [(decF (s.rest ++ [c])).1])
/-- Bytes taken, until n frames were whole, k of them being told: the state, the frames, how many bytes. -/
def someR (n : Int) : List Int → Sm → Nat → Sm × List Fr × Nat
  | [], s, _ => (s, [], 0)
  | c :: r, s, k => if n ≤ (k : Int) ∨ s.why ≠ 0 then (s, [], 0) else
      match takeS s c with
      | (t, l) => match someR n r t (k + l.length) with
        | (u, m, j) => (u, l ++ m, j + 1)
/-- Bytes taken, without end. -/
def feedS : List Int → Sm → Sm × List Fr
  | [], s => (s, [])
  | c :: r, s => if s.why ≠ 0 then (s, []) else
      match takeS s c with
      | (t, l) => match feedS r t with
        | (u, m) => (u, l ++ m)
theorem take_len (s : Sm) (c : Int) : (takeS s c).2.length ≤ 1 := by
  unfold takeS
  split
  · simp
  split
  · simp
  split
  · simp
  · simp
theorem take_most (s : Sm) (c : Int) : (takeS s c).1.most = s.most := by
  unfold takeS
  split
  · rfl
  split
  · rfl
  split
  · rfl
  · rfl
theorem take_came (s : Sm) (c : Int) : (takeS s c).1.came = s.came + 1 := by
  unfold takeS
  split
  · rfl
  split
  · rfl
  split
  · rfl
  · rfl
theorem feed_bad {s : Sm} (h : s.why ≠ 0) (xs : List Int) : feedS xs s = (s, []) := by
  cases xs with
  | nil => rfl
  | cons c r => unfold feedS; rw [if_pos h]
theorem feed_cons {s t : Sm} {c : Int} {l : List Fr} (r : List Int) (h : s.why = 0) (ht : takeS s c = (t, l)) : feedS (c :: r) s = ((feedS r t).1, l ++ (feedS r t).2) := by
  rw [feedS, if_neg (by simp [h]), ht]
theorem feed_append (xs ys : List Int) : ∀ s : Sm, feedS (xs ++ ys) s = ((feedS ys (feedS xs s).1).1, (feedS xs s).2 ++ (feedS ys (feedS xs s).1).2) := by
  induction xs with
  | nil => intro s; rfl
  | cons c r ih =>
    intro s
    by_cases h : s.why = 0
    · obtain ⟨t, l, ht⟩ : ∃ t l, takeS s c = (t, l) := ⟨_, _, rfl⟩
      rw [List.cons_append, feed_cons _ h ht, feed_cons _ h ht, ih t]
      simp only [List.append_assoc]
    · rw [feed_bad h, feed_bad h, feed_bad h]; rfl
theorem feed_snoc {s : Sm} {xs : List Int} {c : Int} : feedS (xs ++ [c]) s = if (feedS xs s).1.why ≠ 0 then feedS xs s else ((takeS (feedS xs s).1 c).1, (feedS xs s).2 ++ (takeS (feedS xs s).1 c).2) := by
  rw [feed_append]
  split
  · next h => rw [feed_bad h, List.append_nil]
  · next h =>
    have h := Classical.not_not.mp h
    obtain ⟨t, l, ht⟩ : ∃ t l, takeS (feedS xs s).1 c = (t, l) := ⟨_, _, rfl⟩
    rw [feed_cons [] h ht, ht, feedS, List.append_nil]
/-- Where no limit of frames can be met. -/
theorem some_feed (n : Int) : ∀ (xs : List Int) (s : Sm) (k : Nat), (k + xs.length : Nat) ≤ n → (someR n xs s k).1 = (feedS xs s).1 ∧ (someR n xs s k).2.1 = (feedS xs s).2
  | [], s, k, _ => ⟨rfl, rfl⟩
  | c :: r, s, k, h => by
    rw [List.length_cons] at h
    by_cases hw : s.why = 0
    · obtain ⟨t, l, ht⟩ : ∃ t l, takeS s c = (t, l) := ⟨_, _, rfl⟩
      have hl := take_len s c
      rw [ht] at hl
      have ih := some_feed n r t (k + l.length) (by dsimp only at hl; omega)
      rw [someR, if_neg (by simp [hw]; omega), ht, feed_cons r hw ht]
      exact ⟨ih.1, by rw [← ih.2]⟩
    · rw [someR, if_pos (.inr hw), feed_bad hw]; exact ⟨rfl, rfl⟩
/-! The length with which bytes begin, once it is told, stays. -/
theorem numR_more : ∀ (l : List Int) (k acc : Nat) (ys : List Int) {m j : Nat} {e : Int}, numR l k acc = (m, j, e) → e ≠ 4 → numR (l ++ ys) k acc = (m, j, e)
  | [], k, acc, ys, m, j, e, h, he => by
    rw [numR] at h; cases h; exact absurd rfl he
  | c :: l, k, acc, ys, m, j, e, h, he => by
    rw [List.cons_append, numR]
    rw [numR] at h
    split
    · next h1 => rw [if_pos h1] at h; exact h
    · next h1 =>
      rw [if_neg h1] at h
      split
      · next h2 => rw [if_pos h2] at h; exact h
      · next h2 =>
        rw [if_neg h2] at h
        exact numR_more l _ _ ys h he
theorem num_more {xs : List Int} (ys : List Int) {m j : Nat} {e : Int} (h : num xs 0 = (m, j, e)) (he : e ≠ 4) : num (xs ++ ys) 0 = (m, j, e) := by
  unfold Go.Kit.num at h ⊢
  rw [List.drop_zero] at h ⊢
  exact numR_more xs 0 0 ys h he
theorem head_more {xs : List Int} (ys : List Int) {m j : Nat} {e : Int} (h : headF xs = (m, j, e)) (hn : e ≠ 0 ∨ m ≠ 0) : headF (xs ++ ys) = (m, j, e) := by
  obtain ⟨p, q, x, hN⟩ : ∃ p q x, num xs 0 = (p, q, x) := ⟨_, _, _, rfl⟩
  have hx : x ≠ 4 := by
    intro hx
    unfold headF at h
    rw [hN, if_pos hx] at h
    cases h; simp at hn
  have hN2 := num_more ys hN hx
  unfold headF at h ⊢
  rw [hN] at h
  rw [hN2]
  exact h
theorem need_more {xs : List Int} (ys : List Int) {m k : Nat} {e : Int} (h : needF xs = (m, k, e)) (hn : e ≠ 0 ∨ m ≠ 0) : needF (xs ++ ys) = (m, k, e) := by
  obtain ⟨p, q, x, hH⟩ : ∃ p q x, headF xs = (p, q, x) := ⟨_, _, _, rfl⟩
  unfold needF at h
  rw [hH] at h
  dsimp only at h
  by_cases hc : x ≠ 0 ∨ q = 0
  · rw [if_pos hc] at h
    cases h
    have hx : e ≠ 0 := by rcases hn with h | h; exact h; exact absurd rfl h
    have := head_more ys hH (.inl hx)
    unfold needF
    rw [this]
    dsimp only
    rw [if_pos (.inl hx)]
  · rw [if_neg hc] at h
    cases h
    have hp : p ≠ 0 := by
      intro hp
      unfold headF at hH
      split at hH
      · cases hH; omega
      split at hH
      · cases hH; omega
      split at hH
      · cases hH; omega
      split at hH
      · cases hH; omega
      · cases hH; omega
    have := head_more ys hH (.inr hp)
    unfold needF
    rw [this]
    dsimp only
    rw [if_neg hc]
theorem needS_more {most : Nat} {xs : List Int} (ys : List Int) {m : Nat} {e : Int} (h : needS most xs = (m, e)) (hn : e ≠ 0 ∨ m ≠ 0) : needS most (xs ++ ys) = (m, e) := by
  obtain ⟨p, q, x, hN⟩ : ∃ p q x, needF xs = (p, q, x) := ⟨_, _, _, rfl⟩
  have hc : x ≠ 0 ∨ p ≠ 0 := by
    unfold needS at h
    rw [hN] at h
    dsimp only at h
    split at h
    · next hx => exact .inl hx
    split at h
    · right; omega
    · next hx _ =>
      cases h
      rcases hn with h | h
      · exact absurd rfl h
      · exact .inr h
  have := need_more ys hN hc
  unfold needS at h ⊢
  rw [hN] at h
  rw [this]
  exact h
/-! What holds of states. -/
/-- The bounds of a decoder's state. -/
structure Sm.ok (s : Sm) : Prop where
  byt : Byt s.rest
  len : s.rest.length ≤ s.came
  one : 1 ≤ s.most
  two : s.most ≤ 2097152
  low : s.why = 0 → s.wat = 0 ∧ (needS s.most s.rest).2 = 0 ∧ ((needS s.most s.rest).1 ≠ 0 → s.rest.length < (needS s.most s.rest).1) ∧ ((needS s.most s.rest).1 = 0 → s.rest.length ≤ 10)
theorem numR_pos : ∀ (l : List Int) (k acc : Nat) {m j : Nat} {x : Int}, numR l k acc = (m, j, x) → x = 0 → 0 < j
  | [], k, acc, m, j, x, h, hx => by rw [numR] at h; cases h; exact absurd hx (by decide)
  | c :: l, k, acc, m, j, x, h, hx => by
    rw [numR] at h
    split at h
    · cases h; exact absurd hx (by decide)
    split at h
    · split at h
      · cases h; exact absurd hx (by decide)
      · cases h; omega
    · exact numR_pos l _ _ h hx
theorem needS_facts {most : Nat} {xs : List Int} (hb : Byt xs) : (needS most xs).1 ≤ most + 14 ∧ ((needS most xs).2 ≠ 0 → (needS most xs).1 = 0) := by
  obtain ⟨p, q, x, hN⟩ : ∃ p q x, needF xs = (p, q, x) := ⟨_, _, _, rfl⟩
  obtain ⟨p1, q1, x1, hH⟩ : ∃ p q x, headF xs = (p, q, x) := ⟨_, _, _, rfl⟩
  have h8 := headF_facts hb hH
  have hq : q ≤ 10 := by
    unfold needF at hN
    rw [hH] at hN
    dsimp only at hN
    split at hN
    · cases hN; omega
    · cases hN; omega
  unfold needS
  rw [hN]
  dsimp only
  split
  · exact ⟨by simp, fun _ => rfl⟩
  split
  · exact ⟨by simp, fun _ => rfl⟩
  · exact ⟨by dsimp only; omega, fun h => absurd rfl h⟩
theorem numR_short : ∀ (l : List Int) (k acc : Nat) {m j : Nat}, k ≤ 9 → numR l k acc = (m, j, 4) → l.length + k ≤ 9 ∨ l.length = 0
  | [], k, acc, m, j, _, _ => .inr rfl
  | c :: l, k, acc, m, j, hk, h => by
    rw [numR] at h
    split at h
    · cases h
    split at h
    · split at h
      · cases h
      · cases h
    · next h1 h2 =>
      by_cases hk9 : k = 9
      · omega
      · have := numR_short l (k + 1) _ (by omega) h
        rw [List.length_cons]
        omega
theorem need_short {xs : List Int} (h0 : (needF xs).1 = 0) (h1 : (needF xs).2.2 = 0) : xs.length ≤ 9 := by
  obtain ⟨p, q, x, hN⟩ : ∃ p q x, num xs 0 = (p, q, x) := ⟨_, _, _, rfl⟩
  have hx : x = 4 := by
    refine Classical.byContradiction fun hx => ?_
    have hH : (∃ e, e ≠ 0 ∧ headF xs = (0, 0, e)) ∨ (0 < q ∧ headF xs = (p, q, 0)) := by
      unfold headF
      rw [hN]
      dsimp only
      rw [if_neg hx]
      split
      · next h => exact .inl ⟨x, h, rfl⟩
      · next h =>
        split
        · exact .inl ⟨3, by decide, rfl⟩
        split
        · exact .inl ⟨70, by decide, rfl⟩
        · exact .inr ⟨numR_pos _ _ _ (show numR (xs.drop 0) 0 0 = (p, q, x) from hN) (Classical.not_not.mp h), rfl⟩
    unfold needF at h0 h1
    rcases hH with ⟨e, he, hH⟩ | ⟨hq, hH⟩
    · rw [hH] at h1
      dsimp only at h1
      rw [if_pos (.inl he)] at h1
      exact he h1
    · rw [hH] at h0
      dsimp only at h0
      rw [if_neg (by omega)] at h0
      dsimp only at h0
      omega
  subst hx
  have := numR_short _ _ _ (by omega) (show numR (xs.drop 0) 0 0 = (p, q, 4) from hN)
  rw [List.drop_zero] at this
  omega
theorem take_ok {s : Sm} (h : s.ok) (hw : s.why = 0) {c : Int} (h0 : 0 ≤ c) (h1 : c < 256) : (takeS s c).1.ok := by
  have hb : Byt (s.rest ++ [c]) := h.byt.append (Byt.one h0 h1)
  have hl : (s.rest ++ [c]).length = s.rest.length + 1 := by simp
  have hlen := h.len
  obtain ⟨n, e, hN⟩ : ∃ n e, needS s.most (s.rest ++ [c]) = (n, e) := ⟨_, _, rfl⟩
  unfold takeS
  rw [hN]
  dsimp only
  split
  · next he => exact ⟨hb, by show (s.rest ++ [c]).length ≤ s.came + 1; omega, h.one, h.two, fun e' => absurd e' he⟩
  · next he =>
    have he := Classical.not_not.mp he
    subst he
    split
    · next hn =>
      refine ⟨hb, by show (s.rest ++ [c]).length ≤ s.came + 1; omega, h.one, h.two, fun _ => ⟨(h.low hw).1, by show (needS s.most (s.rest ++ [c])).2 = 0; rw [hN], fun hne => ?_, fun hz => ?_⟩⟩
      · show (s.rest ++ [c]).length < (needS s.most (s.rest ++ [c])).1
        have hne' : (needS s.most (s.rest ++ [c])).1 ≠ 0 := hne
        rw [hN] at hne' ⊢
        rcases hn with hn | hn
        · exact absurd hn hne'
        · exact hn
      · show (s.rest ++ [c]).length ≤ 10
        have hz' : (needS s.most (s.rest ++ [c])).1 = 0 := hz
        obtain ⟨p, q, x, hNF⟩ : ∃ p q x, needF (s.rest ++ [c]) = (p, q, x) := ⟨_, _, _, rfl⟩
        unfold needS at hN hz'
        rw [hNF] at hN hz'
        dsimp only at hN hz'
        split at hN
        · next hx => cases hN; exact absurd rfl hx
        · next hx =>
          split at hN
          · exact absurd (congrArg Prod.snd hN) (by show ¬ (3 : Int) = 0; decide)
          · next hx2 =>
            rw [if_neg hx, if_neg hx2] at hz'
            have := need_short (xs := s.rest ++ [c]) (by rw [hNF]; exact hz') (by rw [hNF]; exact Classical.not_not.mp hx)
            omega
    · next hn =>
      split
      · next hd => exact ⟨hb, by show (s.rest ++ [c]).length ≤ s.came + 1; omega, h.one, h.two, fun e' => absurd e' hd⟩
      · refine ⟨Byt.nil, Nat.zero_le _, h.one, h.two, fun _ => ⟨(h.low hw).1, ?_, fun hne => ?_, fun _ => Nat.zero_le _⟩⟩
        · rfl
        · exact absurd rfl hne
theorem new_ok {most : Nat} (h1 : 1 ≤ most) (h2 : most ≤ 2097152) : (Sm.new most).ok := ⟨Byt.nil, Nat.zero_le _, h1, h2, fun _ => ⟨rfl, rfl, fun h => absurd rfl h, fun _ => Nat.zero_le _⟩⟩
end Go.Proofs.Ytpjpgcjhdbiepaa
end
/-! What a decoder tells is what came: the plain law. No program in it. -/
section
namespace Go.Proofs.Ytpjpgcjhdbiepaa
open Go.RowKit Go.Kit CrcM Go.Proofs.YtpjpgcjhdbiepaaW.PrintWords
/-- Frames that were read. -/
def Told (f : Fr) : Prop := chkF f = 0 ∧ ReadOk f
/-- The rest is never longer than one frame may be. -/
theorem take_rest {s : Sm} (h : s.ok) (hw : s.why = 0) (c : Int) : (takeS s c).1.rest.length ≤ s.most + 14 := by
  obtain ⟨_, _, l3, l4⟩ := h.low hw
  have hf := (needS_facts (most := s.most) h.byt).1
  have hl : (s.rest ++ [c]).length ≤ s.most + 14 := by
    rw [List.length_append, List.length_singleton]
    have := h.one
    by_cases hz : (needS s.most s.rest).1 = 0
    · have := l4 hz; omega
    · have := l3 hz; omega
  unfold takeS
  split
  · exact hl
  split
  · exact hl
  split
  · exact hl
  · exact Nat.zero_le _
/-! A frame's bytes, byte by byte. -/
theorem need_cut {f : Fr} (hc : chkF f = 0) (j : Nat) : (needF ((encF f).take j)).2.2 = 0 ∧ ((needF ((encF f).take j)).1 = 0 ∨ needF ((encF f).take j) = ((encF f).length, (sh (bodyF f).length).length, 0)) := by
  obtain ⟨h1, h2, e, hl⟩ := len_enc hc
  rcases Nat.lt_or_ge j (sh (bodyF f).length).length with h | h
  · have hnum : num ((encF f).take j) 0 = (0, 0, 4) := by
      unfold Go.Kit.num
      rw [List.drop_zero, e, show sealed (sh (bodyF f).length ++ bodyF f) = sh (bodyF f).length ++ (bodyF f ++ b4 (more 0#32 (sh (bodyF f).length ++ bodyF f))) by unfold sealed; rw [List.append_assoc], List.take_append_of_le_length (by omega)]
      exact numR_cut _ 0 0 j (by omega) (by omega) h
    have hh : headF ((encF f).take j) = (0, 0, 0) := by unfold headF; rw [hnum]; dsimp only; rw [if_pos rfl]
    have hne : needF ((encF f).take j) = (0, 0, 0) := by unfold needF; rw [hh]; dsimp only; rw [if_pos (.inr rfl)]
    rw [hne]; exact ⟨rfl, .inl rfl⟩
  · have ht : (encF f).take j = sh (bodyF f).length ++ (bodyF f ++ b4 (more 0#32 (sh (bodyF f).length ++ bodyF f))).take (j - (sh (bodyF f).length).length) := by
      rw [e, show sealed (sh (bodyF f).length ++ bodyF f) = sh (bodyF f).length ++ (bodyF f ++ b4 (more 0#32 (sh (bodyF f).length ++ bodyF f))) by unfold sealed; rw [List.append_assoc], List.take_append, List.take_of_length_le h]
    rw [ht, need_of' _ h1 h2]
    exact ⟨rfl, .inr (by rw [hl])⟩
/-- While a frame's bytes come, nothing is told; with the last one it is. -/
theorem feed_part {f : Fr} (hc : chkF f = 0) (s : Sm) (hw : s.why = 0) (hr : s.rest = []) (hm : (bodyF f).length ≤ s.most) : ∀ j, j < (encF f).length → feedS ((encF f).take j) s = ({ s with rest := (encF f).take j, came := s.came + j }, [])
  | 0, _ => by
    rw [List.take_zero, feedS]
    cases s; dsimp only at hr; subst hr; rfl
  | j + 1, hj => by
    have ih := feed_part hc s hw hr hm j (by omega)
    have hg : (encF f)[j]? = some (encF f)[j] := List.getElem?_eq_getElem (by omega)
    obtain ⟨n1, n2⟩ := need_cut hc (j + 1)
    obtain ⟨_, _, _, hl⟩ := len_enc hc
    rw [snoc hg] at n1 n2 ⊢
    rw [feed_snoc, ih]
    dsimp only
    rw [if_neg (by simp [hw])]
    have hN : needS s.most ((encF f).take j ++ [(encF f)[j]]) = ((needF ((encF f).take j ++ [(encF f)[j]])).1, 0) := by
      unfold needS
      rw [if_neg (fun h => h n1), if_neg]
      rcases n2 with n2 | n2
      · omega
      · rw [n2]; dsimp only; omega
    have ht : takeS { s with rest := (encF f).take j, came := s.came + j } (encF f)[j] = ({ s with rest := (encF f).take j ++ [(encF f)[j]], came := s.came + (j + 1) }, []) := by
      unfold takeS
      dsimp only
      rw [hN]
      dsimp only
      rw [if_neg (by simp), if_pos]
      · rfl
      · rcases n2 with n2 | n2
        · exact .inl n2
        · right
          rw [n2, List.length_append, List.length_take, List.length_singleton]
          dsimp only
          omega
    rw [ht]
    rfl
theorem feed_whole {f : Fr} (hw' : f.wf) (ht : f.tool.length = 32) (hc : chkF f = 0) (hlim : Lim f) (s : Sm) (hw : s.why = 0) (hr : s.rest = []) (hm : (bodyF f).length ≤ s.most) :
    feedS (encF f) s = ({ s with rest := [], came := s.came + (encF f).length, whole := s.whole + 1 }, [f.core]) := by
  obtain ⟨h1, h2, e, hl⟩ := len_enc hc
  obtain ⟨n, hn⟩ : ∃ n, (encF f).length = n + 1 := ⟨(encF f).length - 1, by omega⟩
  have hg : (encF f)[n]? = some (encF f)[n] := List.getElem?_eq_getElem (by omega)
  have hall : (encF f).take n ++ [(encF f)[n]] = encF f := by rw [← snoc hg, List.take_of_length_le (by omega)]
  have ih := feed_part hc s hw hr hm n (by omega)
  have hsn := feed_snoc (s := s) (xs := (encF f).take n) (c := (encF f)[n])
  rw [hall, ih] at hsn
  dsimp only at hsn
  rw [if_neg (by simp [hw])] at hsn
  have hne := need_enc hc []
  rw [List.append_nil] at hne
  have hN : needS s.most (encF f) = ((encF f).length, 0) := by
    unfold needS
    rw [hne, if_neg (by simp), if_neg]
    dsimp only; omega
  have hd := dec_enc hw' ht hc hlim
  have htk : takeS { s with rest := (encF f).take n, came := s.came + n } (encF f)[n] = ({ s with rest := [], came := s.came + (n + 1), whole := s.whole + 1 }, [f.core]) := by
    unfold takeS
    dsimp only
    rw [hall, hN]
    dsimp only
    rw [if_neg (by simp), if_neg (by omega), hd, if_neg (by simp)]
    rfl
  rw [hsn, htk, hn]
  rfl
end Go.Proofs.Ytpjpgcjhdbiepaa
end
/-! How many bytes a length takes; a decoder's numbers: the plain law. No program in it. -/
section
namespace Go.Proofs.Ytpjpgcjhdbiepaa
open Go.RowKit Go.Kit CrcM Go.Proofs.YtpjpgcjhdbiepaaW.PrintWords
/-- How many bytes of 128 and more stand ahead, and one. -/
def headsN (xs : List Int) : Nat := (xs.takeWhile fun x => decide (128 ≤ x)).length + 1
theorem heads_le (xs : List Int) : headsN xs ≤ xs.length + 1 := by
  unfold headsN
  have := (List.takeWhile_prefix (l := xs) (fun x => decide (128 ≤ x))).length_le
  omega
theorem heads_cons_big {c : Int} (l : List Int) (h : 128 ≤ c) : headsN (c :: l) = headsN l + 1 := by
  unfold headsN; rw [List.takeWhile_cons_of_pos (by simpa using h), List.length_cons]
theorem heads_cons_small {c : Int} (l : List Int) (h : ¬ 128 ≤ c) : headsN (c :: l) = 1 := by
  unfold headsN; rw [List.takeWhile_cons_of_neg (by simpa using h)]; rfl
theorem heads_take {xs : List Int} {n : Nat} (h : ∀ j, j < n → ∃ x, xs[j]? = some x ∧ 128 ≤ x) (he : n = xs.length ∨ ∃ x, xs[n]? = some x ∧ x < 128) : headsN xs = n + 1 := by
  induction xs generalizing n with
  | nil =>
    cases n with
    | zero => rfl
    | succ n => obtain ⟨x, hx, _⟩ := h 0 (by omega); simp at hx
  | cons c l ih =>
    cases n with
    | zero =>
      rcases he with he | ⟨x, hx, h1⟩
      · simp at he
      · simp at hx; subst hx; exact heads_cons_small l (by omega)
    | succ n =>
      obtain ⟨x, hx, h1⟩ := h 0 (by omega)
      simp at hx; subst hx
      rw [heads_cons_big l h1, ih (n := n) (fun j hj => by
        obtain ⟨x, hx, h2⟩ := h (j + 1) (by omega)
        exact ⟨x, by simpa using hx, h2⟩) (he.elim (fun e => .inl (by simpa using e)) (fun ⟨x, hx, h2⟩ => .inr ⟨x, by simpa using hx, h2⟩))]
theorem numR_heads : ∀ (l : List Int) (k acc : Nat) {m j : Nat}, numR l k acc = (m, j, 0) → j = k + headsN l
  | [], k, acc, m, j, h => by rw [numR] at h; cases h
  | c :: l, k, acc, m, j, h => by
    rw [numR] at h
    split at h
    · cases h
    split at h
    · next h2 =>
      split at h
      · cases h
      · cases h; rw [heads_cons_small l (by omega)]
    · next h2 =>
      have := numR_heads l _ _ h
      rw [heads_cons_big l (by omega)]
      omega
theorem need_heads {xs : List Int} {n k : Nat} (h : needF xs = (n, k, 0)) (hn : n ≠ 0) : k = headsN xs := by
  obtain ⟨m0, hh, _⟩ := need_head h hn
  have hk := need_k h hn
  obtain ⟨h1, _, _⟩ := head_num hh (.inl hk)
  have := numR_heads _ _ _ (show numR (xs.drop 0) 0 0 = (m0, k, 0) from h1)
  rw [List.drop_zero] at this
  omega
/-- The error that the program finds, with the bytes that the length takes counted. -/
theorem needS_prog (most : Nat) (xs : List Int) {n k : Nat} {e : Int} (h : needF xs = (n, k, e)) :
    needS most xs = if e ≠ 0 then (0, e) else if 0 < n ∧ (most : Int) < (n : Int) - 4 - (headsN xs : Int) then (0, 3) else (n, 0) := by
  unfold needS
  rw [h]
  dsimp only
  by_cases he : e = 0
  · subst he
    simp only [ne_eq, not_true_eq_false, if_false]
    by_cases hn : n = 0
    · rw [if_neg (by omega), if_neg (by omega)]
    · have hk := need_heads h hn
      by_cases hc : most + k + 4 < n
      · rw [if_pos hc, if_pos (by omega)]
      · rw [if_neg hc, if_neg (by omega)]
  · rw [if_pos he, if_pos he]
theorem feed_came : ∀ (xs : List Int) (s : Sm), (feedS xs s).1.came ≤ s.came + xs.length ∧ s.came ≤ (feedS xs s).1.came ∧ (feedS xs s).1.most = s.most ∧ (feedS xs s).1.whole ≤ s.whole + xs.length ∧ (feedS xs s).2.length ≤ xs.length
  | [], s => ⟨by simp [feedS], Nat.le_refl _, rfl, by simp [feedS], by simp [feedS]⟩
  | c :: r, s => by
    by_cases hw : s.why = 0
    · obtain ⟨t, l, ht⟩ : ∃ t l, takeS s c = (t, l) := ⟨_, _, rfl⟩
      have h1 := take_came s c
      have h2 := take_most s c
      have h3 := take_len s c
      have h4 : (takeS s c).1.whole ≤ s.whole + 1 := by
        unfold takeS
        split
        · exact Nat.le_succ _
        split
        · exact Nat.le_succ _
        split
        · exact Nat.le_succ _
        · exact Nat.le_refl _
      rw [ht] at h1 h2 h3 h4
      dsimp only at h1 h2 h3 h4
      rw [feed_cons r hw ht]
      obtain ⟨g1, g2, g3, g4, g5⟩ := feed_came r t
      refine ⟨?_, ?_, g3.trans h2, ?_, ?_⟩
      all_goals simp only [List.length_cons, List.length_append]; omega
    · rw [feed_bad hw]
      refine ⟨Nat.le_add_right _ _, Nat.le_refl _, rfl, Nat.le_add_right _ _, Nat.zero_le _⟩
end Go.Proofs.Ytpjpgcjhdbiepaa
end
/-! A frame in a new block of its own; cells written and read. -/
section
namespace Go.Proofs.Ytpjpgcjhdbiepaa
open Go.RowKit Go.Kit Go.Proofs.YtpjpgcjhdbiepaaW.PrintWords
theorem one_new (W : World) : (kF 0).at_ 42 (W.alloc (.cells #[.int .i64 0, .int .u64 0, .int .i64 0, .int .i64 0, .int .u8 0, .int .u8 0, .int .u8 0, .int .u8 0, .int .u8 0, .int .u8 0, .int .u8 0, .int .u8 0, .int .u8 0, .int .u8 0, .int .u8 0, .int .u8 0, .int .u8 0, .int .u8 0, .int .u8 0, .int .u8 0, .int .u8 0, .int .u8 0, .int .u8 0, .int .u8 0, .int .u8 0, .int .u8 0, .int .u8 0, .int .u8 0, .int .u8 0, .int .u8 0, .int .u8 0, .int .u8 0, .int .u8 0, .int .u8 0, .int .u8 0, .int .u8 0, .int .i64 0, .int .i64 0, .int .i64 0, .int .i64 0, .slice none 0 0, .string ⟨#[]⟩] 42)) W.heap.size ∧ Below W.heap.size W (W.alloc (.cells #[.int .i64 0, .int .u64 0, .int .i64 0, .int .i64 0, .int .u8 0, .int .u8 0, .int .u8 0, .int .u8 0, .int .u8 0, .int .u8 0, .int .u8 0, .int .u8 0, .int .u8 0, .int .u8 0, .int .u8 0, .int .u8 0, .int .u8 0, .int .u8 0, .int .u8 0, .int .u8 0, .int .u8 0, .int .u8 0, .int .u8 0, .int .u8 0, .int .u8 0, .int .u8 0, .int .u8 0, .int .u8 0, .int .u8 0, .int .u8 0, .int .u8 0, .int .u8 0, .int .u8 0, .int .u8 0, .int .u8 0, .int .u8 0, .int .i64 0, .int .i64 0, .int .i64 0, .int .i64 0, .slice none 0 0, .string ⟨#[]⟩] 42)) := ⟨⟨heap_alloc_new W _, rfl⟩, below_alloc (Below.refl _ W) _⟩
theorem frame_put (W : World) (F : Fr) (hT : F.tool.length = 32) : ∃ W1 W2 : World, W.alloc (.cells #[.int .i64 0, .int .u64 0, .int .i64 0, .int .i64 0, .int .u8 0, .int .u8 0, .int .u8 0, .int .u8 0, .int .u8 0, .int .u8 0, .int .u8 0, .int .u8 0, .int .u8 0, .int .u8 0, .int .u8 0, .int .u8 0, .int .u8 0, .int .u8 0, .int .u8 0, .int .u8 0, .int .u8 0, .int .u8 0, .int .u8 0, .int .u8 0, .int .u8 0, .int .u8 0, .int .u8 0, .int .u8 0, .int .u8 0, .int .u8 0, .int .u8 0, .int .u8 0, .int .u8 0, .int .u8 0, .int .u8 0, .int .u8 0, .int .i64 0, .int .i64 0, .int .i64 0, .int .i64 0, .slice none 0 0, .string ⟨#[]⟩] 42) = W1 ∧
    (Instr.storeAt 42 (.pointer (some ⟨W.heap.size, 0, none⟩)) (.agg F.arr)).run Try.prog W1 = .ok () W2 ∧ F.at_ 42 W2 W.heap.size ∧ Below W.heap.size W W2 := by
  obtain ⟨hF, hb⟩ := one_new W
  exact ⟨_, _, rfl, put_frame F hT hF, put_at F hT hF, below_setRow hb (Nat.le_refl _) _⟩
theorem frame_new (W : World) : ∃ W1 : World, W.alloc (.cells #[.int .i64 0, .int .u64 0, .int .i64 0, .int .i64 0, .int .u8 0, .int .u8 0, .int .u8 0, .int .u8 0, .int .u8 0, .int .u8 0, .int .u8 0, .int .u8 0, .int .u8 0, .int .u8 0, .int .u8 0, .int .u8 0, .int .u8 0, .int .u8 0, .int .u8 0, .int .u8 0, .int .u8 0, .int .u8 0, .int .u8 0, .int .u8 0, .int .u8 0, .int .u8 0, .int .u8 0, .int .u8 0, .int .u8 0, .int .u8 0, .int .u8 0, .int .u8 0, .int .u8 0, .int .u8 0, .int .u8 0, .int .u8 0, .int .i64 0, .int .i64 0, .int .i64 0, .int .i64 0, .slice none 0 0, .string ⟨#[]⟩] 42) = W1 ∧ (kF 0).at_ 42 W1 W.heap.size ∧ Below W.heap.size W W1 := by
  obtain ⟨hF, hb⟩ := one_new W
  exact ⟨_, rfl, hF, hb⟩
theorem build_kind (k : Int) (W : World) : (Instr.build 42 #[(0, .int .i64 k)]).run Try.prog W = .ok (.agg (kF k).arr) W := by kernel_rfl
theorem _root_.Go.Kit.OB.reads_from {e : TypeId} {w : World} {base : Nat} {v : Value} {xs : List Int} (h : OB e w base v xs) : ∃ A c, v = .slice A xs.length c ∧ RB w A xs.length xs ∧ xs.length ≤ c ∧ ∀ a, A = some a → base ≤ a.block := by
  obtain ⟨A, c, hv, hr, hc⟩ := h.reads'
  refine ⟨A, c, hv, hr, hc, fun a e => ?_⟩
  rcases h.own.2 with ⟨h1, h2⟩ | ⟨g, cap, cur, h1, h2, _⟩
  · rw [hv] at h1
    injection h1 with h3
    rw [h3] at e; cases e
  · rw [hv] at h1
    injection h1 with h3
    rw [h3] at e; cases e; exact h2
theorem load_cell_u8 {W : World} {a : Addr} {v : Value} (h : W.cell? a = some v) : (Instr.loadAt 5 (.pointer (some a))).run Try.prog W = .ok v W := by go_simp
theorem put_cell_int (y : Int) (W : World) (a : Addr) (u : Value) (hc : W.cell? a = some u) (hf : W.frozen? a = false) : (Instr.storeAt 3 (.pointer (some a)) (.int .i64 y)).run Try.prog W = .ok () (W.setCell a (.int .i64 y)) := by go_simp
theorem load_cell_int {W : World} {a : Addr} {v : Value} (h : W.cell? a = some v) : (Instr.loadAt 3 (.pointer (some a))).run Try.prog W = .ok v W := by go_simp
end Go.Proofs.Ytpjpgcjhdbiepaa
end
/-! Rows of texts: cut, laid behind one another, written. -/
section
namespace Go.Proofs.Ytpjpgcjhdbiepaa
open Go.RowKit Go.Kit Go.Proofs.YtpjpgcjhdbiepaaW.PrintWords
theorem RT.take_ {w : World} {A : Option Addr} {n : Nat} {xs : List ByteArray} (h : RT w A n xs) (k : Nat) (hk : k ≤ n) : RT w A k (xs.take k) := by
  have hl := h.len
  refine ⟨by rw [List.length_take]; omega, by have := h.max; omega, fun hp => ?_⟩
  obtain ⟨a, e, hc⟩ := h.2.2 (by omega)
  refine ⟨a, e, fun j hj => ?_⟩
  rw [hc j (by omega)]
  simp [List.getD_eq_getElem?_getD, List.getElem?_take, hj]
section
variable {ops : Array Oper} {rest : List Oper} {o : Oper} {a : Act} {Q : Exit → Act → World → Prop} {w0 W : World} {v : Value} {xs ys : List ByteArray}
end
section
variable {e : TypeId} {w : World} {base n c : Nat} {A : Option Addr} {xs : List ByteArray}
theorem _root_.Go.Kit.OT.at_ {g : Nat} (h : OT e w base (.slice (some ⟨g, 0, none⟩) n c) xs) (hn : n = xs.length) (i : Nat) (hi : i < n) : ∃ x, w.cell? ⟨g, i, none⟩ = some (.string x) ∧ w.frozen? ⟨g, i, none⟩ = false := by
  subst hn
  have := own_at_of (d := ByteArray.empty) h (i : Int) (by omega) (by omega)
  exact ⟨_, this.1, this.2⟩
end
end Go.Proofs.Ytpjpgcjhdbiepaa
end
/-! Rows of frames of the call's own; a decoder in memory. -/
section
namespace Go.Proofs.Ytpjpgcjhdbiepaa
open Go.RowKit Go.Kit CrcM Go.Proofs.YtpjpgcjhdbiepaaW.PrintWords
/-- A block whose cells are not of a row's elements is none of its blocks. -/
theorem own_not {w : World} {b : Nat} {e : TypeId} {z n k : Nat} {v : Value} {xs : List Value} {cs : Array Value} {t : TypeId} {fr : Nat × Nat} (h : w.ownsRow b e z v n xs) (hk : w.heap[k]? = some (.cells cs t fr)) (ht : t ≠ e) : ¬ rf v k := fun hr => by
  rcases h.2 with ⟨rfl, _⟩ | ⟨g, cap, cur, rfl, _, hh, _⟩
  · cases hr
  · have : g = k := by simpa [rf, Value.ownBlock] using hr
    subst this
    rw [hk] at hh
    injection hh with h1
    injection h1 with _ h2
    exact ht h2
theorem own_typed {w : World} {b : Nat} {e : TypeId} {z n k : Nat} {v : Value} {xs : List Value} (h : w.ownsRow b e z v n xs) (hr : rf v k) : ∃ cs, w.heap[k]? = some (.cells cs e (0, 0)) := by
  rcases h.2 with ⟨rfl, _⟩ | ⟨g, cap, cur, rfl, _, hh, _⟩
  · cases hr
  · have : g = k := by simpa [rf, Value.ownBlock] using hr
    subst this
    exact ⟨_, hh⟩
theorem own_only {w w1 : World} {b : Nat} {e : TypeId} {z n : Nat} {v : Value} {xs : List Value} {S : Nat → Prop} (h : w.ownsRow b e z v n xs) (ho : Only w w1 S) (hs : Sep (rf v) S) : w1.ownsRow b e z v n xs := by
  obtain ⟨h1, h2⟩ := h
  refine ⟨h1, ?_⟩
  rcases h2 with h2 | ⟨g, cap, cur, h3, hg, hh, r⟩
  · exact .inl h2
  · exact .inr ⟨g, cap, cur, h3, hg, ho.kept hh (hs g (by rw [h3]; rfl)), r⟩
theorem own_new {w : World} {b : Nat} {e : TypeId} {z n : Nat} {v : Value} {xs : List Value} (h : w.ownsRow b e z v n xs) : ∀ k, rf v k → b ≤ k ∧ k < w.heap.size := fun k hk => World.ownsRow.lt h k hk
section
variable {P : Program} {ops : Array Oper} {rest : List Oper} {o : Oper} {a : Act} {Q : Exit → Act → World → Prop}
/-- append(v, ys...), elements of several cells. -/
theorem push_cells {w0 W : World} (base : Nat) (hgd : o.guard = none) (s x : Operand) (t e : TypeId) (z : Value) (size bytes : Nat)
    (ho : o.op = .call { callee := .builtin .append, args := #[s, x], argTypes := #[t, t] })
    (ht : P.underlying t = some (.slice e)) (hinfo : (P.info? e).map (fun i => (i.zero, i.size, i.bytes)) = some (some z, size, bytes)) (hz : z.cells.size = size) (hs0 : 0 < size) (hb0 : 0 < bytes)
    (v v2 : Value) (n m : Nat) (xs ys : List Value) (hs : a.eval s = v) (hx : a.eval x = v2) (h1 : ∀ u ∈ ys, u.oneCell' = true) {b2 : Nat}
    (HO : W.ownsRow base e size v n xs) (HR : W.ownsRow b2 e size v2 m ys) (HB : Below base w0 W) (hbase : base ≤ W.heap.size) (hl : (n + m) * bytes ≤ 140737488355328)
    (h : ∀ v1 w1, w1.ownsRow base e size v1 (n + m) (xs ++ ys) → Below base w0 w1 → W.grownBy w1 v.ownBlock → (v1.ownBlock = v.ownBlock ∨ ∃ b, v1.ownBlock = some b ∧ W.heap.size ≤ b) → wpList P ops Q rest (a.put o.dst v1) w1) :
    wpList P ops Q (o :: rest) a W := by
  obtain ⟨i0, hi, hzz⟩ := Option.map_eq_some_iff.1 hinfo
  simp only [Prod.mk.injEq] at hzz
  obtain ⟨hz0, hz1, hz2⟩ := hzz
  have hlen : n + m ≤ 140737488355328 := Nat.le_trans (Nat.le_mul_of_pos_right _ hb0) hl
  have hrun : ∃ v1 w1, (Builtin.append_ #[t, t] o.type #[v, v2]).run P W = .ok v1 w1 ∧ w1.ownsRow base e size v1 (n + m) (xs ++ ys) ∧ W.grownBy w1 v.ownBlock ∧ (v1.ownBlock = v.ownBlock ∨ v1.ownBlock = some W.heap.size) := by
    rcases HR.2 with ⟨rfl, hm⟩ | ⟨g, cap, cur, rfl, _, hh, hnc, hcm, hsz, htk⟩
    · subst hm
      obtain rfl : ys = [] := List.eq_nil_of_length_eq_zero (by rw [HR.1]; simp)
      refine ⟨v, W, ?_, by simpa using HO, World.grownBy.refl W _, .inl rfl⟩
      rcases HO.2 with ⟨rfl, hn⟩ | ⟨g, cap, cur, rfl, _, _, hnc, _⟩
      · simp [Builtin.append_, run_underlying ht, sizeOf, typeInfo, hi, Builtin.lenOf, Builtin.firstCells]
      · simp [Builtin.append_, run_underlying ht, sizeOf, typeInfo, hi, Builtin.lenOf, Builtin.firstCells, hnc, storeCells]
    · obtain ⟨v1, w1, hr, h2, h3, _, h5⟩ := run_append_own_at (P := P) W base t o.type e i0 z size bytes ht hi hz0 hz1 hz2 hz hs0 v n xs HO ⟨g, 0, none⟩ m cap ys HR.1 (World.ownsRow.cells HR rfl) h1 (by simp only [maxLen]; omega) hl hbase
      exact ⟨v1, w1, hr, h2, h3, h5⟩
  obtain ⟨v1, w1, hr, hown, hg, hat⟩ := hrun
  refine wpList_plain hgd fun K hK => ?_
  unfold Oper.wp execOp
  simp only [ho, resolve, invoke, builtin, Sem.run_bind, Sem.run_pure, Result.andThen_ok, List.map_toArray, List.map_cons, List.map_nil, hs, hx, hr]
  refine hK _ _ (h v1 w1 hown (HB.grown hg hbase (own_base HO)) hg ?_)
  rcases hat with hat | hat
  · exact .inl hat
  · exact .inr ⟨_, hat, Nat.le_refl _⟩
end
/-- Frames' cells, one behind the other. -/
def fcells (L : List Fr) : List Value := L.flatMap Fr.cells
theorem fcells_append (L M : List Fr) : fcells (L ++ M) = fcells L ++ fcells M := by simp [fcells]
theorem fcells_one (L : List Fr) : ∀ u ∈ fcells L, u.oneCell' = true := fun u hu => by
  obtain ⟨f, _, hf⟩ := List.mem_flatMap.1 hu
  exact (Array.all_eq_true_iff_forall_mem.1 (arr_one f)) u (by simpa [Fr.arr] using hf)
theorem cells_len {f : Fr} (h : f.tool.length = 32) : f.cells.length = 42 := by have := Fr.arr_size f h; simpa [Fr.arr] using this
theorem frame_info : (Try.prog.info? 42).map (fun i => (i.zero, i.size, i.bytes)) = some (some (.agg (kF 0).arr), 42, 136) := by kernel_rfl
/-- A row of frames of the call's own, and their texts' rows. -/
structure OFs (w : World) (base : Nat) (v : Value) (L : List Fr) : Prop where
  row : w.ownsRow base 42 42 v L.length (fcells L)
  each : ∀ f ∈ L, f.tool.length = 32 ∧ OwnA w base f
theorem OwnA.ok {w : World} {base : Nat} {F : Fr} (h : OwnA w base F) (hT : F.tool.length = 32) : F.ok w := by
  obtain ⟨A, c, hv, hr, _, _⟩ := OT.open_ h
  injection hv with h1 h2 h3
  exact ⟨hT, by rw [h1, h2]; exact hr⟩
section
variable {w w1 : World} {base : Nat} {v : Value} {L : List Fr} {F : Fr} {S : Nat → Prop}
theorem OwnA.kept (h : OwnA w base F) {row : Option Nat} (hg : w.grownBy w1 row) (hne : ∀ k, row = some k → ∃ cs t, w.heap[k]? = some (.cells cs t (0, 0)) ∧ t ≠ 9) : OwnA w1 base F := by
  unfold OwnA at h ⊢
  refine OT.kept h hg ?_
  cases hr : (Value.slice F.A F.n F.c).ownBlock with
  | none => exact .inl rfl
  | some k =>
    right
    intro e
    obtain ⟨cs, t, hk, ht⟩ := hne k e.symm
    exact own_not h hk ht hr
theorem OwnA.typed (h : OwnA w base F) (ho : Only w w1 S) (hS : ∀ k, S k → ∃ cs t, w.heap[k]? = some (.cells cs t (0, 0)) ∧ t ≠ 9) : OwnA w1 base F :=
  ot_only h ho (fun k hk hs => by
    obtain ⟨cs, t, hc, ht⟩ := hS k hs
    exact own_not h hc ht hk)
theorem OFs.nil (w : World) (base : Nat) : OFs w base (.slice none 0 0) [] := ⟨World.ownsRow_nil _ _ _ _, by simp⟩
theorem OFs.below (h : OFs w base v L) (hb : Below w.heap.size w w1) : OFs w1 base v L := ⟨pw_own_below h.row hb, fun f hf => ⟨(h.each f hf).1, (h.each f hf).2.below hb⟩⟩
theorem OFs.less (h : OFs w base v L) {b : Nat} (hle : b ≤ base) : OFs w b v L := ⟨own_weaken h.row hle, fun f hf => ⟨(h.each f hf).1, (h.each f hf).2.less hle⟩⟩
theorem OFs.only (h : OFs w base v L) (ho : Only w w1 S) (hS : ∀ k, S k → ∃ cs t, w.heap[k]? = some (.cells cs t (0, 0)) ∧ t ≠ 42 ∧ t ≠ 9) : OFs w1 base v L :=
  ⟨own_only h.row ho (fun k hk hs => by obtain ⟨cs, t, hc, ht, _⟩ := hS k hs; exact own_not h.row hc ht hk), fun f hf => ⟨(h.each f hf).1, (h.each f hf).2.typed ho (fun k hk => by obtain ⟨cs, t, hc, _, ht⟩ := hS k hk; exact ⟨cs, t, hc, ht⟩)⟩⟩
theorem OFs.form (h : OFs w base v L) : ∃ A c, v = .slice A L.length c := by
  rcases h.row.2 with ⟨h1, h2⟩ | ⟨g, cap, cur, h1, _⟩
  · exact ⟨none, 0, by rw [h1, h2]⟩
  · exact ⟨_, _, h1⟩
theorem fcells_at : ∀ (L : List Fr) (i : Nat) (f : Fr) (j : Nat) (u : Value), (∀ f ∈ L, f.tool.length = 32) → L[i]? = some f → f.cells[j]? = some u → (fcells L)[i * 42 + j]? = some u
  | [], i, f, j, u, _, h, _ => by simp at h
  | g :: r, 0, f, j, u, hT, h, hj => by
    simp at h
    subst h
    have hl := cells_len (hT g List.mem_cons_self)
    have hlt : j < g.cells.length := by
      rcases Nat.lt_or_ge j g.cells.length with h | h
      · exact h
      · rw [List.getElem?_eq_none h] at hj; cases hj
    show (g.cells ++ fcells r)[0 * 42 + j]? = some u
    rw [Nat.zero_mul, Nat.zero_add, List.getElem?_append_left hlt]; exact hj
  | g :: r, i + 1, f, j, u, hT, h, hj => by
    have hl := cells_len (hT g List.mem_cons_self)
    show (g.cells ++ fcells r)[(i + 1) * 42 + j]? = some u
    rw [List.getElem?_append_right (by omega), hl, show (i + 1) * 42 + j - 42 = i * 42 + j by omega]
    exact fcells_at r i f j u (fun f hf => hT f (List.mem_cons_of_mem _ hf)) (by simpa using h) hj
/-- One frame of the row. -/
theorem OFs.at_ {A : Option Addr} {n c : Nat} (h : OFs w base (.slice A n c) L) (hn : n = L.length) (i : Nat) (hi : i < n) : ∃ g f, A = some ⟨g, 0, none⟩ ∧ L[i]? = some f ∧ f.tool.length = 32 ∧ OwnA w base f ∧ base ≤ g ∧ g < w.heap.size ∧ ∀ j u, f.cells[j]? = some u → w.cell? ⟨g, i * 42 + j, none⟩ = some u := by
  subst hn
  obtain ⟨g, cap, hv, hb, hl⟩ := World.ownsRow.form h.row (by omega)
  injection hv with h1 h2 h3
  subst h1
  have hf : L[i]? = some L[i] := List.getElem?_eq_getElem hi
  have he := h.each L[i] (List.getElem_mem hi)
  refine ⟨g, L[i], rfl, hf, he.1, he.2, hb, hl, fun j u hj => ?_⟩
  have := World.ownsRow.cells h.row (g := g) rfl (i * 42 + j) u (fcells_at L i L[i] j u (fun f hf => (h.each f hf).1) hf hj)
  rwa [add_plain] at this
end
section
variable {ops : Array Oper} {rest : List Oper} {o : Oper} {a : Act} {Q : Exit → Act → World → Prop} {w0 W : World} {v v2 : Value} {L M : List Fr}
/-- append(l, f). -/
theorem push_frame (base : Nat) (hgd : o.guard = none) (s x : Operand) (F : Fr) (hT : F.tool.length = 32)
    (ho : o.op = .call { callee := .builtin .append, args := #[s, x], argTypes := #[28, 28] }) (hs : a.eval s = v) (hx : a.eval x = .slice (some ⟨W.heap.size, 0, none⟩) 1 1)
    (HO : OFs W base v L) (HF : OwnA W base F) (HB : Below base w0 W) (hbase : base ≤ W.heap.size) (hl : (L.length + 1) * 136 ≤ 140737488355328)
    (h : ∀ v1 w1, OFs w1 base v1 (L ++ [F]) → Below base w0 w1 → W.grownBy w1 v.ownBlock → (v1.ownBlock = v.ownBlock ∨ ∃ b, v1.ownBlock = some b ∧ W.heap.size ≤ b) → wpList Try.prog ops Q rest (a.put o.dst v1) w1) :
    wpList Try.prog ops Q (o :: rest) a (W.alloc (.cells F.arr 42)) := by
  refine print_append_cells (ys := F.cells) base hgd s x 28 42 (.agg (kF 0).arr) 42 136 ho Try.underlying28 frame_info (by rfl) (by decide) (by decide) v L.length (fcells L) hs hx (cells_len hT) (fun u hu => (Array.all_eq_true_iff_forall_mem.1 (arr_one F)) u (by simpa [Fr.arr] using hu)) HO.row HB hbase hl (fun v1 w1 hown hB hg hat => ?_)
  have hk : ∀ k, v.ownBlock = some k → ∃ cs t, W.heap[k]? = some (.cells cs t (0, 0)) ∧ t ≠ 9 := fun k hk => by
    obtain ⟨cs, hc⟩ := own_typed HO.row hk
    exact ⟨cs, _, hc, by decide⟩
  refine h v1 w1 ⟨by simpa [fcells] using hown, fun f hf => ?_⟩ hB hg hat
  rcases List.mem_append.1 hf with hf | hf
  · exact ⟨(HO.each f hf).1, (HO.each f hf).2.kept hg hk⟩
  · simp at hf; subst hf; exact ⟨hT, HF.kept hg hk⟩
/-- append(l, m...). -/
theorem push_frames (base : Nat) (hgd : o.guard = none) (s x : Operand)
    (ho : o.op = .call { callee := .builtin .append, args := #[s, x], argTypes := #[28, 28] }) (hs : a.eval s = v) (hx : a.eval x = v2)
    (HO : OFs W base v L) (HF : OFs W base v2 M) (HB : Below base w0 W) (hbase : base ≤ W.heap.size) (hl : (L.length + M.length) * 136 ≤ 140737488355328)
    (h : ∀ v1 w1, OFs w1 base v1 (L ++ M) → Below base w0 w1 → W.grownBy w1 v.ownBlock → (v1.ownBlock = v.ownBlock ∨ ∃ b, v1.ownBlock = some b ∧ W.heap.size ≤ b) → wpList Try.prog ops Q rest (a.put o.dst v1) w1) :
    wpList Try.prog ops Q (o :: rest) a W := by
  refine push_cells base hgd s x 28 42 (.agg (kF 0).arr) 42 136 ho Try.underlying28 frame_info (by rfl) (by decide) (by decide) v v2 L.length M.length (fcells L) (fcells M) hs hx (fcells_one M) HO.row HF.row HB hbase hl (fun v1 w1 hown hB hg hat => ?_)
  have hk : ∀ k, v.ownBlock = some k → ∃ cs t, W.heap[k]? = some (.cells cs t (0, 0)) ∧ t ≠ 9 := fun k hk => by
    obtain ⟨cs, hc⟩ := own_typed HO.row hk
    exact ⟨cs, _, hc, by decide⟩
  refine h v1 w1 ⟨by rw [List.length_append, fcells_append]; exact hown, fun f hf => ?_⟩ hB hg hat
  rcases List.mem_append.1 hf with hf | hf
  · exact ⟨(HO.each f hf).1, (HO.each f hf).2.kept hg hk⟩
  · exact ⟨(HF.each f hf).1, (HF.each f hf).2.kept hg hk⟩
end
end Go.Proofs.Ytpjpgcjhdbiepaa
end
/-! The contract of the document's only. (mk_frza.py) -/
section
namespace Go.Kit
open Go.RowKit Go.Proofs.YtpjpgcjhdbiepaaW.PrintWords
namespace Fr
theorem lim_splice (T : List Value) (hT : T.length = 32) (a b c d e x y z u v w : Value) (R : List Value) : ([a, b, c, d] ++ (T ++ ([e] ++ ([x, y, z] ++ R)))).take 37 ++ [u, v, w] ++ ([a, b, c, d] ++ (T ++ ([e] ++ ([x, y, z] ++ R)))).drop (37 + 3) = [a, b, c, d] ++ (T ++ ([e] ++ ([u, v, w] ++ R))) := by
  have h0 : ∀ l : List Value, [a, b, c, d] ++ (T ++ ([e] ++ l)) = ([a, b, c, d] ++ (T ++ [e])) ++ l := fun l => by simp
  have h1 : ([a, b, c, d] ++ (T ++ [e])).length = 37 := by simp; omega
  rw [h0, h0, List.take_append_of_le_length (by omega), List.take_of_length_le (by omega)]
  rw [show (37 + 3 : Nat) = ([a, b, c, d] ++ (T ++ [e])).length + 3 by rw [h1]]
  rw [List.drop_append]
  simp [h1]
end Fr
end Go.Kit
namespace Go.Proofs.Ytpjpgcjhdbiepaa
open Go.RowKit Go.Kit Go.Proofs.YtpjpgcjhdbiepaaW.PrintWords
theorem storeAt_part {P : Program} (W : World) (g o : Nat) (ty t : TypeId) (cells cur : Array Value) (hg : W.heap[g]? = some (.cells cur t (0, 0))) (hfit : o + cells.size ≤ cur.size) (hi : (P.info? ty).map (·.size) = some cells.size) (h1 : cells.all (·.oneCell') = true) :
    (Instr.storeAt ty (.pointer (some ⟨g, o, none⟩)) (.agg cells)).run P W = .ok () (W.setRow g (cur.toList.take o ++ cells.toList ++ cur.toList.drop (o + cells.size)).toArray) := by
  have hst := run_storeCells_at (P := P) g o t cells.toList 0 cur W hg (by simpa using hfit) (fun v hv => (Array.all_eq_true_iff_forall_mem.1 h1) v (by simpa using hv))
  simp only [Instr.storeAt, Instr.sureAddr, Sem.run_bind, Sem.run_pure, Result.andThen_ok]
  cases hq : P.info? ty with
  | none => simp [hq] at hi
  | some i =>
    have hs : cells.size = i.size := by simp [hq] at hi; omega
    simp only [Nat.add_zero] at hst
    simp [storeVar, sizeOf, typeInfo, hq, Value.cells, hs, hst]
theorem store_int (x : Int) (W : World) (a : Addr) (u : Value) (hc : W.cell? a = some u) (hf : W.frozen? a = false) : (Instr.storeAt 3 (.pointer (some a)) (.int .i64 x)).run Try.prog W = .ok () (W.setCell a (.int .i64 x)) := by go_simp
theorem store_u64 (x : Int) (W : World) (a : Addr) (u : Value) (hc : W.cell? a = some u) (hf : W.frozen? a = false) : (Instr.storeAt 35 (.pointer (some a)) (.int .u64 x)).run Try.prog W = .ok () (W.setCell a (.int .u64 x)) := by go_simp
theorem store_txts (A : Option Addr) (n c : Nat) (W : World) (a : Addr) (u : Value) (hc : W.cell? a = some u) (hf : W.frozen? a = false) : (Instr.storeAt 40 (.pointer (some a)) (.slice A n c)).run Try.prog W = .ok () (W.setCell a (.slice A n c)) := by go_simp
theorem store_str (s : ByteArray) (W : World) (a : Addr) (u : Value) (hc : W.cell? a = some u) (hf : W.frozen? a = false) : (Instr.storeAt 9 (.pointer (some a)) (.string s)).run Try.prog W = .ok () (W.setCell a (.string s)) := by go_simp
theorem store_tool {W : World} {g : Nat} {f : Fr} (h : f.at_ 42 W g) (ts : List Int) (hl : ts.length = 32) : ∃ W' : World, (Instr.storeAt 37 (.pointer (some ⟨g, 4, none⟩)) (.agg (nums .u8 ts).toArray)).run Try.prog W = .ok () W' ∧ ({ f with tool := ts } : Fr).at_ 42 W' g ∧ Only W W' (fun k => k = g) := by
  have h2 : (nums .u8 ts).toArray.size = 32 := by simp [nums, hl]
  refine ⟨_, storeAt_part W g 4 37 42 _ f.arr h.blk (by rw [h2, Fr.arr_size f h.tool]; omega) ?_ ?_, ?_, Fr.only_row _ _ _⟩
  · rw [h2]; kernel_rfl
  · exact all_oneCell_toArray (nums_one _ _)
  · have := h.tooled ts hl
    simpa [List.append_assoc] using this
theorem store_lim {W : World} {g : Nat} {f : Fr} (h : f.at_ 42 W g) (k : Fr) : ∃ W' : World, (Instr.storeAt 39 (.pointer (some ⟨g, 37, none⟩)) (.agg k.lim.toArray)).run Try.prog W = .ok () W' ∧ ({ f with mo := k.mo, fu := k.fu, di := k.di } : Fr).at_ 42 W' g ∧ Only W W' (fun k => k = g) := by
  refine ⟨_, storeAt_part W g 37 39 42 _ f.arr h.blk (by rw [Fr.arr_size f h.tool]; show 37 + 3 ≤ 42; omega) (by show _ = some 3; kernel_rfl) (by simp [Fr.lim, Value.oneCell']), ?_, Fr.only_row _ _ _⟩
  refine ⟨?_, h.tool⟩
  rw [setRow_heap W g _ _ _ _ h.blk]
  exact congrArg (fun l : List Value => some (Obj.cells l.toArray 42 (0, 0))) (Fr.lim_splice (nums .u8 f.tool) (Fr.len32 h) _ _ _ _ _ _ _ _ _ _ _ _)
theorem kF_built (k : Int) (W : World) : (Instr.build 42 #[(0, .int .i64 k)]).run Try.prog W = .ok (.agg (kF k).arr) W := built_of (by show _ = _; kernel_rfl)
theorem load_u64 {W : World} {a : Addr} {v : Value} (h : W.cell? a = some v) : (Instr.loadAt 35 (.pointer (some a))).run Try.prog W = .ok v W := by go_simp
theorem load_txts {W : World} {a : Addr} {v : Value} (h : W.cell? a = some v) : (Instr.loadAt 40 (.pointer (some a))).run Try.prog W = .ok v W := by go_simp
theorem own_tool {f : Fr} (hf : f.tool.length = 32) : (ownG f).tool.length = 32 := by
  unfold ownG onlyG
  dsimp only
  split
  · exact hf
  split
  · rfl
  split
  · rfl
  split
  · rfl
  split <;> rfl
theorem own_is1 {f : Fr} (h : f.k = 1) : ({ kF f.k with v := f.v, s := f.s, tool := f.tool } : Fr) = ownG f := by unfold ownG onlyG; simp [h, only1, kF]
theorem own_is2 {f : Fr} (h : f.k = 2) : ({ kF f.k with id := f.id, mo := f.mo, fu := f.fu, di := f.di, A := f.A, n := f.n, c := f.c, args := f.args, body := f.body } : Fr) = ownG f := by unfold ownG onlyG; simp [h, only2, kF]
theorem own_is3 {f : Fr} (h : f.k = 3) : ({ kF f.k with id := f.id, st := f.st, body := f.body } : Fr) = ownG f := by unfold ownG onlyG; simp [h, only3, kF]
theorem own_is4 {f : Fr} (h : f.k = 4) : ({ kF f.k with id := f.id } : Fr) = ownG f := by unfold ownG onlyG; simp [h, only4, kF]
theorem own_is6 {f : Fr} (h : f.k = 6) : ({ kF f.k with body := f.body } : Fr) = ownG f := by unfold ownG onlyG; simp [h, only6, kF]
theorem own_is5 {f : Fr} (h : f.k ≠ 1 ∧ f.k ≠ 2 ∧ f.k ≠ 3 ∧ f.k ≠ 4 ∧ f.k ≠ 6) (h5 : f.k = 5) : kF f.k = ownG f := by unfold ownG onlyG; simp [h5, kF, noF]
/-- The document's frame that is being filled in, beside the one that is read. -/
structure Two (w W : World) (g g2 g3 : Nat) (f h : Fr) : Prop where
  bel : Below w.heap.size w W
  f : f.at_ 42 W g
  h : h.at_ 42 W g3
  z : ∃ Z : Array Value, Z.size = 42 ∧ W.heap[g2]? = some (.cells Z 42 (0, 0))
  n1 : ¬ g = g3
  n2 : ¬ g2 = g3
  base : w.heap.size ≤ g3
theorem Two.drew {w W : World} {g g2 g3 : Nat} {f h : Fr} (t : Two w W g g2 g3 f h) : Two w W.drew g g2 g3 f h := by
  have hb : Below W.heap.size W W.drew := below_drew (Below.refl _ _)
  obtain ⟨Z, hz, hk⟩ := t.z
  exact ⟨below_step t.bel hb, t.f.below hb, t.h.below hb, ⟨Z, hz, (hb.block _ (lt_of_block hk)).trans hk⟩, t.n1, t.n2, t.base⟩
theorem Two.step {w W W1 : World} {g g2 g3 : Nat} {f h h1 : Fr} (t : Two w W g g2 g3 f h) (ho : Only W W1 (fun k => k = g3)) (hh : h1.at_ 42 W1 g3) : Two w W1 g g2 g3 f h1 := by
  obtain ⟨Z, hz, hk⟩ := t.z
  exact ⟨Below.only t.bel ho t.bel.size (fun k e => by rw [e]; exact t.base), t.f.only ho t.n1, hh, ⟨Z, hz, ho.kept hk t.n2⟩, t.n1, t.n2, t.base⟩
attribute [-go_sem] Instr.build Instr.loadAt Instr.storeAt
set_option maxHeartbeats 8000000 in
set_option maxRecDepth 100000 in
theorem ronly_any (f : Fr) (hf : f.tool.length = 32) (hk5 : f.k ≠ 1 → f.k ≠ 2 → f.k ≠ 3 → f.k ≠ 4 → f.k ≠ 6 → f.k = 5) (w : World) : Calls Try.prog 30 #[f.val] w fun e w' => e = .returned (.agg (ownG f).arr) ∧ Below w.heap.size w w' := by
  have hszK := size_of (kF f.k) rfl
  have honeK := arr_one (kF f.k)
  have hasK := Fr.arr_size (kF f.k) rfl
  have hbl := kF_built f.k
  have hb := below_alloc (Below.refl w.heap.size w) (.cells f.arr 42)
  have hF := boxed hf w
  show Calls Try.prog _ #[.agg f.arr] w _
  go_enter Try.func30, Try.ntmps30
  go_upto_region 1 with (fail)
  have hbz := below_alloc hb (.cells #[.int .i64 0, .int .u64 0, .int .i64 0, .int .i64 0, .int .u8 0, .int .u8 0, .int .u8 0, .int .u8 0, .int .u8 0, .int .u8 0, .int .u8 0, .int .u8 0, .int .u8 0, .int .u8 0, .int .u8 0, .int .u8 0, .int .u8 0, .int .u8 0, .int .u8 0, .int .u8 0, .int .u8 0, .int .u8 0, .int .u8 0, .int .u8 0, .int .u8 0, .int .u8 0, .int .u8 0, .int .u8 0, .int .u8 0, .int .u8 0, .int .u8 0, .int .u8 0, .int .u8 0, .int .u8 0, .int .u8 0, .int .u8 0, .int .i64 0, .int .i64 0, .int .i64 0, .int .i64 0, .slice none 0 0, .string ⟨#[]⟩] 42)
  have hblz : ((w.alloc (.cells f.arr 42)).alloc (.cells #[.int .i64 0, .int .u64 0, .int .i64 0, .int .i64 0, .int .u8 0, .int .u8 0, .int .u8 0, .int .u8 0, .int .u8 0, .int .u8 0, .int .u8 0, .int .u8 0, .int .u8 0, .int .u8 0, .int .u8 0, .int .u8 0, .int .u8 0, .int .u8 0, .int .u8 0, .int .u8 0, .int .u8 0, .int .u8 0, .int .u8 0, .int .u8 0, .int .u8 0, .int .u8 0, .int .u8 0, .int .u8 0, .int .u8 0, .int .u8 0, .int .u8 0, .int .u8 0, .int .u8 0, .int .u8 0, .int .u8 0, .int .u8 0, .int .i64 0, .int .i64 0, .int .i64 0, .int .i64 0, .slice none 0 0, .string ⟨#[]⟩] 42)).heap[w.heap.size + 1]? = some (.cells #[.int .i64 0, .int .u64 0, .int .i64 0, .int .i64 0, .int .u8 0, .int .u8 0, .int .u8 0, .int .u8 0, .int .u8 0, .int .u8 0, .int .u8 0, .int .u8 0, .int .u8 0, .int .u8 0, .int .u8 0, .int .u8 0, .int .u8 0, .int .u8 0, .int .u8 0, .int .u8 0, .int .u8 0, .int .u8 0, .int .u8 0, .int .u8 0, .int .u8 0, .int .u8 0, .int .u8 0, .int .u8 0, .int .u8 0, .int .u8 0, .int .u8 0, .int .u8 0, .int .u8 0, .int .u8 0, .int .u8 0, .int .u8 0, .int .i64 0, .int .i64 0, .int .i64 0, .int .i64 0, .slice none 0 0, .string ⟨#[]⟩] 42 (0, 0)) := heap_alloc2_new w _ _
  have hF2 := hF.below (below_alloc (Below.refl _ _) (.cells #[.int .i64 0, .int .u64 0, .int .i64 0, .int .i64 0, .int .u8 0, .int .u8 0, .int .u8 0, .int .u8 0, .int .u8 0, .int .u8 0, .int .u8 0, .int .u8 0, .int .u8 0, .int .u8 0, .int .u8 0, .int .u8 0, .int .u8 0, .int .u8 0, .int .u8 0, .int .u8 0, .int .u8 0, .int .u8 0, .int .u8 0, .int .u8 0, .int .u8 0, .int .u8 0, .int .u8 0, .int .u8 0, .int .u8 0, .int .u8 0, .int .u8 0, .int .u8 0, .int .u8 0, .int .u8 0, .int .u8 0, .int .u8 0, .int .i64 0, .int .i64 0, .int .i64 0, .int .i64 0, .slice none 0 0, .string ⟨#[]⟩] 42))
  clear hb hF
  generalize (w.alloc (.cells f.arr 42)).alloc (.cells #[.int .i64 0, .int .u64 0, .int .i64 0, .int .i64 0, .int .u8 0, .int .u8 0, .int .u8 0, .int .u8 0, .int .u8 0, .int .u8 0, .int .u8 0, .int .u8 0, .int .u8 0, .int .u8 0, .int .u8 0, .int .u8 0, .int .u8 0, .int .u8 0, .int .u8 0, .int .u8 0, .int .u8 0, .int .u8 0, .int .u8 0, .int .u8 0, .int .u8 0, .int .u8 0, .int .u8 0, .int .u8 0, .int .u8 0, .int .u8 0, .int .u8 0, .int .u8 0, .int .u8 0, .int .u8 0, .int .u8 0, .int .u8 0, .int .i64 0, .int .i64 0, .int .i64 0, .int .i64 0, .slice none 0 0, .string ⟨#[]⟩] 42) = w1 at *
  obtain ⟨g2, hg2⟩ : ∃ g2, w.heap.size + 1 = g2 := ⟨_, rfl⟩
  have hg2b : w.heap.size ≤ g2 := by omega
  obtain ⟨g, hg⟩ : ∃ g, w.heap.size = g := ⟨_, rfl⟩
  rw [hg2] at hblz ⊢
  rw [hg] at hF2 ⊢
  clear hg hg2
  have hbz3 := below_alloc (Below.refl w1.heap.size w1) (.cells #[.int .i64 0, .int .u64 0, .int .i64 0, .int .i64 0, .int .u8 0, .int .u8 0, .int .u8 0, .int .u8 0, .int .u8 0, .int .u8 0, .int .u8 0, .int .u8 0, .int .u8 0, .int .u8 0, .int .u8 0, .int .u8 0, .int .u8 0, .int .u8 0, .int .u8 0, .int .u8 0, .int .u8 0, .int .u8 0, .int .u8 0, .int .u8 0, .int .u8 0, .int .u8 0, .int .u8 0, .int .u8 0, .int .u8 0, .int .u8 0, .int .u8 0, .int .u8 0, .int .u8 0, .int .u8 0, .int .u8 0, .int .u8 0, .int .i64 0, .int .i64 0, .int .i64 0, .int .i64 0, .slice none 0 0, .string ⟨#[]⟩] 42)
  have hblk := heap_alloc_new w1 (.cells #[.int .i64 0, .int .u64 0, .int .i64 0, .int .i64 0, .int .u8 0, .int .u8 0, .int .u8 0, .int .u8 0, .int .u8 0, .int .u8 0, .int .u8 0, .int .u8 0, .int .u8 0, .int .u8 0, .int .u8 0, .int .u8 0, .int .u8 0, .int .u8 0, .int .u8 0, .int .u8 0, .int .u8 0, .int .u8 0, .int .u8 0, .int .u8 0, .int .u8 0, .int .u8 0, .int .u8 0, .int .u8 0, .int .u8 0, .int .u8 0, .int .u8 0, .int .u8 0, .int .u8 0, .int .u8 0, .int .u8 0, .int .u8 0, .int .i64 0, .int .i64 0, .int .i64 0, .int .i64 0, .slice none 0 0, .string ⟨#[]⟩] 42)
  have h42 : (#[.int .i64 0, .int .u64 0, .int .i64 0, .int .i64 0, .int .u8 0, .int .u8 0, .int .u8 0, .int .u8 0, .int .u8 0, .int .u8 0, .int .u8 0, .int .u8 0, .int .u8 0, .int .u8 0, .int .u8 0, .int .u8 0, .int .u8 0, .int .u8 0, .int .u8 0, .int .u8 0, .int .u8 0, .int .u8 0, .int .u8 0, .int .u8 0, .int .u8 0, .int .u8 0, .int .u8 0, .int .u8 0, .int .u8 0, .int .u8 0, .int .u8 0, .int .u8 0, .int .u8 0, .int .u8 0, .int .u8 0, .int .u8 0, .int .i64 0, .int .i64 0, .int .i64 0, .int .i64 0, .slice none 0 0, .string ⟨#[]⟩] : Array Value).size = (kF f.k).arr.size := by rw [hasK]; rfl
  have e0 := load_int hF2.c0
  go_upto_region 2 with ((with_reducible show wpList _ _ _ (Oper.mk none _ _ _ _ _ :: _) _ _); refine wpList_store_row rfl 42 (.tmp 3) (.tmp 6) rfl w1.heap.size (kF f.k).arr rfl rfl 42 _ hblk hszK h42 honeK ?_)
  have hge := hbz.size
  have hF3 := (hF2.below hbz3).only (Fr.only_row _ w1.heap.size (kF f.k).arr) (fun e => by have := hF2.lt; omega)
  have hZ3 := (Fr.only_row _ w1.heap.size (kF f.k).arr).kept ((hbz3.block _ (lt_of_block hblz)).trans hblz) (fun e => by have := lt_of_block hblz; omega)
  have hK3 : (kF f.k).at_ 42 _ w1.heap.size := ⟨setRow_heap _ w1.heap.size _ (kF f.k).arr _ _ hblk, rfl⟩
  have hb3 := below_setRow (below_step hbz hbz3) hge (kF f.k).arr
  have hn1 : ¬ g = w1.heap.size := fun e => by have := hF2.lt; omega
  have hn2 : ¬ g2 = w1.heap.size := fun e => by have := lt_of_block hblz; omega
  clear hbz hbz3 hblk h42 e0 hF2 hblz hszK honeK hasK hbl
  generalize (w1.alloc (.cells #[.int .i64 0, .int .u64 0, .int .i64 0, .int .i64 0, .int .u8 0, .int .u8 0, .int .u8 0, .int .u8 0, .int .u8 0, .int .u8 0, .int .u8 0, .int .u8 0, .int .u8 0, .int .u8 0, .int .u8 0, .int .u8 0, .int .u8 0, .int .u8 0, .int .u8 0, .int .u8 0, .int .u8 0, .int .u8 0, .int .u8 0, .int .u8 0, .int .u8 0, .int .u8 0, .int .u8 0, .int .u8 0, .int .u8 0, .int .u8 0, .int .u8 0, .int .u8 0, .int .u8 0, .int .u8 0, .int .u8 0, .int .u8 0, .int .i64 0, .int .i64 0, .int .i64 0, .int .i64 0, .slice none 0 0, .string ⟨#[]⟩] 42)).setRow w1.heap.size (kF f.k).arr = w3 at *
  generalize w1.heap.size = g3 at *
  have T : Two w w3 g g2 g3 f (kF f.k) := ⟨hb3, hF3, hK3, ⟨_, rfl, hZ3⟩, hn1, hn2, hge⟩
  clear hb3 hF3 hK3 hZ3 hn1 hn2 hge
  have e0 := load_int T.f.c0
  have hif : (Try.prog.info? 42).map (·.size) = some (ownG f).cells.length := by
    rw [frame_size]
    have hO : (ownG f).tool.length = 32 := own_tool hf
    have := Fr.arr_size (ownG f) hO; simp [Fr.arr] at this; rw [this]
  have hszO := size_of (ownG f) (own_tool hf)
  have honeO := arr_one (ownG f)
  have hasO := Fr.arr_size (ownG f) (own_tool hf)
  by_cases k1 : f.k = 1
  · have b1 : (f.k == 1) = true := by rw [beq_iff_eq]; exact k1
    have S0 := T.drew.f
    have l1 : ∀ W, f.at_ 42 W g → (Instr.loadAt 3 (.pointer (some ⟨g, 2, none⟩))).run Try.prog W = .ok (.int .i64 f.v) W := fun W h => load_int h.c2
    have l2 : ∀ W, f.at_ 42 W g → (Instr.loadAt 3 (.pointer (some ⟨g, 3, none⟩))).run Try.prog W = .ok (.int .i64 f.s) W := fun W h => load_int h.c3
    have l3 : ∀ W, f.at_ 42 W g → (Instr.loadAt 37 (.pointer (some ⟨g, 4, none⟩))).run Try.prog W = .ok (.agg (nums .u8 f.tool).toArray) W := fun W h => tool_at h
    have s1 := store_int f.v
    have q1 := T.h.c2
    have f1 := T.h.fz 2
    have T1 := T.step (Fr.only_at _ g3 2 (.int .i64 f.v)) (T.h.set2 f.v)
    have ST1 := T1.drew.f
    have ST1x := T1.f
    have s2 := store_int f.s
    have q2 := T1.h.c3
    have f2 := T1.h.fz 3
    have T2 := T1.step (Fr.only_at _ g3 3 (.int .i64 f.s)) (T1.h.set3 f.s)
    have ST2 := T2.drew.f
    have ST2x := T2.f
    have T3d := T2.drew
    have ST3d := T3d.f
    obtain ⟨W3, hst3, hA3, ho3⟩ := store_tool T3d.h f.tool hf
    have T3 := T3d.step ho3 hA3
    have ST3 := T3.drew.f
    have ST3x := T3.f
    have HE : Hid (_ = ownG f) := Lib.hid (own_is1 k1)
    have hl := load_frame (ownG f) hif _ g3 (HE.out ▸ T3.h)
    obtain ⟨Z, hZ, hblk⟩ := T3.z
    have hbel := T3.bel
    have hZs : Z.size = (ownG f).arr.size := by rw [hZ, hasO]
    clear hif HE hf T
    go_upto_region 4 with (fail)
    refine wp_region_held_drew (S := fun W => f.at_ 42 W g) (by kernel_rfl) (S0) (fun hHeld => ?_)
    refine wpAnyH_take (i := 0) (v := (.pointer (some ⟨g, 2, none⟩))) (oi := ⟨_, _, _, _, _, _⟩) rfl (by kernel_rfl) (by kernel_rfl) (by kernel_rfl) (fun _ _ _ h => h) (Or.inl ⟨by kernel_rfl, fun W hS => ?_⟩) (by assumption) ?_
    · dsimp only at hS; go_split_ands; go_simp
    simp only [Act.put, List.setIfInBounds_toArray, List.set_cons_zero, List.set_cons_succ]
    refine wpAnyH_take (i := 1) (v := (.int .i64 f.v)) (oi := ⟨_, _, _, _, _, _⟩) rfl (by kernel_rfl) (by kernel_rfl) (by kernel_rfl) (fun _ _ _ h => h) (Or.inl ⟨by kernel_rfl, fun W hS => ?_⟩) (by assumption) ?_
    · dsimp only at hS; go_split_ands; go_simp
    simp only [Act.put, List.setIfInBounds_toArray, List.set_cons_zero, List.set_cons_succ]
    refine wpAnyH_take (i := 2) (v := (.pointer (some ⟨g, 3, none⟩))) (oi := ⟨_, _, _, _, _, _⟩) rfl (by kernel_rfl) (by kernel_rfl) (by kernel_rfl) (fun _ _ _ h => h) (Or.inl ⟨by kernel_rfl, fun W hS => ?_⟩) (by assumption) ?_
    · dsimp only at hS; go_split_ands; go_simp
    simp only [Act.put, List.setIfInBounds_toArray, List.set_cons_zero, List.set_cons_succ]
    refine wpAnyH_take (i := 3) (v := (.int .i64 f.s)) (oi := ⟨_, _, _, _, _, _⟩) rfl (by kernel_rfl) (by kernel_rfl) (by kernel_rfl) (fun _ _ _ h => h) (Or.inl ⟨by kernel_rfl, fun W hS => ?_⟩) (by assumption) ?_
    · dsimp only at hS; go_split_ands; go_simp
    simp only [Act.put, List.setIfInBounds_toArray, List.set_cons_zero, List.set_cons_succ]
    refine wpAnyH_take (i := 4) (v := (.pointer (some ⟨g, 4, none⟩))) (oi := ⟨_, _, _, _, _, _⟩) rfl (by kernel_rfl) (by kernel_rfl) (by kernel_rfl) (fun _ _ _ h => h) (Or.inl ⟨by kernel_rfl, fun W hS => ?_⟩) (by assumption) ?_
    · dsimp only at hS; go_split_ands; go_simp
    simp only [Act.put, List.setIfInBounds_toArray, List.set_cons_zero, List.set_cons_succ]
    refine wpAnyH_take (i := 5) (v := (.agg (nums .u8 f.tool).toArray)) (oi := ⟨_, _, _, _, _, _⟩) rfl (by kernel_rfl) (by kernel_rfl) (by kernel_rfl) (fun _ _ _ h => h) (Or.inl ⟨by kernel_rfl, fun W hS => ?_⟩) (by assumption) ?_
    · dsimp only at hS; go_split_ands; go_simp
    simp only [Act.put, List.setIfInBounds_toArray, List.set_cons_zero, List.set_cons_succ]
    refine wpAnyH_take (i := 6) (v := (.pointer (some ⟨g3, 2, none⟩))) (oi := ⟨_, _, _, _, _, _⟩) rfl (by kernel_rfl) (by kernel_rfl) (by kernel_rfl) (fun _ _ _ h => h) (Or.inl ⟨by kernel_rfl, fun W hS => ?_⟩) (by assumption) ?_
    · dsimp only at hS; go_split_ands; go_simp
    simp only [Act.put, List.setIfInBounds_toArray, List.set_cons_zero, List.set_cons_succ]
    refine wpAnyH_ready (rs := [7]) (by kernel_rfl) (by decide) (AllReadyH.cons (o := ⟨_, _, _, _, _, _⟩) rfl (fun K hK => ?_) AllReadyH.nil)
    rw [if_pos (by kernel_rfl)]
    go_simp
    refine hK.out _ _ (ST1) (fun hHeld => ?_)
    clear hK K
    try simp only [Act.put, List.setIfInBounds_toArray, List.set_cons_zero, List.set_cons_succ]
    refine wpAnyH_take (i := 8) (v := (.pointer (some ⟨g3, 3, none⟩))) (oi := ⟨_, _, _, _, _, _⟩) rfl (by kernel_rfl) (by kernel_rfl) (by kernel_rfl) (fun _ _ _ h => h) (Or.inl ⟨by kernel_rfl, fun W hS => ?_⟩) (by assumption) ?_
    · dsimp only at hS; go_split_ands; go_simp
    simp only [Act.put, List.setIfInBounds_toArray, List.set_cons_zero, List.set_cons_succ]
    refine wpAnyH_ready (rs := [9]) (by kernel_rfl) (by decide) (AllReadyH.cons (o := ⟨_, _, _, _, _, _⟩) rfl (fun K hK => ?_) AllReadyH.nil)
    rw [if_pos (by kernel_rfl)]
    go_simp
    refine hK.out _ _ (ST2) (fun hHeld => ?_)
    clear hK K
    try simp only [Act.put, List.setIfInBounds_toArray, List.set_cons_zero, List.set_cons_succ]
    refine wpAnyH_take (i := 10) (v := (.pointer (some ⟨g3, 4, none⟩))) (oi := ⟨_, _, _, _, _, _⟩) rfl (by kernel_rfl) (by kernel_rfl) (by kernel_rfl) (fun _ _ _ h => h) (Or.inl ⟨by kernel_rfl, fun W hS => ?_⟩) (by assumption) ?_
    · dsimp only at hS; go_split_ands; go_simp
    simp only [Act.put, List.setIfInBounds_toArray, List.set_cons_zero, List.set_cons_succ]
    refine wpAnyH_ready (rs := [11]) (by kernel_rfl) (by decide) (AllReadyH.cons (o := ⟨_, _, _, _, _, _⟩) rfl (fun K hK => ?_) AllReadyH.nil)
    rw [if_pos (by kernel_rfl)]
    go_simp
    refine hK.out _ _ (ST3x) (fun hHeld => ?_)
    clear hK K
    try simp only [Act.put, List.setIfInBounds_toArray, List.set_cons_zero, List.set_cons_succ]
    refine wpAnyH_done (by kernel_rfl) ?_ _
    try simp only [Act.put, List.setIfInBounds_toArray, List.set_cons_zero, List.set_cons_succ]
    go_wp2_with ((with_reducible show wpList _ _ _ (Oper.mk none _ _ _ _ _ :: _) _ _); refine wpList_store_row rfl 42 (.tmp 2) (.tmp 55) rfl g2 (ownG f).arr rfl rfl 42 Z hblk hszO hZs honeO ?_)
    exact bodyPost_ret (v := .agg (ownG f).arr) (results_cell_row rfl _ _ g2 42 (ownG f).arr (0, 0) _ rfl (setRow_heap _ _ _ _ _ _ hblk) Try.underlying42 rfl hszO) rfl ⟨rfl, below_setRow hbel hg2b _⟩
  have b1 : (f.k == 1) = false := by rw [beq_eq_false_iff_ne]; exact k1
  by_cases k2 : f.k = 2
  · have b2 : (f.k == 2) = true := by rw [beq_iff_eq]; exact k2
    have S0 := T.drew.f
    have l1 : ∀ W, f.at_ 42 W g → (Instr.loadAt 35 (.pointer (some ⟨g, 1, none⟩))).run Try.prog W = .ok (.int .u64 f.id) W := fun W h => load_u64 h.c1
    have l2 : ∀ W, f.at_ 42 W g → (Instr.loadAt 39 (.pointer (some ⟨g, 37, none⟩))).run Try.prog W = .ok (.agg f.lim.toArray) W := fun W h => lim_at h
    have l3 : ∀ W, f.at_ 42 W g → (Instr.loadAt 40 (.pointer (some ⟨g, 40, none⟩))).run Try.prog W = .ok (.slice f.A f.n f.c) W := fun W h => load_txts h.c40
    have l4 : ∀ W, f.at_ 42 W g → (Instr.loadAt 9 (.pointer (some ⟨g, 41, none⟩))).run Try.prog W = .ok (.string f.body) W := fun W h => load_str h.c41
    have s1 := store_u64 f.id
    have q1 := T.h.c1
    have f1 := T.h.fz 1
    have T1 := T.step (Fr.only_at _ g3 1 (.int .u64 f.id)) (T.h.set1 f.id)
    have ST1 := T1.drew.f
    have ST1x := T1.f
    have T2d := T1.drew
    have ST2d := T2d.f
    obtain ⟨W2, hst2, hA2, ho2⟩ := store_lim T2d.h f
    have T2 := T2d.step ho2 hA2
    have ST2 := T2.drew.f
    have ST2x := T2.f
    have s3 := store_txts f.A f.n f.c
    have q3 := T2.h.c40
    have f3 := T2.h.fz 40
    have T3 := T2.step (Fr.only_at _ g3 40 (.slice f.A f.n f.c)) (T2.h.set40 f.A f.n f.c f.args)
    have ST3 := T3.drew.f
    have ST3x := T3.f
    have s4 := store_str f.body
    have q4 := T3.h.c41
    have f4 := T3.h.fz 41
    have T4 := T3.step (Fr.only_at _ g3 41 (.string f.body)) (T3.h.set41 f.body)
    have ST4 := T4.drew.f
    have ST4x := T4.f
    have HE : Hid (_ = ownG f) := Lib.hid (own_is2 k2)
    have hl := load_frame (ownG f) hif _ g3 (HE.out ▸ T4.h)
    obtain ⟨Z, hZ, hblk⟩ := T4.z
    have hbel := T4.bel
    have hZs : Z.size = (ownG f).arr.size := by rw [hZ, hasO]
    clear hif HE hf T
    go_upto_region 6 with (fail)
    refine wp_region_held_drew (S := fun W => f.at_ 42 W g) (by kernel_rfl) (S0) (fun hHeld => ?_)
    refine wpAnyH_take (i := 0) (v := (.pointer (some ⟨g, 1, none⟩))) (oi := ⟨_, _, _, _, _, _⟩) rfl (by kernel_rfl) (by kernel_rfl) (by kernel_rfl) (fun _ _ _ h => h) (Or.inl ⟨by kernel_rfl, fun W hS => ?_⟩) (by assumption) ?_
    · dsimp only at hS; go_split_ands; go_simp
    simp only [Act.put, List.setIfInBounds_toArray, List.set_cons_zero, List.set_cons_succ]
    refine wpAnyH_take (i := 1) (v := (.int .u64 f.id)) (oi := ⟨_, _, _, _, _, _⟩) rfl (by kernel_rfl) (by kernel_rfl) (by kernel_rfl) (fun _ _ _ h => h) (Or.inl ⟨by kernel_rfl, fun W hS => ?_⟩) (by assumption) ?_
    · dsimp only at hS; go_split_ands; go_simp
    simp only [Act.put, List.setIfInBounds_toArray, List.set_cons_zero, List.set_cons_succ]
    refine wpAnyH_take (i := 2) (v := (.pointer (some ⟨g, 37, none⟩))) (oi := ⟨_, _, _, _, _, _⟩) rfl (by kernel_rfl) (by kernel_rfl) (by kernel_rfl) (fun _ _ _ h => h) (Or.inl ⟨by kernel_rfl, fun W hS => ?_⟩) (by assumption) ?_
    · dsimp only at hS; go_split_ands; go_simp
    simp only [Act.put, List.setIfInBounds_toArray, List.set_cons_zero, List.set_cons_succ]
    refine wpAnyH_take (i := 3) (v := (.agg f.lim.toArray)) (oi := ⟨_, _, _, _, _, _⟩) rfl (by kernel_rfl) (by kernel_rfl) (by kernel_rfl) (fun _ _ _ h => h) (Or.inl ⟨by kernel_rfl, fun W hS => ?_⟩) (by assumption) ?_
    · dsimp only at hS; go_split_ands; go_simp
    simp only [Act.put, List.setIfInBounds_toArray, List.set_cons_zero, List.set_cons_succ]
    refine wpAnyH_take (i := 4) (v := (.pointer (some ⟨g, 40, none⟩))) (oi := ⟨_, _, _, _, _, _⟩) rfl (by kernel_rfl) (by kernel_rfl) (by kernel_rfl) (fun _ _ _ h => h) (Or.inl ⟨by kernel_rfl, fun W hS => ?_⟩) (by assumption) ?_
    · dsimp only at hS; go_split_ands; go_simp
    simp only [Act.put, List.setIfInBounds_toArray, List.set_cons_zero, List.set_cons_succ]
    refine wpAnyH_take (i := 5) (v := (.slice f.A f.n f.c)) (oi := ⟨_, _, _, _, _, _⟩) rfl (by kernel_rfl) (by kernel_rfl) (by kernel_rfl) (fun _ _ _ h => h) (Or.inl ⟨by kernel_rfl, fun W hS => ?_⟩) (by assumption) ?_
    · dsimp only at hS; go_split_ands; go_simp
    simp only [Act.put, List.setIfInBounds_toArray, List.set_cons_zero, List.set_cons_succ]
    refine wpAnyH_take (i := 6) (v := (.pointer (some ⟨g, 41, none⟩))) (oi := ⟨_, _, _, _, _, _⟩) rfl (by kernel_rfl) (by kernel_rfl) (by kernel_rfl) (fun _ _ _ h => h) (Or.inl ⟨by kernel_rfl, fun W hS => ?_⟩) (by assumption) ?_
    · dsimp only at hS; go_split_ands; go_simp
    simp only [Act.put, List.setIfInBounds_toArray, List.set_cons_zero, List.set_cons_succ]
    refine wpAnyH_take (i := 7) (v := (.string f.body)) (oi := ⟨_, _, _, _, _, _⟩) rfl (by kernel_rfl) (by kernel_rfl) (by kernel_rfl) (fun _ _ _ h => h) (Or.inl ⟨by kernel_rfl, fun W hS => ?_⟩) (by assumption) ?_
    · dsimp only at hS; go_split_ands; go_simp
    simp only [Act.put, List.setIfInBounds_toArray, List.set_cons_zero, List.set_cons_succ]
    refine wpAnyH_take (i := 8) (v := (.pointer (some ⟨g3, 1, none⟩))) (oi := ⟨_, _, _, _, _, _⟩) rfl (by kernel_rfl) (by kernel_rfl) (by kernel_rfl) (fun _ _ _ h => h) (Or.inl ⟨by kernel_rfl, fun W hS => ?_⟩) (by assumption) ?_
    · dsimp only at hS; go_split_ands; go_simp
    simp only [Act.put, List.setIfInBounds_toArray, List.set_cons_zero, List.set_cons_succ]
    refine wpAnyH_ready (rs := [9]) (by kernel_rfl) (by decide) (AllReadyH.cons (o := ⟨_, _, _, _, _, _⟩) rfl (fun K hK => ?_) AllReadyH.nil)
    rw [if_pos (by kernel_rfl)]
    go_simp
    refine hK.out _ _ (ST1) (fun hHeld => ?_)
    clear hK K
    try simp only [Act.put, List.setIfInBounds_toArray, List.set_cons_zero, List.set_cons_succ]
    refine wpAnyH_take (i := 10) (v := (.pointer (some ⟨g3, 37, none⟩))) (oi := ⟨_, _, _, _, _, _⟩) rfl (by kernel_rfl) (by kernel_rfl) (by kernel_rfl) (fun _ _ _ h => h) (Or.inl ⟨by kernel_rfl, fun W hS => ?_⟩) (by assumption) ?_
    · dsimp only at hS; go_split_ands; go_simp
    simp only [Act.put, List.setIfInBounds_toArray, List.set_cons_zero, List.set_cons_succ]
    refine wpAnyH_ready (rs := [11]) (by kernel_rfl) (by decide) (AllReadyH.cons (o := ⟨_, _, _, _, _, _⟩) rfl (fun K hK => ?_) AllReadyH.nil)
    rw [if_pos (by kernel_rfl)]
    go_simp
    refine hK.out _ _ (ST2x) (fun hHeld => ?_)
    clear hK K
    try simp only [Act.put, List.setIfInBounds_toArray, List.set_cons_zero, List.set_cons_succ]
    refine wpAnyH_take (i := 12) (v := (.pointer (some ⟨g3, 40, none⟩))) (oi := ⟨_, _, _, _, _, _⟩) rfl (by kernel_rfl) (by kernel_rfl) (by kernel_rfl) (fun _ _ _ h => h) (Or.inl ⟨by kernel_rfl, fun W hS => ?_⟩) (by assumption) ?_
    · dsimp only at hS; go_split_ands; go_simp
    simp only [Act.put, List.setIfInBounds_toArray, List.set_cons_zero, List.set_cons_succ]
    refine wpAnyH_ready (rs := [13]) (by kernel_rfl) (by decide) (AllReadyH.cons (o := ⟨_, _, _, _, _, _⟩) rfl (fun K hK => ?_) AllReadyH.nil)
    rw [if_pos (by kernel_rfl)]
    go_simp
    refine hK.out _ _ (ST3x) (fun hHeld => ?_)
    clear hK K
    try simp only [Act.put, List.setIfInBounds_toArray, List.set_cons_zero, List.set_cons_succ]
    refine wpAnyH_take (i := 14) (v := (.pointer (some ⟨g3, 41, none⟩))) (oi := ⟨_, _, _, _, _, _⟩) rfl (by kernel_rfl) (by kernel_rfl) (by kernel_rfl) (fun _ _ _ h => h) (Or.inl ⟨by kernel_rfl, fun W hS => ?_⟩) (by assumption) ?_
    · dsimp only at hS; go_split_ands; go_simp
    simp only [Act.put, List.setIfInBounds_toArray, List.set_cons_zero, List.set_cons_succ]
    refine wpAnyH_ready (rs := [15]) (by kernel_rfl) (by decide) (AllReadyH.cons (o := ⟨_, _, _, _, _, _⟩) rfl (fun K hK => ?_) AllReadyH.nil)
    rw [if_pos (by kernel_rfl)]
    go_simp
    refine hK.out _ _ (ST4x) (fun hHeld => ?_)
    clear hK K
    try simp only [Act.put, List.setIfInBounds_toArray, List.set_cons_zero, List.set_cons_succ]
    refine wpAnyH_done (by kernel_rfl) ?_ _
    try simp only [Act.put, List.setIfInBounds_toArray, List.set_cons_zero, List.set_cons_succ]
    go_wp2_with ((with_reducible show wpList _ _ _ (Oper.mk none _ _ _ _ _ :: _) _ _); refine wpList_store_row rfl 42 (.tmp 2) (.tmp 55) rfl g2 (ownG f).arr rfl rfl 42 Z hblk hszO hZs honeO ?_)
    exact bodyPost_ret (v := .agg (ownG f).arr) (results_cell_row rfl _ _ g2 42 (ownG f).arr (0, 0) _ rfl (setRow_heap _ _ _ _ _ _ hblk) Try.underlying42 rfl hszO) rfl ⟨rfl, below_setRow hbel hg2b _⟩
  have b2 : (f.k == 2) = false := by rw [beq_eq_false_iff_ne]; exact k2
  by_cases k3 : f.k = 3
  · have b3 : (f.k == 3) = true := by rw [beq_iff_eq]; exact k3
    have S0 := T.drew.f
    have l1 : ∀ W, f.at_ 42 W g → (Instr.loadAt 35 (.pointer (some ⟨g, 1, none⟩))).run Try.prog W = .ok (.int .u64 f.id) W := fun W h => load_u64 h.c1
    have l2 : ∀ W, f.at_ 42 W g → (Instr.loadAt 3 (.pointer (some ⟨g, 36, none⟩))).run Try.prog W = .ok (.int .i64 f.st) W := fun W h => load_int h.c36
    have l3 : ∀ W, f.at_ 42 W g → (Instr.loadAt 9 (.pointer (some ⟨g, 41, none⟩))).run Try.prog W = .ok (.string f.body) W := fun W h => load_str h.c41
    have s1 := store_u64 f.id
    have q1 := T.h.c1
    have f1 := T.h.fz 1
    have T1 := T.step (Fr.only_at _ g3 1 (.int .u64 f.id)) (T.h.set1 f.id)
    have ST1 := T1.drew.f
    have ST1x := T1.f
    have s2 := store_int f.st
    have q2 := T1.h.c36
    have f2 := T1.h.fz 36
    have T2 := T1.step (Fr.only_at _ g3 36 (.int .i64 f.st)) (T1.h.set36 f.st)
    have ST2 := T2.drew.f
    have ST2x := T2.f
    have s3 := store_str f.body
    have q3 := T2.h.c41
    have f3 := T2.h.fz 41
    have T3 := T2.step (Fr.only_at _ g3 41 (.string f.body)) (T2.h.set41 f.body)
    have ST3 := T3.drew.f
    have ST3x := T3.f
    have T9 := T3.drew
    have ST9 := T9.f
    have HE : Hid (_ = ownG f) := Lib.hid (own_is3 k3)
    have hl := load_frame (ownG f) hif _ g3 (HE.out ▸ T9.h)
    obtain ⟨Z, hZ, hblk⟩ := T9.z
    have hbel := T9.bel
    have hZs : Z.size = (ownG f).arr.size := by rw [hZ, hasO]
    clear hif HE hf T
    go_upto_region 8 with (fail)
    go_region_held3 (fun W => f.at_ 42 W g) (assumption) (fail)
    all_goals
      go_wp2_with ((with_reducible show wpList _ _ _ (Oper.mk none _ _ _ _ _ :: _) _ _); refine wpList_store_row rfl 42 (.tmp 2) (.tmp 55) rfl g2 (ownG f).arr rfl rfl 42 Z hblk hszO hZs honeO ?_)
      exact bodyPost_ret (v := .agg (ownG f).arr) (results_cell_row rfl _ _ g2 42 (ownG f).arr (0, 0) _ rfl (setRow_heap _ _ _ _ _ _ hblk) Try.underlying42 rfl hszO) rfl ⟨rfl, below_setRow hbel hg2b _⟩
  have b3 : (f.k == 3) = false := by rw [beq_eq_false_iff_ne]; exact k3
  by_cases k4 : f.k = 4
  · have b4 : (f.k == 4) = true := by rw [beq_iff_eq]; exact k4
    have l1 := load_u64 T.f.c1
    have s1 := store_u64 f.id
    have q1 := T.h.c1
    have f1 := T.h.fz 1
    have T1 := T.step (Fr.only_at _ g3 1 (.int .u64 f.id)) (T.h.set1 f.id)
    have HE : Hid (_ = ownG f) := Lib.hid (own_is4 k4)
    have hl := load_frame (ownG f) hif _ g3 (HE.out ▸ T1.h)
    obtain ⟨Z, hZ, hblk⟩ := T1.z
    have hbel := T1.bel
    have hZs : Z.size = (ownG f).arr.size := by rw [hZ, hasO]
    clear hif HE hf T
    go_wp2_with ((with_reducible show wpList _ _ _ (Oper.mk none _ _ _ _ _ :: _) _ _); refine wpList_store_row rfl 42 (.tmp 2) (.tmp 55) rfl g2 (ownG f).arr rfl rfl 42 Z hblk hszO hZs honeO ?_)
    exact bodyPost_ret (v := .agg (ownG f).arr) (results_cell_row rfl _ _ g2 42 (ownG f).arr (0, 0) _ rfl (setRow_heap _ _ _ _ _ _ hblk) Try.underlying42 rfl hszO) rfl ⟨rfl, below_setRow hbel hg2b _⟩
  have b4 : (f.k == 4) = false := by rw [beq_eq_false_iff_ne]; exact k4
  by_cases k6 : f.k = 6
  · have b6 : (f.k == 6) = true := by rw [beq_iff_eq]; exact k6
    have l1 := load_str T.f.c41
    have s1 := store_str f.body
    have q1 := T.h.c41
    have f1 := T.h.fz 41
    have T1 := T.step (Fr.only_at _ g3 41 (.string f.body)) (T.h.set41 f.body)
    have HE : Hid (_ = ownG f) := Lib.hid (own_is6 k6)
    have hl := load_frame (ownG f) hif _ g3 (HE.out ▸ T1.h)
    obtain ⟨Z, hZ, hblk⟩ := T1.z
    have hbel := T1.bel
    have hZs : Z.size = (ownG f).arr.size := by rw [hZ, hasO]
    clear hif HE hf T
    go_wp2_with ((with_reducible show wpList _ _ _ (Oper.mk none _ _ _ _ _ :: _) _ _); refine wpList_store_row rfl 42 (.tmp 2) (.tmp 55) rfl g2 (ownG f).arr rfl rfl 42 Z hblk hszO hZs honeO ?_)
    exact bodyPost_ret (v := .agg (ownG f).arr) (results_cell_row rfl _ _ g2 42 (ownG f).arr (0, 0) _ rfl (setRow_heap _ _ _ _ _ _ hblk) Try.underlying42 rfl hszO) rfl ⟨rfl, below_setRow hbel hg2b _⟩
  have b6 : (f.k == 6) = false := by rw [beq_eq_false_iff_ne]; exact k6
  have k5 := And.intro k1 (And.intro k2 (And.intro k3 (And.intro k4 k6)))
  have HE : Hid (_ = ownG f) := Lib.hid (own_is5 k5 (hk5 k1 k2 k3 k4 k6))
  have hl := load_frame (ownG f) hif _ g3 (HE.out ▸ T.h)
  obtain ⟨Z, hZ, hblk⟩ := T.z
  have hbel := T.bel
  have hZs : Z.size = (ownG f).arr.size := by rw [hZ, hasO]
  clear hif HE hf T
  go_wp2_with ((with_reducible show wpList _ _ _ (Oper.mk none _ _ _ _ _ :: _) _ _); refine wpList_store_row rfl 42 (.tmp 2) (.tmp 55) rfl g2 (ownG f).arr rfl rfl 42 Z hblk hszO hZs honeO ?_)
  exact bodyPost_ret (v := .agg (ownG f).arr) (results_cell_row rfl _ _ g2 42 (ownG f).arr (0, 0) _ rfl (setRow_heap _ _ _ _ _ _ hblk) Try.underlying42 rfl hszO) rfl ⟨rfl, below_setRow hbel hg2b _⟩
end Go.Proofs.Ytpjpgcjhdbiepaa
end
