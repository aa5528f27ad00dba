/- The contracts of Open and of the document's Open. -/
import Derived.Test.YtjpbanhbdddanaaCrcJ
import Derived.Test.YtjpbanhbdddanaaKit2
import Derived.Deep.RegionHeld3
import Derived.Deep.DeepMust
import Derived.Laws.Cover3
namespace Go.Proofs.Ytjpbanhbdddanaa
open Go.RowKit Go.Kit CrcM Go.Proofs.YtjpbanhbdddanaaW.PrintWords

/-- What Open answers. -/
def openR (xs : List Int) : List Int × Int :=
  if xs.length < 4 then ([], 4) else if b4 (more 0#32 (xs.take (xs.length - 4))) = xs.drop (xs.length - 4) then (xs.take (xs.length - 4), 0) else ([], 71)
theorem openR_short {xs : List Int} (h : xs.length < 4) : openR xs = ([], 4) := if_pos h
theorem openR_good {xs : List Int} {N : Nat} (h : xs.length = N + 4) (e : b4 (more 0#32 (xs.take N)) = xs.drop N) : openR xs = (xs.take N, 0) := by
  unfold openR; rw [if_neg (by omega), show xs.length - 4 = N from by omega, if_pos e]
theorem openR_bad {xs : List Int} {N : Nat} (h : xs.length = N + 4) (e : b4 (more 0#32 (xs.take N)) ≠ xs.drop N) : openR xs = ([], 71) := by
  unfold openR; rw [if_neg (by omega), show xs.length - 4 = N from by omega, if_neg e]
theorem last_four {xs : List Int} {N : Nat} (h : xs.length = N + 4) : ∃ y0 y1 y2 y3, xs.drop N = [y0, y1, y2, y3] := by
  have hl : (xs.drop N).length = 4 := by rw [List.length_drop]; omega
  match hd : xs.drop N, hl with
  | [y0, y1, y2, y3], _ => exact ⟨y0, y1, y2, y3, rfl⟩
theorem RB.take_ {w : World} {A : Option Addr} {n : Nat} {xs : List Int} (h : RB w A n xs) (k : Nat) (hk : k ≤ n) : RB w A k (xs.take k) := ⟨h.rd.take_ k hk, h.byt.take k⟩
theorem RBs.drew {w : World} {A : Option Addr} {n : Nat} {L : List (List Int)} (h : RBs w A n L) : RBs w.drew A n L := ⟨h.len, h.max, fun i hi => by
  obtain ⟨ad, Ai, ci, xs, e, hc, hx, hr⟩ := h.at0 i hi
  exact ⟨ad, Ai, ci, xs, e, hc, hx, hr.drew⟩⟩
theorem Sum_of {A : Option Addr} {n : Nat} {xs : List Int} {w : World} (h : RBs w A n [xs]) (c : Nat) :
    Calls Try.prog 14 #[.slice A n c] w fun e w' => ∃ s : W, e = .returned (.int .u32 (s.toNat : Int)) ∧ Hid (s = more 0#32 xs) ∧ Below w.heap.size w w' := by
  refine (Sum_any _ n c [xs] _ h).mono ?_
  rintro e w1 ⟨rfl, hb1⟩
  exact ⟨_, rfl, Lib.hid (by simp), hb1⟩
theorem openS {w w1 : World} {a0 a1 a2 a3 : Addr} {v0 v1 v2 v3 : Value} (h0 : w.cell? a0 = some v0) (h1 : w.cell? a1 = some v1) (h2 : w.cell? a2 = some v2) (h3 : w.cell? a3 = some v3) (hb : Below w.heap.size w w1) :
    Below w.heap.size w w1 ∧ w1.cell? a0 = some v0 ∧ w1.cell? a1 = some v1 ∧ w1.cell? a2 = some v2 ∧ w1.cell? a3 = some v3 :=
  ⟨hb, pw_cell_below hb h0, pw_cell_below hb h1, pw_cell_below hb h2, pw_cell_below hb h3⟩
def sameL (l m : List Int) : Bool := decide (l = m)
set_option maxHeartbeats 2000000 in
set_option maxRecDepth 100000 in
theorem Open_any (A : Option Addr) (len cap : Nat) (xs : List Int) (w : World) (hx : RB w A len xs) (hcap : len ≤ cap) (hl : len ≤ 140737488355000) :
    Calls Try.prog 22 #[.slice A len cap] w fun e w' => ∃ v ys err, e = .returned (.tuple #[v, .int .i64 err]) ∧ OB 5 w' w.heap.size v ys ∧ Hid ((ys, err) = openR xs) ∧ Below w.heap.size w w' := by
  by_cases h4 : len < 4
  · have HF : Hid (([], 4) = openR xs) := (openR_short (by rw [hx.len]; exact h4)).symm
    go_enter Try.func22, Try.ntmps22
    go_wp2_with fail
    go_ret2
    exact ⟨_, _, _, rfl, OB.nil _ _ _, HF, Below.refl _ _⟩
  · obtain ⟨N, rfl⟩ : ∃ N, len = N + 4 := ⟨len - 4, by omega⟩
    obtain ⟨y0, y1, y2, y3, hd⟩ := last_four hx.len
    obtain ⟨ad, rfl, hcells⟩ := hx.rd.2.2 (by omega)
    have hget : ∀ j, xs.getD (N + j) 0 = (xs.drop N).getD j 0 := fun j => by simp [List.getD_eq_getElem?_getD, List.getElem?_drop]
    have c0 : w.cell? (ad.add N) = some (.int .u8 y0) := by rw [hcells N (by omega)]; have := hget 0; rw [Nat.add_zero] at this; rw [this, hd]; rfl
    have c1 : w.cell? ⟨(ad.add N).block, (ad.add N).off + 1, none⟩ = some (.int .u8 y1) := by rw [← add_field ad N 1 (by omega), hcells (N + 1) (by omega), hget 1, hd]; rfl
    have c2 : w.cell? ⟨(ad.add N).block, (ad.add N).off + 2, none⟩ = some (.int .u8 y2) := by rw [← add_field ad N 2 (by omega), hcells (N + 2) (by omega), hget 2, hd]; rfl
    have c3 : w.cell? ⟨(ad.add N).block, (ad.add N).off + 3, none⟩ = some (.int .u8 y3) := by rw [← add_field ad N 3 (by omega), hcells (N + 3) (by omega), hget 3, hd]; rfl
    have HD := Lib.hid hd
    clear hd hget hcells
    have hcN : ¬ cap = N := by omega
    go_enter Try.func22, Try.ntmps22
    go_wp2_with fail
    have hxN := RB.take_ hx N (by omega)
    have harr : ∀ (W : World) (a : Option Addr) (c : Nat), (Instr.arrayAt 31 (.slice a 4 c)).run Try.prog W = .ok (.pointer a) W := fun W a c => run_arrayAt W 31 5 4 a 4 c Try.underlying31 (by omega)
    have heq : ∀ (W : World) (x0 x1 x2 x3 : Int), (Op.equalIn 10000 31 (.agg #[.int .u8 x0, .int .u8 x1, .int .u8 x2, .int .u8 x3]) (.agg #[.int .u8 y0, .int .u8 y1, .int .u8 y2, .int .u8 y3])).run Try.prog W = .ok (sameL [x0, x1, x2, x3] [y0, y1, y2, y3]) W := by
      intro W x0 x1 x2 x3
      obtain ⟨i0, hi, hz0, hz1, hz2⟩ := info_parts u8_info
      exact run_equalIn_nums (P := Try.prog) (w := W) 9998 [x0, x1, x2, x3] [y0, y1, y2, y3] Try.underlying31 hi hz1 Try.underlying5 rfl rfl
    have b1 : (0 : Int) ≤ (N : Int) := by omega
    have b2 : (N : Int) ≤ (cap : Int) := by omega
    have b3 : (N : Int) ≤ (N : Int) + 4 := by omega
    have b4 : (N : Int) + 4 ≤ (cap : Int) := by omega
    go_region_held3 (fun w' => Below w.heap.size w w' ∧ w'.cell? (ad.add N) = some (.int .u8 y0) ∧ w'.cell? ⟨(ad.add N).block, (ad.add N).off + 1, none⟩ = some (.int .u8 y1) ∧ w'.cell? ⟨(ad.add N).block, (ad.add N).off + 2, none⟩ = some (.int .u8 y2) ∧ w'.cell? ⟨(ad.add N).block, (ad.add N).off + 3, none⟩ = some (.int .u8 y3))
      (first
        | assumption
        | (go_split_ands; refine ⟨?_, ?_, ?_, ?_, ?_⟩ <;> assumption)
        | exact openS c0 c1 c2 c3 (below_drew (Below.refl _ _))
        | (go_split_ands; refine openS c0 c1 c2 c3 (below_step ?_ hb3); assumption)
        | (go_split_ands; refine openS c0 c1 c2 c3 (below_step ?_ hb2); assumption)
        | (go_split_ands; refine openS c0 c1 c2 c3 (below_alloc ?_ _); assumption)
        | exact openS c0 c1 c2 c3 (below_drew (below_alloc (Below.refl _ _) _)))
      (first
        | (go_at_call 14; go_split_ands; go_must (refine (Sum_of (RBs.drew (RBs.one _ hxN)) _).mono ?_); rintro e w2 ⟨s, rfl, HS, hb2⟩)
        | (go_at_call 17; refine (Bytes_any s _ rfl _).mono ?_; rintro e w3 ⟨x0, x1, x2, x3, rfl, HB, hb3⟩))
    all_goals
      clear harr heq c0 c1 c2 c3 hcN
      go_split_ands
      by_cases hq : [x0, x1, x2, x3] = [y0, y1, y2, y3]
      · have HF : Hid ((xs.take N, 0) = openR xs) := (openR_good hx.len (by rw [← HS.out, HB.out, HD.out]; exact hq)).symm
        have hqd : sameL [x0, x1, x2, x3] [y0, y1, y2, y3] = true := decide_eq_true hq
        rw [hqd]
        clear hq hqd
        obtain ⟨i0, hi, hz0, hz1, hz2⟩ := info_parts u8_info
        have hmk := fun W => run_make_rowN 24 5 i0 _ Try.underlying24 hi hz0 N N (Nat.le_refl _) (by rw [hz2]; omega) (by omega) W (N : Int) (N : Int) rfl rfl
        simp only [hz1, Value.cells, Nat.mul_one, made_u8] at hmk
        clear hi hz0 hz1 hz2
        go_wp2_with (refine wpList_copy_bytes (w := w) rfl (.tmp 26) (.tmp 27) 24 5 rfl Try.underlying24 u8_size (some ad) N N (N + 4) cap xs _ rfl rfl ((hx.below (by assumption)).alloc _) (by omega) (heap_alloc_new _ _) (Nat.le_refl _) (by omega) (below_alloc (by assumption) _) (Below.size (by assumption)) ?_)
        intro w9 hO hb9
        go_wp2_with fail
        go_ret2
        exact ⟨_, _, _, rfl, hO, HF, hb9⟩
      · have HF : Hid (([], 71) = openR xs) := (openR_bad hx.len (by rw [← HS.out, HB.out, HD.out]; exact hq)).symm
        have hqd : sameL [x0, x1, x2, x3] [y0, y1, y2, y3] = false := decide_eq_false hq
        rw [hqd]
        clear hq hqd
        go_wp2_with fail
        go_ret2
        exact ⟨_, _, _, rfl, OB.nil _ _ _, HF, by assumption⟩
end Go.Proofs.Ytjpbanhbdddanaa
