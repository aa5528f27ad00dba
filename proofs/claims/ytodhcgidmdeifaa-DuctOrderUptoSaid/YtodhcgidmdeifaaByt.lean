/- Bytes: make, bytes.Equal, cut rows. -/
import Derived.Test.YtodhcgidmdeifaaProg
import Derived.Test.YtodhcgidmdeifaaKit3
import Derived.Deep.RegionHeld3
import Derived.Deep.RegionLaw
import Derived.Deep.DeepMust
import Derived.Laws.Cover3
namespace Go.Proofs.Ytodhcgidmdeifaa
open Go.RowKit Go.Kit Go.Proofs.YtodhcgidmdeifaaW.PrintWords
theorem u8_info : (Try.prog.info? 5).map (fun i => (i.zero, i.size, i.bytes)) = some (some (.int .u8 0), 1, 1) := by kernel_rfl
theorem bytes_back (l : List Int) (hl : Byt l) : (l.map fun n => UInt8.ofNat n.toNat).map (fun b => (b.toNat : Int)) = l := by
  rw [List.map_map]
  conv => rhs; rw [← List.map_id l]
  apply List.map_congr_left
  intro x hx
  have := hl x hx
  simp [UInt8.toNat_ofNat']
  omega
theorem strOf_list (xs : List Int) : (strOfNums xs).toList = xs.map fun n => UInt8.ofNat n.toNat := by
  rw [ByteArray.toList_eq]; simp [strOfNums]
theorem strOf_inj {xs ys : List Int} (hx : Byt xs) (hy : Byt ys) : ((strOfNums xs).toList == (strOfNums ys).toList) = decide (xs = ys) := by
  rw [strOf_list, strOf_list]
  by_cases h : xs = ys
  · subst h; simp
  · have hne : (xs.map fun n => UInt8.ofNat n.toNat) ≠ (ys.map fun n => UInt8.ofNat n.toNat) := by
      intro e
      apply h
      rw [← bytes_back xs hx, ← bytes_back ys hy, e]
    rw [decide_eq_false h]
    exact beq_eq_false_iff_ne.2 hne
set_option maxHeartbeats 400000 in
theorem Equal_any (A B : Option Addr) (la ca lb cb : Nat) (xs ys : List Int) (w : World) (hx : RB w A la xs) (hy : RB w B lb ys) :
    Calls Try.prog 13 #[.slice A la ca, .slice B lb cb] w fun e w' => ∃ b, e = .returned (.bool b) ∧ Hid (b = decide (xs = ys)) ∧ w' = w := by
  have ka := string_of_reads (P := Try.prog) (c := ca) Try.underlying22 Try.underlying5 Try.underlying9 hx.rd
  have kb := string_of_reads (P := Try.prog) (c := cb) Try.underlying22 Try.underlying5 Try.underlying9 hy.rd
  have HQ := Lib.hid (strOf_inj hx.byt hy.byt)
  generalize strOfNums xs = sx at *
  generalize strOfNums ys = sy at *
  go_enter Try.func13, Try.ntmps13
  go_wp2_with fail
  go_ret
  exact ⟨_, rfl, HQ, rfl⟩
theorem Equal_same {A B : Option Addr} {la ca lb cb : Nat} {xs ys : List Int} {w : World} (hx : RB w A la xs) (hy : RB w B lb ys) (h : xs = ys) :
    Calls Try.prog 13 #[.slice A la ca, .slice B lb cb] w fun e w' => e = .returned (.bool true) ∧ w' = w := by
  refine (Equal_any A B la ca lb cb xs ys w hx hy).mono ?_
  rintro e w1 ⟨b, rfl, hb, rfl⟩
  exact ⟨by rw [hb.out]; simp [h], rfl⟩

theorem run_make_rowN (t e : TypeId) (i : TypeInfo) (z : Value) (ht : Try.prog.underlying t = some (.slice e)) (hi : Try.prog.info? e = some i) (hz : i.zero = some z)
    (n c : Nat) (hnc : n ≤ c) (hbytes : i.bytes * c ≤ 281474976710656) (h63 : c ≤ 9223372036854775807) (w : World) (l k : Int) (hl : l = (n : Int)) (hk : k = (c : Int)) :
    (Instr.makeSlice t (.int .i64 l) (.int .i64 k)).run Try.prog w = .ok (.slice (some ⟨w.heap.size, 0, none⟩) n c) (w.alloc (.cells (madeCells z.cells (c * i.size)) e)) := by
  subst hl
  subst hk
  have hb : (i.bytes : Int) * (c : Int) ≤ 281474976710656 := by
    have h : ((i.bytes * c : Nat) : Int) ≤ 281474976710656 := by omega
    rwa [Int.natCast_mul] at h
  have hr := run_make (P := Try.prog) w t e i z ht hi hz .i64 .i64 n c (by omega) (by omega) hb (by omega)
  simp only [Int.toNat_natCast] at hr
  exact hr
theorem u8_size : (Try.prog.info? 5).map (·.size) = some 1 := by kernel_rfl
theorem made_u8 (c : Nat) : madeCells #[Value.int .u8 0] c = (nums .u8 (List.replicate c 0)).toArray := by
  apply Array.ext
  · simp [size_madeCells, nums]
  · intro i h1 h2; simp [madeCells, nums, Nat.mod_one]
theorem mk_bytes (n c : Nat) (hnc : n ≤ c) (hc : c ≤ 281474976710656) (W : World) (l k : Int) (hl : l = (n : Int)) (hk : k = (c : Int)) :
    (Instr.makeSlice 22 (.int .i64 l) (.int .i64 k)).run Try.prog W = .ok (.slice (some ⟨W.heap.size, 0, none⟩) n c) (W.alloc (.cells (nums .u8 (List.replicate c 0)).toArray 5)) := by
  obtain ⟨i0, hi, hz0, hz1, hz2⟩ := info_parts u8_info
  have := run_make_rowN 22 5 i0 _ Try.underlying22 hi hz0 n c hnc (by rw [hz2]; omega) (by omega) W l k hl hk
  simpa only [hz1, Value.cells, Nat.mul_one, made_u8] using this
/-- A fresh row with room. -/
theorem OB.fresh (w : World) (c : Nat) (hc : c ≤ 9223372036854775807) : OB 5 (w.alloc (.cells (nums .u8 (List.replicate c 0)).toArray 5)) w.heap.size (.slice (some ⟨w.heap.size, 0, none⟩) 0 c) [] :=
  OB.of_block (rest := nums .u8 (List.replicate c 0)) (Nat.le_refl _) (heap_alloc_new w _) rfl (by simp [nums]) hc Byt.nil
theorem RB.take_ {w : World} {A : Option Addr} {n : Nat} {xs : List Int} (h : RB w A n xs) (k : Nat) (hk : k ≤ n) : RB w A k (xs.take k) := ⟨h.rd.take_ k hk, h.byt.take k⟩
/-- What stands behind m bytes. -/
theorem cut_bytes (A : Option Addr) (n c m : Nat) (hm : m ≤ n) (hc : n ≤ c) : ∃ A' : Option Addr, (∀ W : World, (Instr.slice 22 (.slice A n c) (some (.int .i64 (m : Int))) none none).run Try.prog W = .ok (.slice A' (n - m) (c - m)) W) ∧
    ∀ (w : World) (xs : List Int), RB w A n xs → RB w A' (n - m) (xs.drop m) := by
  obtain ⟨i0, hi, hz0, hz1, hz2⟩ := info_parts u8_info
  obtain ⟨A', h1, h2⟩ := print_cut (P := Try.prog) 22 5 .i64 Try.underlying22 hi hz1 A n c m hm
  exact ⟨A', h1, fun w xs h => ⟨h2 w .u8 xs hc h.rd, h.byt.drop m⟩⟩
/-- A list of byte slices that is read, with their capacities. -/
structure RBc (w : World) (A : Option Addr) (n : Nat) (L : List (List Int)) : Prop where
  len : L.length = n
  max : n ≤ 9223372036854775807
  at0 : ∀ i, i < n → ∃ ad Ai ci xs, A = some ad ∧ w.cell? (ad.add i) = some (.slice Ai xs.length ci) ∧ L[i]? = some xs ∧ RB w Ai xs.length xs ∧ xs.length ≤ ci
theorem RBc.at_ {w : World} {A : Option Addr} {n : Nat} {L : List (List Int)} (h : RBc w A n L) (i : Nat) (hi : i < n) :
    ∃ ad Ai ni ci xs, A = some ad ∧ w.cell? (ad.add i) = some (.slice Ai ni ci) ∧ RB w Ai ni xs ∧ Hid (L[i]? = some xs) ∧ ni ≤ ci := by
  obtain ⟨ad, Ai, ci, xs, e, hc, hx, hr, hk⟩ := h.at0 i hi
  exact ⟨ad, Ai, xs.length, ci, xs, e, hc, hr, hx, hk⟩
theorem RBc.rbs {w : World} {A : Option Addr} {n : Nat} {L : List (List Int)} (h : RBc w A n L) : RBs w A n L :=
  ⟨h.len, h.max, fun i hi => by obtain ⟨ad, Ai, ci, xs, e, hc, hx, hr, _⟩ := h.at0 i hi; exact ⟨ad, Ai, ci, xs, e, hc, hx, hr⟩⟩
theorem RBc.below {w w1 : World} {A : Option Addr} {n : Nat} {L : List (List Int)} (h : RBc w A n L) (hb : Below w.heap.size w w1) : RBc w1 A n L :=
  ⟨h.len, h.max, fun i hi => by
    obtain ⟨ad, Ai, ci, xs, e, hc, hx, hr, hk⟩ := h.at0 i hi
    exact ⟨ad, Ai, ci, xs, e, pw_cell_below hb hc, hx, hr.below hb, hk⟩⟩
theorem RBc.nil (w : World) : RBc w none 0 [] := ⟨rfl, by omega, fun i hi => absurd hi (by omega)⟩
/-- One slice, whose box lies at g. -/
theorem RBc.one {w : World} {A : Option Addr} {n cap g : Nat} {xs : List Int} {t : TypeId} (h : RB w A n xs) (hc : n ≤ cap) (hg : w.heap[g]? = some (.cells #[.slice A n cap] t (0, 0))) : RBc w (some ⟨g, 0, none⟩) 1 [xs] := by
  refine ⟨rfl, by omega, fun i hi => ?_⟩
  obtain rfl : i = 0 := by omega
  refine ⟨_, A, cap, xs, rfl, ?_, rfl, ?_, ?_⟩
  · rw [h.len, show (⟨g, 0, none⟩ : Addr).add 0 = ⟨g, 0, none⟩ from rfl]; exact cell_of_row w g 0 _ _ _ hg
  · rw [h.len]; exact h
  · rw [h.len]; exact hc
end Go.Proofs.Ytodhcgidmdeifaa
