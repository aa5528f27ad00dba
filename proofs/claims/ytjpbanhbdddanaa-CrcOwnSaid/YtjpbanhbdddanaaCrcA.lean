/- The contracts of package crc's own functions: step, the table, over, More, Sum. -/
import Derived.Test.YtjpbanhbdddanaaProg
import Derived.Test.YtjpbanhbdddanaaCrcMath
import Derived.Test.YtjpbanhbdddanaaKit
namespace Go.Proofs.Ytjpbanhbdddanaa
open Go.RowKit Go.Kit CrcM Go.Proofs.YtjpbanhbdddanaaW.PrintWords

theorem u32_lt (c : W) : (c.toNat : Int) < 4294967296 := by have := c.isLt; omega
theorem and_one (c : W) : bits .and .u32 (c.toNat : Int) 1 = if c.getLsbD 0 then 1 else 0 := by
  have := u32_and_nat c.toNat 1 (by have := c.isLt; omega) (by omega)
  rw [show ((1 : Nat) : Int) = 1 from rfl] at this
  rw [this, Nat.and_one_is_mod, BitVec.getLsbD, Nat.testBit_zero]
  by_cases h : c.toNat % 2 = 1 <;> simp [h]; omega
theorem shr_one (c : W) : ((c.toNat : Nat) : Int) / (2 : Int) = ((c >>> 1).toNat : Int) := by
  rw [BitVec.toNat_ushiftRight, Nat.shiftRight_eq_div_pow]; omega
theorem shr_eight (c : W) : ((c.toNat : Nat) : Int) / (256 : Int) = ((c >>> 8).toNat : Int) := by
  rw [BitVec.toNat_ushiftRight, Nat.shiftRight_eq_div_pow]; omega
theorem xor_w (c d : W) : bits .xor .u32 (c.toNat : Int) (d.toNat : Int) = ((c ^^^ d).toNat : Int) := by
  rw [u32_xor_nat _ _ (by have := c.isLt; omega) (by have := d.isLt; omega), BitVec.toNat_xor]
theorem step_yes (c : W) (h : c.getLsbD 0 = true) : bits .xor .u32 (((c.toNat : Nat) : Int) / (2 : Int)) 2197175160 = ((M c).toNat : Int) := by
  rw [shr_one, show (2197175160 : Int) = (poly.toNat : Int) from rfl, xor_w, M, if_pos h]
theorem step_no (c : W) (h : c.getLsbD 0 = false) : ((c.toNat : Nat) : Int) / (2 : Int) = ((M c).toNat : Int) := by
  rw [shr_one, M, if_neg (by rw [h]; simp)]
theorem Mn_less (k : Nat) (hk : k < 8) (d : W) : Mn (8 - k) d = Mn (8 - (k + 1)) (M d) := by
  rw [show 8 - k = (8 - (k + 1)) + 1 from by omega]; rfl

set_option maxHeartbeats 400000 in
theorem step_any (c : W) (n : Int) (hn : n = (c.toNat : Int)) (w : World) :
    Calls Try.prog 32 #[.int .u32 n] w fun e w' => e = .returned (.int .u32 ((Mn 8 c).toNat : Int)) ∧ w' = w := by
  subst hn
  go_enter Try.func32, Try.ntmps32
  go_wp2
  go_loop [0, 3] (fun v0 v3 => ∃ (d : W) (k : Nat), k ≤ 8 ∧ v0 = .int .u32 (d.toNat : Int) ∧ v3 = .int .i64 (k : Int) ∧ Hid (Mn 8 c = Mn (8 - k) d)) (fun _ i => 8 - (intOf i).toNat)
  case atStart => exact ⟨c, 0, by omega, rfl, rfl, rfl⟩
  case round =>
    obtain ⟨d, k, hk, rfl, rfl, HD⟩ := hrel
    have h1 := and_one d
    by_cases hlt : k < 8
    · have HE : Hid (Mn 8 c = Mn (8 - (k + 1)) (M d)) := (HD.out).trans (Mn_less k hlt d)
      cases hb : d.getLsbD 0
      · rw [hb] at h1
        have HS := Lib.hid (step_no d hb)
        clear hb
        go_wp2
        go_round
        case rel => exact ⟨M d, k + 1, by omega, by rw [← HS.out], by simp, HE⟩
        case measure => simp [intOf]; omega
      · rw [hb] at h1
        have HS := Lib.hid (step_yes d hb)
        clear hb
        go_wp2
        go_round
        case rel => exact ⟨M d, k + 1, by omega, by rw [← HS.out], by simp, HE⟩
        case measure => simp [intOf]; omega
    · have HE : Hid (Mn 8 c = d) := by rw [HD.out, show 8 - k = 0 from by omega]; rfl
      go_wp2
      go_ret
      exact ⟨by rw [HE.out]; rfl, rfl⟩

/-! The table -/
def tabV (j : Nat) : Value := .int .u32 ((Mn 8 (BitVec.ofNat 32 j)).toNat : Int)
def tabC (i : Nat) : Array Value := Array.ofFn (n := 256) fun j => if j.val < i then tabV j.val else .int .u32 0
theorem tabC_zero : tabC 0 = Array.replicate 256 (.int .u32 0) := by
  apply Array.ext
  · simp [tabC]
  · intro i h1 h2; simp [tabC]
theorem tabC_size (i : Nat) : (tabC i).size = 256 := by simp [tabC]
theorem tabC_set (i : Nat) : (tabC i).setIfInBounds i (tabV i) = tabC (i + 1) := by
  apply Array.ext
  · simp [tabC]
  · intro j h1 h2
    have hj : j < (tabC i).size := by simpa using h1
    rw [Array.getElem_setIfInBounds hj]
    by_cases e : i = j
    · subst e; simp [tabC]
    · simp only [if_neg e, tabC, Array.getElem_ofFn]
      have : (j < i + 1) = (j < i) := by simp; omega
      simp [this]
theorem tabC_one (i : Nat) : (tabC i).all (·.oneCell') = true := by
  rw [Array.all_eq_true]
  intro j h
  simp only [tabC, Array.getElem_ofFn]
  split <;> rfl
theorem tabC_get (j : Nat) (hj : j < 256) : (tabC 256)[j]? = some (tabV j) := by
  rw [Array.getElem?_eq_getElem (by rw [tabC_size]; exact hj)]
  simp [tabC]
theorem info_tab : (Try.prog.info? 58).map (fun i => (i.zero, i.size)) = some (some (.agg (Array.replicate 256 (.int .u32 0))), 256) := by kernel_rfl

set_option maxHeartbeats 400000 in
set_option maxRecDepth 100000 in
theorem table_any (w : World) :
    Calls Try.prog 33 #[] w fun e w' => e = .returned (.agg (tabC 256)) ∧ Below w.heap.size w w' := by
  have hz58 := (zero_of_info info_tab).1
  have hi58 := (zero_of_info info_tab).2
  have HI := Lib.hid hi58
  clear hi58
  rw [← tabC_zero] at hz58
  go_enter Try.func33, Try.ntmps33
  go_wp2
  clear hz58
  go_loopg [3] 256 (fun g v3 wx => ∃ i : Nat, i + g = 256 ∧ v3 = .int .i64 i ∧ wx = (w.alloc (.cells (tabC 0) 58)).alloc (.cells (tabC i) 58))
  case atStart => exact ⟨0, by omega, rfl, rfl⟩
  case round =>
    obtain ⟨i, hig, rfl, rfl⟩ := hrel
    cases gk with
    | zero =>
      obtain rfl : i = 256 := by omega
      have hh1 : ((w.alloc (.cells (tabC 0) 58)).alloc (.cells (tabC 256) 58)).heap[w.heap.size + 1]? = some (.cells (tabC 256) 58 (0, 0)) := by
        have := heap_alloc_new (w.alloc (.cells (tabC 0) 58)) (.cells (tabC 256) 58)
        rwa [World.size_alloc] at this
      have hh0 : ((w.alloc (.cells (tabC 0) 58)).alloc (.cells (tabC 256) 58)).heap[w.heap.size]? = some (.cells (tabC 0) 58 (0, 0)) := by
        exact (heap_alloc_old _ _ (by simp)).trans (heap_alloc_new w _)
      have Hh1 := Lib.hid hh1
      have Hh0 := Lib.hid hh0
      have Hb : Below w.heap.size w ((w.alloc (.cells (tabC 0) 58)).alloc (.cells (tabC 256) 58)) := ((Below.refl _ _).alloc (Nat.le_refl _) _).alloc (by simp) _
      clear hh0 hh1
      generalize ((w.alloc (.cells (tabC 0) 58)).alloc (.cells (tabC 256) 58)) = W at *
      clear hig
      have Hs : Hid ((Try.prog.info? 58).map (·.size) = some (tabC 256).size) := by rw [tabC_size]; exact HI.out
      have Hs0 : Hid ((tabC 0).size = (tabC 256).size) := by rw [tabC_size, tabC_size]; rfl
      go_upto_region 7 with (fail)
      apply wp_region_lit
      refine wpList_load_row rfl 58 (.tmp 1) rfl (w.heap.size + 1) rfl 58 (tabC 256) (0, 0) (.array 256 23) Hh1.out Try.underlying58 rfl Hs.out ?_
      refine wpList_store_row rfl 58 (.tmp 0) (.tmp 12) rfl w.heap.size (tabC 256) rfl rfl 58 (tabC 0) Hh0.out Hs.out Hs0.out (tabC_one _) ?_
      have HR : Hid ((W.setRow w.heap.size (tabC 256)).heap[w.heap.size]? = some (.cells (tabC 256) 58 (0, 0))) := setRow_heap _ _ _ _ _ _ Hh0.out
      have Hb2 : Below w.heap.size w (W.setRow w.heap.size (tabC 256)) := below_setRow Hb (Nat.le_refl _) _
      generalize W.setRow w.heap.size (tabC 256) = W2 at *
      go_wp2_with fail
      refine bodyPost_ret (v := .agg (tabC 256)) (results_cell_row rfl _ W2 w.heap.size 58 (tabC 256) (0, 0) (.array 256 23) rfl HR.out Try.underlying58 rfl Hs.out) rfl ⟨rfl, Hb2⟩
    | succ g =>
      have hi : i < 256 := by omega
      have HG := Lib.hid hig
      clear hig
      have hn : (i : Int) = ((BitVec.ofNat 32 i).toNat : Int) := by simp; omega
      have HN := Lib.hid hn
      clear hn
      go_wp2_with fail
      refine (step_any (BitVec.ofNat 32 i) _ HN.out _).mono ?_
      rintro e w' ⟨rfl, rfl⟩
      have hv : Value.int .u32 ((Mn 8 (BitVec.ofNat 32 i)).toNat : Int) = tabV i := rfl
      have HV := Lib.hid hv
      clear hv
      generalize ((Mn 8 (BitVec.ofNat 32 i)).toNat : Int) = x at *
      have hts := tabC_size i
      go_wp2_with fail
      go_roundg g
      case measure => omega
      case rel => exact ⟨i + 1, by have := HG.out; omega, by simp, by rw [HV.out, tabC_set]⟩
end Go.Proofs.Ytjpbanhbdddanaa
