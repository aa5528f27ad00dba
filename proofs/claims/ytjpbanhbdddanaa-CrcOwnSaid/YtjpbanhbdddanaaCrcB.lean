/- The contracts of over, More and Sum. -/
import Derived.Test.YtjpbanhbdddanaaCrcA
namespace Go.Proofs.Ytjpbanhbdddanaa
open Go.RowKit Go.Kit CrcM Go.Proofs.YtjpbanhbdddanaaW.PrintWords

theorem byte_of (c : W) (x : Int) (h0 : 0 ≤ x) (h1 : x < 256) :
    bits .xor .u8 ((c.toNat : Int) % 256) x = ((((c ^^^ byt x) &&& 255#32).toNat : Nat) : Int) := by
  obtain ⟨n, rfl⟩ := Int.eq_ofNat_of_zero_le h0
  have e : ((c.toNat : Int) % 256) = ((c.toNat % 256 : Nat) : Int) := by omega
  rw [e, u8_xor_nat _ _ (Nat.mod_lt _ (by omega)) (by omega)]
  congr 1
  have h255 : ((c ^^^ byt (n : Int)) &&& 255#32).toNat = (c.toNat ^^^ n) % 256 := by
    rw [BitVec.toNat_and, BitVec.toNat_xor, byt, BitVec.ofInt_natCast, BitVec.toNat_ofNat, Nat.mod_eq_of_lt (show n < 2 ^ 32 by omega)]
    exact Nat.and_two_pow_sub_one_eq_mod _ 8
  rw [h255]
  rw [show (256 : Nat) = 2 ^ 8 from rfl, Nat.xor_mod_two_pow, Nat.mod_eq_of_lt (show n < 2 ^ 8 by omega)]
/-- One byte, by the table. -/
theorem over_step (c : W) (x : Int) (h0 : 0 ≤ x) (h1 : x < 256) :
    bits .xor .u32 (((c.toNat : Nat) : Int) / (256 : Int)) ((Mn 8 (BitVec.ofNat 32 ((c ^^^ byt x) &&& 255#32).toNat)).toNat : Int) = ((Mn 8 (c ^^^ byt x)).toNat : Int) := by
  rw [shr_eight, xor_w]
  congr 2
  rw [Mn8_split (c ^^^ byt x)]
  congr 1
  · apply BitVec.eq_of_getLsbD_eq
    intro i hi
    obtain ⟨n, rfl⟩ := Int.eq_ofNat_of_zero_le h0
    rw [BitVec.getLsbD_ushiftRight, BitVec.getLsbD_ushiftRight, BitVec.getLsbD_xor, byt, BitVec.ofInt_natCast, BitVec.getLsbD_ofNat, Nat.testBit_lt_two_pow (show n < 2 ^ (8 + i) from Nat.lt_of_lt_of_le (show n < 2 ^ 8 by omega) (Nat.pow_le_pow_right (by omega) (by omega)))]
    simp
  · simp
theorem low_lt (y : W) : (y &&& 255#32).toNat < 256 := by
  rw [BitVec.toNat_and]
  exact Nat.lt_of_le_of_lt Nat.and_le_right (by decide)
/-- What one round of the table asks, and gives: q the place, z what stands there. -/
theorem over_round (c : W) (x : Int) (h0 : 0 ≤ x) (h1 : x < 256) : ∃ (q : Nat) (z : Int), q < 256 ∧ (tabC 256)[q]? = some (.int .u32 z) ∧
    bits .xor .u8 ((c.toNat : Int) % 256) x = (q : Int) ∧ bits .xor .u32 (((c.toNat : Nat) : Int) / (256 : Int)) z = ((Mn 8 (c ^^^ byt x)).toNat : Int) :=
  ⟨_, _, low_lt _, tabC_get _ (low_lt (c ^^^ byt x)), byte_of c x h0 h1, over_step c x h0 h1⟩
set_option maxHeartbeats 1000000 in
set_option maxRecDepth 100000 in
theorem over_any (c : W) (n : Int) (hn : n = (c.toNat : Int)) (A : Option Addr) (len cap : Nat) (L : List (List Int)) (w : World) (hL : RBs w A len L) :
    Calls Try.prog 28 #[.int .u32 n, .slice A len cap] w fun e w' => e = .returned (.int .u32 ((over c L.flatten).toNat : Int)) ∧ Below w.heap.size w w' := by
  subst hn
  have hlenL := hL.len
  have HL := Lib.hid hlenL
  clear hlenL
  have hmaxL := hL.max
  have hz58 := (zero_of_info info_tab).1
  have HZ := Lib.hid hz58
  clear hz58
  have HI := Lib.hid (zero_of_info info_tab).2
  go_enter Try.func28, Try.ntmps28
  go_wp2_with fail
  refine (table_any _).mono ?_
  rintro e w1 ⟨rfl, hb1⟩
  have hz58 := HZ.out
  rw [← tabC_zero] at hz58
  have Hs : Hid ((Try.prog.info? 58).map (·.size) = some (tabC 256).size) := by rw [tabC_size]; exact HI.out
  have Hs0 : Hid ((tabC 0).size = (tabC 256).size) := by rw [tabC_size, tabC_size]; rfl
  have Hh : Hid ((w1.alloc (.cells (tabC 0) 58)).heap[w1.heap.size]? = some (.cells (tabC 0) 58 (0, 0))) := heap_alloc_new w1 _
  go_wp2_with (refine wpList_store_row rfl 58 (.tmp 5) (.tmp 10) rfl w1.heap.size (tabC 256) rfl rfl 58 (tabC 0) Hh.out Hs.out Hs0.out (tabC_one _) ?_)
  have HT : Hid (((w1.alloc (.cells (tabC 0) 58)).setRow w1.heap.size (tabC 256)).heap[w1.heap.size]? = some (.cells (tabC 256) 58 (0, 0))) := setRow_heap _ _ _ _ _ _ Hh.out
  have hb2 : Below w.heap.size w ((w1.alloc (.cells (tabC 0) 58)).setRow w1.heap.size (tabC 256)) := below_setRow (below_alloc hb1 _) hb1.size _
  clear Hh Hs Hs0 hz58 HZ HI hb1
  generalize ((w1.alloc (.cells (tabC 0) 58)).setRow w1.heap.size (tabC 256)) = wt at hb2 HT ⊢
  replace hL := hL.below hb2
  go_loop [0, 13] (fun v0 v13 => ∃ (d : W) (k : Nat), k ≤ len ∧ v0 = .int .u32 (d.toNat : Int) ∧ v13 = .int .i64 (k : Int) ∧ Hid (d = over c (L.take k).flatten)) (fun _ i => len - (intOf i).toNat)
  case atStart => exact ⟨c, 0, by omega, rfl, rfl, rfl⟩
  case round =>
    obtain ⟨d, k, hk, rfl, rfl, HD⟩ := hrel
    by_cases hlt : k < len
    · obtain ⟨ad, Ai, ni, ci, xs, rfl, hcell, hr, HX⟩ := hL.at_ k hlt
      have hmx := hr.max
      go_upto_block 2 with (fail)
      go_wp2_with fail
      go_loop [0, 19] (fun v0 v19 => ∃ (d2 : W) (j : Nat), j ≤ ni ∧ v0 = .int .u32 (d2.toNat : Int) ∧ v19 = .int .i64 (j : Int) ∧ Hid (d2 = over d (xs.take j))) (fun _ i => ni - (intOf i).toNat)
      case atStart => exact ⟨d, 0, by omega, rfl, rfl, rfl⟩
      case round =>
        obtain ⟨d2, j, hj, rfl, rfl, HD2⟩ := hrel
        by_cases hlj : j < ni
        · obtain ⟨ad2, x, rfl, hc2, h0, h1, HX2⟩ := hr.at_ j hlj
          obtain ⟨q, z, hq, hz, hby, hxo⟩ := over_round d2 x h0 h1
          have hct : wt.cell? ⟨w1.heap.size, q, none⟩ = some (.int .u32 z) := (cell_of_row wt w1.heap.size q (tabC 256) 58 (0, 0) HT.out).trans hz
          clear hz
          go_wp2
          go_round
          case rel => exact ⟨Mn 8 (d2 ^^^ byt x), j + 1, by omega, by simp, by simp, by rw [snoc HX2.out, over_snoc, ← HD2.out]; rfl⟩
          case measure => simp [intOf]; omega
        · go_wp2
          go_round
          case rel => exact ⟨d2, k + 1, by omega, by simp, by simp, by rw [flat_snoc HX.out, over_append, ← HD.out, HD2.out, all_of (by rw [hr.len]; omega)]; rfl⟩
          case measure => simp [intOf]; omega
    · go_wp2
      go_ret
      exact ⟨by rw [HD.out, all_of (by rw [HL.out]; omega)]; rfl, hb2⟩
end Go.Proofs.Ytjpbanhbdddanaa
