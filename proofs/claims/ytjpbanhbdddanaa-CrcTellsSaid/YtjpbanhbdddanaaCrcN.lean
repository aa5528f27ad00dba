/- The walk of CrcTells. -/
import Derived.Test.YtjpbanhbdddanaaCrcM
import Derived.Test.YtjpbanhbdddanaaWMore
import Derived.StillTailTactics
namespace Go.Proofs.Ytjpbanhbdddanaa
open Go.RowKit Go.Kit CrcM Go.Proofs.YtjpbanhbdddanaaW.PrintWords
attribute [local go_sem] Go.Proofs.YtjpbanhbdddanaaW.PrintMore.max_two Go.Proofs.YtjpbanhbdddanaaW.PrintMore.min_two
theorem turn_bit (x : Int) (r : Nat) (h0 : 0 ≤ x) (h1 : x < 256) (hr : r < 8) : ∃ y, bits .xor .u8 x (IntKind.u8.wrap (2 ^ r)) = y ∧ 0 ≤ y ∧ y < 256 ∧ byt y = byt x ^^^ (1#32 <<< r) := by
  obtain ⟨X, rfl⟩ := Int.eq_ofNat_of_zero_le h0
  have hp : (2 : Nat) ^ r < 256 := Nat.lt_of_lt_of_le (Nat.pow_lt_pow_right (by omega) hr) (by decide)
  have hx : X ^^^ 2 ^ r < 2 ^ 8 := Nat.xor_lt_two_pow (by omega) (by omega)
  have hw : IntKind.u8.wrap (2 ^ r) = ((2 ^ r : Nat) : Int) := by
    have : r = 0 ∨ r = 1 ∨ r = 2 ∨ r = 3 ∨ r = 4 ∨ r = 5 ∨ r = 6 ∨ r = 7 := by omega
    rcases this with rfl | rfl | rfl | rfl | rfl | rfl | rfl | rfl <;> decide
  refine ⟨_, rfl, ?_⟩
  rw [hw, u8_xor_nat _ _ (by omega) hp]
  refine ⟨by omega, by omega, ?_⟩
  unfold byt
  rw [BitVec.ofInt_natCast, BitVec.ofInt_natCast]
  apply BitVec.eq_of_toNat_eq
  rw [BitVec.toNat_xor, BitVec.toNat_shiftLeft, BitVec.toNat_ofNat, BitVec.toNat_ofNat, Nat.mod_eq_of_lt (show X < 2 ^ 32 by omega), Nat.mod_eq_of_lt (show X ^^^ 2 ^ r < 2 ^ 32 by omega)]
  congr 1
  have : r = 0 ∨ r = 1 ∨ r = 2 ∨ r = 3 ∨ r = 4 ∨ r = 5 ∨ r = 6 ∨ r = 7 := by omega
  rcases this with rfl | rfl | rfl | rfl | rfl | rfl | rfl | rfl <;> decide
theorem low_ne (b : W) (i : Nat) (ha : b.getLsbD i = true) (hi : i < 32) : low (i + 1) b ≠ 0#32 := by
  intro h
  have h2 := congrArg (fun z : W => z.getLsbD i) h
  simp only [low, BitVec.getLsbD_ofNat, Nat.testBit_mod_two_pow] at h2
  have : b.toNat.testBit i = true := ha
  rw [this] at h2
  simp at h2
  omega
theorem some_getD {l : List Int} {q : Nat} {x : Int} (h : l[q]? = some x) : l.getD q 0 = x := by rw [List.getD_eq_getElem?_getD, h]; rfl
set_option maxHeartbeats 2000000 in
set_option maxRecDepth 100000 in
theorem CrcTells_walk (A : Option Addr) (len cap : Nat) (xs : List Int) (at_ : Int) (b : W) (n : Int) (hn : n = (b.toNat : Int)) (w : World) (hx : RB w A len xs) (hl : len ≤ 140737488351232) (ha : at_ ≤ 9223372036854775807) :
    Calls Try.prog 6 #[.slice A len cap, .int .i64 at_, .int .u32 n] w fun e w' => e = .returned (.bool true) ∧ Below w.heap.size w w' := by
  subst hn
  have HLen := Lib.hid hx.len
  go_enter Try.func6, Try.ntmps6
  go_wp2_with fail
  refine (Seal_any A len cap xs _ hx (by omega)).mono ?_
  rintro e w1 ⟨v1, rfl, hO1, hb1⟩
  have hsl := sealed_length xs
  rw [HLen.out] at hsl
  obtain ⟨g, c1, rfl, hg, hgl⟩ := hO1.open_ (by omega)
  obtain ⟨l0, hl0⟩ : ∃ l0, l0 = sealed xs := ⟨_, rfl⟩
  rw [← hl0] at hO1 hsl ⊢
  have HL0 := Lib.hid hl0
  clear hl0
  rw [hsl]
  have hx1 := hx.below hb1
  go_wp2_with fail
  refine (check_any _).mono ?_
  rintro e w2 ⟨rfl, hb2⟩
  replace hO1 := hO1.below hb2
  replace hb1 := below_step hb1 hb2
  replace hx1 := hx1.below hb2
  clear hb2
  obtain ⟨m, a, hmx, hmn, ha1⟩ : ∃ (m : Int) (a : Nat), Builtin.max2 (.int .i64 at_) (.int .i64 0) = pure (.int .i64 m) ∧ Builtin.min2 (.int .i64 m) (.int .i64 (8 * ((len : Int) + 4) - 32)) = pure (.int .i64 (a : Int)) ∧ a + 32 ≤ 8 * (len + 4) := by
    refine ⟨_, (min (max at_ 0) (8 * ((len : Int) + 4) - 32)).toNat, Go.Proofs.YtjpbanhbdddanaaW.PrintMore.max2_int _ _ _ _, ?_, by omega⟩
    rw [Go.Proofs.YtjpbanhbdddanaaW.PrintMore.min2_int]
    congr 2
    split <;> split <;> omega
  go_wp2_with fail
  clear hmx hmn
  have hb0 : low 0 b = 0#32 := low_zero b
  go_loopg [8, 31] 32 (fun gk v8 v31 w' => ∃ (i : Nat) (t : Bool) (l : List Int), v8 = .bool t ∧ v31 = .int .i64 (i : Int) ∧ OB 5 w' w.heap.size (.slice (some ⟨g, 0, none⟩) (len + 4) c1) l ∧ l.length = len + 4 ∧ Below w.heap.size w w' ∧
    Hid (i ≤ 32 ∧ gk = 32 - i) ∧ Hid (over (~~~ 0#32) l = over (~~~ 0#32) l0 ^^^ Mn (8 * (len + 4) - a - 32) (Mn 32 (low i b))) ∧ Hid (t = decide (low i b ≠ 0#32)) ∧ Hid (low i b = 0#32 → l = l0))
  case atStart => exact ⟨0, false, l0, rfl, rfl, by rw [← hsl]; exact hO1, hsl, hb1, ⟨by omega, rfl⟩, Lib.hid (by rw [hb0, Mn_zero, Mn_zero]; simp), Lib.hid (by rw [hb0]; rfl), fun _ => rfl⟩
  case round =>
    obtain ⟨i, t, l, rfl, rfl, hO, hll, hbz, HG, HV, HT, HS⟩ := hrel
    by_cases hi : i < 32
    · have hbit := shr_and b i
      cases ha : b.getLsbD i <;> rw [ha] at hbit
      · have hls := tell_same i b ha
        go_wp2_with fail
        go_roundg (31 - i)
        case measure => have := HG.out; omega
        case rel => exact ⟨i + 1, t, l, rfl, rfl, hO, hll, hbz, ⟨by omega, by omega⟩, by rw [hls]; exact HV, by rw [hls]; exact HT, by rw [hls]; exact HS⟩
      · obtain ⟨N, q, r, hN, hq, hr⟩ : ∃ N q r : Nat, N = a + i ∧ q = N / 8 ∧ r = N % 8 := ⟨_, _, _, rfl, rfl, rfl⟩
        obtain ⟨x, hc, hf, x0, x1, HX⟩ := hO.at_ (by omega) q (by omega)
        have hw : IntKind.i64.wrap ((a : Int) + (i : Int)) = (a : Int) + (i : Int) := by rw [IntKind.wrap_i64]; omega
        have hw1 : IntKind.i64.wrap (((a : Int) + (i : Int)).tdiv 8) = (q : Int) := by rw [IntKind.wrap_i64, Int.tdiv_eq_ediv_of_nonneg (by omega)]; omega
        have hw2 : ((a : Int) + (i : Int)).tmod 8 = (r : Int) := by rw [Int.tmod_eq_emod_of_nonneg (by omega)]; omega
        have hq1 : (q : Int) < (len : Int) + 4 := by omega
        have hr8 : r < 8 := by omega
        obtain ⟨y, hy, hy0, hy1, hy2⟩ := turn_bit x r x0 x1 hr8
        have HY := Lib.hid hy2
        clear hy2
        have HNqr : Hid (q = (a + i) / 8 ∧ r = (a + i) % 8) := ⟨by omega, by omega⟩
        clear hN hq hr
        go_wp2_with fail
        refine wp_region_still_tail 14 (by kernel_rfl) (by kernel_rfl) ?_
        simp only [List.take_succ_cons, List.take_zero, List.drop_succ_cons, List.drop_zero]
        repeat still_step
        refine wpStill_nil ?_
        have hO2 := hO.store (by omega) q y hy0 hy1
        have hlow : low (i + 1) b ≠ 0#32 := low_ne b i ha hi
        have HTn : Hid (true = decide (low (i + 1) b ≠ 0#32)) := (decide_eq_true hlow).symm
        have HSn : Hid (low (i + 1) b = 0#32 → l.set q y = l0) := fun h => absurd h hlow
        have HVn : Hid (over (~~~ 0#32) (l.set q y) = over (~~~ 0#32) l0 ^^^ Mn (8 * (len + 4) - a - 32) (Mn 32 (low (i + 1) b))) := by
          have := HNqr.out
          rw [this.1]
          exact tell_more l l0 _ a i (len + 4) b y hll ha1 hi ha (by rw [← this.1, ← this.2, some_getD HX.out]; exact HY.out) HV.out
        clear hlow
        have hbz2 := below_set (j := q) (v := .int .u8 y) hbz hg
        go_wp2_with fail
        go_roundg (31 - i)
        case measure => have := HG.out; omega
        case rel => exact ⟨i + 1, true, l.set q y, rfl, rfl, ⟨hO2.own, hO2.byt⟩, by rw [List.length_set]; exact hll, below_drew hbz2, ⟨by omega, by omega⟩, HVn, HTn, HSn⟩
    · obtain ⟨h0, h1⟩ := HG.out
      obtain rfl : i = 32 := by omega
      rw [low_all] at HV HT HS
      have hq : (b = 0#32 ∧ t = false ∧ openR l = (xs, 0)) ∨ (t = true ∧ openR l = ([], 71)) := by
        by_cases hb : b = 0#32
        · left
          refine ⟨hb, ?_, ?_⟩
          · rw [HT.out, hb]; rfl
          · rw [HS.out hb, HL0.out, open_sealed]
        · right
          refine ⟨by rw [HT.out]; exact decide_eq_true hb, ?_⟩
          by_cases e : b4 (more 0#32 (l.take len)) = l.drop len
          · refine absurd ?_ hb
            have hV := HV.out
            rw [HL0.out] at hV
            have hr : l = l.take len ++ b4 (~~~ over (~~~ 0#32) (l.take len)) := by
              refine (List.take_append_drop len l).symm.trans ?_
              rw [← e]; rfl
            exact told (~~~ 0#32) b _ xs l hV (l.take len) hr
          · exact openR_bad hll e
      obtain ⟨A8, c8, hv8, hr8, hc8⟩ := hO.reads'
      rw [hll] at hv8 hr8 hc8
      injection hv8 with e1 e2 e3
      subst e1 e3
      have hxz := hx.below hbz
      have Hq := Lib.hid hq
      clear hq HV HT HS HL0 HG h0 h1 hO
      go_wp2_with fail
      refine (Open_any _ _ _ _ _ hr8 hc8 (by omega)).mono ?_
      rintro e w8 ⟨v8, y8, e8, rfl, hO8, HR8, hb8⟩
      obtain ⟨A9, c9, rfl, hr9, _⟩ := hO8.reads'
      replace hxz := hxz.below hb8
      replace hbz := below_step hbz hb8
      clear hO8 hb8
      rcases Hq.out with ⟨_, rfl, h⟩ | ⟨rfl, h⟩ <;> have hq := HR8.out.trans h <;> simp only [Prod.mk.injEq] at hq <;> obtain ⟨rfl, rfl⟩ := hq <;> clear Hq HR8 h
      · go_wp2_with fail
        refine (Equal_same hr9 hxz rfl).mono ?_
        rintro e w10 ⟨rfl, rfl⟩
        go_wp2_with fail
        go_ret
        exact ⟨rfl, hbz⟩
      · go_wp2_with fail
        go_ret
        exact ⟨rfl, hbz⟩
end Go.Proofs.Ytjpbanhbdddanaa
