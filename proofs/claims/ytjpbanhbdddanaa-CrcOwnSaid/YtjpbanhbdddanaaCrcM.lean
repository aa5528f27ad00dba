/- The walk of CrcSeals. -/
import Derived.Test.YtjpbanhbdddanaaCrcL
namespace Go.Proofs.Ytjpbanhbdddanaa
open Go.RowKit Go.Kit CrcM Go.Proofs.YtjpbanhbdddanaaW.PrintWords

theorem open_sealed (xs : List Int) : openR (sealed xs) = (xs, 0) := by
  have hl : (sealed xs).length = xs.length + 4 := sealed_length xs
  have h := openR_good (xs := sealed xs) (N := xs.length) hl (by unfold sealed; rw [List.take_left, List.drop_left])
  rw [h]; unfold sealed; rw [List.take_left]
set_option maxHeartbeats 2000000 in
set_option maxRecDepth 100000 in
theorem CrcSeals_walk (A : Option Addr) (len cap : Nat) (xs : List Int) (w : World) (hx : RB w A len xs) (hcap : len ≤ cap) (hl : len ≤ 140737488351232) :
    Calls Try.prog 5 #[.slice A len cap] w fun e w' => e = .returned (.bool true) ∧ Below w.heap.size w w' := by
  have HLen := Lib.hid hx.len
  have HOS := Lib.hid (open_sealed xs)
  go_enter Try.func5, Try.ntmps5
  go_wp2_with fail
  refine (Sum_one _ hx _ rfl).mono ?_
  rintro e w1 ⟨s, rfl, HS, hb1⟩
  have hx1 := hx.below hb1
  go_wp2_with fail
  refine (Bytes_any s _ rfl _).mono ?_
  rintro e w2 ⟨x0, x1, x2, x3, rfl, HB, hb2⟩
  have hx2 := hx1.below hb2
  have hbz := below_step hb1 hb2
  clear hx1 hb1 hb2
  go_wp2_with fail
  refine (rMore_any 0#32 _ (by decide) A len cap _ _ hx2).mono ?_
  rintro e w3 ⟨rfl, rfl⟩
  rw [← HS.out]
  go_wp2_with fail
  refine (rBytes_any s _ rfl _).mono ?_
  rintro e w4 ⟨z0, z1, z2, z3, rfl, HZ, hb4⟩
  have hx4 := hx2.below hb4
  replace hbz := below_step hbz hb4
  have hq : [x0, x1, x2, x3] = [z0, z1, z2, z3] := HB.out.symm.trans HZ.out
  simp only [List.cons.injEq, and_true] at hq
  obtain ⟨rfl, rfl, rfl, rfl⟩ := hq
  have hself : sameL [x0, x1, x2, x3] [x0, x1, x2, x3] = true := decide_eq_true rfl
  have heq : ∀ (W : World), (Op.equalIn 10000 31 (.agg #[.int .u8 x0, .int .u8 x1, .int .u8 x2, .int .u8 x3]) (.agg #[.int .u8 x0, .int .u8 x1, .int .u8 x2, .int .u8 x3])).run Try.prog W = .ok true W := by
    intro W
    obtain ⟨i0, hi, hz0, hz1, hz2⟩ := info_parts u8_info
    rw [← hself]
    exact run_equalIn_nums (P := Try.prog) (w := W) 9998 [x0, x1, x2, x3] [x0, x1, x2, x3] Try.underlying31 hi hz1 Try.underlying5 rfl rfl
  clear hself hb4 hx2
  go_wp2_with fail
  clear heq
  refine (Seal_any A len cap xs _ hx4 (by omega)).mono ?_
  rintro e w5 ⟨v5, rfl, hO5, hb5⟩
  obtain ⟨A5, c5, rfl, hr5, _⟩ := hO5.reads'
  have hx5 := hx4.below hb5
  replace hbz := below_step hbz hb5
  clear hO5 hx4 hb5
  go_wp2_with fail
  refine (rSeal_any A len cap xs _ hx5 (by omega)).mono ?_
  rintro e w6 ⟨v6, rfl, hO6, hb6⟩
  obtain ⟨A6, c6, rfl, hr6, _⟩ := hO6.reads'
  have hx6 := hx5.below hb6
  replace hr5 := hr5.below hb6
  replace hbz := below_step hbz hb6
  clear hO6 hx5 hb6
  go_wp2_with fail
  refine (Equal_same hr5 hr6 rfl).mono ?_
  rintro e w7 ⟨rfl, rfl⟩
  clear hr5 hr6
  go_wp2_with fail
  refine (Open_any A len cap xs _ hx6 hcap (by omega)).mono ?_
  rintro e w8 ⟨v8, y8, e8, rfl, hO8, HR8, hb8⟩
  obtain ⟨A8, c8, rfl, hr8, _⟩ := hO8.reads'
  have hx8 := hx6.below hb8
  replace hbz := below_step hbz hb8
  clear hO8 hx6 hb8
  go_wp2_with fail
  refine (rOpen_any A len cap xs _ hx8 hcap (by omega)).mono ?_
  rintro e w9 ⟨v9, y9, e9, rfl, hO9, HR9, hb9⟩
  obtain ⟨A9, c9, rfl, hr9, _⟩ := hO9.reads'
  have hx9 := hx8.below hb9
  replace hr8 := hr8.below hb9
  replace hbz := below_step hbz hb9
  clear hO9 hx8 hb9
  have hq := HR8.out.trans HR9.out.symm
  simp only [Prod.mk.injEq] at hq
  obtain ⟨rfl, rfl⟩ := hq
  go_wp2_with fail
  refine (Equal_same hr8 hr9 rfl).mono ?_
  rintro e w10 ⟨rfl, rfl⟩
  clear hr8 hr9
  go_wp2_with fail
  refine (Seal_any A len cap xs _ hx9 (by omega)).mono ?_
  rintro e w11 ⟨v11, rfl, hO11, hb11⟩
  obtain ⟨A11, c11, rfl, hr11, hc11⟩ := hO11.reads'
  have hx11 := hx9.below hb11
  replace hbz := below_step hbz hb11
  clear hO11 hx9 hb11
  go_wp2_with fail
  refine (Open_any A11 _ c11 _ _ hr11 hc11 (by rw [sealed_length, HLen.out]; omega)).mono ?_
  rintro e w12 ⟨v12, y12, e12, rfl, hO12, HR12, hb12⟩
  obtain ⟨A12, c12, rfl, hr12, _⟩ := hO12.reads'
  have hx12 := hx11.below hb12
  replace hbz := below_step hbz hb12
  clear hO12 hx11 hr11 hb12
  have hq := HR12.out.trans HOS.out
  simp only [Prod.mk.injEq] at hq
  obtain ⟨rfl, rfl⟩ := hq
  go_wp2_with fail
  refine (Equal_same hr12 hx12 rfl).mono ?_
  rintro e w13 ⟨rfl, rfl⟩
  go_wp2_with fail
  go_ret
  exact ⟨rfl, hbz⟩
end Go.Proofs.Ytjpbanhbdddanaa
