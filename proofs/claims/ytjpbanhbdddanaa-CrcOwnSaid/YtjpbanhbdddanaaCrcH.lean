/- The contract of check, the known sum. -/
import Derived.Test.YtjpbanhbdddanaaCrcG
namespace Go.Proofs.Ytjpbanhbdddanaa
open Go.RowKit Go.Kit CrcM Go.Proofs.YtjpbanhbdddanaaW.PrintWords

theorem known_sum : ((more 0#32 [49, 50, 51, 52, 53, 54, 55, 56, 57]).toNat : Int) = 3808858755 := by decide +kernel
set_option maxHeartbeats 400000 in
theorem check_any (w : World) : Calls Try.prog 15 #[] w fun e w' => e = .returned (.bool true) ∧ Below w.heap.size w w' := by
  have kc := fun (w : World) (C : Array Value) (n c : Nat) => Lib.run_convert_bytes_const (P := Try.prog) w 24 5 C n c Try.underlying24 Try.underlying5
  go_enter Try.func15, Try.ntmps15
  go_wp2_with fail
  clear kc
  have hr := RB.lit w [49, 50, 51, 52, 53, 54, 55, 56, 57] (by intro x hx; simp at hx; omega) (by decide) 5 (9, 9 + 1)
  have hrs := RBs.one (cap := 9) 24 hr
  simp [nums] at hrs
  refine (Sum_any _ 1 1 _ _ hrs).mono ?_
  rintro e w1 ⟨rfl, hb⟩
  have hb2 : Below w.heap.size w w1 := below_then (below_alloc (below_alloc (Below.refl _ w) _) _) (by simp; omega) hb
  have hv : ((more 0#32 [[49, 50, 51, 52, 53, 54, 55, 56, 57]].flatten).toNat : Int) = 3808858755 := known_sum
  rw [hv]
  clear hv hb hr hrs
  go_wp2
  go_ret
  exact ⟨rfl, hb2⟩

/-! The first laws' walks -/
set_option maxHeartbeats 400000 in
theorem CrcMores_walk (c : W) (n : Int) (hn : n = (c.toNat : Int)) (A : Option Addr) (len cap : Nat) (xs : List Int) (w : World) (hx : RB w A len xs) :
    Calls Try.prog 4 #[.int .u32 n, .slice A len cap] w fun e w' => e = .returned (.bool true) ∧ Below w.heap.size w w' := by
  subst hn
  go_enter Try.func4, Try.ntmps4
  go_wp2_with fail
  refine (More_any c _ rfl A len cap xs _ hx).mono ?_
  rintro e w1 ⟨rfl, hb1⟩
  have hx1 := hx.below hb1
  go_wp2_with fail
  refine (rMore_any c _ rfl A len cap xs _ hx1).mono ?_
  rintro e w2 ⟨rfl, rfl⟩
  generalize more c xs = m at *
  go_wp2_with fail
  refine (check_any _).mono ?_
  rintro e w3 ⟨rfl, hb3⟩
  have hb := below_step hb1 hb3
  go_wp2_with fail
  go_ret
  exact ⟨rfl, hb⟩

set_option maxHeartbeats 1000000 in
theorem CrcSums_walk (A : Option Addr) (len cap : Nat) (L : List (List Int)) (w : World) (hL : RBs w A len L) :
    Calls Try.prog 3 #[.slice A len cap] w fun e w' => e = .returned (.bool true) ∧ Below w.heap.size w w' := by
  have hmx := hL.max
  have HL := Lib.hid hL.len
  go_enter Try.func3, Try.ntmps3
  go_wp2_with fail
  go_loopg [3, 8] len (fun g v3 v8 w' => ∃ (d : W) (k : Nat), v3 = .int .u32 (d.toNat : Int) ∧ v8 = .int .i64 (k : Int) ∧ k ≤ len ∧ Hid (g + k = len ∧ d = more 0#32 (L.take k).flatten) ∧ Below w.heap.size w w')
  case atStart => exact ⟨0#32, 0, rfl, rfl, by omega, ⟨by omega, by simp [more, over_nil]⟩, Below.refl _ _⟩
  case round =>
    obtain ⟨d, k, rfl, rfl, hk, HD, hb⟩ := hrel
    cases gk with
    | zero =>
      obtain ⟨hg, hd⟩ := HD.out
      obtain rfl : k = len := by omega
      have HE : Hid (d = more 0#32 L.flatten) := by rw [hd, all_of (by rw [HL.out]; omega)]; rfl
      clear hg hd HD
      have hL1 := hL.below hb
      go_wp2_with fail
      refine (rSum_any A _ _ L _ hL1).mono ?_
      rintro e w2 ⟨rfl, rfl⟩
      rw [← HE.out]
      go_wp2_with fail
      refine (Sum_any A _ _ L _ hL1).mono ?_
      rintro e w3 ⟨rfl, hb3⟩
      rw [← HE.out]
      go_wp2_with fail
      refine (check_any _).mono ?_
      rintro e w4 ⟨rfl, hb4⟩
      have hbz := below_step (below_step hb hb3) hb4
      go_wp2_with fail
      go_ret
      exact ⟨rfl, hbz⟩
    | succ g =>
      have hlt : k < len := by have := HD.out.1; omega
      obtain ⟨ad, Ai, ni, ci, xs, rfl, hcell, hr, HX⟩ := (hL.below hb).at_ k hlt
      go_wp2_with fail
      refine (More_any d _ rfl _ _ _ xs _ hr).mono ?_
      rintro e w2 ⟨rfl, hb2⟩
      have hbz := below_step hb hb2
      go_wp2_with fail
      go_roundg g
      case measure => omega
      case rel => exact ⟨more d xs, k + 1, by simp, by simp, by omega, ⟨by have := HD.out.1; omega, by rw [flat_snoc HX.out, ← more_more, ← HD.out.2]⟩, hbz⟩

set_option maxHeartbeats 400000 in
theorem CrcJoins_walk (a b : W) (x y : Int) (hx : x = (a.toNat : Int)) (hy : y = (b.toNat : Int)) (n : Int) (hn : n < 9223372036854775808) (w : World) :
    Calls Try.prog 8 #[.int .u32 x, .int .u32 y, .int .i64 n] w fun e w' => e = .returned (.bool true) ∧ Below w.heap.size w w' := by
  subst hx
  subst hy
  go_enter Try.func8, Try.ntmps8
  go_wp2_with fail
  refine (Join_any a b _ _ rfl rfl n hn _).mono ?_
  rintro e w1 ⟨rfl, rfl⟩
  go_wp2_with fail
  refine (rJoin_any a b _ _ rfl rfl n hn _).mono ?_
  rintro e w1 ⟨rfl, rfl⟩
  generalize joinR a b n = r at *
  go_wp2_with fail
  refine (check_any _).mono ?_
  rintro e w3 ⟨rfl, hb3⟩
  go_wp2_with fail
  go_ret
  exact ⟨rfl, hb3⟩

end Go.Proofs.Ytjpbanhbdddanaa
