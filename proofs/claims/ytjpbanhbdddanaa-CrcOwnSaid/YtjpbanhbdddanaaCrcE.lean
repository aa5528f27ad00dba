/- The contracts of both products, moves, joins and turns. -/
import Derived.Test.YtjpbanhbdddanaaCrcD
namespace Go.Proofs.Ytjpbanhbdddanaa
open Go.RowKit Go.Kit CrcM Go.Proofs.YtjpbanhbdddanaaW.PrintWords

def mv : Nat → Int
  | 0 => 0
  | n + 1 => ((2 ^ n : Nat) : Int)
theorem mv_pos (n : Nat) : 0 < mv (n + 1) := by
  show (0 : Int) < ((2 ^ n : Nat) : Int)
  have := Nat.two_pow_pos n; omega
theorem mv_half (n : Nat) : mv (n + 1) / 2 = mv n := by
  cases n with
  | zero => rfl
  | succ n => show ((2 ^ (n + 1) : Nat) : Int) / 2 = ((2 ^ n : Nat) : Int); rw [Nat.pow_succ]; omega
theorem mv_lt (n : Nat) (h : n ≤ 32) : mv n < 4294967296 := by
  cases n with
  | zero => decide
  | succ n =>
    show ((2 ^ n : Nat) : Int) < _
    have : 2 ^ n ≤ 2 ^ 31 := Nat.pow_le_pow_right (by omega) (by omega)
    omega
theorem and_bit (a : W) (n : Nat) (h : n < 32) : bits .and .u32 ((a.toNat : Nat) : Int) (mv (n + 1)) = if a.getLsbD n then mv (n + 1) else 0 := by
  have hl := mv_lt (n + 1) (by omega)
  show bits .and .u32 ((a.toNat : Nat) : Int) ((2 ^ n : Nat) : Int) = _
  rw [u32_and_nat _ _ (by have := a.isLt; omega) (by have : ((2 ^ n : Nat) : Int) < 4294967296 := hl; omega), nat_bit, BitVec.getLsbD, Nat.testBit_eq_decide_div_mod_eq]
  by_cases e : a.toNat / 2 ^ n % 2 = 1
  · simp [e, mv]
  · have e0 : a.toNat / 2 ^ n % 2 = 0 := by omega
    rw [e0]; simp

set_option maxHeartbeats 1000000 in
theorem times_any (a b : W) (m n : Int) (hm : m = (a.toNat : Int)) (hn : n = (b.toNat : Int)) (w : World) :
    Calls Try.prog 34 #[.int .u32 m, .int .u32 n] w fun e w' => e = .returned (.int .u32 ((times a b).toNat : Int)) ∧ w' = w := by
  subst hm
  subst hn
  go_enter Try.func34, Try.ntmps34
  go_wp2_with fail
  go_loopg [1, 5, 6] 32 (fun g v1 v5 v6 w' => ∃ (b2 p2 : W) (x : Int), v1 = .int .u32 (b2.toNat : Int) ∧ v5 = .int .u32 (p2.toNat : Int) ∧ v6 = .int .u32 x ∧ w' = w ∧ Hid (g ≤ 32 ∧ x = mv g ∧ times a b = tl g a b2 p2))
  case atStart => exact ⟨b, 0#32, 2147483648, rfl, rfl, rfl, rfl, by omega, by decide, rfl⟩
  case round =>
    obtain ⟨b2, p2, x, rfl, rfl, rfl, rfl, HD⟩ := hrel
    cases gk with
    | zero =>
      obtain ⟨_, h0, hd⟩ := HD.out
      obtain rfl : x = 0 := h0
      have HE : Hid (times a b = p2) := hd
      clear hd HD
      go_wp2_with fail
      go_ret
      exact ⟨by rw [HE.out]; rfl, rfl⟩
    | succ g =>
      obtain ⟨hg, hx, hd⟩ := HD.out
      have hpos := mv_pos g
      have hhalf := mv_half g
      have hbit := and_bit a g (by omega)
      rw [← hx] at hpos hhalf hbit
      have HX := Lib.hid hx
      clear HD hx
      have hone := and_one b2
      have hxor := xor_w p2 b2
      simp only [tl] at hd
      cases ha : a.getLsbD g <;> rw [ha] at hbit hd
      · cases hb : b2.getLsbD 0 <;> rw [hb] at hone
        · have hM := step_no b2 hb
          have HE : Hid (times a b = tl g a (M b2) p2) := hd
          clear hd ha hb
          go_wp2_with fail
          go_roundg g
          case measure => omega
          case rel => exact ⟨M b2, p2, mv g, by simp, by simp, by simp, rfl, by omega, rfl, HE.out⟩
        · have hM := step_yes b2 hb
          have HE : Hid (times a b = tl g a (M b2) p2) := hd
          clear hd ha hb
          go_wp2_with fail
          go_roundg g
          case measure => omega
          case rel => exact ⟨M b2, p2, mv g, by simp, by simp, by simp, rfl, by omega, rfl, HE.out⟩
      · cases hb : b2.getLsbD 0 <;> rw [hb] at hone
        · have hM := step_no b2 hb
          have HE : Hid (times a b = tl g a (M b2) (p2 ^^^ b2)) := hd
          clear hd ha hb
          go_wp2_with fail
          go_roundg g
          case measure => omega
          case rel => exact ⟨M b2, p2 ^^^ b2, mv g, by simp, by simp, by simp, rfl, by omega, rfl, HE.out⟩
        · have hM := step_yes b2 hb
          have HE : Hid (times a b = tl g a (M b2) (p2 ^^^ b2)) := hd
          clear hd ha hb
          go_wp2_with fail
          go_roundg g
          case measure => omega
          case rel => exact ⟨M b2, p2 ^^^ b2, mv g, by simp, by simp, by simp, rfl, by omega, rfl, HE.out⟩
end Go.Proofs.Ytjpbanhbdddanaa
