/- The contracts of the document's product; both moves, joins and turns. -/
import Derived.Test.YtjpbanhbdddanaaCrcE
namespace Go.Proofs.Ytjpbanhbdddanaa
open Go.RowKit Go.Kit CrcM Go.Proofs.YtjpbanhbdddanaaW.PrintWords

theorem shr_and (a : W) (k : Nat) : bits .and .u32 (((a.toNat : Nat) : Int) / (2 : Int) ^ k) 1 = if a.getLsbD k then 1 else 0 := by
  have e : ((a.toNat : Nat) : Int) / (2 : Int) ^ k = ((a.toNat / 2 ^ k : Nat) : Int) := by rw [Int.natCast_ediv]; simp
  have hl : a.toNat / 2 ^ k < 4294967296 := Nat.lt_of_le_of_lt (Nat.div_le_self _ _) a.isLt
  have := u32_and_nat (a.toNat / 2 ^ k) 1 hl (by omega)
  rw [show ((1 : Nat) : Int) = 1 from rfl] at this
  rw [e, this, Nat.and_one_is_mod, BitVec.getLsbD, Nat.testBit_eq_decide_div_mod_eq]
  by_cases h : a.toNat / 2 ^ k % 2 = 1 <;> simp only [h] <;> simp
  omega
set_option maxHeartbeats 1000000 in
theorem rtimes_any (a b : W) (m n : Int) (hm : m = (a.toNat : Int)) (hn : n = (b.toNat : Int)) (w : World) :
    Calls Try.prog 35 #[.int .u32 m, .int .u32 n] w fun e w' => e = .returned (.int .u32 ((times a b).toNat : Int)) ∧ w' = w := by
  subst hm
  subst hn
  go_enter Try.func35, Try.ntmps35
  go_wp2_with fail
  go_loopg [1, 5, 6] 32 (fun g v1 v5 v6 w' => ∃ (b2 p2 : W) (i : Nat), v1 = .int .u32 (b2.toNat : Int) ∧ v5 = .int .u32 (p2.toNat : Int) ∧ v6 = .int .i64 (i : Int) ∧ w' = w ∧ i ≤ 32 ∧ Hid (g + i = 32 ∧ times a b = tl g a b2 p2))
  case atStart => exact ⟨b, 0#32, 0, rfl, rfl, rfl, rfl, by omega, by decide, rfl⟩
  case round =>
    obtain ⟨b2, p2, i, rfl, rfl, rfl, rfl, hi, HD⟩ := hrel
    cases gk with
    | zero =>
      obtain ⟨h0, hd⟩ := HD.out
      obtain rfl : i = 32 := by omega
      have HE : Hid (times a b = p2) := hd
      clear hd HD h0
      go_wp2_with fail
      go_ret
      exact ⟨by rw [HE.out]; rfl, rfl⟩
    | succ g =>
      obtain ⟨hg, hd⟩ := HD.out
      have hi32 : i < 32 := by omega
      have hone := and_one b2
      have hxor := xor_w p2 b2
      simp only [tl] at hd
      have hbit := shr_and a (31 - i)
      obtain rfl : g = 31 - i := by omega
      have HG := Lib.hid hg
      clear HD hg
      cases ha : a.getLsbD (31 - i) <;> rw [ha] at hbit hd
      · cases hb : b2.getLsbD 0 <;> rw [hb] at hone
        · have hM := step_no b2 hb
          have HE : Hid (times a b = tl (31 - i) a (M b2) p2) := hd
          clear hd ha hb
          go_wp2_with fail
          go_roundg (31 - i)
          case measure => omega
          case rel => exact ⟨M b2, p2, i + 1, by simp, by simp, by simp, rfl, by omega, by have := HG.out; omega, HE.out⟩
        · have hM := step_yes b2 hb
          have HE : Hid (times a b = tl (31 - i) a (M b2) p2) := hd
          clear hd ha hb
          go_wp2_with fail
          go_roundg (31 - i)
          case measure => omega
          case rel => exact ⟨M b2, p2, i + 1, by simp, by simp, by simp, rfl, by omega, by have := HG.out; omega, HE.out⟩
      · cases hb : b2.getLsbD 0 <;> rw [hb] at hone
        · have hM := step_no b2 hb
          have HE : Hid (times a b = tl (31 - i) a (M b2) (p2 ^^^ b2)) := hd
          clear hd ha hb
          go_wp2_with fail
          go_roundg (31 - i)
          case measure => omega
          case rel => exact ⟨M b2, p2 ^^^ b2, i + 1, by simp, by simp, by simp, rfl, by omega, by have := HG.out; omega, HE.out⟩
        · have hM := step_yes b2 hb
          have HE : Hid (times a b = tl (31 - i) a (M b2) (p2 ^^^ b2)) := hd
          clear hd ha hb
          go_wp2_with fail
          go_roundg (31 - i)
          case measure => omega
          case rel => exact ⟨M b2, p2 ^^^ b2, i + 1, by simp, by simp, by simp, rfl, by omega, by have := HG.out; omega, HE.out⟩
end Go.Proofs.Ytjpbanhbdddanaa
