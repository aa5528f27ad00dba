/- The document's reader in memory; New, short, fail, Uint, Int, Raw, Byte. -/
import Derived.Test.YtiadfmbddkcleaaWiA
import Derived.Test.YtiadfmbddkcleaaWiN
import Derived.Test.YtiadfmbddkcleaaMid
import Derived.StillTailTactics
namespace Go.Kit
theorem add_shift {acc k x : Nat} (h : acc < 128 ^ k) (hk : k < 9 ∨ k = 9 ∧ x ≤ 1) : IntKind.u64.wrap ((acc : Int) + IntKind.u64.wrap ((x : Int) % 128 * 2 ^ (7 * k))) = ((acc + x % 128 * 128 ^ k : Nat) : Int) := by
  have e2 : (2 : Nat) ^ (7 * k) = 128 ^ k := by rw [Nat.pow_mul]
  have hs := acc_step (x := x) h
  have e4 : acc + x % 128 * 128 ^ k < 18446744073709551616 := by
    rcases hk with hk | ⟨rfl, hx⟩
    · have e3 : 128 ^ (k + 1) ≤ 128 ^ 9 := Nat.pow_le_pow_right (by omega) (by omega)
      have e4 : (128 : Nat) ^ 9 < 18446744073709551616 := by decide
      omega
    · have h6 := Nat.mul_le_mul_right (128 ^ 9) (show x % 128 ≤ 1 by omega)
      have e3 : (128 : Nat) ^ 9 = 9223372036854775808 := by decide
      rw [e3] at h h6 ⊢
      omega
  have e5 : ((x : Int) % 128 * 2 ^ (7 * k)) = ((x % 128 * 128 ^ k : Nat) : Int) := by
    rw [← e2]; push_cast; rfl
  rw [e5, IntWalk.u64_in ((x % 128 * 128 ^ k : Nat) : Int) ⟨by omega, by omega⟩, IntWalk.u64_in _ ⟨by omega, by omega⟩]
  omega
end Go.Kit
namespace Go.Proofs.Ytiadfmbddkcleaa
open Go.RowKit Go.Kit Go.Proofs.YtiadfmbddkcleaaW.PrintWords
set_option maxHeartbeats 4000000 in
set_option maxRecDepth 100000 in
theorem rshort_any {w : World} {A : Option Addr} {n c : Nat} {bs : List Int} (hR : RB w A n bs) (hm : n ≤ 140737488355328) (a : Nat) (ha : a ≤ n) : Calls Try.prog 64 #[.slice A n c, .int .i64 (a : Int)] w fun e w' => ∃ (m k : Nat) (x : Int), e = .returned (.tuple #[.int .u64 (m : Int), .int .i64 (k : Int), .int .i64 x]) ∧ Hid (num bs a = (m, k, x)) ∧ w' = w := by
  have HL := Lib.hid hR.len
  have HR := Lib.hid hR
  clear hR
  go_enter Try.func64, Try.ntmps64
  go_wp2_with fail
  go_loopg [7, 8] (n - a) (fun gk v7 v8 w' => ∃ (k acc : Nat), v8 = .int .i64 (k : Int) ∧ v7 = .int .u64 (acc : Int) ∧ w' = w ∧ Hid (k ≤ 9 ∧ acc < 128 ^ k ∧ a + k ≤ n ∧ num bs a = numR (bs.drop (a + k)) k acc ∧ gk = n - a - k))
  case atStart => exact ⟨0, 0, rfl, rfl, rfl, by omega, by decide, by omega, rfl, rfl⟩
  case round =>
    obtain ⟨k, acc, rfl, rfl, rfl, HG⟩ := hrel
    have hk9 : k ≤ 9 := HG.out.1
    by_cases hlt : a + k < n
    · have hi2 : (a : Int) + (k : Int) < (n : Int) := by omega
      obtain ⟨ad, x, rfl, hc, hx0, hx1, HX⟩ := HR.out.at_ (a + k) hlt
      have hnat : ((a : Int) + (k : Int)).toNat = a + k := by omega
      obtain ⟨xn, rfl⟩ := Int.eq_ofNat_of_zero_le hx0
      have hxn : xn < 256 := by omega
      have hk10 : (k : Int) < 10 := by omega
      have hwr : IntKind.u64.wrap ((xn : Int) % 128) = (xn : Int) % 128 := IntWalk.u64_in _ ⟨by omega, by omega⟩
      have HST := Lib.hid (numR_step HX.out k acc)
      by_cases hwd : k = 9 ∧ 1 < xn
      · have hkb : ((k : Int) == 9) = true := by rw [beq_iff_eq]; omega
        have hx2 : (1 : Int) < (xn : Int) := by omega
        have HF : Hid (num bs a = (0, 0, 10)) := Lib.hid (by rw [HG.out.2.2.2.1, HST.out, if_pos ⟨hwd.1, hx2⟩])
        clear hwd
        go_wp2_with fail
        go_ret3
        exact ⟨_, _, _, rfl, HF, rfl⟩
      · obtain ⟨acc1, hacc1⟩ : ∃ acc1, acc1 = acc + xn % 128 * 128 ^ k := ⟨_, rfl⟩
        have hor : IntKind.u64.wrap ((acc : Int) + IntKind.u64.wrap ((xn : Int) % 128 * 2 ^ (7 * k))) = (acc1 : Int) := by rw [hacc1]; exact add_shift HG.out.2.1 (by omega)
        have HA1 := Lib.hid hacc1
        clear hacc1
        have hstep : ∀ P, P = num bs a → P = (if (xn : Int) < 128 then (if (xn : Int) = 0 ∧ 0 < k then (0, 0, 5) else (acc1, k + 1, 0)) else numR (bs.drop (a + k + 1)) (k + 1) acc1) := fun P hP => by
          rw [hP, HG.out.2.2.2.1, HST.out, if_neg (by omega), HA1.out]; rfl
        have HN := Lib.hid (hstep _ rfl)
        clear hstep
        by_cases hk : k = 9
        · have hkb : ((k : Int) == 9) = true := by rw [beq_iff_eq]; omega
          have hx2 : (xn : Int) ≤ 1 := by omega
          have hx8 : (xn : Int) < 128 := by omega
          have hk1 : (0 : Int) < (k : Int) := by omega
          by_cases hx00 : xn = 0
          · have hxb : ((xn : Int) == 0) = true := by rw [beq_iff_eq]; omega
            have HF : Hid (num bs a = (0, 0, 5)) := Lib.hid (by rw [HN.out, if_pos hx8, if_pos ⟨by omega, by omega⟩])
            clear hk hx00 hwd
            go_wp2_with fail
            go_ret3
            exact ⟨_, _, _, rfl, HF, rfl⟩
          · have hxb : ((xn : Int) == 0) = false := by rw [beq_eq_false_iff_ne]; omega
            have HF : Hid (num bs a = (acc1, k + 1, 0)) := Lib.hid (by rw [HN.out, if_pos hx8, if_neg (by omega)])
            clear hk hx00 hwd
            go_wp2_with fail
            go_ret3
            exact ⟨_, _, _, rfl, HF, rfl⟩
        · have hkb : ((k : Int) == 9) = false := by rw [beq_eq_false_iff_ne]; omega
          clear hwd
          by_cases hx8 : (xn : Int) < 128
          · by_cases hx00 : xn = 0
            · have hxb : ((xn : Int) == 0) = true := by rw [beq_iff_eq]; omega
              by_cases hk0 : k = 0
              · have hk1 : (k : Int) ≤ 0 := by omega
                have HF : Hid (num bs a = (acc1, k + 1, 0)) := Lib.hid (by rw [HN.out, if_pos hx8, if_neg (by omega)])
                clear hk0 hx00
                go_wp2_with fail
                go_ret3
                exact ⟨_, _, _, rfl, HF, rfl⟩
              · have hk1 : (0 : Int) < (k : Int) := by omega
                have HF : Hid (num bs a = (0, 0, 5)) := Lib.hid (by rw [HN.out, if_pos hx8, if_pos ⟨by omega, by omega⟩])
                clear hk0 hx00
                go_wp2_with fail
                go_ret3
                exact ⟨_, _, _, rfl, HF, rfl⟩
            · have hxb : ((xn : Int) == 0) = false := by rw [beq_eq_false_iff_ne]; omega
              have HF : Hid (num bs a = (acc1, k + 1, 0)) := Lib.hid (by rw [HN.out, if_pos hx8, if_neg (by omega)])
              clear hx00
              go_wp2_with fail
              go_ret3
              exact ⟨_, _, _, rfl, HF, rfl⟩
          · go_wp2_with fail
            go_roundg (n - a - (k + 1))
            case measure => have := HG.out.2.2.2.2; omega
            case rel => exact ⟨k + 1, acc1, by simp, rfl, rfl, by omega, by rw [HA1.out]; exact acc_step HG.out.2.1, by omega, by rw [HN.out, if_neg (by omega)]; rfl, by have := HG.out.2.2.2.2; omega⟩
    · have HF : Hid (num bs a = (0, 0, 4)) := Lib.hid (by rw [HG.out.2.2.2.1, numR_end (by rw [HL.out]; omega)])
      have hi2 : (n : Int) ≤ (a : Int) + (k : Int) := by omega
      go_wp2_with fail
      go_ret3
      exact ⟨_, _, _, rfl, HF, rfl⟩
end Go.Proofs.Ytiadfmbddkcleaa
