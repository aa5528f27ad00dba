/- The contracts of both moves, joins and turns. -/
import Derived.Test.YtjpbanhbdddanaaCrcF
namespace Go.Proofs.Ytjpbanhbdddanaa
open Go.RowKit Go.Kit CrcM Go.Proofs.YtjpbanhbdddanaaW.PrintWords

theorem i64_and_one (n : Nat) (h : n < 9223372036854775808) : bits .and .i64 (n : Int) 1 = ((n % 2 : Nat) : Int) := by
  have hx : n &&& 1 < 2 ^ 63 := Nat.and_lt_two_pow _ (by omega)
  show IntKind.i64.wrap ((BitVec.ofInt 64 (n : Int) &&& BitVec.ofInt 64 1).toNat : Int) = _
  rw [BitVec.toNat_and, BitVec.ofInt_natCast, BitVec.toNat_ofNat, Nat.mod_eq_of_lt (by omega), show (BitVec.ofInt 64 1).toNat = 1 from by decide, IntKind.wrap_i64, Nat.and_one_is_mod]
  omega

set_option maxHeartbeats 1000000 in
theorem moved_any (c : W) (m : Int) (hm : m = (c.toNat : Int)) (N : Nat) (hN : N < 9223372036854775808) (w : World) :
    Calls Try.prog 30 #[.int .u32 m, .int .i64 (N : Int)] w fun e w' => e = .returned (.int .u32 ((Mn (8 * N) c).toNat : Int)) ∧ w' = w := by
  subst hm
  go_enter Try.func30, Try.ntmps30
  go_wp2_with fail
  go_loopg [1, 5, 6] N (fun g v1 v5 v6 w' => ∃ (p q : W), v1 = .int .i64 (g : Int) ∧ v5 = .int .u32 (p.toNat : Int) ∧ v6 = .int .u32 (q.toNat : Int) ∧ w' = w ∧ Hid (∃ k, g = N / 2 ^ k ∧ p = Mn (8 * (N % 2 ^ k)) one ∧ q = Mn (8 * 2 ^ k) one))
  case atStart => exact ⟨one, 1#32 <<< 23, rfl, congrArg (Value.int .u32) (by decide), congrArg (Value.int .u32) (by decide), rfl, 0, by simp, by simp [Nat.mod_one, Mn], eighth⟩
  case round =>
    obtain ⟨p, q, rfl, rfl, rfl, rfl, HD⟩ := hrel
    by_cases hz : gk = 0
    · subst hz
      have HE : Hid (times p c = Mn (8 * N) c) := by
        obtain ⟨k, h0, h1, _⟩ := HD.out
        show times p c = _
        rw [h1, pow_times, half_done N k h0.symm]
      clear HD
      go_wp2_with fail
      refine (times_any p c _ _ rfl rfl _).mono ?_
      rintro e w1 ⟨rfl, rfl⟩
      go_wp2_with fail
      go_ret
      exact ⟨by rw [← HE.out]; rfl, rfl⟩
    · have hgN : gk ≤ N := by obtain ⟨k, h0, _⟩ := HD.out; rw [h0]; exact Nat.div_le_self _ _
      have hand := i64_and_one gk (by omega)
      by_cases hp : gk % 2 = 1
      · rw [hp] at hand
        have HE : Hid (∃ k, gk / 2 = N / 2 ^ k ∧ times p q = Mn (8 * (N % 2 ^ k)) one ∧ times q q = Mn (8 * 2 ^ k) one) := by
          obtain ⟨k, h0, h1, h2⟩ := HD.out
          exact ⟨k + 1, by rw [h0, half_half], by rw [h1, h2, more_p N k (by rw [← h0]; exact hp)], by rw [h2, twice]⟩
        clear HD hp
        go_wp2_with fail
        refine (times_any p q _ _ rfl rfl _).mono ?_
        rintro e w1 ⟨rfl, rfl⟩
        go_wp2_with fail
        refine (times_any q q _ _ rfl rfl _).mono ?_
        rintro e w1 ⟨rfl, rfl⟩
        go_wp2_with fail
        go_roundg (gk / 2)
        case measure => omega
        case rel => exact ⟨times p q, times q q, by simp, by simp, by simp, rfl, HE.out⟩
      · have hp0 : gk % 2 = 0 := by omega
        rw [hp0] at hand
        have HE : Hid (∃ k, gk / 2 = N / 2 ^ k ∧ p = Mn (8 * (N % 2 ^ k)) one ∧ times q q = Mn (8 * 2 ^ k) one) := by
          obtain ⟨k, h0, h1, h2⟩ := HD.out
          exact ⟨k + 1, by rw [h0, half_half], by rw [h1, half_even N k (by rw [← h0]; exact hp0)], by rw [h2, twice]⟩
        clear HD hp hp0
        go_wp2_with fail
        refine (times_any q q _ _ rfl rfl _).mono ?_
        rintro e w1 ⟨rfl, rfl⟩
        go_wp2_with fail
        go_roundg (gk / 2)
        case measure => omega
        case rel => exact ⟨p, times q q, by simp, by simp, by simp, rfl, HE.out⟩

set_option maxHeartbeats 1000000 in
theorem rmoved_any (c : W) (m : Int) (hm : m = (c.toNat : Int)) (N : Nat) (hN : N < 9223372036854775808) (w : World) :
    Calls Try.prog 31 #[.int .u32 m, .int .i64 (N : Int)] w fun e w' => e = .returned (.int .u32 ((Mn (8 * N) c).toNat : Int)) ∧ w' = w := by
  subst hm
  go_enter Try.func31, Try.ntmps31
  go_wp2_with fail
  go_loopg [0, 1, 5] N (fun g v0 v1 v5 w' => ∃ (p q : W), v1 = .int .i64 (g : Int) ∧ v0 = .int .u32 (p.toNat : Int) ∧ v5 = .int .u32 (q.toNat : Int) ∧ w' = w ∧ Hid (∃ k, g = N / 2 ^ k ∧ p = Mn (8 * (N % 2 ^ k)) c ∧ q = Mn (8 * 2 ^ k) one))
  case atStart => exact ⟨c, 1#32 <<< 23, rfl, rfl, congrArg (Value.int .u32) (by decide), rfl, 0, by simp, by simp [Nat.mod_one, Mn], eighth⟩
  case round =>
    obtain ⟨p, q, rfl, rfl, rfl, rfl, HD⟩ := hrel
    by_cases hz : gk = 0
    · subst hz
      have HE : Hid (p = Mn (8 * N) c) := by
        obtain ⟨k, h0, h1, _⟩ := HD.out
        show p = _
        rw [h1, half_done N k h0.symm]
      clear HD
      go_wp2_with fail
      go_ret
      exact ⟨by rw [← HE.out]; rfl, rfl⟩
    · have hgN : gk ≤ N := by obtain ⟨k, h0, _⟩ := HD.out; rw [h0]; exact Nat.div_le_self _ _
      by_cases hp : gk % 2 = 1
      · have HE : Hid (∃ k, gk / 2 = N / 2 ^ k ∧ times q p = Mn (8 * (N % 2 ^ k)) c ∧ times q q = Mn (8 * 2 ^ k) one) := by
          obtain ⟨k, h0, h1, h2⟩ := HD.out
          exact ⟨k + 1, by rw [h0, half_half], by rw [h1, h2, more_c N k c (by rw [← h0]; exact hp)], by rw [h2, twice]⟩
        have hpb : ((gk : Int) % 2) = 1 := by omega
        clear HD hp
        go_wp2_with fail
        refine (rtimes_any q p _ _ rfl rfl _).mono ?_
        rintro e w1 ⟨rfl, rfl⟩
        go_wp2_with fail
        refine (rtimes_any q q _ _ rfl rfl _).mono ?_
        rintro e w1 ⟨rfl, rfl⟩
        go_wp2_with fail
        go_roundg (gk / 2)
        case measure => omega
        case rel => exact ⟨times q p, times q q, by simp, by simp, by simp, rfl, HE.out⟩
      · have hp0 : gk % 2 = 0 := by omega
        have HE : Hid (∃ k, gk / 2 = N / 2 ^ k ∧ p = Mn (8 * (N % 2 ^ k)) c ∧ times q q = Mn (8 * 2 ^ k) one) := by
          obtain ⟨k, h0, h1, h2⟩ := HD.out
          exact ⟨k + 1, by rw [h0, half_half], by rw [h1, half_even N k (by rw [← h0]; exact hp0)], by rw [h2, twice]⟩
        have hpb : ((gk : Int) % 2) = 0 := by omega
        clear HD hp hp0
        go_wp2_with fail
        refine (rtimes_any q q _ _ rfl rfl _).mono ?_
        rintro e w1 ⟨rfl, rfl⟩
        go_wp2_with fail
        go_roundg (gk / 2)
        case measure => omega
        case rel => exact ⟨p, times q q, by simp, by simp, by simp, rfl, HE.out⟩

theorem moved_at (c : W) (m : Int) (hm : m = (c.toNat : Int)) (N : Nat) (hN : N < 9223372036854775808) (n : Int) (hn : n = (N : Int)) (w : World) :
    Calls Try.prog 30 #[.int .u32 m, .int .i64 n] w fun e w' => e = .returned (.int .u32 ((Mn (8 * N) c).toNat : Int)) ∧ w' = w := by
  subst hn; exact moved_any c m hm N hN w
theorem rmoved_at (c : W) (m : Int) (hm : m = (c.toNat : Int)) (N : Nat) (hN : N < 9223372036854775808) (n : Int) (hn : n = (N : Int)) (w : World) :
    Calls Try.prog 31 #[.int .u32 m, .int .i64 n] w fun e w' => e = .returned (.int .u32 ((Mn (8 * N) c).toNat : Int)) ∧ w' = w := by
  subst hn; exact rmoved_any c m hm N hN w

/-- What Join answers: the number and the error. -/
def joinR (a b : W) (n : Int) : Int × Int := if n < 0 then (0, 1) else (((Mn (8 * n.toNat) a ^^^ b).toNat : Int), 0)
set_option maxHeartbeats 400000 in
theorem Join_any (a b : W) (x y : Int) (hx : x = (a.toNat : Int)) (hy : y = (b.toNat : Int)) (n : Int) (hn : n < 9223372036854775808) (w : World) :
    Calls Try.prog 24 #[.int .u32 x, .int .u32 y, .int .i64 n] w fun e w' => e = .returned (.tuple #[.int .u32 (joinR a b n).1, .int .i64 (joinR a b n).2]) ∧ w' = w := by
  subst hx
  subst hy
  by_cases h : n < 0
  · have hj : joinR a b n = (0, 1) := if_pos h
    rw [hj]
    clear hj
    go_enter Try.func24, Try.ntmps24
    go_wp2
    go_ret2
    exact ⟨rfl, rfl⟩
  · obtain ⟨N, rfl⟩ := Int.eq_ofNat_of_zero_le (show 0 ≤ n by omega)
    have hj : joinR a b (N : Int) = (((Mn (8 * N) a ^^^ b).toNat : Int), 0) := if_neg h
    rw [hj]
    clear hj
    have hxor := xor_w (Mn (8 * N) a) b
    obtain ⟨z, hz⟩ : ∃ z, z = Mn (8 * N) a ^^^ b := ⟨_, rfl⟩
    rw [← hz] at hxor ⊢
    clear hz
    go_enter Try.func24, Try.ntmps24
    go_wp2_with fail
    refine (moved_at a _ rfl N (by omega) _ rfl _).mono ?_
    rintro e w1 ⟨rfl, rfl⟩
    go_wp2_with fail
    go_ret2
    exact ⟨rfl, rfl⟩
set_option maxHeartbeats 400000 in
theorem rJoin_any (a b : W) (x y : Int) (hx : x = (a.toNat : Int)) (hy : y = (b.toNat : Int)) (n : Int) (hn : n < 9223372036854775808) (w : World) :
    Calls Try.prog 25 #[.int .u32 x, .int .u32 y, .int .i64 n] w fun e w' => e = .returned (.tuple #[.int .u32 (joinR a b n).1, .int .i64 (joinR a b n).2]) ∧ w' = w := by
  subst hx
  subst hy
  by_cases h : n < 0
  · have hj : joinR a b n = (0, 1) := if_pos h
    rw [hj]
    clear hj
    go_enter Try.func25, Try.ntmps25
    go_wp2
    go_ret2
    exact ⟨rfl, rfl⟩
  · obtain ⟨N, rfl⟩ := Int.eq_ofNat_of_zero_le (show 0 ≤ n by omega)
    have hj : joinR a b (N : Int) = (((Mn (8 * N) a ^^^ b).toNat : Int), 0) := if_neg h
    rw [hj]
    clear hj
    have hxor := xor_w (Mn (8 * N) a) b
    obtain ⟨z, hz⟩ : ∃ z, z = Mn (8 * N) a ^^^ b := ⟨_, rfl⟩
    rw [← hz] at hxor ⊢
    clear hz
    go_enter Try.func25, Try.ntmps25
    go_wp2_with fail
    refine (rmoved_at a _ rfl N (by omega) _ rfl _).mono ?_
    rintro e w1 ⟨rfl, rfl⟩
    go_wp2_with fail
    go_ret2
    exact ⟨rfl, rfl⟩

/-- What Turned answers. -/
def turnR (c : W) (size at_ m : Int) : Int × Int :=
  if size < 0 then (0, 1) else if at_ < 0 ∨ size ≤ at_ then (0, 30) else (((c ^^^ Mn (8 * (size.toNat - 1 - at_.toNat)) (Mn 8 (byt m))).toNat : Int), 0)
theorem byt_nat (m : Int) (h0 : 0 ≤ m) (h1 : m < 256) : m = ((byt m).toNat : Int) := by
  obtain ⟨n, rfl⟩ := Int.eq_ofNat_of_zero_le h0
  rw [byt, BitVec.ofInt_natCast, BitVec.toNat_ofNat]; omega
set_option maxHeartbeats 1000000 in
theorem Turned_any (c : W) (x : Int) (hx : x = (c.toNat : Int)) (size at_ m : Int) (hs : size < 9223372036854775808) (ha : at_ < 9223372036854775808) (h0 : 0 ≤ m) (h1 : m < 256) (w : World) :
    Calls Try.prog 26 #[.int .u32 x, .int .i64 size, .int .i64 at_, .int .u8 m] w fun e w' => e = .returned (.tuple #[.int .u32 (turnR c size at_ m).1, .int .i64 (turnR c size at_ m).2]) ∧ w' = w := by
  subst hx
  by_cases h : size < 0
  · have hj : turnR c size at_ m = (0, 1) := if_pos h
    rw [hj]
    clear hj
    go_enter Try.func26, Try.ntmps26
    go_wp2
    go_ret2
    exact ⟨rfl, rfl⟩
  · by_cases h2 : at_ < 0
    · have hj : turnR c size at_ m = (0, 30) := by unfold turnR; rw [if_neg h, if_pos (Or.inl h2)]
      rw [hj]
      clear hj
      go_enter Try.func26, Try.ntmps26
      go_wp2
      go_ret2
      exact ⟨rfl, rfl⟩
    · by_cases h3 : size ≤ at_
      · have hj : turnR c size at_ m = (0, 30) := by unfold turnR; rw [if_neg h, if_pos (Or.inr h3)]
        rw [hj]
        clear hj
        go_enter Try.func26, Try.ntmps26
        go_wp2
        go_ret2
        exact ⟨rfl, rfl⟩
      · obtain ⟨S, rfl⟩ := Int.eq_ofNat_of_zero_le (show 0 ≤ size by omega)
        obtain ⟨T, rfl⟩ := Int.eq_ofNat_of_zero_le (show 0 ≤ at_ by omega)
        have hj : turnR c (S : Int) (T : Int) m = (((c ^^^ Mn (8 * (S - 1 - T)) (Mn 8 (byt m))).toNat : Int), 0) := by unfold turnR; rw [if_neg h, if_neg (by omega)]; rfl
        rw [hj]
        clear hj
        have hxor := xor_w c (Mn (8 * (S - 1 - T)) (Mn 8 (byt m)))
        obtain ⟨z, hz⟩ : ∃ z, z = c ^^^ Mn (8 * (S - 1 - T)) (Mn 8 (byt m)) := ⟨_, rfl⟩
        rw [← hz] at hxor ⊢
        clear hz
        have HB := Lib.hid (byt_nat m h0 h1)
        go_enter Try.func26, Try.ntmps26
        go_wp2_with fail
        refine (step_any (byt m) _ HB.out _).mono ?_
        rintro e w1 ⟨rfl, rfl⟩
        go_wp2_with fail
        refine (moved_at (Mn 8 (byt m)) _ rfl (S - 1 - T) (by omega) _ (by omega) _).mono ?_
        rintro e w1 ⟨rfl, rfl⟩
        go_wp2_with fail
        go_ret2
        exact ⟨rfl, rfl⟩
set_option maxHeartbeats 1000000 in
theorem rTurned_any (c : W) (x : Int) (hx : x = (c.toNat : Int)) (size at_ m : Int) (hs : size < 9223372036854775808) (ha : at_ < 9223372036854775808) (h0 : 0 ≤ m) (h1 : m < 256) (w : World) :
    Calls Try.prog 27 #[.int .u32 x, .int .i64 size, .int .i64 at_, .int .u8 m] w fun e w' => e = .returned (.tuple #[.int .u32 (turnR c size at_ m).1, .int .i64 (turnR c size at_ m).2]) ∧ w' = w := by
  subst hx
  by_cases h : size < 0
  · have hj : turnR c size at_ m = (0, 1) := if_pos h
    rw [hj]
    clear hj
    go_enter Try.func27, Try.ntmps27
    go_wp2
    go_ret2
    exact ⟨rfl, rfl⟩
  · by_cases h2 : at_ < 0
    · have hj : turnR c size at_ m = (0, 30) := by unfold turnR; rw [if_neg h, if_pos (Or.inl h2)]
      rw [hj]
      clear hj
      go_enter Try.func27, Try.ntmps27
      go_wp2
      go_ret2
      exact ⟨rfl, rfl⟩
    · by_cases h3 : size ≤ at_
      · have hj : turnR c size at_ m = (0, 30) := by unfold turnR; rw [if_neg h, if_pos (Or.inr h3)]
        rw [hj]
        clear hj
        go_enter Try.func27, Try.ntmps27
        go_wp2
        go_ret2
        exact ⟨rfl, rfl⟩
      · obtain ⟨S, rfl⟩ := Int.eq_ofNat_of_zero_le (show 0 ≤ size by omega)
        obtain ⟨T, rfl⟩ := Int.eq_ofNat_of_zero_le (show 0 ≤ at_ by omega)
        have hj : turnR c (S : Int) (T : Int) m = (((c ^^^ Mn (8 * (S - 1 - T)) (Mn 8 (byt m))).toNat : Int), 0) := by unfold turnR; rw [if_neg h, if_neg (by omega)]; rfl
        rw [hj]
        clear hj
        have hxor := xor_w c (Mn (8 * (S - 1 - T)) (Mn 8 (byt m)))
        obtain ⟨z, hz⟩ : ∃ z, z = c ^^^ Mn (8 * (S - 1 - T)) (Mn 8 (byt m)) := ⟨_, rfl⟩
        rw [← hz] at hxor ⊢
        clear hz
        have HZ : Hid (Mn 8 (0#32 ^^^ byt m) = Mn 8 (byt m)) := Lib.hid (by simp)
        go_enter Try.func27, Try.ntmps27
        go_wp2_with fail
        refine (byteOn_any 0#32 _ (by decide) _ h0 h1 _).mono ?_
        rintro e w1 ⟨rfl, rfl⟩
        rw [HZ.out]
        go_wp2_with fail
        refine (rmoved_at (Mn 8 (byt m)) _ rfl (S - 1 - T) (by omega) _ (by omega) _).mono ?_
        rintro e w1 ⟨rfl, rfl⟩
        go_wp2_with fail
        go_ret2
        exact ⟨rfl, rfl⟩
end Go.Proofs.Ytjpbanhbdddanaa
