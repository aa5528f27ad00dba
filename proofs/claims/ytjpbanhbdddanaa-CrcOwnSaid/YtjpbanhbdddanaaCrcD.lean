/- The contracts of the document's byteOn, More and Sum; of both products. -/
import Derived.Test.YtjpbanhbdddanaaCrcC
namespace Go.Proofs.Ytjpbanhbdddanaa
open Go.RowKit Go.Kit CrcM Go.Proofs.YtjpbanhbdddanaaW.PrintWords

theorem byte_in (c : W) (x : Int) (h0 : 0 ≤ x) (h1 : x < 256) : bits .xor .u32 ((c.toNat : Nat) : Int) x = ((c ^^^ byt x).toNat : Int) := by
  obtain ⟨n, rfl⟩ := Int.eq_ofNat_of_zero_le h0
  have e : (n : Int) = ((byt (n : Int)).toNat : Int) := by rw [byt, BitVec.ofInt_natCast, BitVec.toNat_ofNat]; omega
  rw [show bits .xor .u32 ((c.toNat : Nat) : Int) (n : Int) = bits .xor .u32 ((c.toNat : Nat) : Int) ((byt (n : Int)).toNat : Int) from by rw [← e], xor_w]
set_option maxHeartbeats 400000 in
theorem byteOn_any (c : W) (n : Int) (hn : n = (c.toNat : Int)) (x : Int) (hx0 : 0 ≤ x) (hx1 : x < 256) (w : World) :
    Calls Try.prog 29 #[.int .u32 n, .int .u8 x] w fun e w' => e = .returned (.int .u32 ((Mn 8 (c ^^^ byt x)).toNat : Int)) ∧ w' = w := by
  subst hn
  have hin := byte_in c x hx0 hx1
  obtain ⟨c2, hc2⟩ : ∃ c2, c2 = c ^^^ byt x := ⟨_, rfl⟩
  rw [← hc2] at hin ⊢
  clear hc2
  go_enter Try.func29, Try.ntmps29
  go_wp2
  clear hin
  go_loop [0, 5] (fun v0 v3 => ∃ (d : W) (k : Nat), k ≤ 8 ∧ v0 = .int .u32 (d.toNat : Int) ∧ v3 = .int .i64 (k : Int) ∧ Hid (Mn 8 c2 = Mn (8 - k) d)) (fun _ i => 8 - (intOf i).toNat)
  case atStart => exact ⟨c2, 0, by omega, rfl, rfl, rfl⟩
  case round =>
    obtain ⟨d, k, hk, rfl, rfl, HD⟩ := hrel
    have h1 := and_one d
    by_cases hlt : k < 8
    · have HE : Hid (Mn 8 c2 = Mn (8 - (k + 1)) (M d)) := (HD.out).trans (Mn_less k hlt d)
      cases hb : d.getLsbD 0
      · rw [hb] at h1
        have HS := Lib.hid (step_no d hb)
        clear hb
        go_wp2
        go_round
        case rel => exact ⟨M d, k + 1, by omega, by rw [← HS.out], by simp, HE⟩
        case measure => simp [intOf]; omega
      · rw [hb] at h1
        have HS := Lib.hid (step_yes d hb)
        clear hb
        go_wp2
        go_round
        case rel => exact ⟨M d, k + 1, by omega, by rw [← HS.out], by simp, HE⟩
        case measure => simp [intOf]; omega
    · have HE : Hid (Mn 8 c2 = d) := by rw [HD.out, show 8 - k = 0 from by omega]; rfl
      go_wp2
      go_ret
      exact ⟨by rw [HE.out]; rfl, rfl⟩

set_option maxHeartbeats 400000 in
theorem rMore_any (c : W) (n : Int) (hn : n = (c.toNat : Int)) (A : Option Addr) (len cap : Nat) (xs : List Int) (w : World) (hx : RB w A len xs) :
    Calls Try.prog 16 #[.int .u32 n, .slice A len cap] w fun e w' => e = .returned (.int .u32 ((more c xs).toNat : Int)) ∧ w' = w := by
  subst hn
  have hnot := not_w c
  obtain ⟨b, hb0⟩ : ∃ b, b = ~~~ c := ⟨_, rfl⟩
  rw [← hb0] at hnot
  have HB := Lib.hid hb0
  clear hb0
  have hmx := hx.max
  go_enter Try.func16, Try.ntmps16
  go_wp2_with fail
  clear hnot
  go_loop [0, 5] (fun v0 v5 => ∃ (d : W) (k : Nat), k ≤ len ∧ v0 = .int .u32 (d.toNat : Int) ∧ v5 = .int .i64 (k : Int) ∧ Hid (d = over b (xs.take k))) (fun _ i => len - (intOf i).toNat)
  case atStart => exact ⟨b, 0, by omega, rfl, rfl, rfl⟩
  case round =>
    obtain ⟨d, k, hk, rfl, rfl, HD⟩ := hrel
    by_cases hlt : k < len
    · obtain ⟨ad, x, rfl, hc, h0, h1, HX⟩ := hx.at_ k hlt
      go_wp2_with ((go_at_call 29); (refine (byteOn_any d _ rfl _ h0 h1 _).mono ?_); (rintro e w' ⟨rfl, rfl⟩))
      go_round
      case rel => exact ⟨Mn 8 (d ^^^ byt x), k + 1, by omega, by simp, by simp, by rw [snoc HX.out, over_snoc, ← HD.out]; rfl⟩
      case measure => simp [intOf]; omega
    · have hnot := not_w d
      obtain ⟨m, hm⟩ : ∃ m, m = ~~~ d := ⟨_, rfl⟩
      rw [← hm] at hnot
      have HM : Hid (m = more c xs) := Lib.hid (by unfold more; rw [← HB.out, hm, HD.out, all_of (by rw [hx.len]; omega)])
      clear hm
      go_wp2_with fail
      go_ret
      exact ⟨by rw [← HM.out]; rfl, rfl⟩

theorem more_more (c : W) (x y : List Int) : more (more c x) y = more c (x ++ y) := by
  unfold more; rw [over_append]; simp
set_option maxHeartbeats 400000 in
theorem rSum_any (A : Option Addr) (len cap : Nat) (L : List (List Int)) (w : World) (hL : RBs w A len L) :
    Calls Try.prog 13 #[.slice A len cap] w fun e w' => e = .returned (.int .u32 ((more 0#32 L.flatten).toNat : Int)) ∧ w' = w := by
  have hmx := hL.max
  have HL := Lib.hid hL.len
  go_enter Try.func13, Try.ntmps13
  go_wp2_with fail
  go_loop [3, 4] (fun v0 v5 => ∃ (d : W) (k : Nat), k ≤ len ∧ v0 = .int .u32 (d.toNat : Int) ∧ v5 = .int .i64 (k : Int) ∧ Hid (d = more 0#32 (L.take k).flatten)) (fun _ i => len - (intOf i).toNat)
  case atStart => exact ⟨0#32, 0, by omega, rfl, rfl, Lib.hid (by simp [more, over_nil])⟩
  case round =>
    obtain ⟨d, k, hk, rfl, rfl, HD⟩ := hrel
    by_cases hlt : k < len
    · obtain ⟨ad, Ai, ni, ci, xs, rfl, hcell, hr, HX⟩ := hL.at_ k hlt
      go_wp2_with ((go_at_call 16); (refine (rMore_any d _ rfl _ _ _ xs _ hr).mono ?_); (rintro e w' ⟨rfl, rfl⟩))
      go_round
      case rel => exact ⟨more d xs, k + 1, by omega, by simp, by simp, by rw [flat_snoc HX.out, ← more_more, ← HD.out]; rfl⟩
      case measure => simp [intOf]; omega
    · go_wp2_with fail
      go_ret
      exact ⟨by rw [HD.out, all_of (by rw [HL.out]; omega)]; rfl, rfl⟩
end Go.Proofs.Ytjpbanhbdddanaa
