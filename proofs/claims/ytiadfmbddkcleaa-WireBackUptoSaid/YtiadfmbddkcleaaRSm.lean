/- Rows of texts compared by the document's Same. -/
import Derived.Test.YtiadfmbddkcleaaProg
import Derived.Test.YtiadfmbddkcleaaTxt
namespace Go.Proofs.Ytiadfmbddkcleaa
open Go.RowKit Go.Kit Go.Proofs.YtiadfmbddkcleaaW.PrintWords
set_option maxHeartbeats 1000000 in
theorem RSame_any (A B : Option Addr) (n m c d : Nat) (xs ys : List ByteArray) (w : World) (hx : RT w A n xs) (hy : RT w B m ys) :
    Calls Try.prog 24 #[.slice A n c, .slice B m d] w fun e w' => ∃ t, e = .returned (.bool t) ∧ Hid (t = sameT xs ys) ∧ Below w.heap.size w w' := by
  have hxm := hx.max
  have hym := hy.max
  have HX := Lib.hid hx.len
  have HY := Lib.hid hy.len
  go_enter Try.func24, Try.ntmps24
  by_cases hnm : n = m
  · subst hnm
    go_wp2_with fail
    go_loopg [5] n (fun g v5 w' => ∃ i : Nat, v5 = .int .i64 (i : Int) ∧ (∃ k, w' = w.drewN k) ∧ Hid (i + g = n ∧ xs.take i = ys.take i))
    case atStart => exact ⟨0, rfl, ⟨0, rfl⟩, by omega, rfl⟩
    case round =>
      obtain ⟨i, rfl, ⟨k, rfl⟩, HD⟩ := hrel
      cases gk with
      | zero =>
        obtain ⟨h0, h1⟩ := HD.out
        obtain rfl : i = n := by omega
        have HF : Hid (true = sameT xs ys) := by
          have e1 : xs.take i = xs := List.take_of_length_le (by rw [HX.out]; exact Nat.le_refl _)
          have e2 : ys.take i = ys := List.take_of_length_le (by rw [HY.out]; exact Nat.le_refl _)
          rw [e1, e2] at h1
          exact (decide_eq_true h1).symm
        clear h0 h1 HD
        go_wp2_with fail
        go_ret
        exact ⟨_, rfl, HF, pw_below_drewN (Below.refl _ _) k⟩
      | succ g =>
        have hlt : i < n := by have := HD.out.1; omega
        obtain ⟨ad, x, rfl, hcx, HXX⟩ := hx.at_ i hlt
        obtain ⟨bd, y, rfl, hcy, HYY⟩ := hy.at_ i hlt
        have hbi : (i : Int) < (n : Int) := by omega
        by_cases hxy : x = y
        · subst hxy
          have HE : Hid (xs.take (i + 1) = ys.take (i + 1)) := take_step HXX.out HYY.out HD.out.2 rfl
          go_wp2_with fail
          go_quiet (fail)
          go_wp2_with fail
          go_roundg g
          case measure => omega
          case rel => exact ⟨i + 1, rfl, ⟨_, rfl⟩, by have := HD.out.1; omega, HE.out⟩
        · have HE := Lib.hid (take_diff HXX.out HYY.out hxy)
          have hbb := bs_diff hxy
          clear hxy
          go_wp2_with fail
          go_quiet (fail)
          go_wp2_with fail
          go_ret
          exact ⟨_, rfl, HE, pw_below_drewN (pw_below_drewN (Below.refl _ _) k) _⟩
  · have HF : Hid (false = sameT xs ys) := by
      refine (decide_eq_false ?_).symm
      intro e
      exact hnm (by rw [← HX.out, ← HY.out, e])
    have hb : ((n : Int) != (m : Int)) = true := by simp; omega
    go_wp2_with fail
    go_ret
    exact ⟨_, rfl, HF, Below.refl _ _⟩
end Go.Proofs.Ytiadfmbddkcleaa
