/- wire.fresh, wire.short, the document's Uint: numbers laid down. -/
import Derived.Test.YtiadfmbddkcleaaByt
import Derived.Test.YtiadfmbddkcleaaWiM
namespace Go.Proofs.Ytiadfmbddkcleaa
open Go.RowKit Go.Kit Go.Proofs.YtiadfmbddkcleaaW.PrintWords
set_option maxHeartbeats 1000000 in
set_option maxRecDepth 100000 in
theorem fresh_any (A : Option Addr) (n cap r : Nat) (xs : List Int) (w : World) (hx : RB w A n xs) (hl : n + r ≤ 281474976710656) :
    Calls Try.prog 42 #[.slice A n cap, .int .i64 (r : Int)] w fun e w' => ∃ v, e = .returned v ∧ OB 5 w' w.heap.size v xs ∧ Below w.heap.size w w' := by
  have hmk := fun W => mk_bytes n (n + r) (by omega) hl W (n : Int) ((n : Int) + (r : Int)) rfl (by simp)
  have HL := Lib.hid hx.len
  go_enter Try.func42, Try.ntmps42
  go_wp2_with (refine wpList_copy_bytes (w := w) rfl (.tmp 13) (.tmp 14) 23 5 rfl Try.underlying23 u8_size A n (n + r) n cap xs w.heap.size rfl rfl (hx.alloc _) (Nat.le_refl _) (heap_alloc_new w _) (by omega) (by omega) (below_alloc (Below.refl _ w) _) (Nat.le_refl _) ?_)
  intro w1 hO hb1
  rw [all_of (by rw [HL.out]; exact Nat.le_refl _)] at hO
  clear hmk
  go_wp2_with fail
  go_ret
  exact ⟨_, rfl, hO, hb1⟩
set_option maxHeartbeats 2000000 in
set_option maxRecDepth 100000 in
theorem short_any (base : Nat) (v : Value) (xs : List Int) (n : Nat) (w : World) (hO : OB 5 w base v xs) (hb : base ≤ w.heap.size) (hl : xs.length + 10 ≤ 140737488355328) (hn : n < 18446744073709551616) :
    Calls Try.prog 41 #[v, .int .u64 (n : Int)] w fun e w' => ∃ v', e = .returned v' ∧ OB 5 w' base v' (xs ++ sh n) ∧ Below base w w' := by
  have HT := Lib.hid (sh_ten hn)
  have HN := Lib.hid hn
  clear hn
  go_enter Try.func41, Try.ntmps41
  go_wp2_with fail
  go_loopg [0, 1] n (fun gk v0 v1 w' => ∃ (m : Nat) (pre : List Int), v1 = .int .u64 (m : Int) ∧ OB 5 w' base v0 (xs ++ pre) ∧ Below base w w' ∧ Hid (pre ++ sh m = sh n ∧ gk = m ∧ m ≤ n))
  case atStart => exact ⟨n, [], rfl, by simpa using hO, Below.refl _ _, rfl, rfl, Nat.le_refl _⟩
  case round =>
    clear hO
    obtain ⟨m, pre, rfl, hO, hb1, HG⟩ := hrel
    have hs := hb1.size
    by_cases hm : 128 ≤ m
    · have h1 : (128 : Int) ≤ (m : Int) := by omega
      have hor := or128 m
      have HP : Hid ((pre ++ [(m : Int) % 128 + 128]) ++ sh (m / 128) = sh n) := Lib.hid (by
        have h2 := HG.out.1
        rw [sh_big hm] at h2
        rw [← h2, List.append_assoc]
        simp)
      have hpl : xs.length + pre.length + 1 ≤ 140737488355328 := by
        have h2 := congrArg List.length HG.out.1
        have h3 := HT.out
        have h4 := sh_pos m
        rw [List.length_append] at h2
        omega
      go_wp2_with (at_builtin; refine push_byte (w0 := w) base rfl (.tmp 9) (.tmp 13) 23 ((m : Int) % 128 + 128) rfl Try.underlying23 u8_info rfl rfl hO hb1 (Nat.le_trans hb hs) (by rw [List.length_append]; exact hpl) (by omega) (by omega) ?_)
      intro v1 w1 hO1 hb2 _ _
      go_wp2_with fail
      go_roundg (m / 128)
      case measure => have := HG.out.2.1; omega
      case rel => exact ⟨m / 128, _, by simp, hO1, hb2, HP.out, rfl, by have := HG.out.2.2; omega⟩
    · have h1 : (m : Int) < 128 := by omega
      have hm8 : (m : Int) % 256 = (m : Int) := by omega
      have HP : Hid (pre ++ [(m : Int)] = sh n) := by
        have h2 := HG.out.1
        rw [sh_small (by omega)] at h2
        exact h2
      have hpl : xs.length + pre.length + 1 ≤ 140737488355328 := by
        have h2 := congrArg List.length HG.out.1
        have h3 := HT.out
        have h4 := sh_pos m
        rw [List.length_append] at h2
        omega
      go_wp2_with (at_builtin; refine push_byte (w0 := w) base rfl (.tmp 15) (.tmp 18) 23 (m : Int) rfl Try.underlying23 u8_info rfl rfl hO hb1 (Nat.le_trans hb hs) (by rw [List.length_append]; exact hpl) (by omega) (by omega) ?_)
      intro v1 w1 hO1 hb2 _ _
      rw [HP.out] at hO1
      go_wp2_with fail
      go_ret
      exact ⟨_, rfl, hO1, hb2⟩
set_option maxHeartbeats 2000000 in
set_option maxRecDepth 100000 in
theorem rUint_any (n : Nat) (w : World) (hn : n < 18446744073709551616) :
    Calls Try.prog 13 #[.int .u64 (n : Int)] w fun e w' => ∃ v', e = .returned v' ∧ OB 5 w' w.heap.size v' (sh n) ∧ Below w.heap.size w w' := by
  have HT := Lib.hid (sh_ten hn)
  have HN := Lib.hid hn
  clear hn
  go_enter Try.func13, Try.ntmps13
  go_wp2_with fail
  go_loopg [3, 0] n (fun gk v0 v1 w' => ∃ (m : Nat) (pre : List Int), v1 = .int .u64 (m : Int) ∧ OB 5 w' w.heap.size v0 pre ∧ Below w.heap.size w w' ∧ Hid (pre ++ sh m = sh n ∧ gk = m ∧ m ≤ n))
  case atStart => exact ⟨n, [], rfl, OB.nil _ _ _, Below.refl _ _, rfl, rfl, Nat.le_refl _⟩
  case round =>
    obtain ⟨m, pre, rfl, hO, hb1, HG⟩ := hrel
    have hs := hb1.size
    have hpl : pre.length + 1 ≤ 140737488355328 := by
      have h2 := congrArg List.length HG.out.1
      have h3 := HT.out
      have h4 := sh_pos m
      rw [List.length_append] at h2
      omega
    by_cases hm : 128 ≤ m
    · have h1 : (128 : Int) ≤ (m : Int) := by omega
      have HP : Hid ((pre ++ [(m : Int) % 128 + 128]) ++ sh (m / 128) = sh n) := Lib.hid (by
        have h2 := HG.out.1
        rw [sh_big hm] at h2
        rw [← h2, List.append_assoc]
        simp)
      have hm8 : (m : Int) % 128 % 256 = (m : Int) % 128 := by omega
      have hmw : IntKind.u64.wrap ((m : Int) / 128) = (m : Int) / 128 := by
        have h2 := HN.out
        have h3 := HG.out.2.2
        exact IntWalk.u64_in _ ⟨by omega, by omega⟩
      go_wp2_with (at_builtin; refine push_byte (w0 := w) w.heap.size rfl (.tmp 6) (.tmp 11) 23 ((m : Int) % 128 + 128) rfl Try.underlying23 u8_info rfl rfl hO hb1 hs hpl (by omega) (by omega) ?_)
      intro v1 w1 hO1 hb2 _ _
      go_wp2_with fail
      go_roundg (m / 128)
      case measure => have := HG.out.2.1; omega
      case rel => exact ⟨m / 128, _, by simp, hO1, hb2, HP.out, rfl, by have := HG.out.2.2; omega⟩
    · have h1 : (m : Int) < 128 := by omega
      have hm8 : (m : Int) % 256 = (m : Int) := by omega
      have HP : Hid (pre ++ [(m : Int)] = sh n) := by
        have h2 := HG.out.1
        rw [sh_small (by omega)] at h2
        exact h2
      go_wp2_with (at_builtin; refine push_byte (w0 := w) w.heap.size rfl (.tmp 15) (.tmp 18) 23 (m : Int) rfl Try.underlying23 u8_info rfl rfl hO hb1 hs hpl (by omega) (by omega) ?_)
      intro v1 w1 hO1 hb2 _ _
      rw [HP.out] at hO1
      go_wp2_with fail
      go_ret
      exact ⟨_, rfl, hO1, hb2⟩
end Go.Proofs.Ytiadfmbddkcleaa
