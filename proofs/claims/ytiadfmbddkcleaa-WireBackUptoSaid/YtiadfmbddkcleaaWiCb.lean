/- The law's longest: how many bytes the longest text has. -/
import Derived.Test.YtiadfmbddkcleaaWiCa
import Derived.Test.YtiadfmbddkcleaaWiX
namespace Go.Proofs.Ytiadfmbddkcleaa
open Go.RowKit Go.Kit Go.Proofs.YtiadfmbddkcleaaW.PrintWords
attribute [local go_sem] Go.Proofs.YtiadfmbddkcleaaW.PrintMore.max_two
set_option maxHeartbeats 2000000 in
theorem longest_any {w : World} {B : Option Addr} {m c : Nat} {l : List ByteArray} (hT : RT w B m l) (K : Nat) (hK : K ≤ 140737488355328) (hs : ∀ s ∈ l, s.size ≤ K) :
    Calls Try.prog 26 #[.slice B m c] w fun e w' => ∃ M : Int, e = .returned (.int .i64 M) ∧ Hid (0 ≤ M ∧ M ≤ (K : Int) ∧ ∀ s ∈ l, (s.size : Int) ≤ M) ∧ Below w.heap.size w w' := by
  have hmm := hT.max
  have HLn := Lib.hid hT.len
  have HS := Lib.hid hs
  clear hs
  go_enter Try.func26, Try.ntmps26
  go_wp2_with fail
  go_loopg [3, 8] m (fun gk v3 v8 w' => ∃ (i : Nat) (M : Int), v3 = .int .i64 M ∧ v8 = .int .i64 (i : Int) ∧ Below w.heap.size w w' ∧ Hid (i ≤ m ∧ gk = m - i ∧ 0 ≤ M ∧ M ≤ (K : Int) ∧ ∀ s ∈ l.take i, (s.size : Int) ≤ M))
  case atStart => exact ⟨0, 0, rfl, rfl, Below.refl _ _, by omega, rfl, by omega, by omega, by simp⟩
  case round =>
    obtain ⟨i, M, rfl, rfl, hb1, HG⟩ := hrel
    by_cases hi : i < m
    · have hi2 : (i : Int) < (m : Int) := by omega
      obtain ⟨ad, s, rfl, hc, HX⟩ := (hT.below hb1).at_ i hi
      have HSZ : Hid (s.size ≤ K) := Lib.hid (HS.out s (List.mem_of_getElem? HX.out))
      have hss : s.size < 9223372036854775808 := by have := HSZ.out; omega
      obtain ⟨ns, hns⟩ : ∃ ns : Nat, s.size = ns := ⟨_, rfl⟩
      rw [hns] at hss
      have hM := HG.out.2.2.1
      have hM2 := HG.out.2.2.2.1
      obtain ⟨mx, hmx, h1, h2, h3⟩ : ∃ mx : Int, Builtin.max2 (.int .i64 M) (.int .i64 (ns : Int)) = pure (.int .i64 mx) ∧ M ≤ mx ∧ (ns : Int) ≤ mx ∧ mx ≤ (K : Int) :=
        ⟨_, max2_is rfl, by omega, by omega, by have := HSZ.out; omega⟩
      have HN : Hid (0 ≤ mx ∧ mx ≤ (K : Int) ∧ ∀ s ∈ l.take (i + 1), (s.size : Int) ≤ mx) := Lib.hid ⟨by omega, h3, fun x hx => by
        rw [List.take_add_one, HX.out] at hx
        rcases List.mem_append.1 hx with h | h
        · have := HG.out.2.2.2.2 x h; omega
        · simp at h; subst h; omega⟩
      clear h1 h2 h3 hM hM2
      go_wp2_with fail
      go_roundg (m - (i + 1))
      case measure => have := HG.out; omega
      case rel => exact ⟨i + 1, mx, rfl, by simp, hb1, by omega, rfl, HN.out⟩
    · have hin : i = m := by have := HG.out; omega
      subst hin
      go_wp2_with fail
      go_ret
      refine ⟨M, rfl, Lib.hid ⟨HG.out.2.2.1, HG.out.2.2.2.1, fun s hs => HG.out.2.2.2.2 s ?_⟩, hb1⟩
      rwa [List.take_of_length_le (by rw [HLn.out]; exact Nat.le_refl _)]
end Go.Proofs.Ytiadfmbddkcleaa
