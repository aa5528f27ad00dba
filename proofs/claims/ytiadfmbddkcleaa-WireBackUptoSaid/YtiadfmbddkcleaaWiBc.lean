/- The law's mark. -/
import Derived.Test.YtiadfmbddkcleaaWiAc
namespace Go.Proofs.Ytiadfmbddkcleaa
open Go.RowKit Go.Kit Go.Proofs.YtiadfmbddkcleaaW.PrintWords
set_option maxHeartbeats 2000000 in
theorem mark_any {w : World} {base : Nat} {v : Value} {xs : List Int} (hO : OB 5 w base v xs) (m : Int) (h0 : 0 ≤ m) (h1 : m < 256) :
    Calls Try.prog 16 #[v, .int .u8 m] w fun e w' => e = .returned (.tuple #[]) ∧ (∃ ys, OB 5 w' base v ys ∧ ys.length = xs.length) ∧ Only w w' (rf v) := by
  have hlen : ∃ n, xs.length = n := ⟨_, rfl⟩
  obtain ⟨n, hn⟩ := hlen
  rw [hn]
  have HN := Lib.hid hn
  clear hn
  by_cases hz : n = 0
  · subst hz
    obtain ⟨A, c, rfl, hR, _⟩ := hO.reads'
    have hrd := HN.out
    rw [hrd] at hO ⊢
    clear hrd hR
    go_enter Try.func16, Try.ntmps16
    go_wp2_with fail
    go_loopg [7] 0 (fun gk v7 w' => v7 = .int .i64 0 ∧ w' = w)
    case atStart => exact ⟨rfl, rfl⟩
    case round =>
      obtain ⟨rfl, rfl⟩ := hrel
      go_wp2_with fail
      refine bodyPost_end (v := .tuple #[]) (by simp [results, Try.results16, go_sem]) rfl ⟨rfl, ⟨xs, hO, HN.out⟩, Only.refl _ _⟩
  · obtain ⟨g, cap, rfl, hbg, hgl⟩ := hO.open_ (by rw [HN.out]; omega)
    rw [HN.out] at hO ⊢
    have hmax : n ≤ 9223372036854775807 := (hO.rb HN.out.symm).max
    go_enter Try.func16, Try.ntmps16
    go_wp2_with fail
    go_loopg [7] n (fun gk v7 w' => ∃ (i : Nat) (ys : List Int), v7 = .int .i64 (i : Int) ∧ OB 5 w' base (.slice (some ⟨g, 0, none⟩) n cap) ys ∧ Only w w' (rf (.slice (some ⟨g, 0, none⟩) n cap)) ∧ Hid (ys.length = n ∧ i ≤ n ∧ gk = n - i))
    case atStart => exact ⟨0, xs, rfl, hO, Only.refl _ _, HN.out, by omega, rfl⟩
    case round =>
      clear hO
      obtain ⟨i, ys, rfl, hO, ho, HG⟩ := hrel
      by_cases hi : i < n
      · have hi2 : (i : Int) < (n : Int) := by omega
        obtain ⟨x, hc, hf, hx0, hx1, hx⟩ := hO.at_ HG.out.1.symm i hi
        have hO2 := hO.store HG.out.1.symm i m h0 h1
        have ho2 := ho.set g i (.int .u8 m) (.inl rfl)
        clear hx
        go_wp2_with fail
        go_roundg (n - (i + 1))
        case measure => have := HG.out; omega
        case rel => exact ⟨i + 1, _, by simp, hO2, ho2, by rw [List.length_set]; exact HG.out.1, by omega, rfl⟩
      · have hin : i = n := by have := HG.out; omega
        subst hin
        go_wp2_with fail
        refine bodyPost_end (v := .tuple #[]) (by simp [results, Try.results16, go_sem]) rfl ⟨rfl, ⟨ys, hO, HG.out.1⟩, ho⟩
end Go.Proofs.Ytiadfmbddkcleaa
