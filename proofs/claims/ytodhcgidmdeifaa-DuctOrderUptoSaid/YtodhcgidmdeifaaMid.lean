/- Bytes cut out of the middle. -/
import Derived.Test.YtodhcgidmdeifaaByt
namespace Go.Proofs.Ytodhcgidmdeifaa
open Go.RowKit Go.Kit Go.Proofs.YtodhcgidmdeifaaW.PrintWords
theorem mid_bytes (A : Option Addr) (n c lo hi : Nat) (h1 : lo ≤ hi) (h2 : hi ≤ n) (hc : n ≤ c) : ∃ A' : Option Addr,
    (∀ (l h : Int), l = (lo : Int) → h = (hi : Int) → ∀ W : World, (Instr.slice 22 (.slice A n c) (some (.int .i64 l)) (some (.int .i64 h)) none).run Try.prog W = .ok (.slice A' (hi - lo) (c - lo)) W) ∧
    (∀ (w : World) (xs : List Int), RB w A n xs → RB w A' (hi - lo) ((xs.drop lo).take (hi - lo))) ∧ (∀ a', A' = some a' → ∃ a, A = some a ∧ a.block = a'.block) := by
  obtain ⟨i0, hi0, hz0, hz1, hz2⟩ := info_parts u8_info
  refine ⟨if c = lo then A else A.map (·.add lo), ?_, fun w xs h => ?_, fun a' ha => ?_⟩
  · rintro l h rfl rfl W
    have hel : Try.prog.elem 22 = 5 := by simp [Program.elem, Try.underlying22]
    have hu : Try.prog.underlying 22 = some (.slice (Try.prog.elem 22)) := by rw [hel]; exact Try.underlying22
    rw [run_slice_lh W 22 A n c hu .i64 .i64 (lo : Int) (hi : Int) (Int.natCast_nonneg _) (by omega) (by omega), hel]
    simp [sizeOf, typeInfo, hi0, hz1, sliced, Result.andThen]
  · exact (RB.take_ ⟨h.rd.drop_ lo (by omega) hc, h.byt.drop lo⟩ (hi - lo) (by omega))
  · by_cases hcl : c = lo
    · rw [if_pos hcl] at ha; exact ⟨a', ha, rfl⟩
    · rw [if_neg hcl] at ha
      cases A with
      | none => cases ha
      | some a => cases ha; exact ⟨a, rfl, (Go.Kit.add_block a lo).symm⟩
theorem head_bytes (A : Option Addr) (n c k : Nat) (hk : k ≤ c) (W : World) : (Instr.slice 22 (.slice A n c) none (some (.int .i64 (k : Int))) none).run Try.prog W = .ok (.slice A k c) W := by
  obtain ⟨i0, hi0, hz0, hz1, hz2⟩ := info_parts u8_info
  have hel : Try.prog.elem 22 = 5 := by simp [Program.elem, Try.underlying22]
  have hu : Try.prog.underlying 22 = some (.slice (Try.prog.elem 22)) := by rw [hel]; exact Try.underlying22
  rw [run_slice_h W 22 A n c hu .i64 (k : Int) (Int.natCast_nonneg _) (by omega), hel]
  cases A <;> simp [sizeOf, typeInfo, hi0, hz1, sliced, Result.andThen, Addr.add]
end Go.Proofs.Ytodhcgidmdeifaa
