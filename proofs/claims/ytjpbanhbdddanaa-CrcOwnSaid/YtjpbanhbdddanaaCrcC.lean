/- The contracts of More, Sum, and the document's byteOn, More, Sum. -/
import Derived.Test.YtjpbanhbdddanaaCrcB
namespace Go.Proofs.Ytjpbanhbdddanaa
open Go.RowKit Go.Kit CrcM Go.Proofs.YtjpbanhbdddanaaW.PrintWords

theorem not_w (c : W) : bits .xor .u32 IntKind.u32.max ((c.toNat : Nat) : Int) = ((~~~ c).toNat : Int) := by
  rw [show IntKind.u32.max = ((BitVec.allOnes 32).toNat : Int) from by decide, xor_w]
  congr 2
def more (c : W) (l : List Int) : W := ~~~ (over (~~~ c) l)
set_option maxHeartbeats 400000 in
theorem Sum_any (A : Option Addr) (len cap : Nat) (L : List (List Int)) (w : World) (hL : RBs w A len L) :
    Calls Try.prog 14 #[.slice A len cap] w fun e w' => e = .returned (.int .u32 ((more 0#32 L.flatten).toNat : Int)) ∧ Below w.heap.size w w' := by
  go_enter Try.func14, Try.ntmps14
  go_wp2_with fail
  refine (over_any (~~~ 0#32) _ (by decide) A len cap L w hL).mono ?_
  rintro e w1 ⟨rfl, hb⟩
  have hnot := not_w (over (~~~ 0#32) L.flatten)
  obtain ⟨m, hm⟩ : ∃ m, m = ~~~ over (~~~ 0#32) L.flatten := ⟨_, rfl⟩
  have HM : Hid (m = more 0#32 L.flatten) := hm
  rw [← hm] at hnot
  clear hm
  generalize over (~~~ 0#32) L.flatten = d at *
  go_wp2
  go_ret
  exact ⟨by rw [← HM.out]; rfl, hb⟩
set_option maxHeartbeats 400000 in
theorem More_any (c : W) (n : Int) (hn : n = (c.toNat : Int)) (A : Option Addr) (len cap : Nat) (xs : List Int) (w : World) (hx : RB w A len xs) :
    Calls Try.prog 12 #[.int .u32 n, .slice A len cap] w fun e w' => e = .returned (.int .u32 ((more c xs).toNat : Int)) ∧ Below w.heap.size w w' := by
  subst hn
  go_enter Try.func12, Try.ntmps12
  have hnot := not_w c
  obtain ⟨b, hb0⟩ : ∃ b, b = ~~~ c := ⟨_, rfl⟩
  rw [← hb0] at hnot
  have HB := Lib.hid hb0
  clear hb0
  go_wp2_with fail
  refine (over_any b _ rfl _ 1 1 [xs] _ (RBs.one _ hx)).mono ?_
  rintro e w1 ⟨rfl, hb⟩
  have hb2 := below_then (below_alloc (Below.refl _ w) _) (by simp) hb
  clear hnot
  have hnot2 := not_w (over b [xs].flatten)
  obtain ⟨m, hm⟩ : ∃ m, m = ~~~ over b [xs].flatten := ⟨_, rfl⟩
  have HM : Hid (m = more c xs) := Lib.hid (by unfold more; rw [← HB.out, hm]; simp)
  rw [← hm] at hnot2
  clear hm hb
  generalize over b [xs].flatten = d at *
  go_wp2
  go_ret
  exact ⟨by rw [← HM.out]; rfl, hb2⟩
end Go.Proofs.Ytjpbanhbdddanaa
