/- slices.Clone of a row of texts; rows of texts of the call's own. -/
import Derived.Test.YtelfephmjkipoaaStrs
import Derived.Test.YtelfephmjkipoaaWGuard
import Derived.Laws.Cover3
namespace Go.Kit
open Go.RowKit Go.Proofs.YtelfephmjkipoaaW.PrintWords
/-- A row of texts of the call's own. -/
def OT (e : TypeId) (w : World) (base : Nat) (v : Value) (xs : List ByteArray) : Prop := w.ownsRow base e 1 v xs.length (encs Value.string xs)
section
variable {e : TypeId} {w w1 : World} {base : Nat} {v : Value} {xs : List ByteArray}
theorem OT.nil (e : TypeId) (w : World) (base : Nat) : OT e w base (.slice none 0 0) [] := own_nil w base e 1
theorem OT.below (h : OT e w base v xs) (hb : Below w.heap.size w w1) : OT e w1 base v xs := pw_own_below h hb
theorem OT.kept (h : OT e w base v xs) {row : Option Nat} (hg : w.grownBy w1 row) (hne : v.ownBlock = none ∨ v.ownBlock ≠ row) : OT e w1 base v xs := World.ownsRow.kept h hg hne
end
end Go.Kit
namespace Go.Proofs.Ytelfephmjkipoaa
open Go.RowKit Go.Kit Go.Proofs.YtelfephmjkipoaaW.PrintWords
theorem str_info : (Try.prog.info? 9).map (fun i => (i.zero, i.size, i.bytes)) = some (some (.string ByteArray.empty), 1, 16) := by kernel_rfl
set_option maxHeartbeats 1000000 in
set_option maxRecDepth 100000 in
theorem Clone_any (A : Option Addr) (n c : Nat) (xs : List ByteArray) (w : World) (hx : RT w A n xs) (hl : n * 16 ≤ 140737488351232) :
    Calls Try.prog 33 #[.slice A n c] w fun e w' => ∃ v, e = .returned v ∧ OT 9 w' w.heap.size v xs ∧ Below w.heap.size w w' := by
  have hnil : ∀ (W : World) (a : Option Addr) (l c : Nat), (binOp .eql 27 (.slice a l c) (.slice none 0 0)).run Try.prog W = .ok (.bool a.isNone) W := fun W a l c => by
    simp only [binOp]
    simp [run_equal_slice_nil W 27 9 a l c Try.underlying27]
  have HL := Lib.hid hl
  clear hl
  go_enter Try.func33, Try.ntmps33
  rcases A with _ | ad
  · obtain rfl : n = 0 := by
      rcases Nat.eq_zero_or_pos n with h | h
      · exact h
      · obtain ⟨ad, e, _⟩ := hx.2.2 h; cases e
    obtain rfl : xs = [] := List.length_eq_zero_iff.1 hx.len
    go_wp2_with fail
    go_ret
    exact ⟨_, rfl, OT.nil _ _ _, Below.refl _ _⟩
  · have hO : OT 9 (w.alloc (.cells #[] 9)) w.heap.size (.slice (some ⟨w.heap.size, 0, none⟩) 0 0) [] :=
      (OB.of_block (rest := []) (Nat.le_refl _) (heap_alloc_new w _) rfl rfl (by simp) Byt.nil).own
    have hb0 := below_alloc (Below.refl _ w) (.cells #[] 9)
    go_wp2_with (at_builtin; refine print_append_row_of Value.string ByteArray.empty w.heap.size rfl (.tmp 5) (.tmp 6) 27 9 (.string ByteArray.empty) 16 rfl Try.underlying27 str_info rfl (by decide) (fun _ => rfl) _ [] xs (some ad) n c rfl rfl hO (RT.below hx hb0) hb0 hb0.size (by have := HL.out; simp; omega) ?_)
    intro v1 w1 hown hb1 _ _
    go_wp2_with fail
    go_ret
    exact ⟨_, rfl, hown, hb1⟩
end Go.Proofs.Ytelfephmjkipoaa
