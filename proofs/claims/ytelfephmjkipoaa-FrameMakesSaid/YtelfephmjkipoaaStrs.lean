/- Rows of texts: read, and compared by slices.Equal and by the document's Same. -/
import Derived.Test.YtelfephmjkipoaaProg
import Derived.Test.YtelfephmjkipoaaKit
namespace Go.Kit
open Go.RowKit Go.Proofs.YtelfephmjkipoaaW.PrintWords
/-- Texts that are read: the slice at A of length n holds xs. -/
def RT (w : World) (A : Option Addr) (n : Nat) (xs : List ByteArray) : Prop := ReadsOf Value.string ByteArray.empty w A n xs
section
variable {w w1 : World} {A : Option Addr} {n : Nat} {xs : List ByteArray}
theorem RT.len (h : RT w A n xs) : xs.length = n := h.1
theorem RT.max (h : RT w A n xs) : n ≤ 9223372036854775807 := h.2.1
theorem RT.at_ (h : RT w A n xs) (i : Nat) (hi : i < n) : ∃ ad x, A = some ad ∧ w.cell? (ad.add i) = some (.string x) ∧ Hid (xs[i]? = some x) := by
  obtain ⟨ad, e, hc⟩ := ReadsOf.at_ h (i : Int) (by omega) (by omega)
  have hl := h.len
  refine ⟨ad, _, e, hc, ?_⟩
  show xs[i]? = _
  simp [rdOf, List.getD_eq_getElem?_getD, List.getElem?_eq_getElem (show i < xs.length by omega)]
theorem RT.below (h : RT w A n xs) (hb : Below w.heap.size w w1) : RT w1 A n xs := ReadsOf.below h hb
theorem RT.drewN (h : RT w A n xs) (k : Nat) : RT (w.drewN k) A n xs := h
theorem RT.one {ys : List ByteArray} (h : RT w A n xs) (k : RT w A n ys) : xs = ys := by
  have hl := h.len
  have hk := k.len
  apply List.ext_getElem (by omega)
  intro i h1 h2
  obtain ⟨ad, x, e, hc, hx⟩ := h.at_ i (by omega)
  obtain ⟨bd, y, e2, hc2, hy⟩ := k.at_ i (by omega)
  rw [e] at e2; cases e2
  rw [hc] at hc2; injection hc2 with hc2; injection hc2 with hc2
  have q1 := hx.out; have q2 := hy.out
  rw [List.getElem?_eq_getElem h1] at q1; rw [List.getElem?_eq_getElem h2] at q2
  injection q1 with q1; injection q2 with q2
  rw [q1, q2, hc2]
theorem RT.nil (w : World) : RT w none 0 [] := ⟨rfl, by omega, fun h => absurd h (by omega)⟩
end
def sameT (l m : List ByteArray) : Bool := decide (l = m)
theorem bs_inj {x y : ByteArray} (h : x.toList = y.toList) : x = y := by
  rw [Go.ByteArray.toList_eq, Go.ByteArray.toList_eq] at h
  exact ByteArray.ext (Array.ext' h)
theorem bs_diff {x y : ByteArray} (h : ¬ x = y) : (x.toList == y.toList) = false := by
  rw [beq_eq_false_iff_ne]
  exact fun e => h (bs_inj e)
theorem take_diff {l m : List ByteArray} {i : Nat} {x y : ByteArray} (hl : l[i]? = some x) (hm : m[i]? = some y) (e : ¬ x = y) : false = sameT l m := by
  refine (decide_eq_false ?_).symm
  rintro rfl
  rw [hl] at hm
  exact e (Option.some.inj hm)
theorem take_step {l m : List ByteArray} {i : Nat} {x y : ByteArray} (hl : l[i]? = some x) (hm : m[i]? = some y) (h : l.take i = m.take i) (e : x = y) : l.take (i + 1) = m.take (i + 1) := by
  rw [List.take_add_one, List.take_add_one, h, hl, hm, e]
end Go.Kit
namespace Go.Proofs.Ytelfephmjkipoaa
open Go.RowKit Go.Kit Go.Proofs.YtelfephmjkipoaaW.PrintWords
set_option maxHeartbeats 1000000 in
theorem SEq_any (A B : Option Addr) (n m c d : Nat) (xs ys : List ByteArray) (w : World) (hx : RT w A n xs) (hy : RT w B m ys) :
    Calls Try.prog 31 #[.slice A n c, .slice B m d] w fun e w' => ∃ t, e = .returned (.bool t) ∧ Hid (t = sameT xs ys) ∧ Below w.heap.size w w' := by
  have hxm := hx.max
  have hym := hy.max
  have HX := Lib.hid hx.len
  have HY := Lib.hid hy.len
  go_enter Try.func31, Try.ntmps31
  by_cases hnm : n = m
  · subst hnm
    go_wp2_with fail
    go_loopg [13] n (fun g v13 w' => ∃ i : Nat, v13 = .int .i64 (i : Int) ∧ (∃ k, w' = w.drewN k) ∧ Hid (i + g = n ∧ xs.take i = ys.take i))
    case atStart => exact ⟨0, rfl, ⟨0, rfl⟩, by omega, rfl⟩
    case round =>
      obtain ⟨i, rfl, ⟨k, rfl⟩, HD⟩ := hrel
      cases gk with
      | zero =>
        obtain ⟨h0, h1⟩ := HD.out
        obtain rfl : i = n := by omega
        have HF : Hid (true = sameT xs ys) := by
          have e1 : xs.take i = xs := List.take_of_length_le (by rw [HX.out]; exact Nat.le_refl _)
          have e2 : ys.take i = ys := List.take_of_length_le (by rw [HY.out]; exact Nat.le_refl _)
          rw [e1, e2] at h1
          exact (decide_eq_true h1).symm
        clear h0 h1 HD
        go_wp2_with fail
        go_ret
        exact ⟨_, rfl, HF, pw_below_drewN (Below.refl _ _) k⟩
      | succ g =>
        have hlt : i < n := by have := HD.out.1; omega
        obtain ⟨ad, x, rfl, hcx, HXX⟩ := hx.at_ i hlt
        obtain ⟨bd, y, rfl, hcy, HYY⟩ := hy.at_ i hlt
        have hbi : (i : Int) < (n : Int) := by omega
        by_cases hxy : x = y
        · subst hxy
          have HE : Hid (xs.take (i + 1) = ys.take (i + 1)) := take_step HXX.out HYY.out HD.out.2 rfl
          go_wp2_with fail
          go_quiet (fail)
          go_wp2_with fail
          go_roundg g
          case measure => omega
          case rel => exact ⟨i + 1, rfl, ⟨_, rfl⟩, by have := HD.out.1; omega, HE.out⟩
        · have HE := Lib.hid (take_diff HXX.out HYY.out hxy)
          have hbb := bs_diff hxy
          clear hxy
          go_wp2_with fail
          go_quiet (fail)
          go_wp2_with fail
          go_ret
          exact ⟨_, rfl, HE, pw_below_drewN (pw_below_drewN (Below.refl _ _) k) _⟩
  · have HF : Hid (false = sameT xs ys) := by
      refine (decide_eq_false ?_).symm
      intro e
      exact hnm (by rw [← HX.out, ← HY.out, e])
    have hb : ((n : Int) != (m : Int)) = true := by simp; omega
    go_wp2_with fail
    go_ret
    exact ⟨_, rfl, HF, Below.refl _ _⟩
set_option maxHeartbeats 1000000 in
theorem RSame_any (A B : Option Addr) (n m c d : Nat) (xs ys : List ByteArray) (w : World) (hx : RT w A n xs) (hy : RT w B m ys) :
    Calls Try.prog 32 #[.slice A n c, .slice B m d] w fun e w' => ∃ t, e = .returned (.bool t) ∧ Hid (t = sameT xs ys) ∧ Below w.heap.size w w' := by
  have hxm := hx.max
  have hym := hy.max
  have HX := Lib.hid hx.len
  have HY := Lib.hid hy.len
  go_enter Try.func32, Try.ntmps32
  by_cases hnm : n = m
  · subst hnm
    go_wp2_with fail
    go_loopg [5] n (fun g v5 w' => ∃ i : Nat, v5 = .int .i64 (i : Int) ∧ (∃ k, w' = w.drewN k) ∧ Hid (i + g = n ∧ xs.take i = ys.take i))
    case atStart => exact ⟨0, rfl, ⟨0, rfl⟩, by omega, rfl⟩
    case round =>
      obtain ⟨i, rfl, ⟨k, rfl⟩, HD⟩ := hrel
      cases gk with
      | zero =>
        obtain ⟨h0, h1⟩ := HD.out
        obtain rfl : i = n := by omega
        have HF : Hid (true = sameT xs ys) := by
          have e1 : xs.take i = xs := List.take_of_length_le (by rw [HX.out]; exact Nat.le_refl _)
          have e2 : ys.take i = ys := List.take_of_length_le (by rw [HY.out]; exact Nat.le_refl _)
          rw [e1, e2] at h1
          exact (decide_eq_true h1).symm
        clear h0 h1 HD
        go_wp2_with fail
        go_ret
        exact ⟨_, rfl, HF, pw_below_drewN (Below.refl _ _) k⟩
      | succ g =>
        have hlt : i < n := by have := HD.out.1; omega
        obtain ⟨ad, x, rfl, hcx, HXX⟩ := hx.at_ i hlt
        obtain ⟨bd, y, rfl, hcy, HYY⟩ := hy.at_ i hlt
        have hbi : (i : Int) < (n : Int) := by omega
        by_cases hxy : x = y
        · subst hxy
          have HE : Hid (xs.take (i + 1) = ys.take (i + 1)) := take_step HXX.out HYY.out HD.out.2 rfl
          go_wp2_with fail
          go_quiet (fail)
          go_wp2_with fail
          go_roundg g
          case measure => omega
          case rel => exact ⟨i + 1, rfl, ⟨_, rfl⟩, by have := HD.out.1; omega, HE.out⟩
        · have HE := Lib.hid (take_diff HXX.out HYY.out hxy)
          have hbb := bs_diff hxy
          clear hxy
          go_wp2_with fail
          go_quiet (fail)
          go_wp2_with fail
          go_ret
          exact ⟨_, rfl, HE, pw_below_drewN (pw_below_drewN (Below.refl _ _) k) _⟩
  · have HF : Hid (false = sameT xs ys) := by
      refine (decide_eq_false ?_).symm
      intro e
      exact hnm (by rw [← HX.out, ← HY.out, e])
    have hb : ((n : Int) != (m : Int)) = true := by simp; omega
    go_wp2_with fail
    go_ret
    exact ⟨_, rfl, HF, Below.refl _ _⟩
end Go.Proofs.Ytelfephmjkipoaa
