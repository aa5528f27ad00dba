/- The document's ducts with their footprints; states that both ducts share. -/
import Derived.Test.YtodhcgidmdeifaaDuG
import Derived.Test.YtodhcgidmdeifaaDuW
namespace Go.Proofs.Ytodhcgidmdeifaa
open Go.RowKit Go.Kit Go.Proofs.YtodhcgidmdeifaaW.PrintWords
/-- The document's duct at q, of the footprint F. -/
def Qu (w : World) (q : Nat) (F : Nat → Prop) (D : Dk) : Prop := ∃ A n c, QS w q A n c D ∧ F = qf q A n c
/-- What went out lies in its range. -/
def rng (D : Dk) : Prop := -9223372036854775808 ≤ D.co ∧ D.co ≤ 9223372036854775807
theorem wrap64_in {x : Int} (h : -9223372036854775808 ≤ x ∧ x ≤ 9223372036854775807) : wrap64 x = x := by unfold wrap64; omega
theorem readQ_is {D : Dk} (h : rng D) (k : Nat) : readQ D k = readD D k := by
  unfold readQ readD
  split
  · next e =>
    subst e
    rw [show D.co + ((0 : Nat) : Int) = D.co from by omega, wrap64_in h]
    simp
  · rfl
theorem rng_read {D : Dk} (h : rng D) (k : Nat) : rng (readD D k) := by
  unfold readD
  split
  · exact h
  · obtain ⟨_, _, l1, l2⟩ := wrap64_is (D.co + k)
    exact ⟨l1, l2⟩
section
variable {w w1 : World} {q : Nat} {F S : Nat → Prop} {D : Dk}
theorem Qu.only (h : Qu w q F D) (ho : Only w w1 S) (hs : Sep F S) : Qu w1 q F D := by
  obtain ⟨A, n, c, h1, rfl⟩ := h
  exact ⟨A, n, c, h1.only ho hs, rfl⟩
theorem Qu.below (h : Qu w q F D) (hb : Below w.heap.size w w1) : Qu w1 q F D := h.only (Only.of_below hb (fun _ => False)) (fun _ _ e => e)
theorem Qu.drewN (h : Qu w q F D) (k : Nat) : Qu (w.drewN k) q F D := h.below (pw_below_drewN (Below.refl _ _) k)
theorem Qu.old (h : Qu w q F D) : Old w F := by
  obtain ⟨A, n, c, h1, rfl⟩ := h
  exact h1.old
theorem qwrite_p (h : Qu w q F D) (hs : D.shut = false) (P : Option Addr) (np cp : Nat) (L : List (List Int)) (hL : ∀ W, Only w W F → RBc W P np L) :
    Calls Try.prog 34 #[.pointer (some ⟨q, 0, none⟩), .slice P np cp] w fun e w' => ∃ F1 m, e = .returned (.tuple #[.int .i64 ((m : Nat) : Int), .int .i64 0]) ∧ Hid (m = wMuch D D.held.length L.flatten) ∧ Qu w' q F1 (writeD D D.held.length L.flatten) ∧ Only w w' F ∧ Onto w F F1 := by
  obtain ⟨A, n, c, h1, rfl⟩ := h
  rw [h1.len]
  exact (rWrite_any h1 hs P np cp L hL).mono fun _ _ ⟨A1, n1, c1, he, hS, ho, hn⟩ => ⟨_, _, he, rfl, ⟨A1, n1, c1, hS, rfl⟩, ho, hn⟩
theorem qwshut_p (h : Qu w q F D) (hs : D.shut = true) (v : Value) : Calls Try.prog 34 #[.pointer (some ⟨q, 0, none⟩), v] w fun e w' => e = .returned (.tuple #[.int .i64 0, .int .i64 91]) ∧ w' = w := by
  obtain ⟨A, n, c, h1, rfl⟩ := h
  exact rWrite_shut h1 hs v
theorem qpeek_p (h : Qu w q F D) (m : Int) (k : Nat) (hk : (k : Int) = min (max m 0) D.held.length) : Calls Try.prog 36 #[.pointer (some ⟨q, 0, none⟩), .int .i64 m] w fun e w' => ∃ v, e = .returned v ∧ OB 5 w' w.heap.size v (D.held.take k) ∧ Below w.heap.size w w' := by
  obtain ⟨A, n, c, h1, rfl⟩ := h
  exact rPeek_any h1 m k (by rw [hk, h1.len])
theorem qread_p (h : Qu w q F D) (hr : rng D) (m : Int) (k : Nat) (hk : (k : Int) = min (max m 0) D.held.length) : Calls Try.prog 35 #[.pointer (some ⟨q, 0, none⟩), .int .i64 m] w fun e w' => ∃ v F1, e = .returned v ∧ OB 5 w' w.heap.size v (D.held.take k) ∧ Qu w' q F1 (readD D k) ∧ Only w w' F ∧ Onto w F F1 ∧ Sep (rf v) F1 := by
  obtain ⟨A, n, c, h1, rfl⟩ := h
  exact (rRead_any h1 m k (by rw [hk, h1.len])).mono fun _ _ ⟨v, A1, n1, c1, he, hO, hS, ho, hn, hs⟩ => ⟨v, _, he, hO, ⟨A1, n1, c1, readQ_is hr k ▸ hS, rfl⟩, ho, hn, hs⟩
theorem qturn_p (h : Qu w q F D) (i : Nat) (hi : i < D.held.length) (m : Int) (m0 : 0 ≤ m) (m1 : m < 256) : Calls Try.prog 37 #[.pointer (some ⟨q, 0, none⟩), .int .i64 (i : Int), .int .u8 m] w fun e w' => e = .returned (.int .i64 0) ∧ Qu w' q F (turnD D i m) ∧ Only w w' F := by
  obtain ⟨A, n, c, h1, rfl⟩ := h
  rw [h1.len] at hi
  exact (rTurn_any h1 i hi m m0 m1).mono fun _ _ ⟨he, hS, ho⟩ => ⟨he, ⟨A, n, c, hS, rfl⟩, ho⟩
theorem qturnbad_p (h : Qu w q F D) (at_ m : Int) (hb : ¬ (0 ≤ at_ ∧ at_ < D.held.length)) : Calls Try.prog 37 #[.pointer (some ⟨q, 0, none⟩), .int .i64 at_, .int .u8 m] w fun e w' => e = .returned (.int .i64 30) ∧ w' = w := by
  obtain ⟨A, n, c, h1, rfl⟩ := h
  rw [h1.len] at hb
  exact rTurn_bad h1 at_ m hb
theorem qlose_p (h : Qu w q F D) (i : Nat) (hi : i ≤ D.held.length) (z : Int) (hz : 0 ≤ z) (k : Nat) (hk : (k : Int) = min z (D.held.length - i)) : Calls Try.prog 38 #[.pointer (some ⟨q, 0, none⟩), .int .i64 (i : Int), .int .i64 z] w fun e w' => ∃ F1, e = .returned (.tuple #[.int .i64 (k : Int), .int .i64 0]) ∧ Qu w' q F1 (loseD D i k) ∧ Only w w' F ∧ Onto w F F1 := by
  obtain ⟨A, n, c, h1, rfl⟩ := h
  rw [h1.len] at hi hk
  exact (rLose_core h1 i hi z hz k (by omega)).mono fun _ _ ⟨A1, n1, c1, he, hS, ho, hn⟩ => ⟨_, he, ⟨A1, n1, c1, hS, rfl⟩, ho, hn⟩
theorem qlosebad_p (h : Qu w q F D) (at_ z : Int) (hb : ¬ (0 ≤ at_ ∧ at_ ≤ D.held.length)) : Calls Try.prog 38 #[.pointer (some ⟨q, 0, none⟩), .int .i64 at_, .int .i64 z] w fun e w' => e = .returned (.tuple #[.int .i64 0, .int .i64 30]) ∧ w' = w := by
  obtain ⟨A, n, c, h1, rfl⟩ := h
  rw [h1.len] at hb
  exact rLose_bad h1 at_ z hb
theorem qloseneg_p (h : Qu w q F D) (i : Nat) (hi : i ≤ D.held.length) (z : Int) (hz : z < 0) : Calls Try.prog 38 #[.pointer (some ⟨q, 0, none⟩), .int .i64 (i : Int), .int .i64 z] w fun e w' => e = .returned (.tuple #[.int .i64 0, .int .i64 1]) ∧ w' = w := by
  obtain ⟨A, n, c, h1, rfl⟩ := h
  rw [h1.len] at hi
  exact rLose_neg h1 i hi z hz
theorem qroom_p (h : Qu w q F D) : Calls Try.prog 27 #[.pointer (some ⟨q, 0, none⟩)] w fun e w' => e = .returned (.int .i64 (if D.shut then 0 else D.room - D.held.length)) ∧ ∃ k, w' = w.drewN k := by
  obtain ⟨A, n, c, h1, rfl⟩ := h
  rw [h1.len]
  exact rRoom_any h1
theorem qshut_p (h : Qu w q F D) : Calls Try.prog 39 #[.pointer (some ⟨q, 0, none⟩)] w fun e w' => e = .returned (.int .i64 (if D.shut then 91 else 0)) ∧ Qu w' q F { D with shut := true } ∧ Only w w' F := by
  obtain ⟨A, n, c, h1, rfl⟩ := h
  exact (rShut_any h1).mono fun _ _ ⟨he, hS, ho⟩ => ⟨he, ⟨A, n, c, hS, rfl⟩, ho⟩
theorem qdone_p (h : Qu w q F D) : Calls Try.prog 29 #[.pointer (some ⟨q, 0, none⟩)] w fun e w' => e = .returned (.bool (D.shut && decide (D.held.length = 0))) ∧ w' = w := by
  obtain ⟨A, n, c, h1, rfl⟩ := h
  rw [h1.len]
  exact rDone_any h1
end
end Go.Proofs.Ytodhcgidmdeifaa
