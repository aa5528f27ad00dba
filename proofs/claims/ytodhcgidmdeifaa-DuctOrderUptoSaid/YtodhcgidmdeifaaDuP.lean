/- Ducts with their footprints, and the walk of alive. -/
import Derived.Test.YtodhcgidmdeifaaDuE
import Derived.Lib.SmallJoins
namespace Go.Proofs.Ytodhcgidmdeifaa
open Go.RowKit Go.Kit Go.Proofs.YtodhcgidmdeifaaW.PrintWords
/-- A duct at d, of the footprint F. -/
def Du (w : World) (d : Nat) (F : Nat → Prop) (D : Dk) : Prop := ∃ b A n c, DS w d b A n c D ∧ F = df d b A n c
section
variable {w w1 : World} {d : Nat} {F S : Nat → Prop} {D : Dk}
theorem Du.only (h : Du w d F D) (ho : Only w w1 S) (hs : Sep F S) : Du w1 d F D := by
  obtain ⟨b, A, n, c, h1, rfl⟩ := h
  exact ⟨b, A, n, c, h1.only ho hs, rfl⟩
theorem Du.below (h : Du w d F D) (hb : Below w.heap.size w w1) : Du w1 d F D := h.only (Only.of_below hb (fun _ => False)) (fun _ _ e => e)
theorem Du.drewN (h : Du w d F D) (k : Nat) : Du (w.drewN k) d F D := h.below (pw_below_drewN (Below.refl _ _) k)
theorem Du.old (h : Du w d F D) : Old w F := by
  obtain ⟨b, A, n, c, h1, rfl⟩ := h
  exact h1.old
theorem Du.fit (h : Du w d F D) : (D.held.length : Int) ≤ D.room := by
  obtain ⟨b, A, n, c, h1, rfl⟩ := h
  rw [h1.len]; exact h1.fit
theorem Du.low (h : Du w d F D) : 1 ≤ D.room := by
  obtain ⟨b, A, n, c, h1, rfl⟩ := h
  exact h1.low
theorem Du.top (h : Du w d F D) : D.room ≤ 4194304 := by
  obtain ⟨b, A, n, c, h1, rfl⟩ := h
  exact h1.top
theorem new_p (r : Int) (h1 : 1 ≤ r) (h2 : r ≤ 4194304) (w : World) : Calls Try.prog 10 #[.int .i64 r] w fun e w' => ∃ d F, e = .returned (.tuple #[.pointer (some ⟨d, 0, none⟩), .int .i64 0]) ∧ Du w' d F (newD r) ∧ (∀ k, F k → w.heap.size ≤ k) ∧ Below w.heap.size w w' :=
  (New_any r h1 h2 w).mono fun e w' ⟨d, b, he, hS, hd, hb, hbel⟩ => ⟨d, _, he, ⟨b, none, 0, 0, hS, rfl⟩, (by rintro k (rfl | rfl | hk); exact hd; exact hb; cases hk), hbel⟩
theorem write_p (h : Du w d F D) (hs : D.shut = false) (P : Option Addr) (np cp : Nat) (L : List (List Int)) (hL : ∀ W, Only w W F → RBc W P np L) :
    Calls Try.prog 12 #[.pointer (some ⟨d, 0, none⟩), .slice P np cp] w fun e w' => ∃ F1 m, e = .returned (.tuple #[.int .i64 ((m : Nat) : Int), .int .i64 0]) ∧ Hid (m = wMuch D D.held.length L.flatten) ∧ Du w' d F1 (writeD D D.held.length L.flatten) ∧ Only w w' F ∧ Onto w F F1 := by
  obtain ⟨b, A, n, c, h1, rfl⟩ := h
  rw [h1.len]
  exact (Write_any h1 hs P np cp L hL).mono fun e w' ⟨A1, n1, c1, he, hS, ho, hn⟩ => ⟨_, _, he, rfl, ⟨b, A1, n1, c1, hS, rfl⟩, ho, hn⟩
theorem wshut_p (h : Du w d F D) (hs : D.shut = true) (v : Value) : Calls Try.prog 12 #[.pointer (some ⟨d, 0, none⟩), v] w fun e w' => e = .returned (.tuple #[.int .i64 0, .int .i64 91]) ∧ w' = w := by
  obtain ⟨b, A, n, c, h1, rfl⟩ := h
  exact Write_shut h1 hs v
theorem peek_p (h : Du w d F D) (m : Int) (k : Nat) (hk : (k : Int) = min (max m 0) D.held.length) : Calls Try.prog 14 #[.pointer (some ⟨d, 0, none⟩), .int .i64 m] w fun e w' => ∃ v, e = .returned v ∧ OB 5 w' w.heap.size v (D.held.take k) ∧ Below w.heap.size w w' := by
  obtain ⟨b, A, n, c, h1, rfl⟩ := h
  exact Peek_any h1 m k (by rw [hk, h1.len])
theorem read_p (h : Du w d F D) (m : Int) (k : Nat) (hk : (k : Int) = min (max m 0) D.held.length) : Calls Try.prog 15 #[.pointer (some ⟨d, 0, none⟩), .int .i64 m] w fun e w' => ∃ v F1, e = .returned v ∧ OB 5 w' w.heap.size v (D.held.take k) ∧ Du w' d F1 (readD D k) ∧ Only w w' F ∧ Onto w F F1 ∧ Sep (rf v) F1 := by
  obtain ⟨b, A, n, c, h1, rfl⟩ := h
  exact (Read_any h1 m k (by rw [hk, h1.len])).mono fun e w' ⟨v, A1, n1, c1, he, hO, hS, ho, hn, hs⟩ => ⟨v, _, he, hO, ⟨b, A1, n1, c1, hS, rfl⟩, ho, hn, hs⟩
theorem turn_p (h : Du w d F D) (i : Nat) (hi : i < D.held.length) (m : Int) (m0 : 0 ≤ m) (m1 : m < 256) : Calls Try.prog 16 #[.pointer (some ⟨d, 0, none⟩), .int .i64 (i : Int), .int .u8 m] w fun e w' => e = .returned (.int .i64 0) ∧ Du w' d F (turnD D i m) ∧ Only w w' F := by
  obtain ⟨b, A, n, c, h1, rfl⟩ := h
  rw [h1.len] at hi
  exact (Turn_any h1 i hi m m0 m1).mono fun e w' ⟨he, hS, ho⟩ => ⟨he, ⟨b, A, n, c, hS, rfl⟩, ho⟩
theorem turnbad_p (h : Du w d F D) (at_ m : Int) (hb : ¬ (0 ≤ at_ ∧ at_ < D.held.length)) : Calls Try.prog 16 #[.pointer (some ⟨d, 0, none⟩), .int .i64 at_, .int .u8 m] w fun e w' => e = .returned (.int .i64 30) ∧ w' = w := by
  obtain ⟨b, A, n, c, h1, rfl⟩ := h
  rw [h1.len] at hb
  exact Turn_bad h1 at_ m hb
theorem lose_p (h : Du w d F D) (i : Nat) (hi : i ≤ D.held.length) (q : Int) (hq : 0 ≤ q) (k : Nat) (hk : (k : Int) = min q (D.held.length - i)) : Calls Try.prog 23 #[.pointer (some ⟨d, 0, none⟩), .int .i64 (i : Int), .int .i64 q] w fun e w' => ∃ F1, e = .returned (.tuple #[.int .i64 (k : Int), .int .i64 0]) ∧ Du w' d F1 (loseD D i k) ∧ Only w w' F ∧ Onto w F F1 := by
  obtain ⟨b, A, n, c, h1, rfl⟩ := h
  rw [h1.len] at hi hk
  exact (Lose_any h1 i hi q hq k hk).mono fun e w' ⟨A1, n1, c1, he, hS, ho, hn⟩ => ⟨_, he, ⟨b, A1, n1, c1, hS, rfl⟩, ho, hn⟩
theorem losebad_p (h : Du w d F D) (at_ q : Int) (hb : ¬ (0 ≤ at_ ∧ at_ ≤ D.held.length)) : Calls Try.prog 23 #[.pointer (some ⟨d, 0, none⟩), .int .i64 at_, .int .i64 q] w fun e w' => e = .returned (.tuple #[.int .i64 0, .int .i64 30]) ∧ w' = w := by
  obtain ⟨b, A, n, c, h1, rfl⟩ := h
  rw [h1.len] at hb
  exact Lose_bad h1 at_ q hb
theorem loseneg_p (h : Du w d F D) (i : Nat) (hi : i ≤ D.held.length) (q : Int) (hq : q < 0) : Calls Try.prog 23 #[.pointer (some ⟨d, 0, none⟩), .int .i64 (i : Int), .int .i64 q] w fun e w' => e = .returned (.tuple #[.int .i64 0, .int .i64 1]) ∧ w' = w := by
  obtain ⟨b, A, n, c, h1, rfl⟩ := h
  rw [h1.len] at hi
  exact Lose_neg h1 i hi q hq
theorem len_p (h : Du w d F D) : Calls Try.prog 20 #[.pointer (some ⟨d, 0, none⟩)] w fun e w' => e = .returned (.int .i64 (D.held.length : Int)) ∧ w' = w := by
  obtain ⟨b, A, n, c, h1, rfl⟩ := h
  rw [h1.len]
  exact Len_any h1
theorem room_p (h : Du w d F D) : Calls Try.prog 19 #[.pointer (some ⟨d, 0, none⟩)] w fun e w' => e = .returned (.int .i64 (if D.shut then 0 else D.room - D.held.length)) ∧ ∃ k, w' = w.drewN k := by
  obtain ⟨b, A, n, c, h1, rfl⟩ := h
  rw [h1.len]
  exact Room_any h1
theorem shut_p (h : Du w d F D) : Calls Try.prog 21 #[.pointer (some ⟨d, 0, none⟩)] w fun e w' => e = .returned (.int .i64 (if D.shut then 91 else 0)) ∧ Du w' d F { D with shut := true } ∧ Only w w' F := by
  obtain ⟨b, A, n, c, h1, rfl⟩ := h
  exact (Shut_any h1).mono fun e w' ⟨he, hS, ho⟩ => ⟨he, ⟨b, A, n, c, hS, rfl⟩, ho⟩
theorem done_p (h : Du w d F D) : Calls Try.prog 28 #[.pointer (some ⟨d, 0, none⟩)] w fun e w' => e = .returned (.bool (D.shut && decide (D.held.length = 0))) ∧ w' = w := by
  obtain ⟨b, A, n, c, h1, rfl⟩ := h
  rw [h1.len]
  exact Done_any h1
end
/-- Two slices in a box. -/
theorem RBc.two {w : World} {A B : Option Addr} {n c m e g : Nat} {xs ys : List Int} {t : TypeId} (h : RB w A n xs) (hc : n ≤ c) (k : RB w B m ys) (he : m ≤ e) (hg : w.heap[g]? = some (.cells #[.slice A n c, .slice B m e] t (0, 0))) : RBc w (some ⟨g, 0, none⟩) 2 [xs, ys] := by
  refine ⟨rfl, by omega, fun i hi => ?_⟩
  obtain rfl | rfl : i = 0 ∨ i = 1 := by omega
  · refine ⟨_, A, c, xs, rfl, ?_, rfl, ?_, ?_⟩
    · rw [h.len, show (⟨g, 0, none⟩ : Addr).add 0 = ⟨g, 0, none⟩ from rfl]; exact cell_of_row w g 0 _ _ _ hg
    · rw [h.len]; exact h
    · rw [h.len]; exact hc
  · refine ⟨_, B, e, ys, rfl, ?_, rfl, ?_, ?_⟩
    · rw [k.len, add_plain]; exact cell_of_row w g 1 _ _ _ hg
    · rw [k.len]; exact k
    · rw [k.len]; exact he
set_option maxHeartbeats 1000000 in
theorem alive_any (w : World) : Calls Try.prog 11 #[] w fun e w' => e = .returned (.bool true) ∧ Below w.heap.size w w' := by
  go_enter Try.func11, Try.ntmps11
  go_wp2_with fail
  refine (new_p 2 (by omega) (by omega) _).mono ?_
  rintro e w1 ⟨d, F, rfl, hD, hF, hb1⟩
  have k1 := Lib.run_convert_bytes_const (P := Try.prog) w1 22 5 #[.int .u8 97, .int .u8 98] 2 2 Try.underlying22 Try.underlying5
  have k2 := Go.Joins.run_convert_bytes_const_at (P := Try.prog) (w1.alloc (.cells #[.int .u8 97, .int .u8 98] 5 (2, 3))) 22 5 #[.int .u8 99] 1 1 (w1.heap.size + 1) (by simp) Try.underlying22 Try.underlying5
  go_wp2_with fail
  clear k1 k2
  have hq1 : RB ((w1.alloc (.cells #[.int .u8 97, .int .u8 98] 5 (2, 3)))) (some ⟨w1.heap.size, 0, none⟩) 2 [97, 98] := RB.lit w1 [97, 98] (by intro x hx; simp at hx; omega) (by decide) 5 (2, 3)
  have hq2 : RB (((w1.alloc (.cells #[.int .u8 97, .int .u8 98] 5 (2, 3))).alloc (.cells #[.int .u8 99] 5 (1, 2)))) (some ⟨w1.heap.size + 1, 0, none⟩) 1 [99] := by
    have := RB.lit (w1.alloc (.cells #[.int .u8 97, .int .u8 98] 5 (2, 3))) [99] (by intro x hx; simp at hx; omega) (by decide) 5 (1, 2)
    rw [World.size_alloc] at this
    exact this
  have hq3 := heap_alloc_new ((w1.alloc (.cells #[.int .u8 97, .int .u8 98] 5 (2, 3))).alloc (.cells #[.int .u8 99] 5 (1, 2))) (.cells #[.slice (some ⟨w1.heap.size, 0, none⟩) 2 2, .slice (some ⟨w1.heap.size + 1, 0, none⟩) 1 1] 22)
  rw [World.size_alloc, World.size_alloc] at hq3
  replace hq1 := (hq1.alloc (.cells #[.int .u8 99] 5 (1, 2))).alloc (.cells #[.slice (some ⟨w1.heap.size, 0, none⟩) 2 2, .slice (some ⟨w1.heap.size + 1, 0, none⟩) 1 1] 22)
  replace hq2 := hq2.alloc (.cells #[.slice (some ⟨w1.heap.size, 0, none⟩) 2 2, .slice (some ⟨w1.heap.size + 1, 0, none⟩) 1 1] 22)
  have hbel := below_alloc (below_alloc (below_alloc (Below.refl w1.heap.size w1) (.cells #[.int .u8 97, .int .u8 98] 5 (2, 3))) (.cells #[.int .u8 99] 5 (1, 2))) (.cells #[.slice (some ⟨w1.heap.size, 0, none⟩) 2 2, .slice (some ⟨w1.heap.size + 1, 0, none⟩) 1 1] 22)
  show Calls _ _ _ (((w1.alloc (.cells #[.int .u8 97, .int .u8 98] 5 (2, 3))).alloc (.cells #[.int .u8 99] 5 (1, 2))).alloc (.cells #[.slice (some ⟨w1.heap.size, 0, none⟩) 2 2, .slice (some ⟨w1.heap.size + 1, 0, none⟩) 1 1] 22)) _
  generalize ((w1.alloc (.cells #[.int .u8 97, .int .u8 98] 5 (2, 3))).alloc (.cells #[.int .u8 99] 5 (1, 2))).alloc (.cells #[.slice (some ⟨w1.heap.size, 0, none⟩) 2 2, .slice (some ⟨w1.heap.size + 1, 0, none⟩) 1 1] 22) = w4 at *
  have hold := hD.old
  have hD4 := hD.below hbel
  have hL : ∀ W, Only w4 W F → RBc W (some ⟨w1.heap.size + 1 + 1, 0, none⟩) 2 [[97, 98], [99]] := fun W ho =>
    RBc.two (hq1.apart ho (fun a e hk => by cases e; exact absurd (show w1.heap.size < w1.heap.size from hold _ hk) (by omega))) (Nat.le_refl _) (hq2.apart ho (fun a e hk => by cases e; exact absurd (show w1.heap.size + 1 < w1.heap.size from hold _ hk) (by omega))) (Nat.le_refl _) (ho.kept hq3 (fun hk => by have := hold _ hk; omega))
  refine (write_p hD4 rfl _ 2 2 _ hL).mono ?_
  rintro e w5 ⟨F1, m, rfl, HM, hD5, ho5, hn5⟩
  obtain rfl : m = 2 := HM.out
  have hb5 : Below w.heap.size w w5 := Below.only (below_step hb1 hbel) ho5 (Nat.le_trans hb1.size hbel.size) hF
  have hF5 : ∀ k, F1 k → w.heap.size ≤ k := fun k hk => (hn5 k hk).elim (hF k) (fun e => Nat.le_trans (Nat.le_trans hb1.size hbel.size) e)
  clear hq1 hq2 hq3 hL hold hD4 hbel ho5 hn5 HM hD
  go_wp2_with fail
  refine (read_p hD5 9 2 (by simp [writeD, wHeld, newD]; omega)).mono ?_
  rintro e w6 ⟨v, F2, rfl, hO, hD6, ho6, hn6, _⟩
  have hb6 : Below w.heap.size w w6 := Below.only hb5 ho6 hb5.size hF5
  obtain ⟨A, c, rfl, hr, _⟩ := hO.reads'
  have hx : (writeD (newD 2) (newD 2).held.length [[97, 98], [99]].flatten).held.take 2 = [97, 98] := by simp [writeD, wHeld, newD]
  rw [hx] at hr ⊢
  have ka := string_of_reads (P := Try.prog) (c := c) Try.underlying22 Try.underlying5 Try.underlying9 hr.rd
  have hs : strOfNums [97, 98] = ⟨#[97, 98]⟩ := by decide
  rw [hs] at ka
  rw [show ([97, 98] : List Int).length = 2 from rfl] at ka ⊢
  clear hO hr hD6 ho6 hn6 hx hs
  go_wp2_with fail
  go_ret
  exact ⟨rfl, hb6⟩
end Go.Proofs.Ytodhcgidmdeifaa
