/- The document's duct in memory, and the contracts of its Room, Peek, Shut, Done, Turn. -/
import Derived.Test.YtodhcgidmdeifaaDuE
namespace Go.Proofs.Ytodhcgidmdeifaa
open Go.RowKit Go.Kit Go.Proofs.YtodhcgidmdeifaaW.PrintWords
/-- The document's duct: at q, what it holds in the row A. -/
structure QS (w : World) (q : Nat) (A : Option Addr) (n c : Nat) (D : Dk) : Prop where
  qk : w.heap[q]? = some (.cells #[.int .i64 D.room, .slice A n c, .bool D.shut, .int .i64 D.ci, .int .i64 D.co, .int .i64 D.ct, .int .i64 D.cl] 43 (0, 0))
  row : OB 5 w 0 (.slice A n c) D.held
  len : D.held.length = n
  fit : (n : Int) ≤ D.room
  low : 1 ≤ D.room
  top : D.room ≤ 4194304
def qf (q : Nat) (A : Option Addr) (n c : Nat) (k : Nat) : Prop := k = q ∨ rf (.slice A n c) k
section
variable {w w1 : World} {q n c : Nat} {A : Option Addr} {D : Dk} {S : Nat → Prop}
theorem QS.q0 (h : QS w q A n c D) : w.cell? ⟨q, 0, none⟩ = some (.int .i64 D.room) := cell_of_row w q 0 _ _ _ h.qk
theorem QS.q1 (h : QS w q A n c D) : w.cell? ⟨q, 1, none⟩ = some (.slice A n c) := cell_of_row w q 1 _ _ _ h.qk
theorem QS.q2 (h : QS w q A n c D) : w.cell? ⟨q, 2, none⟩ = some (.bool D.shut) := cell_of_row w q 2 _ _ _ h.qk
theorem QS.q3 (h : QS w q A n c D) : w.cell? ⟨q, 3, none⟩ = some (.int .i64 D.ci) := cell_of_row w q 3 _ _ _ h.qk
theorem QS.q4 (h : QS w q A n c D) : w.cell? ⟨q, 4, none⟩ = some (.int .i64 D.co) := cell_of_row w q 4 _ _ _ h.qk
theorem QS.q5 (h : QS w q A n c D) : w.cell? ⟨q, 5, none⟩ = some (.int .i64 D.ct) := cell_of_row w q 5 _ _ _ h.qk
theorem QS.q6 (h : QS w q A n c D) : w.cell? ⟨q, 6, none⟩ = some (.int .i64 D.cl) := cell_of_row w q 6 _ _ _ h.qk
theorem QS.fq (h : QS w q A n c D) (j : Nat) : w.frozen? ⟨q, j, none⟩ = false := frozen_of_row w q j _ _ h.qk
theorem QS.max (h : QS w q A n c D) : n ≤ 4194304 := by have := h.fit; have := h.top; omega
theorem QS.only (h : QS w q A n c D) (ho : Only w w1 S) (hs : Sep (qf q A n c) S) : QS w1 q A n c D :=
  ⟨ho.kept h.qk (hs q (.inl rfl)), h.row.only ho (fun k hk => hs k (.inr hk)), h.len, h.fit, h.low, h.top⟩
theorem QS.below (h : QS w q A n c D) (hb : Below w.heap.size w w1) : QS w1 q A n c D := h.only (Only.of_below hb (fun _ => False)) (fun _ _ e => e)
theorem QS.drewN (h : QS w q A n c D) (k : Nat) : QS (w.drewN k) q A n c D := h.below (pw_below_drewN (Below.refl _ _) k)
theorem QS.old (h : QS w q A n c D) : Old w (qf q A n c) := fun k hk => by
  rcases hk with rfl | hk
  · exact lt_of_block h.qk
  · exact h.row.old k hk
theorem QS.rq (h : QS w q A n c D) : ¬ rf (.slice A n c) q := h.row.not_block h.qk (by decide)
theorem QS.cap (h : QS w q A n c D) : n ≤ c := by
  obtain ⟨A', c', e, _, h2⟩ := h.row.reads'
  injection e with e1 e2 e3
  rw [h.len] at h2; omega
theorem QS.setShut (h : QS w q A n c D) (x : Bool) : QS (w.setCell ⟨q, 2, none⟩ (.bool x)) q A n c { D with shut := x } :=
  ⟨heap_set_same w q 2 _ _ _ h.qk, h.row.kept (grown_set w q 2 _) (.inr (fun e => h.rq e)), h.len, h.fit, h.low, h.top⟩
theorem QS.setIn (h : QS w q A n c D) (x : Int) : QS (w.setCell ⟨q, 3, none⟩ (.int .i64 x)) q A n c { D with ci := x } :=
  ⟨heap_set_same w q 3 _ _ _ h.qk, h.row.kept (grown_set w q 3 _) (.inr (fun e => h.rq e)), h.len, h.fit, h.low, h.top⟩
theorem QS.setOut (h : QS w q A n c D) (x : Int) : QS (w.setCell ⟨q, 4, none⟩ (.int .i64 x)) q A n c { D with co := x } :=
  ⟨heap_set_same w q 4 _ _ _ h.qk, h.row.kept (grown_set w q 4 _) (.inr (fun e => h.rq e)), h.len, h.fit, h.low, h.top⟩
theorem QS.setTurned (h : QS w q A n c D) (x : Int) : QS (w.setCell ⟨q, 5, none⟩ (.int .i64 x)) q A n c { D with ct := x } :=
  ⟨heap_set_same w q 5 _ _ _ h.qk, h.row.kept (grown_set w q 5 _) (.inr (fun e => h.rq e)), h.len, h.fit, h.low, h.top⟩
theorem QS.setLost (h : QS w q A n c D) (x : Int) : QS (w.setCell ⟨q, 6, none⟩ (.int .i64 x)) q A n c { D with cl := x } :=
  ⟨heap_set_same w q 6 _ _ _ h.qk, h.row.kept (grown_set w q 6 _) (.inr (fun e => h.rq e)), h.len, h.fit, h.low, h.top⟩
theorem QS.grow (h : QS w q A n c D) {row : Option Nat} (hg : w.grownBy w1 row) (hr : row = none ∨ row = (Value.slice A n c).ownBlock) :
    w1.heap[q]? = some (.cells #[.int .i64 D.room, .slice A n c, .bool D.shut, .int .i64 D.ci, .int .i64 D.co, .int .i64 D.ct, .int .i64 D.cl] 43 (0, 0)) := by
  refine (hg.block q (lt_of_block h.qk) (fun e => ?_)).trans h.qk
  rcases hr with rfl | rfl
  · cases e
  · exact h.rq e.symm
theorem QS.setHeld (h : QS w q A n c D) {row : Option Nat} (hg : w.grownBy w1 row) (hr : row = none ∨ row = (Value.slice A n c).ownBlock) {A1 : Option Addr} {n1 c1 : Nat} {xs : List Int} (ho : OB 5 w1 0 (.slice A1 n1 c1) xs) (hl : xs.length = n1) (hf : (n1 : Int) ≤ D.room) :
    QS (w1.setCell ⟨q, 1, none⟩ (.slice A1 n1 c1)) q A1 n1 c1 { D with held := xs } := by
  have hq := h.grow hg hr
  exact ⟨heap_set_same w1 q 1 _ _ _ hq, ho.kept (grown_set w1 q 1 _) (.inr (fun e => ho.not_block hq (by decide) e)), hl, hf, h.low, h.top⟩
theorem QS.setByte {g : Nat} (h : QS w q (some ⟨g, 0, none⟩) n c D) (i : Nat) (x : Int) (h0 : 0 ≤ x) (h1 : x < 256) : QS (w.setCell ⟨g, i, none⟩ (.int .u8 x)) q (some ⟨g, 0, none⟩) n c { D with held := D.held.set i x } :=
  ⟨(heap_setCell_other _ _ _ _ (fun e => h.rq (by rw [e]; rfl))).trans h.qk, h.row.store h.len.symm i x h0 h1, by simpa using h.len, h.fit, h.low, h.top⟩
end
section
variable {w : World} {q n c : Nat} {A : Option Addr} {D : Dk}
theorem rRoom_any (h : QS w q A n c D) : Calls Try.prog 27 #[.pointer (some ⟨q, 0, none⟩)] w fun e w' => e = .returned (.int .i64 (if D.shut then 0 else D.room - n)) ∧ ∃ k, w' = w.drewN k := by
  have h0 := h.q0
  have h1 := h.q1
  have h2 := h.q2
  have hf := h.fit
  have ht := h.top
  obtain ⟨r, hr⟩ : ∃ r : Int, D.room = r := ⟨_, rfl⟩
  rw [hr] at h0 hf ht ⊢
  clear h
  go_enter Try.func27, Try.ntmps27
  cases hs : D.shut
  · rw [hs] at h2
    go_wp2_with fail
    go_quiet (fail)
    go_wp2_with fail
    go_ret
    exact ⟨rfl, _, rfl⟩
  · rw [hs] at h2
    go_wp2_with fail
    go_ret
    exact ⟨rfl, 0, rfl⟩
theorem rShut_any (h : QS w q A n c D) : Calls Try.prog 39 #[.pointer (some ⟨q, 0, none⟩)] w fun e w' => e = .returned (.int .i64 (if D.shut then 91 else 0)) ∧ QS w' q A n c { D with shut := true } ∧ Only w w' (qf q A n c) := by
  have h1 := h.q2
  have h2 := h.fq 2
  have H := Lib.hid h
  clear h
  go_enter Try.func39, Try.ntmps39
  cases hs : D.shut
  · rw [hs] at h1
    go_wp2_with fail
    go_ret
    exact ⟨rfl, H.out.setShut true, (Only.refl _ _).set q 2 _ (.inl (.inl rfl))⟩
  · rw [hs] at h1
    go_wp2_with fail
    go_ret
    have hD : D = { D with shut := true } := by cases D; cases hs; rfl
    exact ⟨rfl, hD ▸ H.out, Only.refl _ _⟩
theorem rDone_any (h : QS w q A n c D) : Calls Try.prog 29 #[.pointer (some ⟨q, 0, none⟩)] w fun e w' => e = .returned (.bool (D.shut && decide (n = 0))) ∧ w' = w := by
  have h1 := h.q2
  have h2 := h.q1
  clear h
  go_enter Try.func29, Try.ntmps29
  cases hs : D.shut
  · rw [hs] at h1
    go_wp2_with fail
    go_ret
    exact ⟨rfl, rfl⟩
  · rw [hs] at h1
    by_cases hn : n = 0
    · subst hn
      go_wp2_with fail
      go_ret
      exact ⟨rfl, rfl⟩
    · have hb : ((n : Int) == 0) = false := by simp; omega
      go_wp2_with fail
      go_ret
      refine ⟨?_, rfl⟩
      simp [hn]
set_option maxHeartbeats 1000000 in
theorem rTurn_bad (h : QS w q A n c D) (at_ m : Int) (hb : ¬ (0 ≤ at_ ∧ at_ < n)) : Calls Try.prog 37 #[.pointer (some ⟨q, 0, none⟩), .int .i64 at_, .int .u8 m] w fun e w' => e = .returned (.int .i64 30) ∧ w' = w := by
  have h1 := h.q1
  clear h
  go_enter Try.func37, Try.ntmps37
  by_cases h3 : at_ < 0
  · clear hb
    go_wp2_with fail
    go_ret
    exact ⟨rfl, rfl⟩
  · have h4 : at_ ≥ (n : Int) := by omega
    clear hb
    go_wp2_with fail
    go_ret
    exact ⟨rfl, rfl⟩
set_option maxHeartbeats 1000000 in
theorem rTurn_any (h : QS w q A n c D) (i : Nat) (hi : i < n) (m : Int) (m0 : 0 ≤ m) (m1 : m < 256) : Calls Try.prog 37 #[.pointer (some ⟨q, 0, none⟩), .int .i64 (i : Int), .int .u8 m] w fun e w' => e = .returned (.int .i64 0) ∧ QS w' q A n c (turnD D i m) ∧ Only w w' (qf q A n c) := by
  have h1 := h.q1
  obtain ⟨g, cap, hv, _, _⟩ := h.row.open_ (by rw [h.len]; omega)
  injection hv with e1 e2 e3
  subst e1
  obtain ⟨x, hc, hf, x0, x1, HX⟩ := h.row.at_ h.len.symm i hi
  have hg : D.held.getD i 0 = x := by rw [List.getD_eq_getElem?_getD, HX.out]; rfl
  have hx := u8_xor_range x0 x1 m0 m1
  obtain ⟨y, hy⟩ : ∃ y, bits .xor .u8 x m = y := ⟨_, rfl⟩
  rw [hy] at hx
  have hS := h.setByte i y hx.1 hx.2
  have hO : Only w (w.setCell ⟨g, i, none⟩ (.int .u8 y)) (qf q (some ⟨g, 0, none⟩) n c) := (Only.refl _ _).set g i _ (.inl (.inr rfl))
  have hi2 : (i : Int) < (n : Int) := by omega
  clear h e2 e3
  go_enter Try.func37, Try.ntmps37
  by_cases hm : m = 0
  · subst hm
    go_wp2_with fail
    go_ret
    refine ⟨rfl, ?_, hO⟩
    unfold turnD; rw [hg, hy, if_pos rfl]; exact hS
  · have hb : (m != 0) = true := by simp [hm]
    have h4 := hS.q5
    have h5 := hS.fq 5
    go_wp2_with fail
    go_ret
    refine ⟨rfl, ?_, hO.set q 5 _ (.inl (.inl rfl))⟩
    unfold turnD; rw [hg, hy, if_neg hm]; exact hS.setTurned _
end
end Go.Proofs.Ytodhcgidmdeifaa
