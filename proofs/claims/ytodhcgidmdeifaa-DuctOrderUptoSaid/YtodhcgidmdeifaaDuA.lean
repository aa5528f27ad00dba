/- Ducts in memory, and the contracts of their small methods. -/
import Derived.Test.YtodhcgidmdeifaaByt
import Derived.Test.YtodhcgidmdeifaaWGuard
namespace Go.Kit
open Go.RowKit Go.Proofs.YtodhcgidmdeifaaW.PrintWords
/-- What a duct is. -/
structure Dk where
  held : List Int
  room : Int
  shut : Bool
  ci : Int
  co : Int
  ct : Int
  cl : Int
end Go.Kit
namespace Go.Proofs.Ytodhcgidmdeifaa
open Go.RowKit Go.Kit Go.Proofs.YtodhcgidmdeifaaW.PrintWords
/-- The program's duct: at d, its bytes at b, what it holds in the row A. -/
structure DS (w : World) (d b : Nat) (A : Option Addr) (n c : Nat) (D : Dk) : Prop where
  dk : w.heap[d]? = some (.cells #[.pointer (some ⟨b, 0, none⟩), .bool D.shut, .int .i64 D.ci, .int .i64 D.co, .int .i64 D.ct, .int .i64 D.cl] 63 (0, 0))
  bk : w.heap[b]? = some (.cells #[.slice A n c, .int .i64 D.room] 67 (0, 0))
  row : OB 5 w 0 (.slice A n c) D.held
  len : D.held.length = n
  fit : (n : Int) ≤ D.room
  low : 1 ≤ D.room
  top : D.room ≤ 4194304
/-- Its footprint. -/
def df (d b : Nat) (A : Option Addr) (n c : Nat) (k : Nat) : Prop := k = d ∨ k = b ∨ rf (.slice A n c) k
section
variable {w w1 : World} {d b n c : Nat} {A : Option Addr} {D : Dk} {S : Nat → Prop}
theorem DS.ne (h : DS w d b A n c D) : d ≠ b := fun e => by
  have := h.bk; rw [← e, h.dk] at this
  simp at this
theorem DS.d0 (h : DS w d b A n c D) : w.cell? ⟨d, 0, none⟩ = some (.pointer (some ⟨b, 0, none⟩)) := cell_of_row w d 0 _ _ _ h.dk
theorem DS.d1 (h : DS w d b A n c D) : w.cell? ⟨d, 1, none⟩ = some (.bool D.shut) := cell_of_row w d 1 _ _ _ h.dk
theorem DS.d2 (h : DS w d b A n c D) : w.cell? ⟨d, 2, none⟩ = some (.int .i64 D.ci) := cell_of_row w d 2 _ _ _ h.dk
theorem DS.d3 (h : DS w d b A n c D) : w.cell? ⟨d, 3, none⟩ = some (.int .i64 D.co) := cell_of_row w d 3 _ _ _ h.dk
theorem DS.d4 (h : DS w d b A n c D) : w.cell? ⟨d, 4, none⟩ = some (.int .i64 D.ct) := cell_of_row w d 4 _ _ _ h.dk
theorem DS.d5 (h : DS w d b A n c D) : w.cell? ⟨d, 5, none⟩ = some (.int .i64 D.cl) := cell_of_row w d 5 _ _ _ h.dk
theorem DS.b0 (h : DS w d b A n c D) : w.cell? ⟨b, 0, none⟩ = some (.slice A n c) := cell_of_row w b 0 _ _ _ h.bk
theorem DS.b1 (h : DS w d b A n c D) : w.cell? ⟨b, 1, none⟩ = some (.int .i64 D.room) := cell_of_row w b 1 _ _ _ h.bk
theorem DS.fd (h : DS w d b A n c D) (j : Nat) : w.frozen? ⟨d, j, none⟩ = false := frozen_of_row w d j _ _ h.dk
theorem DS.fb (h : DS w d b A n c D) (j : Nat) : w.frozen? ⟨b, j, none⟩ = false := frozen_of_row w b j _ _ h.bk
theorem DS.max (h : DS w d b A n c D) : n ≤ 4194304 := by have := h.fit; have := h.top; omega
theorem DS.only (h : DS w d b A n c D) (ho : Only w w1 S) (hs : Sep (df d b A n c) S) : DS w1 d b A n c D :=
  ⟨ho.kept h.dk (hs d (.inl rfl)), ho.kept h.bk (hs b (.inr (.inl rfl))), h.row.only ho (fun k hk => hs k (.inr (.inr hk))), h.len, h.fit, h.low, h.top⟩
theorem DS.below (h : DS w d b A n c D) (hb : Below w.heap.size w w1) : DS w1 d b A n c D := h.only (Only.of_below hb (fun _ => False)) (fun _ _ e => e)
theorem DS.drewN (h : DS w d b A n c D) (k : Nat) : DS (w.drewN k) d b A n c D := h.below (pw_below_drewN (Below.refl _ _) k)
theorem DS.old (h : DS w d b A n c D) : Old w (df d b A n c) := fun k hk => by
  rcases hk with rfl | rfl | hk
  · exact lt_of_block h.dk
  · exact lt_of_block h.bk
  · exact h.row.old k hk
theorem DS.rd (h : DS w d b A n c D) : ¬ rf (.slice A n c) d := h.row.not_block h.dk (by decide)
theorem DS.rb (h : DS w d b A n c D) : ¬ rf (.slice A n c) b := h.row.not_block h.bk (by decide)
theorem DS.cap (h : DS w d b A n c D) : n ≤ c := by
  obtain ⟨A', c', e, _, h2⟩ := h.row.reads'
  injection e with e1 e2 e3
  rw [h.len] at h2; omega
/-- A count is set. -/
theorem DS.setIn (h : DS w d b A n c D) (x : Int) : DS (w.setCell ⟨d, 2, none⟩ (.int .i64 x)) d b A n c { D with ci := x } :=
  ⟨heap_set_same w d 2 _ _ _ h.dk, (heap_setCell_other _ _ _ _ h.ne.symm).trans h.bk, h.row.kept (grown_set w d 2 _) (.inr (fun e => h.rd e)), h.len, h.fit, h.low, h.top⟩
theorem DS.setOut (h : DS w d b A n c D) (x : Int) : DS (w.setCell ⟨d, 3, none⟩ (.int .i64 x)) d b A n c { D with co := x } :=
  ⟨heap_set_same w d 3 _ _ _ h.dk, (heap_setCell_other _ _ _ _ h.ne.symm).trans h.bk, h.row.kept (grown_set w d 3 _) (.inr (fun e => h.rd e)), h.len, h.fit, h.low, h.top⟩
theorem DS.setTurned (h : DS w d b A n c D) (x : Int) : DS (w.setCell ⟨d, 4, none⟩ (.int .i64 x)) d b A n c { D with ct := x } :=
  ⟨heap_set_same w d 4 _ _ _ h.dk, (heap_setCell_other _ _ _ _ h.ne.symm).trans h.bk, h.row.kept (grown_set w d 4 _) (.inr (fun e => h.rd e)), h.len, h.fit, h.low, h.top⟩
theorem DS.setLost (h : DS w d b A n c D) (x : Int) : DS (w.setCell ⟨d, 5, none⟩ (.int .i64 x)) d b A n c { D with cl := x } :=
  ⟨heap_set_same w d 5 _ _ _ h.dk, (heap_setCell_other _ _ _ _ h.ne.symm).trans h.bk, h.row.kept (grown_set w d 5 _) (.inr (fun e => h.rd e)), h.len, h.fit, h.low, h.top⟩
theorem DS.setShut (h : DS w d b A n c D) (x : Bool) : DS (w.setCell ⟨d, 1, none⟩ (.bool x)) d b A n c { D with shut := x } :=
  ⟨heap_set_same w d 1 _ _ _ h.dk, (heap_setCell_other _ _ _ _ h.ne.symm).trans h.bk, h.row.kept (grown_set w d 1 _) (.inr (fun e => h.rd e)), h.len, h.fit, h.low, h.top⟩
/-- What it holds is another row: it was laid behind a world in which the duct stood. -/
theorem DS.setHeld (h : DS w d b A n c D) {row : Option Nat} (hg : w.grownBy w1 row) (hr : row = none ∨ row = (Value.slice A n c).ownBlock) {A1 : Option Addr} {n1 c1 : Nat} {xs : List Int} (ho : OB 5 w1 0 (.slice A1 n1 c1) xs) (hl : xs.length = n1) (hf : (n1 : Int) ≤ D.room) :
    DS (w1.setCell ⟨b, 0, none⟩ (.slice A1 n1 c1)) d b A1 n1 c1 { D with held := xs } := by
  have hne : ∀ k, ¬ rf (.slice A n c) k → some k ≠ row := fun k hk e => by
    rcases hr with rfl | rfl
    · cases e
    · exact hk e.symm
  have hd : w1.heap[d]? = w.heap[d]? := hg.block d (lt_of_block h.dk) (hne d h.rd)
  have hb : w1.heap[b]? = w.heap[b]? := hg.block b (lt_of_block h.bk) (hne b h.rb)
  have hb1 : w1.heap[b]? = some (.cells #[.slice A n c, .int .i64 D.room] 67 (0, 0)) := hb.trans h.bk
  exact ⟨(heap_setCell_other _ _ _ _ h.ne).trans (hd.trans h.dk), heap_set_same w1 b 0 _ _ _ hb1, ho.kept (grown_set w1 b 0 _) (.inr (fun e => ho.not_block hb1 (by decide) e)), hl, hf, h.low, h.top⟩
/-- Behind an append to its row, the row not yet laid in. -/
theorem DS.grow (h : DS w d b A n c D) {row : Option Nat} (hg : w.grownBy w1 row) (hr : row = none ∨ row = (Value.slice A n c).ownBlock) :
    w1.cell? ⟨d, 0, none⟩ = some (.pointer (some ⟨b, 0, none⟩)) ∧ w1.cell? ⟨b, 0, none⟩ = some (.slice A n c) ∧ w1.frozen? ⟨b, 0, none⟩ = false := by
  have hne : ∀ k, ¬ rf (.slice A n c) k → some k ≠ row := fun k hk e => by
    rcases hr with rfl | rfl
    · cases e
    · exact hk e.symm
  have hd : w1.heap[d]? = w.heap[d]? := hg.block d (lt_of_block h.dk) (hne d h.rd)
  have hb : w1.heap[b]? = w.heap[b]? := hg.block b (lt_of_block h.bk) (hne b h.rb)
  have hb1 : w1.heap[b]? = some (.cells #[.slice A n c, .int .i64 D.room] 67 (0, 0)) := hb.trans h.bk
  exact ⟨cell_of_row w1 d 0 _ _ _ (hd.trans h.dk), cell_of_row w1 b 0 _ _ _ hb1, frozen_of_row w1 b 0 _ _ hb1⟩
/-- A byte is set. -/
theorem DS.setByte {g : Nat} (h : DS w d b (some ⟨g, 0, none⟩) n c D) (i : Nat) (x : Int) (h0 : 0 ≤ x) (h1 : x < 256) : DS (w.setCell ⟨g, i, none⟩ (.int .u8 x)) d b (some ⟨g, 0, none⟩) n c { D with held := D.held.set i x } :=
  ⟨(heap_setCell_other _ _ _ _ (fun e => h.rd (by rw [e]; rfl))).trans h.dk, (heap_setCell_other _ _ _ _ (fun e => h.rb (by rw [e]; rfl))).trans h.bk, h.row.store h.len.symm i x h0 h1, by simpa using h.len, h.fit, h.low, h.top⟩
end
section
variable {w : World} {d b n c : Nat} {A : Option Addr} {D : Dk}
theorem made_any (h : DS w d b A n c D) : Calls Try.prog 30 #[.pointer (some ⟨d, 0, none⟩)] w fun e w' => e = .returned (.bool true) ∧ w' = w := by
  have h0 := h.d0
  clear h
  go_enter Try.func30, Try.ntmps30
  go_wp2_with fail
  go_ret
  exact ⟨rfl, rfl⟩
end
end Go.Proofs.Ytodhcgidmdeifaa
