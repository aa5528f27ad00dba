/- The document's reader in memory; fail, New, Uint, Int, Raw, Byte. -/
import Derived.Test.YtiadfmbddkcleaaWiP
namespace Go.Kit
theorem numQ {D : Rd} (hok : D.ok) {m k : Nat} {x : Int} (h : num D.bs D.at_ = (m, k, x)) : m < 18446744073709551616 ∧ D.at_ + k ≤ D.bs.length ∧ k ≤ 10 ∧ (x = 0 → 1 ≤ k) ∧ (x = 0 ∨ x = 4 ∨ x = 5 ∨ x = 10) := by
  have := num_facts hok.1 hok.2.1
  rw [h] at this
  exact this
end Go.Kit
namespace Go.Proofs.Ytiadfmbddkcleaa
open Go.RowKit Go.Kit Go.Proofs.YtiadfmbddkcleaaW.PrintWords
theorem rshort_at {w : World} {A : Option Addr} {n c : Nat} {bs : List Int} (hR : RB w A n bs) (hm : n ≤ 140737488355328) (a : Nat) (ha : a ≤ n) {m k : Nat} {x : Int} (hN : num bs a = (m, k, x)) :
    Calls Try.prog 64 #[.slice A n c, .int .i64 (a : Int)] w fun e w' => e = .returned (.tuple #[.int .u64 (m : Int), .int .i64 (k : Int), .int .i64 x]) ∧ w' = w := by
  refine (rshort_any hR hm a ha).mono ?_
  rintro e w1 ⟨m', k', x', rfl, HN, rfl⟩
  have := HN.out
  rw [hN] at this
  cases this
  exact ⟨rfl, rfl⟩
/-- The document's reader at q, over the bytes at A. -/
structure QR (w : World) (q : Nat) (A : Option Addr) (n c : Nat) (D : Rd) : Prop where
  qk : w.heap[q]? = some (.cells #[.slice A n c, .int .i64 (D.at_ : Int), .int .i64 D.why, .int .i64 D.wat] 63 (0, 0))
  row : RB w A n D.bs
  cap : n ≤ c
  max : n ≤ 140737488355328
  low : D.at_ ≤ n
  inv : D.why = 0 → D.wat = 0
  out : ∀ a, A = some a → a.block ≠ q
  old : ∀ a, A = some a → a.block < w.heap.size
/-- Its footprint. -/
def qrf (r : Nat) (A : Option Addr) (k : Nat) : Prop := k = r ∨ ∃ a, A = some a ∧ a.block = k
section
variable {w w1 : World} {q n c : Nat} {A : Option Addr} {D : Rd} {S : Nat → Prop}
theorem QR.q0 (h : QR w q A n c D) : w.cell? ⟨q, 0, none⟩ = some (.slice A n c) := cell_of_row w q 0 _ _ _ h.qk
theorem QR.q1 (h : QR w q A n c D) : w.cell? ⟨q, 1, none⟩ = some (.int .i64 (D.at_ : Int)) := cell_of_row w q 1 _ _ _ h.qk
theorem QR.q2 (h : QR w q A n c D) : w.cell? ⟨q, 2, none⟩ = some (.int .i64 D.why) := cell_of_row w q 2 _ _ _ h.qk
theorem QR.q3 (h : QR w q A n c D) : w.cell? ⟨q, 3, none⟩ = some (.int .i64 D.wat) := cell_of_row w q 3 _ _ _ h.qk
theorem QR.fq (h : QR w q A n c D) (j : Nat) : w.frozen? ⟨q, j, none⟩ = false := frozen_of_row w q j _ _ h.qk
theorem QR.only (h : QR w q A n c D) (ho : Only w w1 S) (hs : Sep (qrf q A) S) : QR w1 q A n c D :=
  ⟨ho.kept h.qk (hs q (.inl rfl)), h.row.apart ho (fun a e => hs a.block (.inr ⟨a, e, rfl⟩)), h.cap, h.max, h.low, h.inv, h.out, fun a e => Nat.lt_of_lt_of_le (h.old a e) ho.size⟩
theorem QR.below (h : QR w q A n c D) (hb : Below w.heap.size w w1) : QR w1 q A n c D := ⟨(hb.block q (lt_of_block h.qk)).trans h.qk, h.row.below hb, h.cap, h.max, h.low, h.inv, h.out, fun a e => Nat.lt_of_lt_of_le (h.old a e) hb.size⟩
theorem QR.drewN (h : QR w q A n c D) (k : Nat) : QR (w.drewN k) q A n c D := h.below (pw_below_drewN (Below.refl _ _) k)
theorem QR.oldF (h : QR w q A n c D) : Old w (qrf q A) := fun k hk => by
  rcases hk with rfl | ⟨a, e, rfl⟩
  · exact lt_of_block h.qk
  · exact h.old a e
theorem QR.ok (h : QR w q A n c D) : D.ok := ⟨h.row.byt, by rw [h.row.len]; exact h.low, h.inv⟩
theorem only_q (w : World) (r j : Nat) (v : Value) : Only w (w.setCell ⟨r, j, none⟩ v) (fun k => k = r) := (Only.refl w _).set r j v (.inl rfl)
theorem QR.set1 (h : QR w q A n c D) (x : Int) (a : Nat) (hx : x = (a : Int)) (ha : a ≤ n) : QR (w.setCell ⟨q, 1, none⟩ (.int .i64 x)) q A n c (D.to a) :=
  ⟨by rw [hx]; exact heap_set_same w q 1 _ _ _ h.qk, h.row.apart (only_q w q 1 _) (fun a e => h.out a e), h.cap, h.max, ha, h.inv, h.out, fun a e => Nat.lt_of_lt_of_le (h.old a e) (only_q w q 1 _).size⟩
theorem QR.set23 (h : QR w q A n c D) (e : Int) (a : Nat) (he : e ≠ 0) : QR ((w.setCell ⟨q, 2, none⟩ (.int .i64 e)).setCell ⟨q, 3, none⟩ (.int .i64 (a : Int))) q A n c (D.fail e a) := by
  have h3 := heap_set_same w q 2 _ _ (.int .i64 e) h.qk
  have h4 := heap_set_same _ q 3 _ _ (.int .i64 (a : Int)) h3
  exact ⟨h4, (h.row.apart (only_q w q 2 _) (fun a e => h.out a e)).apart (only_q _ q 3 _) (fun a e => h.out a e), h.cap, h.max, h.low, fun h0 => absurd h0 he, h.out, fun a e => Nat.lt_of_lt_of_le (h.old a e) (((only_q w q 2 (.int .i64 _)).set q 3 _ (.inl rfl)).size)⟩
set_option maxHeartbeats 1000000 in
theorem rfail_any (h : QR w q A n c D) (e : Int) (a : Nat) (he : e ≠ 0) : Calls Try.prog 65 #[.pointer (some ⟨q, 0, none⟩), .int .i64 e, .int .i64 (a : Int)] w fun x w' => x = .returned (.tuple #[]) ∧ QR w' q A n c (D.fail e a) ∧ Only w w' (fun k => k = q) := by
  have h2 := h.q2
  have h3 := h.q3
  have f2 := h.fq 2
  have f3 := h.fq 3
  go_enter Try.func65, Try.ntmps65
  go_wp2_with fail
  refine bodyPost_end (v := .tuple #[]) (by simp [results, Try.results65, go_sem]) rfl ⟨rfl, h.set23 e a he, ((Only.refl w (fun k => k = q)).set q 2 _ (.inl rfl)).set q 3 _ (.inl rfl)⟩
set_option maxHeartbeats 1000000 in
theorem rRUint_any (h : QR w q A n c D) : Calls Try.prog 53 #[.pointer (some ⟨q, 0, none⟩)] w fun e w' => ∃ D1 v, e = .returned (.int .u64 ((v : Nat) : Int)) ∧ Hid (uintS D = (D1, v)) ∧ QR w' q A n c D1 ∧ Only w w' (fun k => k = q) := by
  have h0 := h.q0
  have h1 := h.q1
  have h2 := h.q2
  have hf1 := h.fq 1
  have hm := h.max
  by_cases hw : D.why = 0
  · have HW := Lib.hid hw
    have hwb : (D.why != 0) = false := by simp [hw]
    clear hw
    go_enter Try.func53, Try.ntmps53
    obtain ⟨m, k, x, HN⟩ : ∃ m k x, Hid (num D.bs D.at_ = (m, k, x)) := ⟨_, _, _, rfl⟩
    obtain ⟨g1, g2, g3, g4, g5⟩ := numQ h.ok HN.out
    rw [h.row.len] at g2
    have hlo := h.low
    go_wp2_with fail
    go_quiet ((go_at_call 64; exact (rshort_at (h.row.drewN _) hm D.at_ hlo HN.out).mono fun e w' ⟨he, hw⟩ => ⟨he, _, hw⟩))
    replace h := h.drewN nq
    have h1 := h.q1
    have hf1 := h.fq 1
    by_cases hx : x = 0
    · have HF : Hid (uintS D = (D.to (D.at_ + k), m)) := Lib.hid (by
        unfold uintS
        rw [if_neg (by rw [HW.out]; simp), HN.out]
        rw [if_neg (by simpa using hx)])
      have hxb : (x != 0) = false := by simp [hx]
      have hs := h.set1 ((D.at_ : Int) + (k : Int)) (D.at_ + k) (by omega) g2
      have ho := ((Only.refl w (fun k => k = q)).drewN nq).set q 1 (.int .i64 ((D.at_ : Int) + (k : Int))) (.inl rfl)
      clear hx g1 g4 g5
      go_wp2_with fail
      go_ret
      exact ⟨_, _, rfl, HF, hs, ho⟩
    · have HF : Hid (uintS D = (D.fail x D.at_, 0)) := Lib.hid (by
        unfold uintS
        rw [if_neg (by rw [HW.out]; simp), HN.out]
        rw [if_pos (by simpa using hx)])
      have hxb : (x != 0) = true := by simp [hx]
      have HX := Lib.hid hx
      have ho := ((Only.refl w (fun k => k = q)).drewN nq)
      clear hx g1 g2 g3 g4 g5
      go_wp2_with fail
      refine (rfail_any h x D.at_ HX.out).mono ?_
      rintro e w4 ⟨rfl, hs, ho2⟩
      replace ho := ho.same ho2
      go_wp2_with fail
      go_ret
      exact ⟨_, 0, rfl, HF, hs, ho⟩
  · have HF : Hid (uintS D = (D, 0)) := Lib.hid (by unfold uintS; rw [if_pos hw])
    have hwb : (D.why != 0) = true := by simp [hw]
    clear hw
    go_enter Try.func53, Try.ntmps53
    go_wp2_with fail
    go_ret
    exact ⟨_, 0, rfl, HF, h, Only.refl _ _⟩
end
end Go.Proofs.Ytiadfmbddkcleaa
