/- Scripts of a duct: rows of acts. -/
import Derived.Test.YtodhcgidmdeifaaDuF
namespace Go.Proofs.Ytodhcgidmdeifaa
open Go.RowKit Go.Kit Go.Proofs.YtodhcgidmdeifaaW.PrintWords
structure Ac where
  kind : Int
  parts : List (List Int)
  a : Int
  b : Int
/-- A row of acts that is read. -/
structure RA (w : World) (A : Option Addr) (n : Nat) (L : List Ac) : Prop where
  len : L.length = n
  max : n ≤ 9223372036854775807
  at0 : ∀ i, i < n → ∃ ad Ai ni ci x, A = some ad ∧ w.cell? (ad.add (i * 4)) = some (.int .i64 x.kind) ∧ w.cell? ⟨(ad.add (i * 4)).block, (ad.add (i * 4)).off + 1, none⟩ = some (.slice Ai ni ci) ∧ w.cell? ⟨(ad.add (i * 4)).block, (ad.add (i * 4)).off + 2, none⟩ = some (.int .i64 x.a) ∧ w.cell? ⟨(ad.add (i * 4)).block, (ad.add (i * 4)).off + 3, none⟩ = some (.int .i64 x.b) ∧ RBc w Ai ni x.parts ∧ L[i]? = some x
theorem RA.below {w w1 : World} {A : Option Addr} {n : Nat} {L : List Ac} (h : RA w A n L) (hb : Below w.heap.size w w1) : RA w1 A n L :=
  ⟨h.len, h.max, fun i hi => by
    obtain ⟨ad, Ai, ni, ci, x, e, h0, h1, h2, h3, hr, hx⟩ := h.at0 i hi
    exact ⟨ad, Ai, ni, ci, x, e, pw_cell_below hb h0, pw_cell_below hb h1, pw_cell_below hb h2, pw_cell_below hb h3, hr.below hb, hx⟩⟩
/-- The counts add up (modulo the words). -/
def adds (D : Dk) : Prop := (-9223372036854775808 ≤ D.ci ∧ D.ci ≤ 9223372036854775807) ∧ ∃ k : Int, D.ci = D.co + D.cl + D.held.length + k * 18446744073709551616
theorem wrap64_is (x : Int) : ∃ k : Int, wrap64 x = x + k * 18446744073709551616 ∧ -9223372036854775808 ≤ wrap64 x ∧ wrap64 x ≤ 9223372036854775807 := by
  refine ⟨-((x + 9223372036854775808) / 18446744073709551616), ?_, ?_, ?_⟩ <;> unfold wrap64 <;> omega
theorem wrap_is (x : Int) : IntKind.i64.wrap x = wrap64 x := by rw [IntKind.wrap_i64]; unfold wrap64; rfl
theorem adds_new (r : Int) : adds (newD r) := ⟨by simp [newD], 0, by simp [newD]⟩
theorem adds_is {D : Dk} (h : adds D) : D.ci = wrap64 (wrap64 (D.co + D.cl) + D.held.length) := by
  obtain ⟨⟨h1, h2⟩, k, hk⟩ := h
  unfold wrap64
  omega
theorem adds_write {D : Dk} (h : adds D) (F : List Int) : adds (writeD D D.held.length F) := by
  obtain ⟨⟨h1, h2⟩, k, hk⟩ := h
  obtain ⟨q, e, l1, l2⟩ := wrap64_is (D.ci + wMuch D D.held.length F)
  refine ⟨⟨l1, l2⟩, k + q, ?_⟩
  show wrap64 _ = D.co + D.cl + (wHeld D D.held.length F).length + _
  rw [wHeld_len D _ F rfl, e, hk]
  rw [Int.natCast_add, Int.add_mul]
  omega
theorem adds_read {D : Dk} (h : adds D) (k : Nat) (hk : k ≤ D.held.length) : adds (readD D k) := by
  unfold readD
  split
  · exact h
  · obtain ⟨hr, q, hq⟩ := h
    obtain ⟨q2, e, l1, l2⟩ := wrap64_is (D.co + k)
    refine ⟨hr, q - q2, ?_⟩
    show D.ci = wrap64 _ + D.cl + (D.held.drop k).length + _
    rw [List.length_drop, e, hq, Int.sub_mul]
    omega
theorem adds_turn {D : Dk} (h : adds D) (i : Nat) (m : Int) : adds (turnD D i m) := by
  obtain ⟨hr, q, hq⟩ := h
  refine ⟨hr, q, ?_⟩
  show D.ci = D.co + D.cl + (D.held.set i _).length + _
  rw [List.length_set]; exact hq
theorem adds_lose {D : Dk} (h : adds D) (i k : Nat) (hi : i + k ≤ D.held.length) : adds (loseD D i k) := by
  obtain ⟨hr, q, hq⟩ := h
  obtain ⟨q2, e, l1, l2⟩ := wrap64_is (D.cl + k)
  refine ⟨hr, q - q2, ?_⟩
  show D.ci = D.co + wrap64 _ + (D.held.take i ++ D.held.drop (i + k)).length + _
  rw [List.length_append, List.length_take, List.length_drop, e, hq, Int.sub_mul]
  omega
theorem adds_shut {D : Dk} (h : adds D) (s : Bool) : adds { D with shut := s } := h
/-- What every call of a duct leaves. -/
def St (w : World) (d : Nat) (F : Nat → Prop) (D : Dk) (e : Ending) (w' : World) : Prop := ∃ v F1 D1, e = .returned v ∧ Du w' d F1 D1 ∧ Only w w' F ∧ Onto w F F1 ∧ (adds D → adds D1) ∧ D1.room = D.room
section
variable {w : World} {d : Nat} {F : Nat → Prop} {D : Dk}
theorem write_q (h : Du w d F D) (P : Option Addr) (np cp : Nat) (L : List (List Int)) (hL : ∀ W, Only w W F → RBc W P np L) :
    Calls Try.prog 12 #[.pointer (some ⟨d, 0, none⟩), .slice P np cp] w (St w d F D) := by
  cases hs : D.shut
  · exact (write_p h hs P np cp L hL).mono fun _ _ ⟨F1, m, he, _, hD, ho, hn⟩ => ⟨_, F1, _, he, hD, ho, hn, fun ha => adds_write ha _, rfl⟩
  · exact (wshut_p h hs _).mono fun _ _ ⟨he, hw⟩ => ⟨_, F, D, he, hw ▸ h, hw ▸ Only.refl _ _, Onto.refl _ _, id, rfl⟩
theorem read_q (h : Du w d F D) (m : Int) : Calls Try.prog 15 #[.pointer (some ⟨d, 0, none⟩), .int .i64 m] w (St w d F D) :=
  (read_p h m (min (max m 0) D.held.length).toNat (by omega)).mono fun _ _ ⟨v, F1, he, _, hD, ho, hn, _⟩ => ⟨_, F1, _, he, hD, ho, hn, fun ha => adds_read ha _ (by omega), by unfold readD; split <;> rfl⟩
theorem turn_q (h : Du w d F D) (q m : Int) (m0 : 0 ≤ m) (m1 : m < 256) : Calls Try.prog 16 #[.pointer (some ⟨d, 0, none⟩), .int .i64 q, .int .u8 m] w (St w d F D) := by
  by_cases hq : 0 ≤ q ∧ q < D.held.length
  · obtain ⟨i, rfl⟩ : ∃ i : Nat, q = (i : Int) := ⟨q.toNat, by omega⟩
    exact (turn_p h i (by omega) m m0 m1).mono fun _ _ ⟨he, hD, ho⟩ => ⟨_, F, _, he, hD, ho, Onto.refl _ _, fun ha => adds_turn ha _ _, rfl⟩
  · exact (turnbad_p h q m hq).mono fun _ _ ⟨he, hw⟩ => ⟨_, F, D, he, hw ▸ h, hw ▸ Only.refl _ _, Onto.refl _ _, id, rfl⟩
theorem lose_q (h : Du w d F D) (q m : Int) : Calls Try.prog 23 #[.pointer (some ⟨d, 0, none⟩), .int .i64 q, .int .i64 m] w (St w d F D) := by
  by_cases hq : 0 ≤ q ∧ q ≤ D.held.length
  · obtain ⟨i, rfl⟩ : ∃ i : Nat, q = (i : Int) := ⟨q.toNat, by omega⟩
    by_cases hm : m < 0
    · exact (loseneg_p h i (by omega) m hm).mono fun _ _ ⟨he, hw⟩ => ⟨_, F, D, he, hw ▸ h, hw ▸ Only.refl _ _, Onto.refl _ _, id, rfl⟩
    · exact (lose_p h i (by omega) m (by omega) (min m (D.held.length - i)).toNat (by omega)).mono fun _ _ ⟨F1, he, hD, ho, hn⟩ => ⟨_, F1, _, he, hD, ho, hn, fun ha => adds_lose ha _ _ (by omega), rfl⟩
  · exact (losebad_p h q m hq).mono fun _ _ ⟨he, hw⟩ => ⟨_, F, D, he, hw ▸ h, hw ▸ Only.refl _ _, Onto.refl _ _, id, rfl⟩
theorem shut_q (h : Du w d F D) : Calls Try.prog 21 #[.pointer (some ⟨d, 0, none⟩)] w (St w d F D) :=
  (shut_p h).mono fun _ _ ⟨he, hD, ho⟩ => ⟨_, F, _, he, hD, ho, Onto.refl _ _, fun ha => adds_shut ha _, rfl⟩
end
end Go.Proofs.Ytodhcgidmdeifaa
