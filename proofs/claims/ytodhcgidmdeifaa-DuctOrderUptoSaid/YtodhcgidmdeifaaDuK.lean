/- What goes in and out of a duct, in its order. -/
import Derived.Test.YtodhcgidmdeifaaDuG
import Derived.Test.YtodhcgidmdeifaaDuJ
import Derived.Test.YtodhcgidmdeifaaKit4
namespace Go.Proofs.Ytodhcgidmdeifaa
open Go.RowKit Go.Kit Go.Proofs.YtodhcgidmdeifaaW.PrintWords
def aw (x : Ac) : Nat := x.parts.flatten.length + x.parts.length
def aws (L : List Ac) : Nat := (L.map aw).sum
theorem aws_snoc {L : List Ac} {i : Nat} {x : Ac} (h : L[i]? = some x) : aws (L.take (i + 1)) = aws (L.take i) + aw x := by
  unfold aws
  rw [List.take_add_one, h]
  simp
theorem aws_take (L : List Ac) (i : Nat) : aws (L.take i) ≤ aws L := by
  have h : aws L = aws (L.take i) + aws (L.drop i) := by
    conv => lhs; rw [← List.take_append_drop i L]
    unfold aws; rw [List.map_append, List.sum_append]
  omega
theorem aws_mem {L : List Ac} {x : Ac} (h : x ∈ L) : aw x ≤ aws L := by
  obtain ⟨i, hi, e⟩ := List.getElem_of_mem h
  have h1 := aws_snoc (L := L) (i := i) (x := x) (by rw [List.getElem?_eq_getElem hi, e])
  have h2 := aws_take L (i + 1)
  omega
/-- A row of acts that is read, with its capacities. -/
structure RAc (w : World) (A : Option Addr) (n : Nat) (L : List Ac) : Prop where
  len : L.length = n
  max : n ≤ 9223372036854775807
  at0 : ∀ i, i < n → ∃ ad Ai ni ci x, A = some ad ∧ w.cell? (ad.add (i * 4)) = some (.int .i64 x.kind) ∧ w.cell? ⟨(ad.add (i * 4)).block, (ad.add (i * 4)).off + 1, none⟩ = some (.slice Ai ni ci) ∧ w.cell? ⟨(ad.add (i * 4)).block, (ad.add (i * 4)).off + 2, none⟩ = some (.int .i64 x.a) ∧ w.cell? ⟨(ad.add (i * 4)).block, (ad.add (i * 4)).off + 3, none⟩ = some (.int .i64 x.b) ∧ Go.Proofs.Ytodhcgidmdeifaa.RBc w Ai ni x.parts ∧ ni ≤ ci ∧ L[i]? = some x
/-- What is known of a duct into which all of 'ins' went, and out of which came 'outs'. -/
structure Ord (D : Dk) (ins outs : List Int) (r : Int) (B : Nat) : Prop where
  eq : ins = outs ++ D.held
  room : D.room = r
  ci : D.ci = ins.length
  co : D.co = outs.length
  ct : D.ct = 0
  cl : D.cl = 0
  big : ins.length ≤ B
theorem Ord.more {D : Dk} {ins outs : List Int} {r : Int} {B C : Nat} (h : Ord D ins outs r B) (hc : B ≤ C) : Ord D ins outs r C := ⟨h.eq, h.room, h.ci, h.co, h.ct, h.cl, Nat.le_trans h.big hc⟩
theorem Ord.write {D D1 : Dk} {ins outs F : List Int} {r : Int} {B m : Nat} (h : Ord D ins outs r B) (hm : m ≤ F.length) (hB : B + F.length ≤ 1048576) (e1 : D1.held = D.held ++ F.take m) (e2 : D1.room = D.room) (e3 : D1.ci = wrap64 (D.ci + m)) (e4 : D1.co = D.co) (e5 : D1.ct = D.ct) (e6 : D1.cl = D.cl) :
    Ord D1 (ins ++ F.take m) outs r (B + F.length) := by
  have hl : (F.take m).length = m := by rw [List.length_take]; omega
  have hb := h.big
  refine ⟨by rw [e1, h.eq, List.append_assoc], e2.trans h.room, ?_, e4.trans h.co, e5.trans h.ct, e6.trans h.cl, by rw [List.length_append, hl]; omega⟩
  rw [e3, h.ci, List.length_append, hl]
  unfold wrap64; omega
theorem Ord.read {D D1 : Dk} {ins outs : List Int} {r : Int} {B k : Nat} (h : Ord D ins outs r B) (hk : k ≤ D.held.length) (hB : B ≤ 1048576) (e1 : D1.held = D.held.drop k) (e2 : D1.room = D.room) (e3 : D1.ci = D.ci) (e4 : D1.co = wrap64 (D.co + k)) (e5 : D1.ct = D.ct) (e6 : D1.cl = D.cl) :
    Ord D1 ins (outs ++ D.held.take k) r B := by
  have hl : (D.held.take k).length = k := by rw [List.length_take]; omega
  have hb := h.big
  have hs : ins.length = outs.length + D.held.length := by rw [h.eq, List.length_append]
  refine ⟨by rw [e1, List.append_assoc, List.take_append_drop, h.eq], e2.trans h.room, e3.trans h.ci, ?_, e5.trans h.ct, e6.trans h.cl, hb⟩
  rw [e4, h.co, List.length_append, hl]
  unfold wrap64; omega
theorem Ord.shut {D : Dk} {ins outs : List Int} {r : Int} {B : Nat} (h : Ord D ins outs r B) (s : Bool) : Ord { D with shut := s } ins outs r B := ⟨h.eq, h.room, h.ci, h.co, h.ct, h.cl, h.big⟩
theorem Ord.new (r : Int) : Ord (Go.Proofs.Ytodhcgidmdeifaa.newD r) [] [] r 0 := ⟨rfl, rfl, rfl, rfl, rfl, rfl, Nat.le_refl _⟩
theorem Ord.sum {D : Dk} {ins outs : List Int} {r : Int} {B : Nat} (h : Ord D ins outs r B) : ins.length = outs.length + D.held.length := by rw [h.eq, List.length_append]
section
variable {w : World} {d : Nat} {F : Nat → Prop} {D : Dk}
theorem write_o (h : Du w d F D) {ins outs : List Int} {r : Int} {B : Nat} (HO : Hid (Ord D ins outs r B)) (P : Option Addr) (np cp : Nat) (L : List (List Int)) (hL : ∀ W, Only w W F → RBc W P np L) (hB : B + L.flatten.length ≤ 1048576) :
    Calls Try.prog 12 #[.pointer (some ⟨d, 0, none⟩), .slice P np cp] w fun e w' => ∃ F1 D1 m x, e = .returned (.tuple #[.int .i64 ((m : Nat) : Int), .int .i64 x]) ∧ m ≤ L.flatten.length ∧ Hid (Ord D1 (ins ++ L.flatten.take m) outs r (B + L.flatten.length)) ∧ Du w' d F1 D1 ∧ Only w w' F ∧ Onto w F F1 := by
  by_cases hs : D.shut = true
  · refine (wshut_p h hs _).mono ?_
    rintro e w' ⟨rfl, rfl⟩
    refine ⟨F, D, 0, 91, rfl, Nat.zero_le _, Lib.hid ?_, h, Only.refl _ _, Onto.refl _ _⟩
    rw [List.take_zero, List.append_nil]
    exact HO.out.more (Nat.le_add_right _ _)
  · refine (write_p h (by simpa using hs) P np cp L hL).mono ?_
    rintro e w' ⟨F1, m, rfl, hm, hD, ho, hn⟩
    have hm := hm.out
    unfold wMuch at hm
    refine ⟨F1, writeD D D.held.length L.flatten, m, 0, rfl, by omega, Lib.hid (HO.out.write (by omega) hB ?_ rfl ?_ rfl rfl rfl), hD, ho, hn⟩
    · show D.held ++ L.flatten.take _ = _
      rw [hm, Nat.min_comm, ← List.take_eq_take_min]
    · show wrap64 (D.ci + (wMuch D D.held.length L.flatten : Nat)) = _
      unfold wMuch; rw [hm]
theorem read_o (h : Du w d F D) {ins outs : List Int} {r : Int} {B : Nat} (HO : Hid (Ord D ins outs r B)) (hB : B ≤ 1048576) (m : Int) : Calls Try.prog 15 #[.pointer (some ⟨d, 0, none⟩), .int .i64 m] w fun e w' => ∃ v F1 D1 ys, e = .returned v ∧ OB 5 w' w.heap.size v ys ∧ ys.length ≤ 4194304 ∧ Hid (Ord D1 ins (outs ++ ys) r B) ∧ Du w' d F1 D1 ∧ Only w w' F ∧ Onto w F F1 ∧ Sep (rf v) F1 := by
  have hfit := h.fit
  have htop := h.top
  obtain ⟨k, hk⟩ : ∃ k : Nat, (k : Int) = min (max m 0) D.held.length := ⟨(min (max m 0) (D.held.length : Int)).toNat, by omega⟩
  refine (read_p h m k hk).mono ?_
  rintro e w' ⟨v, F1, rfl, hO, hD, ho, hn, hs⟩
  refine ⟨v, F1, readD D k, _, rfl, hO, by rw [List.length_take]; omega, Lib.hid (HO.out.read (by omega) hB ?_ ?_ ?_ ?_ ?_ ?_), hD, ho, hn, hs⟩ <;> unfold readD <;> split
  all_goals (first | rfl | (rename_i h0; subst h0; rfl) | skip)
  have h1 := HO.out.co
  have h2 := HO.out.sum
  have h3 := HO.out.big
  rename_i h0
  rw [h0]
  unfold wrap64; omega
end
end Go.Proofs.Ytodhcgidmdeifaa
