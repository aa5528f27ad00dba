/- bytes.Join with nothing between: the shelf's walk, laid at this program. -/
import Derived.Test.YtodhcgidmdeifaaByt
import Derived.Test.YtodhcgidmdeifaaProg
import Derived.Ground.SlbNamesProg
import Derived.Shelf.Lay
import Derived.Shelf.Bytes.SlJoin
import Derived.Deep.Slices
namespace Go.Proofs
open Go.Shelf Go.Lib Go.RowKit
shelf_lay SlLaysJ.n14 Slb 14 at Try as Ytodhcgidmdeifaa.lays14
end Go.Proofs
namespace Go.Kit
open Go.RowKit Go.Proofs.YtodhcgidmdeifaaW.PrintWords
theorem lens_flatten : ∀ l : List (List UInt8), Lib.lens l = l.flatten.length
  | [] => rfl
  | x :: l => by rw [Lib.lens_cons, lens_flatten l]; simp
theorem join_none : ∀ l : List (List UInt8), Lib.join l [] = l.flatten
  | [] => rfl
  | x :: l => by
    rw [Lib.join_cons]
    have : ∀ r : List (List UInt8), Lib.joinTail [] r = r.flatten := fun r => by simp [Lib.joinTail]
    rw [this]; rfl
theorem bytesOf_flatten : ∀ L : List (List Int), (L.map Lib.bytesOf).flatten = Lib.bytesOf L.flatten
  | [] => rfl
  | x :: L => by
    rw [List.map_cons, List.flatten_cons, bytesOf_flatten L, List.flatten_cons]
    simp [Lib.bytesOf]
theorem bytesOf_get {xs : List Int} (hb : Byt xs) {i : Nat} {x : UInt8} (h : (Lib.bytesOf xs)[i]? = some x) : i < xs.length ∧ (xs.getD i 0 : Int) = (x.toNat : Int) := by
  unfold Lib.bytesOf at h
  rw [List.getElem?_map, Option.map_eq_some_iff] at h
  obtain ⟨y, hy, rfl⟩ := h
  obtain ⟨hi, e⟩ := List.getElem?_eq_some_iff.1 hy
  refine ⟨hi, ?_⟩
  rw [List.getD_eq_getElem?_getD, hy]
  have := hb y (List.mem_of_getElem? hy)
  show y = _
  rw [UInt8.toNat_ofNat']
  omega
theorem bytesOf_inj : ∀ {xs ys : List Int}, Byt xs → Byt ys → Lib.bytesOf xs = Lib.bytesOf ys → xs = ys
  | [], [], _, _, _ => rfl
  | [], y :: ys, _, _, h => by simp [Lib.bytesOf] at h
  | x :: xs, [], _, _, h => by simp [Lib.bytesOf] at h
  | x :: xs, y :: ys, hx, hy, h => by
    have h1 := hx x List.mem_cons_self
    have h2 := hy y List.mem_cons_self
    simp only [Lib.bytesOf, List.map_cons, List.cons.injEq] at h
    have e := congrArg UInt8.toNat h.1
    rw [UInt8.toNat_ofNat', UInt8.toNat_ofNat'] at e
    have e2 : x = y := by omega
    rw [e2, bytesOf_inj (fun z hz => hx z (List.mem_cons_of_mem _ hz)) (fun z hz => hy z (List.mem_cons_of_mem _ hz)) h.2]
/-- A fresh row of bytes is read. -/
theorem fresh_reads {B : Nat} {w : World} {v : Value} {xs : List Int} (hb : Byt xs) (h : Lib.FreshBytes B w v (Lib.bytesOf xs)) : ∃ A c, v = .slice A xs.length c ∧ RB w A xs.length xs ∧ xs.length ≤ c := by
  obtain ⟨g, cap, zs, rfl, _, h1, h2, h3, h4, h5, h6, _⟩ := h
  have hl : (Lib.bytesOf xs).length = xs.length := by simp [Lib.bytesOf]
  rw [hl] at h1 h5 ⊢
  have e : zs.take xs.length = xs := bytesOf_inj (fun x hx => h4 x (List.mem_of_mem_take hx)) hb h5
  refine ⟨_, cap, rfl, ⟨⟨rfl, by unfold maxLen at h2; omega, fun _ => ⟨_, rfl, fun j hj => ?_⟩⟩, hb⟩, h1⟩
  rw [Go.Proofs.Lib.add_plain2, Nat.zero_add, h6 j (by omega)]
  conv => rhs; rw [← e]
  rw [List.getD_eq_getElem?_getD, List.getD_eq_getElem?_getD, List.getElem?_take, if_pos hj]
theorem RB.holds {w : World} {A : Option Addr} {xs : List Int} (h : RB w A xs.length xs) (c : Nat) : Lib.HoldsBytes w (.slice A xs.length c) (Lib.bytesOf xs) := by
  have hl : (Lib.bytesOf xs).length = xs.length := by simp [Lib.bytesOf]
  refine ⟨A, c, by rw [hl], fun e => ?_, fun a ha i x hx => ?_⟩
  · match xs, h with
    | [], _ => rfl
    | x :: xs, h =>
      obtain ⟨ad, e2, _⟩ := h.rd.2.2 (by simp)
      rw [e] at e2; cases e2
  · obtain ⟨hi, e⟩ := bytesOf_get h.byt hx
    obtain ⟨ad, e2, hc⟩ := h.rd.2.2 (by omega)
    rw [ha] at e2; cases e2
    rw [hc i hi, e]
end Go.Kit
namespace Go.Proofs.Ytodhcgidmdeifaa
open Go.RowKit Go.Kit Go.Proofs.YtodhcgidmdeifaaW.PrintWords
theorem flat_byt {w : World} {A : Option Addr} {n : Nat} {L : List (List Int)} (h : RBc w A n L) : Byt L.flatten := fun x hx => by
  obtain ⟨l, hl, hx⟩ := List.mem_flatten.1 hx
  obtain ⟨i, hi, e⟩ := List.getElem_of_mem hl
  obtain ⟨ad, Ai, ci, xs, _, _, hg, hr, _⟩ := h.at0 i (by rw [← h.len]; exact hi)
  rw [List.getElem?_eq_getElem hi, e] at hg
  cases hg
  exact hr.byt x hx
theorem spot_none {w : World} {a : Addr} {v : Value} (h : w.cell? a = some v) : ∃ b o, a = ⟨b, o, none⟩ := by
  obtain ⟨b, o, s⟩ := a
  cases s with
  | none => exact ⟨b, o, rfl⟩
  | some s =>
    unfold World.cell? at h
    dsimp only at h
    split at h <;> simp at h
theorem Join_any {w : World} {A : Option Addr} {n c : Nat} {L : List (List Int)} (h : RBc w A n L) (hc : n ≤ c) (hn : n ≤ 140737488355328) (hl : L.flatten.length ≤ 140737488355328) :
    Calls Try.prog 25 #[.slice A n c, .slice none 0 0] w fun e w' => ∃ A' m c', e = .returned (.slice A' m c') ∧ RB w' A' m L.flatten ∧ m ≤ c' ∧ Below w.heap.size w w' := by
  by_cases h0 : n = 0
  · subst h0
    have hL : L = [] := List.length_eq_zero_iff.1 h.len
    subst hL
    refine (Any.bytes_Join_none lays14 A c (.slice none 0 0) w).mono ?_
    rintro e w' ⟨rfl, rfl⟩
    exact ⟨_, 0, 0, rfl, ⟨⟨rfl, by omega, fun h => absurd h (by omega)⟩, fun x hx => by cases hx⟩, Nat.le_refl _, below_alloc (Below.refl _ _) _⟩
  have hfb := flat_byt h
  by_cases h1 : n = 1
  · subst h1
    obtain ⟨ad, Ai, ci, xs, rfl, hcell, hg, hr, hci⟩ := h.at0 0 (by omega)
    have hL : L = [xs] := by
      match L, h.len with
      | [x], _ => simp at hg; rw [hg]
    subst hL
    rw [show ad.add 0 = ad from rfl] at hcell
    obtain ⟨b, o, rfl⟩ := spot_none hcell
    rw [show ([xs] : List (List Int)).flatten = xs by simp] at hfb hl ⊢
    by_cases hx : xs.length = 0
    · rw [hx] at hcell
      have : xs = [] := List.length_eq_zero_iff.1 hx
      subst this
      refine (Any.bytes_Join_one_empty lays14 b o c Ai ci (.slice none 0 0) w hcell).mono ?_
      rintro e w' ⟨rfl, rfl⟩
      exact ⟨_, 0, 0, rfl, ⟨⟨rfl, by omega, fun h => absurd h (by omega)⟩, fun x hx => by cases hx⟩, Nat.le_refl _, Below.refl _ _⟩
    · obtain ⟨a0, rfl, _⟩ := hr.rd.2.2 (by omega)
      have hbl : (Lib.bytesOf xs).length = xs.length := by simp [Lib.bytesOf]
      have hh : ∀ a, some a0 = some a → ∀ (i : Nat) x, (Lib.bytesOf xs)[i]? = some x → w.cell? (a.add i) = some (.int .u8 (x.toNat : Int)) := by
        obtain ⟨p, q, e, _, hh⟩ := hr.holds ci
        simp only [Value.slice.injEq] at e
        rw [e.1]; exact hh
      refine (Any.bytes_Join_one lays14 b o c a0 ci (Lib.bytesOf xs) (.slice none 0 0) w (by rw [hbl]; exact hcell) (hh a0 rfl) (by omega) (by omega)).mono ?_
      rintro e w' ⟨v, rfl, hf, hb⟩
      obtain ⟨A', c', rfl, hR, hcc⟩ := fresh_reads hfb hf
      exact ⟨A', _, c', rfl, hR, hcc, hb⟩
  · obtain ⟨ad, _, _, _, rfl, hcell, _⟩ := h.at0 0 (by omega)
    rw [show ad.add 0 = ad from rfl] at hcell
    obtain ⟨b, o, rfl⟩ := spot_none hcell
    have hlen := h.len
    have hP : ∃ vs, Lib.PartsAt w ⟨b, o, none⟩ vs (L.map Lib.bytesOf) := by
      have each : ∀ i, i < n → ∃ v : Value, w.cell? ((⟨b, o, none⟩ : Addr).add i) = some v ∧ ∀ xs, L[i]? = some xs → Lib.HoldsBytes w v (Lib.bytesOf xs) := fun i hi => by
        obtain ⟨ad, Ai, ci, xs, e, hcell, hg, hr, _⟩ := h.at0 i hi
        cases e
        refine ⟨_, hcell, fun ys hy => ?_⟩
        rw [hg] at hy; cases hy
        exact hr.holds ci
      obtain ⟨f, hf⟩ := Go.Deep.choose_lt each
      refine ⟨(List.range n).map f, by simp [hlen], fun i v hv => ?_, fun i v l hv hl => ?_⟩
      · rw [List.getElem?_map, Option.map_eq_some_iff] at hv
        obtain ⟨j, hj, rfl⟩ := hv
        obtain ⟨hi, e⟩ := List.getElem?_eq_some_iff.1 hj
        simp at e hi
        subst e
        exact (hf i hi).1
      · rw [List.getElem?_map, Option.map_eq_some_iff] at hv hl
        obtain ⟨j, hj, rfl⟩ := hv
        obtain ⟨xs, hx, rfl⟩ := hl
        obtain ⟨hi, e⟩ := List.getElem?_eq_some_iff.1 hj
        simp at e hi
        subst e
        exact (hf i hi).2 xs hx
    obtain ⟨vs, hP⟩ := hP
    have hS : Lib.HoldsBytes w (.slice none 0 0) [] := ⟨none, 0, rfl, fun _ => rfl, fun a ha => by cases ha⟩
    have hle : Lib.lens (L.map Lib.bytesOf) + ([] : List UInt8).length * (n - 1) ≤ 140737488355328 := by
      rw [lens_flatten, bytesOf_flatten]
      have hbl : (Lib.bytesOf L.flatten).length = L.flatten.length := List.length_map _
      rw [hbl]; simp only [List.length_nil]; omega
    refine (Any.bytes_Join_many lays14 b o n c vs (L.map Lib.bytesOf) (.slice none 0 0) [] w (by simp [hlen]) (by omega) hP hc hS hn hle).mono ?_
    rintro e w' ⟨v, rfl, hf, hb⟩
    rw [join_none, bytesOf_flatten] at hf
    obtain ⟨A', c', rfl, hR, hcc⟩ := fresh_reads hfb hf
    exact ⟨A', _, c', rfl, hR, hcc, hb⟩
end Go.Proofs.Ytodhcgidmdeifaa
