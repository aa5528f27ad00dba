/- Contracts of functions that the laws reach (texts laid together, part 7): each says of its call what it answers and what it leaves of memory; the conditions stand in each statement. -/
import Derived.Test.YtdhaoodkelehpaaMb1
import Derived.Maps.AppendAt
import Derived.Test.YtdhaoodkelehpaaMb4
import Derived.RangeFuncNested
import Derived.RangeFuncBound
import Derived.RangeFuncCalls
import Derived.RangeFuncLeaves
import Derived.RangeFuncBox
import Derived.Shelf.Abstract
import Derived.Shelf.RegionOpen
import Derived.WalkKit
import Derived.OwnWalkIn
import Derived.TacticsInMore
import Derived.LoopNIn
import Derived.LoopIn
import Derived.Sort.QuietTacIn
import Derived.Test.YtdhaoodkelehpaaMb3
set_option linter.unusedVariables false
set_option linter.unusedSimpArgs false
set_option linter.unusedSectionVars false
set_option linter.unnecessarySimpa false
/-! Bytes cut out of the middle. -/
section
namespace Go.Proofs.Ytdhaoodkelehpaa
open Go.RowKit Go.Kit Go.Proofs.YtdhaoodkelehpaaW.PrintWords
end Go.Proofs.Ytdhaoodkelehpaa
end
/-! The document's memo in memory: rows of pairs. -/
section
set_option linter.unusedVariables false
namespace Go.Kit
open Go.RowKit Go.Proofs.YtdhaoodkelehpaaW.PrintWords
def prs (l : List (Int × Int)) : List Value := l.flatMap fun x => [.int .i64 x.1, .int .i64 x.2]
theorem prs_cons (x : Int × Int) (l : List (Int × Int)) : prs (x :: l) = .int .i64 x.1 :: .int .i64 x.2 :: prs l := rfl
theorem prs_append (l r : List (Int × Int)) : prs (l ++ r) = prs l ++ prs r := List.flatMap_append
theorem prs_length : ∀ l : List (Int × Int), (prs l).length = l.length * 2
  | [] => rfl
  | x :: l => by rw [prs_cons, List.length_cons, List.length_cons, List.length_cons, prs_length l]; omega
theorem prs_one : ∀ l : List (Int × Int), ∀ u ∈ prs l, u.oneCell' = true
  | [], u, h => by simp [prs] at h
  | x :: l, u, h => by
    rw [prs_cons] at h
    rcases List.mem_cons.1 h with rfl | h
    · rfl
    · rcases List.mem_cons.1 h with rfl | h
      · rfl
      · exact prs_one l u h
theorem prs_at : ∀ (l : List (Int × Int)) (i : Nat) (x : Int × Int), l[i]? = some x → (prs l)[i * 2]? = some (.int .i64 x.1) ∧ (prs l)[i * 2 + 1]? = some (.int .i64 x.2)
  | y :: l, 0, x, h => by
    simp at h; subst h; exact ⟨rfl, rfl⟩
  | y :: l, i + 1, x, h => by
    have := prs_at l i x (by simpa using h)
    rw [prs_cons, show (i + 1) * 2 = i * 2 + 2 by omega]
    exact ⟨by simpa using this.1, by rw [show i * 2 + 2 + 1 = i * 2 + 1 + 2 by omega]; simpa using this.2⟩
theorem prs_take (l : List (Int × Int)) (i : Nat) : prs (l.take i) = (prs l).take (i * 2) := by
  rcases Nat.le_total i l.length with h | h
  · have e := prs_append (l.take i) (l.drop i)
    rw [List.take_append_drop] at e
    have hl : (prs (l.take i)).length = i * 2 := by rw [prs_length, List.length_take]; omega
    rw [e, ← hl, List.take_left]
  · rw [List.take_of_length_le h, List.take_of_length_le (by rw [prs_length]; omega)]
theorem prs_drop (l : List (Int × Int)) (i : Nat) : prs (l.drop i) = (prs l).drop (i * 2) := by
  rcases Nat.le_total i l.length with h | h
  · have e := prs_append (l.take i) (l.drop i)
    rw [List.take_append_drop] at e
    have hl : (prs (l.take i)).length = i * 2 := by rw [prs_length, List.length_take]; omega
    rw [e, ← hl, List.drop_left]
  · rw [List.drop_eq_nil_of_le h, List.drop_eq_nil_of_le (by rw [prs_length]; omega)]; rfl
/-- Pairs that are read. -/
structure RP (w : World) (A : Option Addr) (n : Nat) (l : List (Int × Int)) : Prop where
  len : l.length = n
  rd : 0 < n → ∃ ad, A = some ad ∧ ∀ j u, (prs l)[j]? = some u → w.cell? (ad.add j) = some u
section
variable {w w1 : World} {A : Option Addr} {n c : Nat} {l : List (Int × Int)} {X : Nat → Prop}
theorem RP.below (h : RP w A n l) (hb : Below w.heap.size w w1) : RP w1 A n l := ⟨h.len, fun hp => by
  obtain ⟨ad, e, hc⟩ := h.rd hp
  exact ⟨ad, e, fun j u hu => pw_cell_below hb (hc j u hu)⟩⟩
theorem RP.apart (h : RP w A n l) (ho : Only w w1 X) (hs : ∀ a, A = some a → 0 < n → ¬ X a.block) : RP w1 A n l := ⟨h.len, fun hp => by
  obtain ⟨ad, e, hc⟩ := h.rd hp
  exact ⟨ad, e, fun j u hu => ho.cell (hc j u hu) (by rw [add_block]; exact hs ad e hp)⟩⟩
theorem RP.at_ (h : RP w A n l) (i : Nat) (hi : i < n) : ∃ ad x, A = some ad ∧ w.cell? (ad.add (i * 2)) = some (.int .i64 x.1) ∧ w.cell? (ad.add (i * 2 + 1)) = some (.int .i64 x.2) ∧ Hid (l[i]? = some x) := by
  obtain ⟨ad, e, hc⟩ := h.rd (by omega)
  have hl := h.len
  obtain ⟨x, hx⟩ : ∃ x, l[i]? = some x := ⟨_, List.getElem?_eq_getElem (by omega)⟩
  have := prs_at l i x hx
  exact ⟨ad, x, e, hc _ _ this.1, hc _ _ this.2, Lib.hid hx⟩
theorem RP.take_ (h : RP w A n l) (k : Nat) (hk : k ≤ n) : RP w A k (l.take k) := ⟨by rw [List.length_take]; have := h.len; omega, fun hp => by
  obtain ⟨ad, e, hc⟩ := h.rd (by omega)
  refine ⟨ad, e, fun j u hu => hc j u ?_⟩
  rw [prs_take, List.getElem?_take] at hu
  split at hu
  · exact hu
  · cases hu⟩
theorem RP.drop_ (h : RP w A n l) (k : Nat) (hk : k ≤ n) (hc0 : n ≤ c) : RP w (if c = k then A else A.map (·.add (k * 2))) (n - k) (l.drop k) := ⟨by rw [List.length_drop, h.len], fun hp => by
  obtain ⟨ad, e, hc⟩ := h.rd (by omega)
  rw [if_neg (by omega), e]
  refine ⟨_, rfl, fun j u hu => ?_⟩
  rw [prs_drop, List.getElem?_drop] at hu
  have := hc _ u hu
  rw [← Addr.add_add] at this
  exact this⟩
theorem own_rp {e : TypeId} {base : Nat} {v : Value} (h : w.ownsRow base e 2 v n (prs l)) : ∃ A c, v = .slice A n c ∧ RP w A n l ∧ n ≤ c := by
  have hl : l.length = n := by have := h.1; rw [prs_length] at this; omega
  rcases h.2 with ⟨h1, h2⟩ | ⟨g, cap, cur, h1, hb, hh, hnc, hcm, hsz, htk⟩
  · subst h1
    exact ⟨none, 0, by rw [h2], ⟨hl, fun hp => absurd hp (by omega)⟩, by omega⟩
  · refine ⟨_, cap, h1, ⟨hl, fun _ => ⟨_, rfl, fun j u hu => ?_⟩⟩, hnc⟩
    exact World.ownsRow.cells h (by rw [h1]; rfl) j u hu
theorem own_blk {e : TypeId} {base z : Nat} {v : Value} {xs : List Value} (h : w.ownsRow base e z v n xs) {k : Nat} (hk : rf v k) : base ≤ k ∧ k < w.heap.size ∧ ∃ cur, w.heap[k]? = some (.cells cur e (0, 0)) := by
  rcases h.2 with ⟨h1, _⟩ | ⟨g, cap, cur, h1, h2, h3, h4⟩
  · rw [h1] at hk; cases hk
  · rw [h1] at hk; cases hk; exact ⟨h2, lt_of_block h3, cur, h3⟩
theorem own_only {e : TypeId} {base z : Nat} {v : Value} {xs : List Value} (h : w.ownsRow base e z v n xs) (ho : Only w w1 X) (hs : Sep (rf v) X) : w1.ownsRow base e z v n xs := by
  refine ⟨h.1, ?_⟩
  rcases h.2 with h1 | ⟨g, cap, cur, h1, h2, h3, h4⟩
  · exact .inl h1
  · exact .inr ⟨g, cap, cur, h1, h2, ho.kept h3 (hs g (by rw [h1]; rfl)), h4⟩
end
section
variable {P : Program} {ops : Array Oper} {rest : List Oper} {o : Oper} {a : Act} {Q : Exit → Act → World → Prop}
/-- append(v, ps...), pairs. -/
theorem push_prs {w0 W : World} (base : Nat) (hgd : o.guard = none) (s x : Operand) (t e : TypeId) (z : Value)
    (ho : o.op = .call { callee := .builtin .append, args := #[s, x], argTypes := #[t, t] })
    (ht : P.underlying t = some (.slice e)) (hinfo : (P.info? e).map (fun i => (i.zero, i.size, i.bytes)) = some (some z, 2, 16)) (hz : z.cells.size = 2)
    (v : Value) (n m c : Nat) (xs ys : List (Int × Int)) (A : Option Addr) (hs : a.eval s = v) (hx : a.eval x = .slice A m c)
    (HO : W.ownsRow base e 2 v n (prs xs)) (HR : RP W A m ys) (HB : Below base w0 W) (hbase : base ≤ W.heap.size) (hl : (n + m) * 16 ≤ 140737488355328)
    (h : ∀ v1 w1, w1.ownsRow base e 2 v1 (n + m) (prs (xs ++ ys)) → Below base w0 w1 → W.grownBy w1 v.ownBlock → (v1.ownBlock = v.ownBlock ∨ ∃ b, v1.ownBlock = some b ∧ W.heap.size ≤ b) → wpList P ops Q rest (a.put o.dst v1) w1) :
    wpList P ops Q (o :: rest) a W := by
  obtain ⟨i0, hi, hzz⟩ := Option.map_eq_some_iff.1 hinfo
  simp only [Prod.mk.injEq] at hzz
  obtain ⟨hz0, hz1, hz2⟩ := hzz
  have hpl : (prs ys).length = m * 2 := by rw [prs_length, HR.len]
  have hrun : ∃ v1 w1, (Builtin.append_ #[t, t] o.type #[v, .slice A m c]).run P W = .ok v1 w1 ∧ w1.ownsRow base e 2 v1 (n + m) (prs (xs ++ ys)) ∧ W.grownBy w1 v.ownBlock ∧ (v1.ownBlock = v.ownBlock ∨ v1.ownBlock = some W.heap.size) := by
    rcases A with _ | ad
    · have hm : m = 0 := by
        rcases Nat.eq_zero_or_pos m with h0 | h0
        · exact h0
        · obtain ⟨ad, e, _⟩ := HR.rd h0; cases e
      subst hm
      obtain rfl : ys = [] := List.eq_nil_of_length_eq_zero HR.len
      refine ⟨v, W, ?_, by simpa using HO, World.grownBy.refl W _, .inl rfl⟩
      rcases HO.2 with ⟨rfl, hn⟩ | ⟨g, cap, cur, rfl, _, _, hnc, _⟩
      · simp [Builtin.append_, run_underlying ht, sizeOf, typeInfo, hi, Builtin.lenOf, Builtin.firstCells]
      · simp [Builtin.append_, run_underlying ht, sizeOf, typeInfo, hi, Builtin.lenOf, Builtin.firstCells, hnc, storeCells]
    · have hnews : ∀ j u, (prs ys)[j]? = some u → W.cell? (ad.add j) = some u := by
        intro j u hu
        rcases Nat.eq_zero_or_pos m with h0 | h0
        · obtain rfl : ys = [] := List.eq_nil_of_length_eq_zero (by rw [HR.len, h0])
          simp [prs] at hu
        · obtain ⟨ad', e, hc⟩ := HR.rd h0
          cases e
          exact hc j u hu
      obtain ⟨v1, w1, hr, h2, h3, _, h5⟩ := run_append_own_at (P := P) W base t o.type e i0 z 2 16 ht hi hz0 hz1 hz2 hz (by decide) v n (prs xs) HO ad m c (prs ys) hpl hnews (prs_one ys) (by simp only [maxLen]; omega) hl hbase
      rw [← prs_append] at h2
      exact ⟨v1, w1, hr, h2, h3, h5⟩
  obtain ⟨v1, w1, hr, hown, hg, hat⟩ := hrun
  refine wpList_plain hgd fun K hK => ?_
  unfold Oper.wp execOp
  simp only [ho, resolve, invoke, builtin, Sem.run_bind, Sem.run_pure, Result.andThen_ok, List.map_toArray, List.map_cons, List.map_nil, hs, hx, hr]
  refine hK _ _ (h v1 w1 hown (HB.grown hg hbase (fun k e => (own_blk HO e).1)) hg ?_)
  rcases hat with hat | hat
  · exact .inl hat
  · exact .inr ⟨_, hat, Nat.le_refl _⟩
end
end Go.Kit
namespace Go.Proofs.Ytdhaoodkelehpaa
open Go.RowKit Go.Kit Go.Proofs.YtdhaoodkelehpaaW.PrintWords
abbrev QT : TypeId := 47
abbrev PT : TypeId := 56
abbrev LT : TypeId := 45
theorem pair_info : (Try.prog.info? PT).map (fun i => (i.zero, i.size, i.bytes)) = some (some (.agg #[.int .i64 0, .int .i64 0]), 2, 16) := by kernel_rfl
/-- The document's memo. -/
structure QS (w : World) (q : Nat) (v : Value) (S : Sp Int) : Prop where
  blk : w.heap[q]? = some (.cells #[.int .i64 S.most, v, .int .i64 S.hi, .int .i64 S.mi, .int .i64 S.go] QT (0, 0))
  row : w.ownsRow 0 PT 2 v S.l.length (prs S.l)
  fit : S.l.length ≤ 5000
def qf (q : Nat) (v : Value) (k : Nat) : Prop := k = q ∨ rf v k
section
variable {w w1 : World} {q : Nat} {v : Value} {S : Sp Int} {X : Nat → Prop}
theorem QS.only (h : QS w q v S) (ho : Only w w1 X) (hs : ∀ k, qf q v k → ¬ X k) : QS w1 q v S := ⟨ho.kept h.blk (hs q (.inl rfl)), own_only h.row ho (fun k hk => hs k (.inr hk)), h.fit⟩
theorem QS.below (h : QS w q v S) (hb : Below w.heap.size w w1) : QS w1 q v S := h.only (Only.of_below hb (fun _ => False)) (fun _ _ e => e)
theorem QS.drewN (h : QS w q v S) (k : Nat) : QS (w.drewN k) q v S := h.below (pw_below_drewN (Below.refl _ _) k)
theorem QS.old (h : QS w q v S) : Old w (qf q v) := fun k hk => hk.elim (fun e => e ▸ lt_of_block h.blk) (fun e => (own_blk h.row e).2.1)
theorem QS.c0 (h : QS w q v S) : w.cell? ⟨q, 0, none⟩ = some (.int .i64 S.most) := cell_of_row w q 0 _ _ _ h.blk
theorem QS.c1 (h : QS w q v S) : w.cell? ⟨q, 1, none⟩ = some v := cell_of_row w q 1 _ _ _ h.blk
theorem QS.c2 (h : QS w q v S) : w.cell? ⟨q, 2, none⟩ = some (.int .i64 S.hi) := cell_of_row w q 2 _ _ _ h.blk
theorem QS.c3 (h : QS w q v S) : w.cell? ⟨q, 3, none⟩ = some (.int .i64 S.mi) := cell_of_row w q 3 _ _ _ h.blk
theorem QS.c4 (h : QS w q v S) : w.cell? ⟨q, 4, none⟩ = some (.int .i64 S.go) := cell_of_row w q 4 _ _ _ h.blk
theorem QS.fz (h : QS w q v S) (j : Nat) : w.frozen? ⟨q, j, none⟩ = false := frozen_of_row w q j _ _ h.blk
theorem QS.nq (h : QS w q v S) : ¬ rf v q := fun e => by
  obtain ⟨_, _, cur, hc⟩ := own_blk h.row e
  exact absurd (not_both h.blk hc) (by decide)
theorem QS.reads (h : QS w q v S) : ∃ A c, v = .slice A S.l.length c ∧ RP w A S.l.length S.l ∧ S.l.length ≤ c := own_rp h.row
/-- Another row is laid in. -/
theorem QS.setL (h : QS w q v S) {v1 : Value} {l : List (Int × Int)} (ho : w.ownsRow 0 PT 2 v1 l.length (prs l)) (hl : l.length ≤ 5000) : QS (w.setCell ⟨q, 1, none⟩ v1) q v1 { S with l := l } := by
  refine ⟨heap_set_same w q 1 _ _ _ h.blk, own_only ho ((Only.refl w (fun k => k = q)).set q 1 _ (.inl rfl)) (fun k hk e => ?_), hl⟩
  subst e
  obtain ⟨_, _, cur, hc⟩ := own_blk ho hk
  exact absurd (not_both h.blk hc) (by decide)
theorem QS.setN (h : QS w q v S) (x : Int) : QS (w.setCell ⟨q, 0, none⟩ (.int .i64 x)) q v { S with most := x } :=
  ⟨heap_set_same w q 0 _ _ _ h.blk, own_only h.row ((Only.refl w (fun k => k = q)).set q 0 _ (.inl rfl)) (fun k hk e => h.nq (e ▸ hk)), h.fit⟩
theorem QS.setH (h : QS w q v S) (x : Int) : QS (w.setCell ⟨q, 2, none⟩ (.int .i64 x)) q v { S with hi := x } :=
  ⟨heap_set_same w q 2 _ _ _ h.blk, own_only h.row ((Only.refl w (fun k => k = q)).set q 2 _ (.inl rfl)) (fun k hk e => h.nq (e ▸ hk)), h.fit⟩
theorem QS.setM (h : QS w q v S) (x : Int) : QS (w.setCell ⟨q, 3, none⟩ (.int .i64 x)) q v { S with mi := x } :=
  ⟨heap_set_same w q 3 _ _ _ h.blk, own_only h.row ((Only.refl w (fun k => k = q)).set q 3 _ (.inl rfl)) (fun k hk e => h.nq (e ▸ hk)), h.fit⟩
theorem QS.setG (h : QS w q v S) (x : Int) : QS (w.setCell ⟨q, 4, none⟩ (.int .i64 x)) q v { S with go := x } :=
  ⟨heap_set_same w q 4 _ _ _ h.blk, own_only h.row ((Only.refl w (fun k => k = q)).set q 4 _ (.inl rfl)) (fun k hk e => h.nq (e ▸ hk)), h.fit⟩
/-- 'at'. -/
theorem rat_any (h : QS w q v S) (k : Int) : Calls Try.prog 41 #[.pointer (some ⟨q, 0, none⟩), .int .i64 k] w fun e w' =>
    w' = w ∧ ((e = .returned (.int .i64 (-1)) ∧ fnd S.l k = none) ∨ ∃ A x B, e = .returned (.int .i64 ((A.length : Nat) : Int)) ∧ S.l = A ++ (k, x) :: B ∧ ∀ y ∈ A, y.1 ≠ k) := by
  obtain ⟨A, c, rfl, hr, hc⟩ := h.reads
  have c1 := h.c1
  obtain ⟨n, hn⟩ : ∃ n, S.l.length = n := ⟨_, rfl⟩
  have hfit := h.fit
  rw [hn] at c1 hr hfit
  have HN := Lib.hid hn
  clear h hn hc
  go_enter Try.func41, Try.ntmps41
  go_wp2_with fail
  go_loopg [5] n (fun gk v5 w' => ∃ i : Nat, v5 = .int .i64 (i : Int) ∧ w' = w ∧ Hid (∀ y ∈ S.l.take i, y.1 ≠ k) ∧ Hid (i ≤ n ∧ gk = n - i))
  case atStart => exact ⟨0, rfl, rfl, Lib.hid (by simp), Lib.hid ⟨Nat.zero_le _, rfl⟩⟩
  case round =>
    obtain ⟨i, rfl, rfl, HA, HG⟩ := hrel
    by_cases hi : i < n
    · obtain ⟨ad, x, rfl, h0, h1, hx⟩ := hr.at_ i hi
      have hi2 : (i : Int) < (n : Int) := by omega
      obtain ⟨xk, xv⟩ := x
      dsimp only at h0 h1
      by_cases he : xk = k
      · subst he
        have he2 : (xk == xk) = true := by simp
        go_wp2_with fail
        go_ret
        refine ⟨rfl, .inr ⟨S.l.take i, xv, S.l.drop (i + 1), ?_, ?_, HA.out⟩⟩
        · rw [List.length_take, HN.out, Nat.min_eq_left (by omega)]; rfl
        · have hlt : i < S.l.length := by rw [HN.out]; exact hi
          have hg := hx.out
          rw [List.getElem?_eq_getElem hlt] at hg
          injection hg with hg
          rw [← hg, ← List.drop_eq_getElem_cons hlt, List.take_append_drop]
      · have he2 : (xk == k) = false := by simpa using he
        go_wp2_with fail
        go_roundg (gk - 1)
        case measure => have := HG.out.2; omega
        case rel =>
          refine ⟨i + 1, by simp, rfl, ?_, Lib.hid ⟨by omega, by have := HG.out.2; omega⟩⟩
          refine Lib.hid (fun y hy => ?_)
          rw [snoc hx.out] at hy
          rcases List.mem_append.1 hy with hy | hy
          · exact HA.out y hy
          · simp at hy; subst hy; exact he
    · have hi2 : ¬ (i : Int) < (n : Int) := by omega
      go_wp2_with fail
      go_ret
      refine ⟨rfl, .inl ⟨rfl, fnd_none.2 (fun y hy => HA.out y ?_)⟩⟩
      rw [List.take_of_length_le (by have := HN.out; omega)]
      exact hy
end
end Go.Proofs.Ytdhaoodkelehpaa
end
/-! without. -/
section
set_option linter.unusedVariables false
namespace Go.Proofs.Ytdhaoodkelehpaa
open Go.RowKit Go.Kit Go.Proofs.YtdhaoodkelehpaaW.PrintWords
section
variable {w w1 : World} {q : Nat} {v : Value} {S : Sp Int} {X : Nat → Prop}
theorem cut_front (A : Option Addr) (n c i : Nat) (hi : i ≤ c) (W : World) : (Instr.slice LT (.slice A n c) none (some (.int .i64 (i : Int))) none).run Try.prog W = .ok (.slice A i c) W := by
  have hs : (Try.prog.info? PT).map (·.size) = some 2 := by kernel_rfl
  obtain ⟨j, hj, hj2⟩ := Option.map_eq_some_iff.1 hs
  have hel : Try.prog.elem LT = PT := by simp [Program.elem, Try.underlying45]
  rw [run_slice_h W LT A n c (by rw [hel]; exact Try.underlying45) .i64 (i : Int) (Int.natCast_nonneg _) (by omega), hel]
  simp [sizeOf, typeInfo, hj, hj2, sliced, Result.andThen]
  intro _
  cases A <;> rfl
theorem cut_back (A : Option Addr) (n c i : Nat) (hi : i ≤ n) (W : World) : (Instr.slice LT (.slice A n c) (some (.int .i64 (i : Int))) none none).run Try.prog W = .ok (.slice (if c = i then A else A.map (·.add (i * 2))) (n - i) (c - i)) W := by
  have hs : (Try.prog.info? PT).map (·.size) = some 2 := by kernel_rfl
  obtain ⟨j, hj, hj2⟩ := Option.map_eq_some_iff.1 hs
  have hel : Try.prog.elem LT = PT := by simp [Program.elem, Try.underlying45]
  rw [run_slice_l W LT A n c (by rw [hel]; exact Try.underlying45) .i64 (i : Int) (Int.natCast_nonneg _) (by omega), hel]
  simp [sizeOf, typeInfo, hj, hj2, sliced, Result.andThen]
attribute [-go_sem] run_slice_lh run_slice_any run_slice_h run_slice_l
set_option maxHeartbeats 4000000 in
set_option maxRecDepth 100000 in
theorem rwithout_any (h : QS w q v S) {A0 B : List (Int × Int)} {x : Int × Int} (hl : S.l = A0 ++ x :: B) (i : Int) (hi : i = ((A0.length : Nat) : Int)) : Calls Try.prog 42 #[.pointer (some ⟨q, 0, none⟩), .int .i64 i] w fun e w' =>
    ∃ v', e = .returned v' ∧ w'.ownsRow w.heap.size PT 2 v' (A0 ++ B).length (prs (A0 ++ B)) ∧ Below w.heap.size w w' := by
  subst hi
  obtain ⟨A, c, rfl, hr, hc⟩ := h.reads
  have c1 := h.c1
  have hfit := h.fit
  obtain ⟨n, hn⟩ : ∃ n, S.l.length = n := ⟨_, rfl⟩
  rw [hn] at c1 hr hfit hc
  obtain ⟨i, hi⟩ : ∃ i, A0.length = i := ⟨_, rfl⟩
  have hin : i < n := by rw [← hn, hl, List.length_append, hi, List.length_cons]; omega
  have k1 := cut_front A n c i (by omega)
  have k2 := cut_back A n c (i + 1) (by omega)
  have e1 : S.l.take i = A0 := by rw [hl, ← hi, List.take_left]
  have e2 : S.l.drop (i + 1) = B := by
    rw [hl, List.drop_append, hi, List.drop_eq_nil_of_le (by omega), List.nil_append, show i + 1 - i = 1 by omega]; rfl
  have r1 := hr.take_ i (by omega)
  have r2 := hr.drop_ (c := c) (i + 1) (by omega) hc
  rw [e1] at r1
  rw [e2] at r2
  have hlen : (A0 ++ B).length = 0 + i + (n - (i + 1)) := by
    rw [List.length_append, hi]
    have := hn
    rw [hl, List.length_append, List.length_cons, hi] at this
    omega
  rw [hlen, hi]
  obtain ⟨A2, hA2⟩ : ∃ A2, (if c = i + 1 then A else A.map (·.add ((i + 1) * 2))) = A2 := ⟨_, rfl⟩
  rw [hA2] at k2 r2
  rw [show (((i + 1 : Nat) : Int)) = (i : Int) + 1 by omega] at k2
  have hi9 : (i : Int) ≤ 5000 := by omega
  have hwi : IntKind.i64.wrap ((i : Int) + 1) = (i : Int) + 1 := by rw [IntKind.wrap_i64]; omega
  have HR1 := Lib.hid r1
  have HR2 := Lib.hid r2
  have hb1 : (0 + i) * 16 ≤ 140737488355328 := by omega
  have hb2 : (0 + i + (n - (i + 1))) * 16 ≤ 140737488355328 := by omega
  clear h hl hn hi hr hc e1 e2 hA2 r1 r2 hlen hin hfit
  go_enter Try.func42, Try.ntmps42
  go_wp2_with fail
  go_region_held3 (fun W => W.cell? ⟨q, 1, none⟩ = some (.slice A n c) ∧ Below w.heap.size w W)
    (first
      | exact ⟨c1, below_drew (Below.refl _ _)⟩
      | exact ⟨pw_cell_below hb5 c1, hb5⟩
      | exact ⟨pw_cell_below hb4 c1, hb4⟩)
    (first
      | (refine at_list rfl ?_; intro Q2 hQ2; at_builtin; refine push_prs (w0 := w) w.heap.size rfl (.const (.slice none 0 0)) (.tmp 10) LT PT _ rfl Try.underlying45 pair_info (by decide) (.slice none 0 0) 0 i c [] A0 A rfl rfl (World.ownsRow_nil _ _ _ _) (HR1.out.below (by go_split_ands; assumption)) (by go_split_ands; assumption) (by first | exact Nat.le_refl _ | exact (Below.size (by assumption))) hb1 ?_; intro v4 w4 hown4 hb4 hg4 ha4; obtain ⟨A4, c4, rfl, _, _⟩ := own_rp hown4; refine hQ2 _ _ ?_; clear hQ2 Q2 hg4 ha4)
      | (refine at_list rfl ?_; intro Q2 hQ2; at_builtin; refine push_prs (w0 := w) w.heap.size rfl (.tmp 11) (.tmp 18) LT PT _ rfl Try.underlying45 pair_info (by decide) _ (0 + i) (n - (i + 1)) (c - (i + 1)) ([] ++ A0) B A2 rfl rfl hown4 (HR2.out.below hb4) hb4 hb4.size hb2 ?_; intro v5 w5 hown5 hb5 hg5 ha5; refine hQ2 _ _ ?_; clear hQ2 Q2 hg5 ha5))
  all_goals
    go_wp2_with fail
    go_ret
    exact ⟨_, rfl, hown5, hb5⟩
end
end Go.Proofs.Ytdhaoodkelehpaa
end
/-! The document's Look, Get. -/
section
set_option linter.unusedVariables false
namespace Go.Proofs.Ytdhaoodkelehpaa
open Go.RowKit Go.Kit Go.Proofs.YtdhaoodkelehpaaW.PrintWords
theorem blk_below {w w1 : World} {g : Nat} {o : Obj} (h : w.heap[g]? = some o) (hb : Below w.heap.size w w1) : w1.heap[g]? = some o := (hb.block _ (lt_of_block h)).trans h
theorem own_one {W : World} {gb base : Nat} {k x : Int} (h : W.heap[gb]? = some (.cells #[.int .i64 k, .int .i64 x] PT (0, 0))) (hb : base ≤ gb) : W.ownsRow base PT 2 (.slice (some ⟨gb, 0, none⟩) 1 1) 1 (prs [(k, x)]) :=
  ⟨rfl, .inr ⟨gb, 1, _, rfl, hb, h, Nat.le_refl _, by simp [maxLen], by simp, by simp [prs]⟩⟩
section
variable {w w1 : World} {q : Nat} {v : Value} {S : Sp Int} {X : Nat → Prop}
/-- The place of a pair. -/
theorem QS.pair (h : QS w q v S) {A0 B : List (Int × Int)} {k x : Int} (hl : S.l = A0 ++ (k, x) :: B) : ∃ ad c, v = .slice (some ad) S.l.length c ∧ S.l.length ≤ c ∧ w.cell? (ad.add (A0.length * 2)) = some (.int .i64 k) ∧ w.cell? ⟨(ad.add (A0.length * 2)).block, (ad.add (A0.length * 2)).off + 1, none⟩ = some (.int .i64 x) ∧ (0 : Int) ≤ ((A0.length : Nat) : Int) ∧ ((A0.length : Nat) : Int) < ((S.l.length : Nat) : Int) := by
  obtain ⟨A, c, rfl, hr, hc⟩ := h.reads
  have hlt : A0.length < S.l.length := by rw [hl, List.length_append, List.length_cons]; omega
  obtain ⟨ad, y, rfl, h0, h1, hy⟩ := hr.at_ A0.length hlt
  have hy2 := hy.out
  rw [hl, List.getElem?_append_right (Nat.le_refl _), Nat.sub_self] at hy2
  simp at hy2
  subst hy2
  refine ⟨ad, c, rfl, hc, h0, ?_, by omega, by omega⟩
  rw [← Addr.add_add] at h1
  have e : (ad.add (A0.length * 2)).add 1 = ⟨(ad.add (A0.length * 2)).block, (ad.add (A0.length * 2)).off + 1, none⟩ := by
    unfold Addr.add
    by_cases h1 : A0.length * 2 = 0 <;> simp [h1]
  rw [e] at h1
  exact h1
theorem rlook_any (h : QS w q v S) (k : Int) : Calls Try.prog 38 #[.pointer (some ⟨q, 0, none⟩), .int .i64 k] w fun e w' => ∃ x y, e = .returned (.tuple #[.int .i64 x, .bool y]) ∧ Hid ((x, y) = outv (fnd S.l k)) ∧ w' = w := by
  have H := Lib.hid h
  clear h
  go_enter Try.func38, Try.ntmps38
  go_wp2_with fail
  refine (rat_any H.out k).mono ?_
  rintro e w1 ⟨rfl, ⟨rfl, hf⟩ | ⟨A0, x, B, rfl, hl, hA⟩⟩
  · have HF := Lib.hid hf
    clear hf
    go_wp2_with fail
    go_ret2
    exact ⟨0, false, rfl, by rw [HF.out]; rfl, rfl⟩
  · obtain ⟨ad, c, rfl, hc, h0, h1, l0, l1⟩ := H.out.pair hl
    have c1 := H.out.c1
    have hf : fnd S.l k = some x := by
      unfold fnd
      rw [hl, List.find?_append, List.find?_eq_none.2 (fun y hy => by simpa using hA y hy)]
      simp
    have HF := Lib.hid hf
    obtain ⟨i, hi⟩ : ∃ i, A0.length = i := ⟨_, rfl⟩
    obtain ⟨n, hn⟩ : ∃ n, S.l.length = n := ⟨_, rfl⟩
    rw [hi] at h0 h1 l0 l1 ⊢
    rw [hn] at c1 l1
    clear hf hl hA hi hn hc
    go_wp2_with fail
    go_ret2
    exact ⟨x, true, rfl, by rw [HF.out]; rfl, rfl⟩
theorem build_pair (k x : Int) (W : World) : (Instr.buildSlice LT 1 #[(0, .agg #[.int .i64 k, .int .i64 x])]).run Try.prog W = .ok (.slice (some ⟨W.heap.size, 0, none⟩) 1 1) (W.alloc (.cells #[.int .i64 k, .int .i64 x] PT)) := by kernel_rfl
attribute [-go_sem] Instr.buildSlice
/-- What a call of the document's memo leaves. -/
def QLft (w : World) (q : Nat) (v : Value) (S : Sp Int) (w' : World) : Prop := ∃ v', QS w' q v' S ∧ Only w w' (qf q v) ∧ Onto w (qf q v) (qf q v')
set_option maxHeartbeats 4000000 in
set_option maxRecDepth 100000 in
theorem rget_any (h : QS w q v S) (hnd : (S.l.map (·.1)).Nodup) (k : Int) (hhi : 0 ≤ S.hi ∧ S.hi ≤ 9223372036854775806) (hmi : 0 ≤ S.mi ∧ S.mi ≤ 9223372036854775806) : Calls Try.prog 37 #[.pointer (some ⟨q, 0, none⟩), .int .i64 k] w fun e w' => ∃ x y, e = .returned (.tuple #[.int .i64 x, .bool y]) ∧ Hid ((x, y) = outv (fnd S.l k)) ∧ QLft w q v (S.get k) w' := by
  have H := Lib.hid h
  have HH := Lib.hid hhi
  have HMM := Lib.hid hmi
  have HND := Lib.hid hnd
  clear h hhi hmi hnd
  go_enter Try.func37, Try.ntmps37
  go_wp2_with fail
  refine (rat_any H.out k).mono ?_
  rintro e w1 ⟨rfl, ⟨rfl, hf⟩ | ⟨A0, x, B, rfl, hl, hA⟩⟩
  · have HF := Lib.hid hf
    have c3 := H.out.c3
    have f3 := H.out.fz 3
    have hm := HMM.out
    obtain ⟨mi, hmi⟩ : ∃ mi, S.mi = mi := ⟨_, rfl⟩
    rw [hmi] at c3 hm
    have HMI := Lib.hid hmi
    clear hf hmi
    go_wp2_with fail
    go_ret2
    refine ⟨0, false, rfl, by rw [HF.out]; rfl, v, ?_, (Only.refl _ _).set q 3 _ (.inl (.inl rfl)), Onto.refl _ _⟩
    have := H.out.setM (mi + 1)
    unfold Sp.get
    rw [HF.out, HMI.out]
    exact this
  · obtain ⟨ad, c, rfl, hc, h0, h1, l0, l1⟩ := H.out.pair hl
    have c1 := H.out.c1
    have hf : fnd S.l k = some x := by
      unfold fnd
      rw [hl, List.find?_append, List.find?_eq_none.2 (fun y hy => by simpa using hA y hy)]
      simp
    have hfit := H.out.fit
    have hln : S.l.length = (A0 ++ B).length + 1 := by rw [hl]; simp; omega
    have hers : Hid (∀ (hn : (S.l.map (·.1)).Nodup), ers S.l k = A0 ++ B) := Lib.hid (fun hn => by
      rw [hl, List.map_append, List.map_cons, List.nodup_append, List.nodup_cons] at hn
      have eA : ers A0 k = A0 := ers_out hA
      have eB : ers B k = B := ers_out (fun y hy e => hn.2.1.1 (e ▸ List.mem_map.2 ⟨y, hy, rfl⟩))
      rw [hl]
      unfold ers at *
      rw [List.filter_append, eA, List.filter_cons_of_neg (by simp), eB])
    have HF := Lib.hid hf
    have HL := Lib.hid hl
    obtain ⟨i, hi⟩ : ∃ i, A0.length = i := ⟨_, rfl⟩
    obtain ⟨n, hn⟩ : ∃ n, S.l.length = n := ⟨_, rfl⟩
    have HI := Lib.hid hi
    have HN := Lib.hid hn
    rw [hi] at h0 h1 l0 l1 ⊢
    rw [hn] at c1 l1
    have hba := below_alloc (Below.refl w1.heap.size w1) (.cells #[.int .i64 k, .int .i64 x] PT)
    have hac := heap_alloc_new w1 (.cells #[.int .i64 k, .int .i64 x] PT)
    clear hf hl hA hi hn hc
    have hbp := build_pair k x
    have HQ := Lib.hid (H.out.below hba)
    have HBA := Lib.hid hba
    have HLN := Lib.hid hln
    have HFI := Lib.hid hfit
    clear hba hln hfit
    go_wp2_with fail
    generalize hw0 : w1.alloc (.cells #[.int .i64 k, .int .i64 x] PT) = w0 at *
    generalize hg0 : w1.heap.size = g at *
    have HG0 := Lib.hid hg0
    have d0 := cell_of_row w0 g 0 _ _ _ hac
    have d1 := cell_of_row w0 g 1 _ _ _ hac
    simp only [List.getElem?_toArray, List.getElem?_cons_zero, List.getElem?_cons_succ] at d0 d1
    clear hw0 hg0
    have hqg : q ≠ g := fun e => by
      have h1 := H.out.old q (.inl rfl)
      have h2 := HG0.out
      omega
    have HIX : Hid ((i : Int) = ((A0.length : Nat) : Int)) := Lib.hid (by rw [HI.out])
    obtain ⟨mm, hmm⟩ : ∃ mm, (A0 ++ B).length = mm := ⟨_, rfl⟩
    have hm9 : (1 + mm) * 16 ≤ 140737488355328 := by have := HLN.out; have := HFI.out; omega
    have HMM2 := Lib.hid hmm
    clear hmm
    go_region_held3 (fun W => W.cell? ⟨g, 0, none⟩ = some (.int .i64 k) ∧ W.cell? ⟨g, 1, none⟩ = some (.int .i64 x))
      (first
        | exact ⟨d0, d1⟩
        | exact ⟨pw_cell_below (below_drew (below_alloc (Below.refl _ _) _)) d0, pw_cell_below (below_drew (below_alloc (Below.refl _ _) _)) d1⟩
        | exact ⟨pw_cell_below hw4 d0, pw_cell_below hw4 d1⟩
        | exact ⟨pw_cell_below (below_step hw4 (below_alloc (Below.refl _ _) _)) d0, pw_cell_below (below_step hw4 (below_alloc (Below.refl _ _) _)) d1⟩
        | exact ⟨pw_cell_below hb5 d0, pw_cell_below hb5 d1⟩
        | exact ⟨(World.cell?_setCell_far _ _ _ _ hqg).trans (pw_cell_below hb5 d0), (World.cell?_setCell_far _ _ _ _ hqg).trans (pw_cell_below hb5 d1)⟩)
      (first
        | (go_at_call 42; refine (rwithout_any (HQ.out.below (below_drew (below_alloc (Below.refl _ _) _))) HL.out _ HIX.out).mono ?_; rintro e w4 ⟨v4, rfl, hown4, hb4⟩; obtain ⟨A4, c4, rfl, hr4, _⟩ := own_rp hown4; rw [HMM2.out] at hown4 hr4 ⊢; have hw4 := below_step (below_drew (below_alloc (Below.refl w0.heap.size w0) (.cells #[.int .i64 k, .int .i64 x] PT))) hb4; have hv1 := own_one (blk_below (show ((w0.alloc (.cells #[.int .i64 k, .int .i64 x] PT)).drew).heap[w0.heap.size]? = _ from heap_alloc_new w0 _) hb4) (Nat.le_refl w0.heap.size))
        | (go_at_call 42; refine (rwithout_any (HQ.out.below (below_drew (Below.refl _ _))) HL.out _ HIX.out).mono ?_; rintro e w4 ⟨v4, rfl, hown4, hb4⟩; obtain ⟨A4, c4, rfl, hr4, _⟩ := own_rp hown4; rw [HMM2.out] at hown4 hr4 ⊢; have hw4 := below_step (below_drew (Below.refl w0.heap.size w0)) hb4)
        | (refine at_list rfl ?_; intro Q2 hQ2; at_builtin; refine push_prs (w0 := w0) w0.heap.size rfl (.tmp 31) (.tmp 34) LT PT _ rfl Try.underlying45 pair_info (by decide) _ 1 mm c4 [(k, x)] (A0 ++ B) A4 rfl rfl hv1 hr4 hw4 hw4.size hm9 ?_; intro v5 w5 hown5 hb5 hg5 ha5; obtain ⟨A5, k5, rfl, _, _⟩ := own_rp hown5; have hQ5 := Lib.hid (HQ.out.below hb5); have c5 := hQ5.out.c1; have f5 := hQ5.out.fz 1; refine hQ2 _ _ ?_; clear hQ2 Q2 hg5 ha5)
        | (refine at_list rfl ?_; intro Q2 hQ2; at_builtin; refine push_prs (w0 := w0) w0.heap.size rfl (.tmp 31) (.tmp 34) LT PT _ rfl Try.underlying45 pair_info (by decide) _ 1 mm c4 [(k, x)] (A0 ++ B) A4 rfl rfl (own_one (heap_alloc_new w4 _) hw4.size) (hr4.below (below_alloc (Below.refl _ _) _)) (below_step hw4 (below_alloc (Below.refl _ _) _)) (below_step hw4 (below_alloc (Below.refl _ _) _)).size hm9 ?_; intro v5 w5 hown5 hb5 hg5 ha5; obtain ⟨A5, k5, rfl, _, _⟩ := own_rp hown5; have hQ5 := Lib.hid (HQ.out.below hb5); have c5 := hQ5.out.c1; have f5 := hQ5.out.fz 1; refine hQ2 _ _ ?_; clear hQ2 Q2 hg5 ha5))
    all_goals
      have hlen5 : ([(k, x)] ++ (A0 ++ B)).length = 1 + mm := by rw [List.length_append, HMM2.out]; rfl
      have hown6 : w5.ownsRow 0 PT 2 (.slice A5 (1 + mm) k5) ([(k, x)] ++ (A0 ++ B)).length (prs ([(k, x)] ++ (A0 ++ B))) := by rw [hlen5]; exact own_less hown5 (Nat.zero_le _)
      have hQ6 := hQ5.out.setL hown6 (by rw [hlen5]; have := HLN.out; have := HFI.out; have := HMM2.out; omega)
      have d6 := (World.cell?_setCell_far w5 ⟨q, 1, none⟩ ⟨g, 1, none⟩ (.slice A5 (1 + mm) k5) hqg).trans (pw_cell_below hb5 d1)
      have ho6 : Only w1 (w5.setCell ⟨q, 1, none⟩ (.slice A5 (1 + mm) k5)) (qf q (.slice (some ad) S.l.length c)) := (Only.of_below (below_step (show Below w1.heap.size w1 w0 from HG0.out ▸ HBA.out) hb5) _).set q 1 (.slice A5 (1 + mm) k5) (.inl (.inl rfl))
      have hn6 : Onto w1 (qf q (.slice (some ad) S.l.length c)) (qf q (.slice A5 (1 + mm) k5)) := fun j hj => by
        rcases hj with hj | hj
        · exact .inl (.inl hj)
        · right
          have h1 := (own_blk hown5 hj).1
          have h2 := HBA.out.size
          rw [HG0.out] at *
          omega
      generalize w5.setCell ⟨q, 1, none⟩ (.slice A5 (1 + mm) k5) = w6 at *
      have c2 := hQ6.c2
      have f2 := hQ6.fz 2
      have hh := HH.out
      obtain ⟨hi0, hhi⟩ : ∃ hi0, S.hi = hi0 := ⟨_, rfl⟩
      replace c2 : w6.cell? ⟨q, 2, none⟩ = some (.int .i64 S.hi) := c2
      rw [hhi] at c2 hh
      have HHI := Lib.hid hhi
      have HQ6 := Lib.hid hQ6
      have HO6 := Lib.hid ho6
      have HN6 := Lib.hid hn6
      clear hQ6 ho6 hn6 hhi hown6 hown5 hQ5 c5 f5 hb5 d0 d1 hac
      go_wp2_with fail
      go_ret2
      refine ⟨x, true, rfl, by rw [HF.out]; rfl, _, ?_, HO6.out.set q 2 _ (.inl (.inl rfl)), HN6.out⟩
      have := HQ6.out.setH (hi0 + 1)
      have hS : S.get k = { S with l := [(k, x)] ++ (A0 ++ B), hi := hi0 + 1 } := by
        unfold Sp.get
        rw [HF.out, hers.out HND.out, HHI.out]
        rfl
      rw [hS]
      exact this
end
end Go.Proofs.Ytdhaoodkelehpaa
end
/-! The document's Put. -/
section
set_option linter.unusedVariables false
namespace Go.Proofs.Ytdhaoodkelehpaa
open Go.RowKit Go.Kit Go.Proofs.YtdhaoodkelehpaaW.PrintWords
theorem build_one (k x : Int) (W : World) : (Instr.build PT #[(0, .int .i64 k), (1, .int .i64 x)]).run Try.prog W = .ok (.agg #[.int .i64 k, .int .i64 x]) W := by kernel_rfl
attribute [-go_sem] Instr.buildSlice
section
variable {w w1 : World} {q : Nat} {v : Value} {S : Sp Int} {X : Nat → Prop}
set_option maxHeartbeats 8000000 in
set_option maxRecDepth 100000 in
theorem rput_any (h : QS w q v S) (hok : S.ok) (k x : Int) (hgo : 0 ≤ S.go ∧ S.go ≤ 9223372036854775806) : Calls Try.prog 39 #[.pointer (some ⟨q, 0, none⟩), .int .i64 k, .int .i64 x] w fun e w' => ∃ x1 y, e = .returned (.tuple #[.int .i64 x1, .bool y]) ∧ Hid ((x1, y) = outv (S.out k)) ∧ QLft w q v (S.put k x) w' := by
  have H := Lib.hid h
  have HK := Lib.hid hok
  have HG := Lib.hid hgo
  have hbp := build_pair k x
  have hbo := build_one k x
  obtain ⟨most, hmost⟩ : ∃ most, S.most = most := ⟨_, rfl⟩
  have HMS := Lib.hid hmost
  clear h hok hgo hmost
  go_enter Try.func39, Try.ntmps39
  go_wp2_with fail
  refine (rat_any H.out k).mono ?_
  rintro e w1 ⟨rfl, ⟨rfl, hf⟩ | ⟨A0, y, B, rfl, hl, hA⟩⟩
  · have HF := Lib.hid hf
    obtain ⟨T, hT⟩ : ∃ T, T = S := ⟨_, rfl⟩
    obtain ⟨wa, hwa⟩ : ∃ wa, wa = w1 := ⟨_, rfl⟩
    have HT := Lib.hid hT
    have HQ1 : Hid (QS wa q v T) := Lib.hid (by rw [hT, hwa]; exact H.out)
    have HMO : Hid (T.most = most) := Lib.hid (by rw [hT]; exact HMS.out)
    have HFT : Hid (T.l.length ≤ 4096) := Lib.hid (by rw [hT]; have := HK.out.2.1; have := HK.out.2.2.2; omega)
    subst hwa
    clear hf hT
    obtain ⟨A1, c1, hv1e, hr1, _⟩ := HQ1.out.reads
    subst hv1e
    have e1 := HQ1.out.c1
    have f1 := HQ1.out.fz 1
    have hfit1 := HFT.out
    obtain ⟨n1, hn1⟩ : ∃ n1, T.l.length = n1 := ⟨_, rfl⟩
    have HN1 := Lib.hid hn1
    rw [hn1] at e1 hr1 hfit1
    have hr1a := hr1.below (below_alloc (Below.refl wa.heap.size wa) (.cells #[.int .i64 k, .int .i64 x] PT))
    have hv1 := own_one (heap_alloc_new wa (.cells #[.int .i64 k, .int .i64 x] PT)) (Nat.le_refl wa.heap.size)
    have hba := below_alloc (Below.refl wa.heap.size wa) (.cells #[.int .i64 k, .int .i64 x] PT)
    have e1a := pw_cell_below hba e1
    have hl16 : (1 + n1) * 16 ≤ 140737488355328 := by omega
    clear hr1 hn1
    go_wp2_with (at_builtin; refine push_prs (w0 := wa) wa.heap.size rfl (.tmp 25) (.tmp 29) LT PT _ rfl Try.underlying45 pair_info (by decide) _ 1 n1 c1 [(k, x)] T.l A1 rfl rfl hv1 hr1a hba hba.size hl16 ?_; intro v5 w5 hown5 hb5 hg5 ha5; obtain ⟨A5, k5, rfl, hr5, hc5⟩ := own_rp hown5; have hQ5 := Lib.hid (HQ1.out.below hb5); have c5 := hQ5.out.c1; have f5 := hQ5.out.fz 1)
    have hlen5 : ([(k, x)] ++ T.l).length = 1 + n1 := by rw [List.length_append, HN1.out]; rfl
    have hown6 : w5.ownsRow 0 PT 2 (.slice A5 (1 + n1) k5) ([(k, x)] ++ T.l).length (prs ([(k, x)] ++ T.l)) := by rw [hlen5]; exact own_less hown5 (Nat.zero_le _)
    have hQ6 := hQ5.out.setL hown6 (by rw [hlen5]; omega)
    have ho6 : Only wa (w5.setCell ⟨q, 1, none⟩ (.slice A5 (1 + n1) k5)) (qf q (.slice A1 n1 c1)) := (Only.of_below hb5 _).set q 1 (.slice A5 (1 + n1) k5) (.inl (.inl rfl))
    have hn6 : Onto wa (qf q (.slice A1 n1 c1)) (qf q (.slice A5 (1 + n1) k5)) := fun j hj => by
      rcases hj with hj | hj
      · exact .inl (.inl hj)
      · exact .inr (own_blk hown5 hj).1
    generalize w5.setCell ⟨q, 1, none⟩ (.slice A5 (1 + n1) k5) = w6 at *
    have HQ6 := Lib.hid hQ6
    have HO6 := Lib.hid ho6
    have HN6 := Lib.hid hn6
    have g0 := hQ6.c0
    have g1 := hQ6.c1
    replace g0 : w6.cell? ⟨q, 0, none⟩ = some (.int .i64 T.most) := g0
    clear hQ6 ho6 hn6 hQ5 c5 f5 hb5 hg5 ha5 hown6 hown5 hr5 hc5 e1a e1 f1 hba hv1 hr1a hl16
    rw [HMO.out] at g0
    by_cases hroom : (((1 + n1 : Nat) : Int)) ≤ most
    · have hle : decide ((((1 + n1 : Nat) : Int)) ≤ most) = true := by simp; omega
      have hle2 : (((1 + n1 : Nat) : Int)) ≤ most := by simpa using hle
      go_wp2_with fail
      go_quiet (fail)
      go_wp2_with fail
      go_ret2
      have hT := HT.out
      subst hT
      refine ⟨0, false, rfl, ?_, _, ?_, (by rw [HN1.out]; exact HO6.out.drewN _), (by rw [HN1.out]; exact HN6.out)⟩
      · unfold Sp.out
        have hfu : T.full = false := by unfold Sp.full; rw [HN1.out, HMO.out]; exact decide_eq_false (by omega)
        rw [HF.out, hfu]
        rfl
      · have hfu : T.full = false := by unfold Sp.full; rw [HN1.out, HMO.out]; exact decide_eq_false (by omega)
        have hS : T.put k x = { T with l := [(k, x)] ++ T.l } := by unfold Sp.put; rw [HF.out, hfu]; rfl
        rw [hS]
        exact HQ6.out.drewN _
    · have hle : decide ((((1 + n1 : Nat) : Int)) ≤ most) = false := by simp; omega
      rcases List.eq_nil_or_concat T.l with hnil | ⟨A, z, hcat⟩
      · exfalso
        have h1 := HK.out.2.2.1
        have h2 := HN1.out
        rw [HMS.out] at h1
        rw [hnil] at h2
        simp at h2
        omega
      · rw [List.concat_eq_append] at hcat
        obtain ⟨zk, zx⟩ := z
        have hl2 : ({ T with l := [(k, x)] ++ T.l } : Sp Int).l = ((k, x) :: A) ++ (zk, zx) :: [] := by show [(k, x)] ++ T.l = _; rw [hcat]; rfl
        obtain ⟨ad, kc, hve, hcc, p0, p1, l0, l1⟩ := HQ6.out.pair hl2
        injection hve with hve1 hve2 hve3
        subst hve1 hve3
        have hal : (((k, x) :: A).length : Nat) = n1 := by have := HN1.out; rw [hcat] at this; simp at this ⊢; omega
        rw [hal] at p0 p1
        have hn9 : (n1 : Int) ≤ 4096 := by omega
        have hw1 : IntKind.i64.wrap (((1 + n1 : Nat) : Int) - 1) = (n1 : Int) := by rw [IntKind.wrap_i64]; omega
        have hw2 : IntKind.i64.wrap (1 + (n1 : Int) - 1) = (n1 : Int) := by rw [IntKind.wrap_i64]; omega
        have hlt : (n1 : Int) < ((1 + n1 : Nat) : Int) := by omega
        have hlt2 : (n1 : Int) < 1 + (n1 : Int) := by omega
        have HL2 := Lib.hid hl2
        have HAL := Lib.hid hal
        have HCAT := Lib.hid hcat
        clear hl2 hal hcat hve2 l0 l1 hcc
        go_wp2_with fail
        go_quiet (fail)
        go_wp2_with fail
        go_quiet (fail)
        go_wp2_with fail
        refine (rwithout_any (HQ6.out.drewN _) HL2.out (n1 : Int) (by rw [HAL.out])).mono ?_
        rintro e w7 ⟨v7, rfl, hown7, hb7⟩
        have HQ7 := Lib.hid ((HQ6.out.drewN _).below hb7)
        have HO7 := Lib.hid ((HO6.out.drewN _).below hb7)
        have HW7 := Lib.hid (HO7.out.size)
        have HS7 := Lib.hid hb7.size
        obtain ⟨A7, k7, rfl, _, _⟩ := own_rp hown7
        have HOW := Lib.hid hown7
        have c7 := HQ7.out.c1
        have f7 := HQ7.out.fz 1
        obtain ⟨m7, hm7⟩ : ∃ m7, (((k, x) :: A) ++ []).length = m7 := ⟨_, rfl⟩
        have HM7 := Lib.hid hm7
        rw [hm7] at HOW ⊢
        have hg := HG.out
        obtain ⟨go, hgo⟩ : ∃ go, S.go = go := ⟨_, rfl⟩
        have HGO := Lib.hid hgo
        rw [hgo] at hg
        have hQ8 := HQ7.out.setL (l := ((k, x) :: A) ++ []) (v1 := .slice A7 m7 k7) (by rw [hm7]; exact own_less HOW.out (Nat.zero_le _)) (by rw [hm7, ← hm7, List.append_nil, HAL.out]; omega)
        have hO8 := HO7.out.set q 1 (.slice A7 m7 k7) (.inl (.inl rfl))
        clear hown7 hb7 hm7 hgo
        go_upto_region 9 with (fail)
        generalize w7.setCell ⟨q, 1, none⟩ (.slice A7 m7 k7) = w8 at *
        have c4 : w8.cell? ⟨q, 4, none⟩ = some (.int .i64 go) := hQ8.c4.trans (by rw [← HGO.out, ← HT.out])
        have f4 := hQ8.fz 4
        have HQ8 := Lib.hid hQ8
        have HO8 := Lib.hid hO8
        clear hQ8 hO8
        go_wp2_with fail
        go_ret2
        have hT := HT.out
        subst hT
        have hfu : T.full = true := by unfold Sp.full; rw [HN1.out, HMO.out]; exact decide_eq_true (by omega)
        refine ⟨zk, true, rfl, ?_, .slice A7 m7 k7, ?_, (by rw [HN1.out]; exact HO8.out.set q 4 _ (.inl (.inl rfl))), ?_⟩
        · unfold Sp.out
          rw [HF.out, hfu, HCAT.out]
          refine Lib.hid ?_
          simp [outv]
        · have hS : T.put k x = { T with l := ((k, x) :: A) ++ [], go := go + 1 } := by
            unfold Sp.put
            rw [HF.out, hfu, HCAT.out, HGO.out]
            simp
          rw [hS]
          have := HQ8.out.setG (go + 1)
          exact this
        · intro j hj
          rcases hj with hj | hj
          · exact .inl (.inl hj)
          · have h1 := (own_blk HOW.out hj).1
            have h2 := HO6.out.size
            have h3 : (w6.drewN 0).heap.size = w6.heap.size := rfl
            exact .inr (Nat.le_trans h2 h1)
  · have hers : ers S.l k = A0 ++ B := by
      have hn := HK.out.1
      rw [hl, List.map_append, List.map_cons, List.nodup_append, List.nodup_cons] at hn
      have eA : ers A0 k = A0 := ers_out hA
      have eB : ers B k = B := ers_out (fun z hz e => hn.2.1.1 (e ▸ List.mem_map.2 ⟨z, hz, rfl⟩))
      rw [hl]
      unfold ers at *
      rw [List.filter_append, eA, List.filter_cons_of_neg (by simp), eB]
    have hf : fnd S.l k = some y := by
      unfold fnd
      rw [hl, List.find?_append, List.find?_eq_none.2 (fun z hz => by simpa using hA z hz)]
      simp
    have hln : (A0 ++ B).length + 1 ≤ S.l.length := by rw [hl]; simp; omega
    have HF := Lib.hid hf
    have HER := Lib.hid hers
    have HL := Lib.hid hl
    have HLN := Lib.hid hln
    obtain ⟨i, hi⟩ : ∃ i, A0.length = i := ⟨_, rfl⟩
    have HI := Lib.hid hi
    rw [hi]
    have hi0 : ¬ ((i : Int) < 0) := by omega
    have hi1 : ((i : Int) ≥ 0) := by omega
    clear hf hers hl hA hln hi
    go_wp2_with fail
    refine (rwithout_any H.out HL.out (i : Int) (by rw [HI.out])).mono ?_
    rintro e w2 ⟨v2, rfl, hown2, hb2⟩
    obtain ⟨A2, k2, rfl, _, _⟩ := own_rp hown2
    have HQ2 := Lib.hid (H.out.below hb2)
    have c2 := HQ2.out.c1
    have f2 := HQ2.out.fz 1
    have hQ3 := HQ2.out.setL (own_less hown2 (Nat.zero_le _)) (by have := HLN.out; have := HK.out.2.1; have := HK.out.2.2.2; omega)
    have hO3 : Only w1 (w2.setCell ⟨q, 1, none⟩ (.slice A2 (A0 ++ B).length k2)) (qf q v) := (Only.of_below hb2 _).set q 1 _ (.inl (.inl rfl))
    have hN3 : Onto w1 (qf q v) (qf q (.slice A2 (A0 ++ B).length k2)) := fun j hj => by
      rcases hj with hj | hj
      · exact .inl (.inl hj)
      · exact .inr (own_blk hown2 hj).1
    have HQ3 := Lib.hid hQ3
    have HO3 := Lib.hid hO3
    have HN3 := Lib.hid hN3
    clear hQ3 hO3 hN3 hown2 hb2
    obtain ⟨m2, hm2⟩ : ∃ m2, (A0 ++ B).length = m2 := ⟨_, rfl⟩
    rw [hm2] at HQ3 HO3 HN3 ⊢
    go_upto_region 4 with (fail)
    generalize w2.setCell ⟨q, 1, none⟩ (.slice A2 m2 k2) = wa at *
    obtain ⟨T, hT⟩ : ∃ T, T = ({ S with l := A0 ++ B } : Sp Int) := ⟨_, rfl⟩
    have HT := Lib.hid hT
    rw [← hT] at HQ3
    have HQ1 := HQ3
    have HMO : Hid (T.most = most) := Lib.hid (by rw [hT]; exact HMS.out)
    have HFT : Hid (T.l.length + 1 ≤ most ∧ T.l.length ≤ 4096) := Lib.hid (by
      have h1 := HLN.out
      have h2 := HK.out.2.1
      have h3 := HK.out.2.2.2
      rw [HMS.out] at h2 h3
      rw [hT]
      show (((A0 ++ B).length : Int)) + 1 ≤ most ∧ (A0 ++ B).length ≤ 4096
      omega)
    clear hT hm2 HQ3
    obtain ⟨vv, hvv⟩ : ∃ vv, Value.slice A2 m2 k2 = vv := ⟨_, rfl⟩
    rw [hvv] at HQ1 HN3
    clear hvv
    obtain ⟨A1, c1, hv1e, hr1, _⟩ := HQ1.out.reads
    subst hv1e
    have e1 := HQ1.out.c1
    have f1 := HQ1.out.fz 1
    have hfit1 := HFT.out.2
    obtain ⟨n1, hn1⟩ : ∃ n1, T.l.length = n1 := ⟨_, rfl⟩
    have HN1 := Lib.hid hn1
    rw [hn1] at e1 hr1 hfit1
    have hr1a := hr1.below (below_alloc (Below.refl wa.heap.size wa) (.cells #[.int .i64 k, .int .i64 x] PT))
    have hv1 := own_one (heap_alloc_new wa (.cells #[.int .i64 k, .int .i64 x] PT)) (Nat.le_refl wa.heap.size)
    have hba := below_alloc (Below.refl wa.heap.size wa) (.cells #[.int .i64 k, .int .i64 x] PT)
    have e1a := pw_cell_below hba e1
    have hl16 : (1 + n1) * 16 ≤ 140737488355328 := by omega
    clear hr1 hn1
    go_wp2_with (at_builtin; refine push_prs (w0 := wa) wa.heap.size rfl (.tmp 25) (.tmp 29) LT PT _ rfl Try.underlying45 pair_info (by decide) _ 1 n1 c1 [(k, x)] T.l A1 rfl rfl hv1 hr1a hba hba.size hl16 ?_; intro v5 w5 hown5 hb5 hg5 ha5; obtain ⟨A5, k5, rfl, hr5, hc5⟩ := own_rp hown5; have hQ5 := Lib.hid (HQ1.out.below hb5); have c5 := hQ5.out.c1; have f5 := hQ5.out.fz 1)
    have hlen5 : ([(k, x)] ++ T.l).length = 1 + n1 := by rw [List.length_append, HN1.out]; rfl
    have hown6 : w5.ownsRow 0 PT 2 (.slice A5 (1 + n1) k5) ([(k, x)] ++ T.l).length (prs ([(k, x)] ++ T.l)) := by rw [hlen5]; exact own_less hown5 (Nat.zero_le _)
    have hQ6 := hQ5.out.setL hown6 (by rw [hlen5]; omega)
    have ho6 : Only wa (w5.setCell ⟨q, 1, none⟩ (.slice A5 (1 + n1) k5)) (qf q (.slice A1 n1 c1)) := (Only.of_below hb5 _).set q 1 (.slice A5 (1 + n1) k5) (.inl (.inl rfl))
    have hn6 : Onto wa (qf q (.slice A1 n1 c1)) (qf q (.slice A5 (1 + n1) k5)) := fun j hj => by
      rcases hj with hj | hj
      · exact .inl (.inl hj)
      · exact .inr (own_blk hown5 hj).1
    generalize w5.setCell ⟨q, 1, none⟩ (.slice A5 (1 + n1) k5) = w6 at *
    have HQ6 := Lib.hid hQ6
    have HO6 := Lib.hid ho6
    have HN6 := Lib.hid hn6
    have g0 := hQ6.c0
    have g1 := hQ6.c1
    replace g0 : w6.cell? ⟨q, 0, none⟩ = some (.int .i64 T.most) := g0
    clear hQ6 ho6 hn6 hQ5 c5 f5 hb5 hg5 ha5 hown6 hown5 hr5 hc5 e1a e1 f1 hba hv1 hr1a hl16
    rw [HMO.out] at g0
    have hroom : (((1 + n1 : Nat) : Int)) ≤ most := by have := HFT.out.1; rw [HN1.out] at this; omega
    have hle : decide ((((1 + n1 : Nat) : Int)) ≤ most) = true := by simp; omega
    have hle2 : (((1 + n1 : Nat) : Int)) ≤ most := by simpa using hle
    go_wp2_with fail
    go_quiet (fail)
    go_wp2_with fail
    go_ret2
    refine ⟨0, false, rfl, ?_, .slice A5 (1 + n1) k5, ?_, ?_, ?_⟩
    · unfold Sp.out
      rw [HF.out]
      rfl
    · have hS : S.put k x = { T with l := [(k, x)] ++ T.l } := by unfold Sp.put; rw [HF.out, HT.out, HER.out]; rfl
      rw [hS]
      exact HQ6.out.drewN _
    · exact (HO3.out.then_ (HO6.out.drewN _) (by rw [← HN1.out]; exact HN3.out))
    · exact Onto.trans (by rw [← HN1.out]; exact HN3.out) HN6.out HO3.out.size
end
end Go.Proofs.Ytdhaoodkelehpaa
end
/-! The document's New, SameInts, Drop. -/
section
set_option linter.unusedVariables false
namespace Go.Proofs.Ytdhaoodkelehpaa
open Go.RowKit Go.Kit Go.Proofs.YtdhaoodkelehpaaW.PrintWords
theorem results_cell_tmp {P : Program} {fn : Func} {p u : Tmp} {ty : TypeId} (h : fn.results = #[.cell p ty, .tmp u]) (tmps : Array Value) (w : World) (g : Nat) (t : TypeId) (cs : Array Value) (fr : Nat × Nat) (d : TypeDesc)
    (hp : tmps.getD p undef = .pointer (some ⟨g, 0, none⟩)) (hg : w.heap[g]? = some (.cells cs t fr))
    (hu : P.underlying ty = some d) (hd : (match d with | .struct _ | .array _ _ => true | _ => false) = true) (hi : (P.info? ty).map (·.size) = some cs.size) (v : Value) (hv : tmps.getD u undef = v) :
    (results fn tmps).run P w = .ok (.tuple #[.agg cs, v]) w := by
  subst hv
  have hp' : tmps[p]?.getD undef = .pointer (some ⟨g, 0, none⟩) := by simpa using hp
  simp [results, h, hp', asAddr, run_loadVar_row w g t ty cs fr d hg hu hd hi]
def qcells (n : Int) (v : Value) (a b c : Int) : Array Value := #[.int .i64 n, v, .int .i64 a, .int .i64 b, .int .i64 c]
section
variable {w w1 : World} {q : Nat} {v : Value} {S : Sp Int} {X : Nat → Prop}
set_option maxRecDepth 100000 in
theorem rnew_any (n : Int) : Calls Try.prog 20 #[.int .i64 n] w fun e w' => e = .returned (.tuple #[.agg (qcells (if 1 ≤ n ∧ n ≤ 4096 then n else 0) (.slice none 0 0) 0 0 0), .int .i64 (if 1 ≤ n ∧ n ≤ 4096 then 0 else 1)]) ∧ Below w.heap.size w w' := by
  have hb := below_alloc (Below.refl w.heap.size w) (.cells (qcells n (.slice none 0 0) 0 0 0) QT)
  have hb0 := below_alloc (Below.refl w.heap.size w) (.cells (qcells 0 (.slice none 0 0) 0 0 0) QT)
  have HB := Lib.hid hb
  have HB0 := Lib.hid hb0
  clear hb hb0
  by_cases h1 : n < 1
  · have b1 : decide (n < 1) = true := by simpa using h1
    rw [if_neg (by omega), if_neg (by omega)]
    clear h1
    go_enter Try.func20, Try.ntmps20
    go_wp2_with fail
    exact bodyPost_ret (v := .tuple #[.agg (qcells 0 (.slice none 0 0) 0 0 0), .int .i64 1]) (results_cell_tmp (P := Try.prog) (fn := Try.f20) (p := 2) (u := 3) rfl _ _ w.heap.size QT (qcells 0 (.slice none 0 0) 0 0 0) (0, 0) _ rfl (heap_alloc_new w _) Try.underlying47 rfl (by kernel_rfl) (.int .i64 1) rfl) rfl ⟨rfl, HB0.out⟩
  · have b1 : decide (n < 1) = false := by simpa using h1
    by_cases h2 : n > 4096
    · have b2 : decide (n > 4096) = true := by simpa using h2
      rw [if_neg (by omega), if_neg (by omega)]
      clear h1 h2
      go_enter Try.func20, Try.ntmps20
      go_wp2_with fail
      exact bodyPost_ret (v := .tuple #[.agg (qcells 0 (.slice none 0 0) 0 0 0), .int .i64 1]) (results_cell_tmp (P := Try.prog) (fn := Try.f20) (p := 2) (u := 3) rfl _ _ w.heap.size QT (qcells 0 (.slice none 0 0) 0 0 0) (0, 0) _ rfl (heap_alloc_new w _) Try.underlying47 rfl (by kernel_rfl) (.int .i64 1) rfl) rfl ⟨rfl, HB0.out⟩
    · have b2 : decide (n > 4096) = false := by simpa using h2
      rw [if_pos (by omega), if_pos (by omega)]
      clear h1 h2
      go_enter Try.func20, Try.ntmps20
      go_wp2_with fail
      exact bodyPost_ret (v := .tuple #[.agg (qcells n (.slice none 0 0) 0 0 0), .int .i64 0]) (results_cell_tmp (P := Try.prog) (fn := Try.f20) (p := 2) (u := 3) rfl _ _ w.heap.size QT (qcells n (.slice none 0 0) 0 0 0) (0, 0) _ rfl (heap_alloc_new w _) Try.underlying47 rfl (by kernel_rfl) (.int .i64 0) rfl) rfl ⟨rfl, HB.out⟩
set_option maxHeartbeats 1000000 in
theorem rsame_any (A B : Option Addr) (n m c d : Nat) (xs ys : List Int) (hx : ReadsInt w .i64 A n xs) (hy : ReadsInt w .i64 B m ys) :
    Calls Try.prog 26 #[.slice A n c, .slice B m d] w fun e w' => e = .returned (.bool (decide (xs = ys))) ∧ Below w.heap.size w w' := by
  have hxm := hx.2.1
  have hym := hy.2.1
  have HX := Lib.hid hx.1
  have HY := Lib.hid hy.1
  go_enter Try.func26, Try.ntmps26
  by_cases hnm : n = m
  · subst hnm
    go_wp2_with fail
    go_loopg [5] n (fun g v5 w' => ∃ i : Nat, v5 = .int .i64 (i : Int) ∧ (∃ k, w' = w.drewN k) ∧ Hid (i + g = n ∧ xs.take i = ys.take i))
    case atStart => exact ⟨0, rfl, ⟨0, rfl⟩, by omega, rfl⟩
    case round =>
      obtain ⟨i, rfl, ⟨k, rfl⟩, HD⟩ := hrel
      cases gk with
      | zero =>
        obtain ⟨h0, h1⟩ := HD.out
        obtain rfl : i = n := by omega
        have HF : Hid (decide (xs = ys) = true) := by
          have e1 : xs.take i = xs := List.take_of_length_le (by rw [HX.out]; exact Nat.le_refl _)
          have e2 : ys.take i = ys := List.take_of_length_le (by rw [HY.out]; exact Nat.le_refl _)
          rw [e1, e2] at h1
          exact decide_eq_true h1
        clear h0 h1 HD
        go_wp2_with fail
        go_ret
        exact ⟨by rw [HF.out]; rfl, pw_below_drewN (Below.refl _ _) k⟩
      | succ g =>
        have hlt : i < n := by have := HD.out.1; omega
        obtain ⟨ad, rfl, hcx⟩ := hx.2.2 (by omega)
        obtain ⟨bd, rfl, hcy⟩ := hy.2.2 (by omega)
        have hcxi := hcx i hlt
        have hcyi := hcy i hlt
        obtain ⟨x, hxe⟩ : ∃ x, xs.getD i 0 = x := ⟨_, rfl⟩
        obtain ⟨y, hye⟩ : ∃ y, ys.getD i 0 = y := ⟨_, rfl⟩
        have HXX : Hid (xs[i]? = some x) := Lib.hid (by
          have : i < xs.length := by have := HX.out; omega
          rw [← hxe, List.getD_eq_getElem?_getD, List.getElem?_eq_getElem this]; rfl)
        have HYY : Hid (ys[i]? = some y) := Lib.hid (by
          have : i < ys.length := by have := HY.out; omega
          rw [← hye, List.getD_eq_getElem?_getD, List.getElem?_eq_getElem this]; rfl)
        rw [hxe] at hcxi
        rw [hye] at hcyi
        have hbi : (i : Int) < (n : Int) := by omega
        clear hxe hye hcx hcy
        by_cases hxy : x = y
        · subst hxy
          have HE : Hid (xs.take (i + 1) = ys.take (i + 1)) := Lib.hid (by rw [snoc HXX.out, snoc HYY.out, HD.out.2])
          have hbb : (x != x) = false := by simp
          go_wp2_with fail
          go_quiet (fail)
          go_wp2_with fail
          go_roundg g
          case measure => omega
          case rel => exact ⟨i + 1, rfl, ⟨_, rfl⟩, by have := HD.out.1; omega, HE.out⟩
        · have HE : Hid (decide (xs = ys) = false) := Lib.hid (decide_eq_false (fun e => by
            have h1 := HXX.out
            rw [e, HYY.out] at h1
            injection h1 with h1
            exact hxy h1.symm))
          have hbb : (x != y) = true := by simpa using hxy
          clear hxy
          go_wp2_with fail
          go_quiet (fail)
          go_wp2_with fail
          go_ret
          exact ⟨by rw [HE.out]; rfl, pw_below_drewN (pw_below_drewN (Below.refl _ _) k) _⟩
  · have HF : Hid (decide (xs = ys) = false) := Lib.hid (decide_eq_false (fun e => hnm (by rw [← HX.out, ← HY.out, e])))
    have hb : ((n : Int) != (m : Int)) = true := by simp; omega
    go_wp2_with fail
    go_ret
    exact ⟨by rw [HF.out]; rfl, Below.refl _ _⟩
set_option maxHeartbeats 4000000 in
set_option maxRecDepth 100000 in
theorem rdrop_any (h : QS w q v S) (hok : S.ok) (Ak : Option Addr) (n c : Nat) (ks : List Int) (hk : ∀ W, Only w W (qf q v) → IR W Ak n ks) (hn : n ≤ 140737488351232) :
    Calls Try.prog 24 #[.pointer (some ⟨q, 0, none⟩), .slice Ak n c] w fun e w' => e = .returned (.int .i64 ((S.drops ks).2 : Int)) ∧ QLft w q v (S.drops ks).1 w' := by
  have H := Lib.hid h
  have HOK := Lib.hid hok
  have HK := Lib.hid hk
  have HKL := Lib.hid (hk w (Only.refl _ _)).len
  clear h hk hok
  go_enter Try.func24, Try.ntmps24
  go_wp2_with fail
  go_loopg [5, 6] n (fun gk v5 v6 w' => ∃ (i : Nat) (v' : Value), v6 = .int .i64 (i : Int) ∧ v5 = .int .i64 ((S.drops (ks.take i)).2 : Int) ∧ QS w' q v' (S.drops (ks.take i)).1 ∧ Only w w' (qf q v) ∧ Onto w (qf q v) (qf q v') ∧ Hid (i ≤ n ∧ gk = n - i))
  case atStart => exact ⟨0, v, rfl, by simp [Sp.drops], by simpa [Sp.drops] using H.out, Only.refl _ _, Onto.refl _ _, Lib.hid ⟨by omega, rfl⟩⟩
  case round =>
    obtain ⟨i, v', rfl, rfl, hQ, hO, hN, HG⟩ := hrel
    by_cases hi : i < n
    · obtain ⟨ad, k, rfl, hc, hk6, hx⟩ := (HK.out wr hO).at_ i hi
      have hi2 : (i : Int) < (n : Int) := by omega
      have hi9 : (i : Int) ≤ 140737488351232 := by omega
      have hsn := drops_snoc S (ks.take i) k
      rw [← snoc hx.out] at hsn
      have hok1 := drops_ok HOK.out (ks.take i)
      obtain ⟨S1, hS1⟩ : ∃ S1, (S.drops (ks.take i)).1 = S1 := ⟨_, rfl⟩
      obtain ⟨d, hd⟩ : ∃ d : Nat, (S.drops (ks.take i)).2 = d := ⟨_, rfl⟩
      have hdn : (d : Int) ≤ 140737488351232 := by
        have := drops_le S (ks.take i)
        rw [hd, List.length_take] at this
        omega
      rw [hS1, hd] at hsn
      rw [hS1] at hQ hok1
      rw [hd]
      have HQ := Lib.hid hQ
      have HO := Lib.hid hO
      have HN := Lib.hid hN
      have HOK1 := Lib.hid hok1
      have HSN := Lib.hid hsn
      clear hQ hO hN hsn hok1 hS1 hd hx
      go_wp2_with fail
      refine (rat_any HQ.out k).mono ?_
      rintro e w1 ⟨rfl, ⟨rfl, hf⟩ | ⟨A0, y, B, rfl, hl, hA⟩⟩
      · have hsn := HSN.out
        rw [hf, drop_out hf] at hsn
        have HS := Lib.hid hsn
        clear hsn hf HSN
        go_wp2_with fail
        go_roundg (gk - 1)
        case measure => have := HG.out.2; omega
        case rel =>
          refine ⟨i + 1, v', by simp, ?_, ?_, HO.out, HN.out, Lib.hid ⟨by omega, by have := HG.out.2; omega⟩⟩
          · rw [HS.out]; rfl
          · rw [HS.out]; exact HQ.out
      · have hers : ers S1.l k = A0 ++ B := by
          have hn := HOK1.out.1
          rw [hl, List.map_append, List.map_cons, List.nodup_append, List.nodup_cons] at hn
          have eA : ers A0 k = A0 := ers_out hA
          have eB : ers B k = B := ers_out (fun z hz e => hn.2.1.1 (e ▸ List.mem_map.2 ⟨z, hz, rfl⟩))
          rw [hl]
          unfold ers at *
          rw [List.filter_append, eA, List.filter_cons_of_neg (by simp), eB]
        have hf : fnd S1.l k = some y := by
          unfold fnd
          rw [hl, List.find?_append, List.find?_eq_none.2 (fun z hz => by simpa using hA z hz)]
          simp
        have hsn := HSN.out
        rw [hf, show S1.drop k = { S1 with l := A0 ++ B } by unfold Sp.drop; rw [hers]] at hsn
        have HS := Lib.hid hsn
        have HL := Lib.hid hl
        have hln : (A0 ++ B).length ≤ 4096 := by
          have h1 := HOK1.out.2.1
          have h2 := HOK1.out.2.2.2
          have : S1.l.length = (A0 ++ B).length + 1 := by rw [hl]; simp; omega
          omega
        have HLN := Lib.hid hln
        obtain ⟨j, hj⟩ : ∃ j, A0.length = j := ⟨_, rfl⟩
        have HJ := Lib.hid hj
        rw [hj]
        have hj0 : ((j : Int) ≥ 0) := by omega
        clear hsn hf HSN hers hl hA hj hln
        go_wp2_with fail
        refine (rwithout_any HQ.out HL.out (j : Int) (by rw [HJ.out])).mono ?_
        rintro e w2 ⟨v2, rfl, hown2, hb2⟩
        obtain ⟨A2, k2, rfl, _, _⟩ := own_rp hown2
        have HQ2 := Lib.hid (HQ.out.below hb2)
        have c2 := HQ2.out.c1
        have f2 := HQ2.out.fz 1
        have HQ3 := Lib.hid (HQ2.out.setL (own_less hown2 (Nat.zero_le _)) (by have := HLN.out; omega))
        have hO3 : Only w1 (w2.setCell ⟨q, 1, none⟩ (.slice A2 (A0 ++ B).length k2)) (qf q v') := (Only.of_below hb2 _).set q 1 _ (.inl (.inl rfl))
        have hN3 : Onto w1 (qf q v') (qf q (.slice A2 (A0 ++ B).length k2)) := fun j hj => by
          rcases hj with hj | hj
          · exact .inl (.inl hj)
          · exact .inr (own_blk hown2 hj).1
        have HO3 := Lib.hid (HO.out.then_ hO3 HN.out)
        have HN3 := Lib.hid (HN.out.trans hN3 HO.out.size)
        clear hO3 hN3 hown2 hb2
        obtain ⟨m2, hm2⟩ : ∃ m2, (A0 ++ B).length = m2 := ⟨_, rfl⟩
        rw [hm2] at HQ3 HO3 HN3 ⊢
        go_wp2_with fail
        go_roundg (gk - 1)
        case measure => have := HG.out.2; omega
        case rel =>
          refine ⟨i + 1, .slice A2 m2 k2, by simp, ?_, ?_, HO3.out, HN3.out, Lib.hid ⟨by omega, by have := HG.out.2; omega⟩⟩
          · rw [HS.out]; simp
          · rw [HS.out]; exact HQ3.out
    · have hi2 : ¬ (i : Int) < (n : Int) := by omega
      have he : ks.take i = ks := all_of (by have := HKL.out; omega)
      rw [he] at hQ ⊢
      have HQ := Lib.hid hQ
      have HO := Lib.hid hO
      have HN := Lib.hid hN
      obtain ⟨d, hd⟩ : ∃ d : Nat, (S.drops ks).2 = d := ⟨_, rfl⟩
      rw [hd]
      have HD := Lib.hid hd
      clear hQ hO hN he hd
      go_wp2_with fail
      go_ret
      exact ⟨by rw [HD.out]; rfl, v', HQ.out, HO.out, HN.out⟩
end
end Go.Proofs.Ytdhaoodkelehpaa
end
/-! The document's Resize. -/
section
set_option linter.unusedVariables false
namespace Go.Proofs.Ytdhaoodkelehpaa
open Go.RowKit Go.Kit Go.Proofs.YtdhaoodkelehpaaW.PrintWords
section
variable {w w1 : World} {q : Nat} {v : Value} {S : Sp Int} {X : Nat → Prop}
theorem rresize_bad (h : QS w q v S) (n : Int) (hn : n < 1 ∨ 4096 < n) : Calls Try.prog 25 #[.pointer (some ⟨q, 0, none⟩), .int .i64 n] w fun e w' => e = .returned (.tuple #[.slice none 0 0, .int .i64 1]) ∧ w' = w := by
  clear h
  by_cases h1 : n < 1
  · have b1 : decide (n < 1) = true := by simpa using h1
    clear hn h1
    go_enter Try.func25, Try.ntmps25
    go_wp2_with fail
    go_ret2
    exact ⟨rfl, rfl⟩
  · have b1 : decide (n < 1) = false := by simpa using h1
    have b2 : decide (n > 4096) = true := by simp; omega
    clear hn h1
    go_enter Try.func25, Try.ntmps25
    go_wp2_with fail
    go_ret2
    exact ⟨rfl, rfl⟩
/-- What Resize leaves. -/
def QRe (w : World) (q : Nat) (v : Value) (S : Sp Int) (n : Int) (e : Ending) (w' : World) : Prop :=
  ∃ u v', e = .returned (.tuple #[u, .int .i64 0]) ∧ QS w' q v' (S.resize n) ∧ Only w w' (qf q v) ∧ Onto w (qf q v) (qf q v') ∧ OI w' w.heap.size u (S.outs n.toNat)
def QRel (w : World) (q : Nat) (v : Value) (S : Sp Int) (n : Int) (len : Nat) (gk : Nat) (v6 : Value) (w' : World) : Prop :=
  ∃ (j : Nat) (v' : Value), QS w' q v' (Sp.sm S n len j) ∧ Only w w' (qf q v) ∧ Onto w (qf q v) (qf q v') ∧ OI w' w.heap.size v6 (S.outs (len - j)) ∧ Hid (j ≤ len - n.toNat ∧ gk = len - j)
theorem QS.sep_row {base : Nat} {u : Value} {xs : List Int} (h : QS w q v S) (ho : OI w base u xs) : Sep (qf q v) (rf u) := fun k hk hr => by
  obtain ⟨_, _, cur, hc⟩ := ho.block hr
  rcases hk with rfl | hk
  · exact absurd (not_both h.blk hc) (by decide)
  · obtain ⟨_, _, cur2, hc2⟩ := own_blk h.row hk
    exact absurd (not_both hc2 hc) (by decide)
theorem one_reads {W : World} {g : Nat} {k : Int} {t : TypeId} (h : W.heap[g]? = some (.cells #[.int .i64 k] t (0, 0))) : ReadsInt W .i64 (some ⟨g, 0, none⟩) 1 [k] :=
  ⟨rfl, by omega, fun _ => ⟨_, rfl, fun j hj => by
    obtain rfl : j = 0 := by omega
    exact cell_of_row W g 0 _ _ _ h⟩⟩
set_option maxHeartbeats 8000000 in
set_option maxRecDepth 100000 in
theorem rresize_any (h : QS w q v S) (hok : S.ok) (n : Int) (h1 : 1 ≤ n) (h2 : n ≤ 4096) (hgo : 0 ≤ S.go ∧ S.go ≤ 9223372036854771000) :
    Calls Try.prog 25 #[.pointer (some ⟨q, 0, none⟩), .int .i64 n] w (QRe w q v S n) := by
  have H := Lib.hid h
  have HG0 := Lib.hid hgo
  have b1 : decide (n < 1) = false := by simp; omega
  have b2 : decide (n > 4096) = false := by simp; omega
  have HN := Lib.hid (show 1 ≤ n ∧ n ≤ 4096 from ⟨h1, h2⟩)
  have m0 := h.c0
  have f0 := h.fz 0
  obtain ⟨len, hlen⟩ : ∃ len, S.l.length = len := ⟨_, rfl⟩
  have hsz : len ≤ 4096 := by have := hok.2.1; have := hok.2.2.2; omega
  have h0 : QS (w.setCell ⟨q, 0, none⟩ (.int .i64 n)) q v (Sp.sm S n len 0) := by
    have e1 : (Sp.sm S n len 0) = { S with most := n } := by
      unfold Sp.sm
      rw [Nat.sub_zero, List.take_of_length_le (by omega)]
      simp
    rw [e1]
    exact h.setN n
  have HS : Hid (QRel w q v S n len len (.slice none 0 0) (w.setCell ⟨q, 0, none⟩ (.int .i64 n))) := Lib.hid ⟨0, v, h0, (Only.refl _ _).set q 0 _ (.inl (.inl rfl)), Onto.refl _ _, by
    have : S.outs (len - 0) = [] := by unfold Sp.outs; rw [List.drop_eq_nil_of_le (by omega)]; rfl
    rw [this]; exact OI.nil _ _, Lib.hid ⟨Nat.zero_le _, by omega⟩⟩
  have HL := Lib.hid hlen
  clear h hok h1 h2 hlen h0 hgo
  go_enter Try.func25, Try.ntmps25
  go_wp2_with fail
  go_loopg [6] len (fun gk v6 w' => QRel w q v S n len gk v6 w')
  case atStart => exact HS.out
  case round =>
    clear HS m0 f0
    obtain ⟨j, v', hQ, hO, hN, hI, HG⟩ := hrel
    obtain ⟨ln, hln⟩ : ∃ ln : Nat, len - j = ln := ⟨_, rfl⟩
    have hll : (Sp.sm S n len j).l.length = ln := by
      show (S.l.take (len - j)).length = _
      rw [List.length_take, HL.out, hln]
      omega
    obtain ⟨A1, k1, hve, hr1, hk1⟩ := hQ.reads
    subst hve
    have c1 := hQ.c1
    have HQ := Lib.hid hQ
    have HO := Lib.hid hO
    have HN2 := Lib.hid hN
    have HI := Lib.hid hI
    have HLN := Lib.hid hln
    have HLL := Lib.hid hll
    rw [hll] at c1 hr1
    by_cases hgt : n < (ln : Int)
    · have hgt2 : (ln : Int) > n := hgt
      have hlm : (ln : Int) ≤ 4096 := by omega
      rcases List.eq_nil_or_concat (Sp.sm S n len j).l with hnil | ⟨A, e, hcat⟩
      · rw [hnil] at hll; simp at hll; have := HN.out; omega
      · rw [List.concat_eq_append] at hcat
        obtain ⟨ek, ev⟩ := e
        obtain ⟨ad, kc, hve, hcc, p0, p1, l0, l1⟩ := HQ.out.pair (B := []) hcat
        injection hve with hve1 hve2 hve3
        subst hve1 hve3
        have hal : A.length = ln - 1 := by rw [hcat] at hll; simp at hll; omega
        have hl1 : 1 ≤ ln := by have := HN.out; omega
        obtain ⟨i, hi⟩ : ∃ i, A.length = i := ⟨_, rfl⟩
        rw [hi] at p0 p1 hal
        have hil : ln = i + 1 := by omega
        have HIL := Lib.hid hil
        have hw1 : IntKind.i64.wrap ((ln : Int) - 1) = (i : Int) := by rw [IntKind.wrap_i64]; omega
        have l0' : (0 : Int) ≤ (i : Int) := by omega
        have hlt : (i : Int) < (ln : Int) := by omega
        have HCAT := Lib.hid hcat
        have HAI := Lib.hid hi
        clear hQ hO hN hI hll hln hcat hve2 hcc l0 l1 hr1 hi hil hal
        go_wp2_with fail
        have hown := HI.out
        unfold OI at hown
        have hl8 : ((S.outs (len - j)).length + 1) * 8 ≤ 140737488355328 := by
          unfold Sp.outs
          rw [List.length_reverse, List.length_map, List.length_drop, HL.out]
          omega
        have hba := below_drew (below_alloc (Below.refl wr.heap.size wr) (.cells #[.int .i64 ek] 3))
        have hone := one_reads (show ((wr.alloc (.cells #[.int .i64 ek] 3)).drew).heap[wr.heap.size]? = _ from heap_alloc_new wr _)
        have HBA := Lib.hid hba
        have HBW : Hid (Below w.heap.size wr ((wr.alloc (.cells #[.int .i64 ek] 3)).drew)) := Lib.hid ⟨hba.os, hba.tape, hba.output, hba.size, fun k hk => hba.block k (Nat.lt_of_lt_of_le hk HO.out.size)⟩
        have HSZ : Hid (w.heap.size ≤ ((wr.alloc (.cells #[.int .i64 ek] 3)).drew).heap.size) := Lib.hid (Nat.le_trans HO.out.size hba.size)
        have HON := Lib.hid hone
        have hsep := HQ.out.sep_row HI.out
        have HNQ : Hid (¬ rf u6 q) := Lib.hid (hsep q (.inl rfl))
        have HNA : Hid (¬ rf u6 (ad.add (i * 2)).block) := Lib.hid (by rw [Go.Kit.add_block]; exact hsep ad.block (.inr rfl))
        clear hba hone hsep
        go_region_held3 (fun W => W.cell? ⟨q, 1, none⟩ = some (.slice (some ad) ln k1) ∧ W.cell? (ad.add (i * 2)) = some (.int .i64 ek))
          (first
            | exact ⟨c1, p0⟩
            | exact ⟨pw_cell_below HBA.out c1, pw_cell_below HBA.out p0⟩
            | exact ⟨Only.cell ((Only.of_below HBA.out (rf u6)).grown hg5 (fun k e => .inl e)) c1 HNQ.out, Only.cell ((Only.of_below HBA.out (rf u6)).grown hg5 (fun k e => .inl e)) p0 HNA.out⟩)
          ((refine at_list rfl ?_; intro Q2 hQ2; at_builtin; refine print_append_row (w0 := wr) w.heap.size rfl (.tmp 24) (.tmp 38) 28 3 .i64 8 rfl Try.underlying28 int_info (by decide) _ _ [ek] (some ⟨wr.heap.size, 0, none⟩) 1 1 rfl rfl (pw_own_below hown HBA.out) HON.out HBW.out HSZ.out hl8 ?_; intro v5 w5 hown5 hb5 hg5 ha5; refine hQ2 _ _ ?_; clear hQ2 Q2))
        all_goals
          have ho5 : Only wr w5 (rf u6) := (Only.of_below HBA.out (rf u6)).grown hg5 (fun k e => .inl e)
          have hQ5 := HQ.out.only ho5 (HQ.out.sep_row HI.out)
          have hI5 : OI w5 w.heap.size v5 (S.outs (len - j) ++ [ek]) := hown5
          have c5 := hQ5.c1
          rw [HLL.out] at c5
          have HQ5 := Lib.hid hQ5
          have HI5 := Lib.hid hI5
          have HSZ5 : Hid (wr.heap.size ≤ w5.heap.size) := Lib.hid ho5.size
          have hoa : Only w w5 (qf q v) := HO.out.then_ ho5 (fun k hk => .inr (HI.out.block hk).1)
          have HOA := Lib.hid hoa
          clear hQ5 hI5 ho5 hoa hown5 hb5 hg5 ha5 c1 p0 p1 hown hl8
          go_wp2_with fail
          refine (rwithout_any HQ5.out HCAT.out (i : Int) (by rw [HAI.out])).mono ?_
          rintro e w6 ⟨v6, rfl, hown6, hb6⟩
          obtain ⟨A6, k6, rfl, _, _⟩ := own_rp hown6
          have HQ6 := Lib.hid (HQ5.out.below hb6)
          have HI6 := Lib.hid (HI5.out.below hb6)
          have c6 := HQ6.out.c1
          have f6 := HQ6.out.fz 1
          have hQ7 := HQ6.out.setL (own_less hown6 (Nat.zero_le _)) (by rw [List.append_nil, HAI.out]; have := HIL.out; omega)
          have hO7 : Only w5 (w6.setCell ⟨q, 1, none⟩ (.slice A6 (A ++ []).length k6)) (qf q (.slice (some ad) (Sp.sm S n len j).l.length k1)) := (Only.of_below hb6 _).set q 1 _ (.inl (.inl rfl))
          have hN7 : Onto w5 (qf q (.slice (some ad) (Sp.sm S n len j).l.length k1)) (qf q (.slice A6 (A ++ []).length k6)) := fun j hj => by
            rcases hj with hj | hj
            · exact .inl (.inl hj)
            · exact .inr (own_blk hown6 hj).1
          have hnq : ¬ rf v5 q := HQ6.out.sep_row HI6.out q (.inl rfl)
          have hI7 := HI6.out.only ((Only.refl w6 (fun k => k = q)).set q 1 (.slice A6 (A ++ []).length k6) (.inl rfl)) (fun k hk e => hnq (e ▸ hk))
          have hO8 := HOA.out.then_ hO7 HN2.out
          have hN8 := HN2.out.trans (fun k hk => (hN7 k hk).elim .inl (fun e => .inr (Nat.le_trans HSZ5.out e))) HO.out.size
          have hgo := HG0.out
          obtain ⟨go, hgo1⟩ : ∃ go, S.go + (j : Int) = go := ⟨_, rfl⟩
          have HGO := Lib.hid hgo1
          have hgb : 0 ≤ go ∧ go ≤ 9223372036854775806 := by have := HG.out.1; omega
          have HQ7 := Lib.hid hQ7
          have HI7 := Lib.hid hI7
          have HO8 := Lib.hid hO8
          have HN8 := Lib.hid hN8
          clear hQ7 hI7 hO7 hN7 hO8 hN8 hown6 hb6 hnq hgo hgo1
          obtain ⟨m6, hm6⟩ : ∃ m6, (A ++ []).length = m6 := ⟨_, rfl⟩
          rw [hm6] at HQ7 HI7 HO8 HN8 ⊢
          go_upto_region 8 with (fail)
          generalize w6.setCell ⟨q, 1, none⟩ (.slice A6 m6 k6) = w7 at *
          have c7 : w7.cell? ⟨q, 4, none⟩ = some (.int .i64 go) := HQ7.out.c4.trans (by rw [← HGO.out]; rfl)
          have f7 := HQ7.out.fz 4
          obtain ⟨hg0, hg1⟩ := hgb
          go_wp2_with fail
          have htl := take_last (l := S.l) (i := len - j) (A := A) (e := (ek, ev)) (by have := HL.out; omega) HCAT.out
          have hsm : Sp.sm S n len (j + 1) = { ({ Sp.sm S n len j with l := A ++ [] } : Sp Int) with go := go + 1 } := by
            unfold Sp.sm
            rw [List.append_nil, htl.1, show len - (j + 1) = len - j - 1 by omega, ← HGO.out]
            simp only [Int.natCast_add, Int.add_assoc]
            rfl
          have hou : S.outs (len - (j + 1)) = S.outs (len - j) ++ [ek] := by
            unfold Sp.outs
            rw [show len - (j + 1) = len - j - 1 by omega, htl.2.2]
            simp
          have hnq7 : ¬ rf v5 q := HQ7.out.sep_row HI7.out q (.inl rfl)
          have hI9 := HI7.out.only ((Only.refl w7 (fun k => k = q)).set q 4 (.int .i64 (go + 1)) (.inl rfl)) (fun k hk e => hnq7 (e ▸ hk))
          go_roundg (gk - 1)
          case measure => have := HG.out.2; have := HLN.out; have := HN.out; omega
          case rel => exact ⟨j + 1, .slice A6 m6 k6, by rw [hsm]; exact HQ7.out.setG (go + 1), HO8.out.set q 4 _ (.inl (.inl rfl)), HN8.out, by rw [hou]; exact hI9, Lib.hid ⟨by have := HLN.out; have := HN.out; have := HG.out.1; omega, by have := HG.out.2; omega⟩⟩
    · have hgt2 : ¬ (ln : Int) > n := hgt
      have hlm : (ln : Int) ≤ 4096 := by omega
      clear hQ hO hN hI hll hln hr1
      go_wp2_with fail
      go_ret2
      have hj := HG.out.1
      have hl1 := HLN.out
      have hn1 := HN.out
      have hl2 := HL.out
      have hsm : Sp.sm S n len j = S.resize n := by
        unfold Sp.sm Sp.resize
        have e1 : S.l.take (len - j) = S.l.take n.toNat := by
          by_cases hc : len ≤ n.toNat
          · rw [List.take_of_length_le (by omega), List.take_of_length_le (by omega)]
          · rw [show len - j = n.toNat by omega]
        rw [e1, hl2, show len - n.toNat = j by omega]
      have hou : S.outs (len - j) = S.outs n.toNat := by
        unfold Sp.outs
        by_cases hc : len ≤ n.toNat
        · rw [List.drop_eq_nil_of_le (by omega), List.drop_eq_nil_of_le (by omega)]
        · rw [show len - j = n.toNat by omega]
      exact ⟨_, _, rfl, by rw [← hsm]; exact HQ.out, HO.out, HN2.out, by rw [← hou]; exact HI.out⟩
end
end Go.Proofs.Ytdhaoodkelehpaa
end
/-! All: keys and values as they stand. -/
section
set_option linter.unusedVariables false
namespace Go.Proofs.Ytdhaoodkelehpaa
open Go.RowKit Go.Kit Go.Proofs.YtdhaoodkelehpaaW.PrintWords
section
variable {w w1 : World} {m b : Nat} {L : List (En Int)} {S : Sp Int} {F : Nat → Prop}
/-- What All hands back: a function over two boxes, each with a row. -/
structure AllAt (w W : World) (b1 b2 : Nat) (v1 v2 : Value) (ks vs : List Int) : Prop where
  h1 : W.heap[b1]? = some (.cells #[v1] 28 (0, 0))
  h2 : W.heap[b2]? = some (.cells #[v2] 28 (0, 0))
  o1 : OI W w.heap.size v1 ks
  o2 : OI W w.heap.size v2 vs
  l1 : w.heap.size ≤ b1
  l2 : w.heap.size ≤ b2
  ne : b1 ≠ b2
  sp : Sep (rf v1) (rf v2)
  bel : Below w.heap.size w W
theorem AllAt.below {w W W1 : World} {b1 b2 : Nat} {v1 v2 : Value} {ks vs : List Int} (h : AllAt w W b1 b2 v1 v2 ks vs) (hb : Below W.heap.size W W1) : AllAt w W1 b1 b2 v1 v2 ks vs :=
  ⟨blk_below h.h1 hb, blk_below h.h2 hb, h.o1.below hb, h.o2.below hb, h.l1, h.l2, h.ne, h.sp, below_step h.bel hb⟩
/-- An entry in its row. -/
theorem entry_at (h : MeI w m b KyN L S) {i : Nat} {e : En Int} (he : L[i]? = some e) : w.cell? ⟨e.a, 0, none⟩ = some (.int .i64 e.k) ∧ w.cell? ⟨e.a, 1, none⟩ = some (.int .i64 e.v) ∧ w.cell? ⟨e.a, 3, none⟩ = some (pv (hdo (L.drop (i + 1)) none)) ∧ w.cell? ⟨e.a, 2, none⟩ = some (pv (lso none (L.take i))) ∧ hdo (L.drop i) none = some e.a ∧ e.a < w.heap.size := by
  obtain ⟨hlt, hg⟩ := List.getElem?_eq_some_iff.1 he
  have hc := h.ls.ch
  have hsp : L = L.take i ++ e :: L.drop (i + 1) := by
    conv => lhs; rw [← List.take_append_drop i L, List.drop_eq_getElem_cons hlt, hg]
  rw [hsp, chain_append] at hc
  have hb := hc.2.1
  refine ⟨cell_of_row w _ 0 _ _ _ hb, cell_of_row w _ 1 _ _ _ hb, cell_of_row w _ 3 _ _ _ hb, cell_of_row w _ 2 _ _ _ hb, ?_, lt_of_block hb⟩
  rw [List.drop_eq_getElem_cons hlt, hg]; rfl
theorem OI.set {W : World} {base g j : Nat} {v u : Value} {xs : List Int} {t : TypeId} {cs : Array Value} (h : OI W base v xs) (hg : W.heap[g]? = some (.cells cs t (0, 0))) (ht : t ≠ 3) : OI (W.setCell ⟨g, j, none⟩ u) base v xs :=
  h.only ((Only.refl W (fun k => k = g)).set g j u (.inl rfl)) (fun k hk e => by
    obtain ⟨_, _, cur, hc⟩ := h.block hk
    rw [e] at hc
    exact ht (not_both hg hc))
theorem oi_not {W : World} {base g : Nat} {v : Value} {xs : List Int} {t : TypeId} {cs : Array Value} (h : OI W base v xs) (hg : W.heap[g]? = some (.cells cs t (0, 0))) (ht : t ≠ 3) : ¬ rf v g := fun hk => by
  obtain ⟨_, _, cur, hc⟩ := h.block hk
  exact ht (not_both hg hc)
theorem AllAt.mid1 {w W W1 W2 : World} {b1 b2 : Nat} {v1 v2 : Value} {ks vs : List Int} (h0 : AllAt w W b1 b2 v1 v2 ks vs) (hb : Below W.heap.size W W1) (hg : W1.grownBy W2 v1.ownBlock) : W2.heap[b1]? = some (.cells #[v1] 28 (0, 0)) := by
  have h := h0.below hb
  exact Only.kept (S := rf v1) ((Only.refl _ _).grown hg (fun k e => .inl e)) h.h1 (oi_not h.o1 h.h1 (by decide))
theorem AllAt.mid2 {w W W1 W2 : World} {b1 b2 : Nat} {v1 v2 : Value} {ks vs : List Int} (h0 : AllAt w W b1 b2 v1 v2 ks vs) (hb : Below W.heap.size W W1) (hg : W1.grownBy W2 v2.ownBlock) : W2.heap[b2]? = some (.cells #[v2] 28 (0, 0)) := by
  have h := h0.below hb
  exact Only.kept (S := rf v2) ((Only.refl _ _).grown hg (fun k e => .inl e)) h.h2 (oi_not h.o2 h.h2 (by decide))
/-- A key is laid behind the keys. -/
theorem AllAt.push1 {w W W1 W2 : World} {b1 b2 : Nat} {v1 v2 u : Value} {ks vs : List Int} {k : Int} (h0 : AllAt w W b1 b2 v1 v2 ks vs) (hb : Below W.heap.size W W1) (hg : W1.grownBy W2 v1.ownBlock) (ho : OI W2 w.heap.size u (ks ++ [k])) (hu : u.ownBlock = v1.ownBlock ∨ ∃ j, u.ownBlock = some j ∧ W1.heap.size ≤ j) :
    AllAt w (W2.setCell ⟨b1, 0, none⟩ u) b1 b2 u v2 (ks ++ [k]) vs := by
  have h := h0.below hb
  have hO : Only W1 W2 (rf v1) := (Only.refl _ _).grown hg (fun k e => .inl e)
  have g1 := hO.kept h.h1 (oi_not h.o1 h.h1 (by decide))
  have g2 := hO.kept h.h2 (oi_not h.o1 h.h2 (by decide))
  have p2 := h.o2.only hO h.sp.symm
  have hb2 : Below w.heap.size w W2 := Below.only h.bel hO h.bel.size (fun k hk => (h.o1.block hk).1)
  refine ⟨heap_set_same W2 b1 0 _ _ _ g1, (heap_setCell_other _ _ _ _ h.ne.symm).trans g2, ho.set g1 (by decide), p2.set g1 (by decide), h.l1, h.l2, h.ne, fun j hj hk => ?_, Below.only hb2 ((Only.refl W2 (fun k => k = b1)).set b1 0 u (.inl rfl)) hb2.size (fun k e => e ▸ h.l1)⟩
  rcases hu with e | ⟨i, e, hi⟩
  · exact h.sp j (show v1.ownBlock = some j from e ▸ hj) hk
  · have h1 : u.ownBlock = some j := hj
    rw [e] at h1
    injection h1 with h1
    have := (h.o2.block hk).2.1
    omega
theorem AllAt.push2 {w W W1 W2 : World} {b1 b2 : Nat} {v1 v2 u : Value} {ks vs : List Int} {k : Int} (h0 : AllAt w W b1 b2 v1 v2 ks vs) (hb : Below W.heap.size W W1) (hg : W1.grownBy W2 v2.ownBlock) (ho : OI W2 w.heap.size u (vs ++ [k])) (hu : u.ownBlock = v2.ownBlock ∨ ∃ j, u.ownBlock = some j ∧ W1.heap.size ≤ j) :
    AllAt w (W2.setCell ⟨b2, 0, none⟩ u) b1 b2 v1 u ks (vs ++ [k]) := by
  have hs : AllAt w W b2 b1 v2 v1 vs ks := ⟨h0.h2, h0.h1, h0.o2, h0.o1, h0.l2, h0.l1, h0.ne.symm, h0.sp.symm, h0.bel⟩
  have h := hs.push1 hb hg ho hu
  exact ⟨h.h2, h.h1, h.o2, h.o1, h.l2, h.l1, h.ne.symm, h.sp.symm, h.bel⟩
def AlRel (w : World) (b1 b2 : Nat) (L : List (En Int)) (gk : Nat) (v5 : Value) (W : World) : Prop :=
  ∃ (i : Nat) (v1 v2 : Value), v5 = pv (hdo (L.drop i) none) ∧ AllAt w W b1 b2 v1 v2 ((L.take i).map (·.k)) ((L.take i).map (·.v)) ∧ Hid (i ≤ L.length ∧ gk = L.length - i)
set_option maxHeartbeats 8000000 in
set_option maxRecDepth 100000 in
theorem all_any (h : MeI w m b KyN L S) : Calls Try.prog 22 #[.pointer (some ⟨m, 0, none⟩)] w fun e w' => ∃ b1 b2 v1 v2, e = .returned (.func (.func 40) #[] #[.pointer (some ⟨b1, 0, none⟩), .pointer (some ⟨b2, 0, none⟩)]) ∧ AllAt w w' b1 b2 v1 v2 (S.l.map (·.1)) (S.l.map (·.2)) := by
  have H := Lib.hid h
  have h2 : w.cell? ⟨m, 2, none⟩ = some (pv (hdo L none)) := cell_of_row w _ 2 _ _ _ h.ls.bk
  have hba := below_alloc (below_alloc (Below.refl w.heap.size w) (.cells #[.slice none 0 0] 28)) (.cells #[.slice none 0 0] 28)
  have hA : AllAt w ((w.alloc (.cells #[.slice none 0 0] 28)).alloc (.cells #[.slice none 0 0] 28)) w.heap.size (w.heap.size + 1) (.slice none 0 0) (.slice none 0 0) [] [] := by
    refine ⟨?_, ?_, OI.nil _ _, OI.nil _ _, Nat.le_refl _, Nat.le_succ _, Nat.ne_of_lt (Nat.lt_succ_self _), fun k hk _ => (by cases hk), hba⟩
    · exact blk_below (heap_alloc_new w _) (below_alloc (Below.refl _ _) _)
    · have he : w.heap.size + 1 = (w.alloc (.cells #[.slice none 0 0] 28)).heap.size := by simp
      rw [he]
      exact heap_alloc_new _ _
  have HA := Lib.hid hA
  have HB := Lib.hid (h.below hba)
  have h2a := pw_cell_below hba h2
  clear h hba hA h2
  go_enter Try.func22, Try.ntmps22
  go_wp2_with fail
  refine HB.out.made.mono ?_
  rintro e w1 ⟨rfl, rfl⟩
  go_wp2_with fail
  obtain ⟨b1, hb1⟩ : ∃ b1, w.heap.size = b1 := ⟨_, rfl⟩
  obtain ⟨b2, hb2⟩ : ∃ b2, b1 + 1 = b2 := ⟨_, rfl⟩
  rw [hb1, hb2] at HA ⊢
  clear h2a hb1 hb2
  have hml := H.out.max
  obtain ⟨n, hn⟩ : ∃ n, L.length = n := ⟨_, rfl⟩
  have HN := Lib.hid hn
  rw [hn] at hml
  have HS : Hid (AlRel w b1 b2 L n (pv (hdo L none)) ((w.alloc (.cells #[.slice none 0 0] 28)).alloc (.cells #[.slice none 0 0] 28))) := Lib.hid ⟨0, _, _, rfl, HA.out, Lib.hid ⟨Nat.zero_le _, by omega⟩⟩
  clear HA hn
  go_loopg [5] n (fun gk v5 W => AlRel w b1 b2 L gk v5 W)
  case atStart => exact HS.out
  case round =>
    clear HS HB
    obtain ⟨i, v1, v2, rfl, hA, HG⟩ := hrel
    cases he : L[i]? with
    | none =>
      have hle : L.length ≤ i := List.getElem?_eq_none_iff.1 he
      have hd : L.drop i = [] := List.drop_eq_nil_of_le hle
      have ht : L.take i = L := List.take_of_length_le hle
      rw [hd]
      rw [ht] at hA
      have HA := Lib.hid hA
      clear hA hd ht he
      rw [show pv (hdo ([] : List (En Int)) none) = .pointer none from rfl]
      go_wp2_with fail
      go_ret
      refine ⟨b1, b2, v1, v2, rfl, ?_⟩
      have e1 : S.l.map (·.1) = L.map (·.k) := by rw [H.out.eq]; simp [kvs, List.map_map, Function.comp_def]
      have e2 : S.l.map (·.2) = L.map (·.v) := by rw [H.out.eq]; simp [kvs, List.map_map, Function.comp_def]
      rw [e1, e2]
      exact HA.out
    | some e =>
      obtain ⟨q0, q1, q3, _, qd, qlt⟩ := entry_at H.out he
      rw [qd]
      obtain ⟨hlt, hge⟩ := List.getElem?_eq_some_iff.1 he
      have QE := Lib.hid (And.intro q1 q3)
      replace q0 := pw_cell_below hA.bel q0
      replace q1 := pw_cell_below hA.bel q1
      replace q3 := pw_cell_below hA.bel q3
      have hs1 : (L.take (i + 1)).map (·.k) = (L.take i).map (·.k) ++ [e.k] := by rw [snoc he, List.map_append]; rfl
      have hs2 : (L.take (i + 1)).map (·.v) = (L.take i).map (·.v) ++ [e.v] := by rw [snoc he, List.map_append]; rfl
      have HS1 := Lib.hid hs1
      have HS2 := Lib.hid hs2
      have hl1 : (((L.take i).map (·.k)).length + 1) * 8 ≤ 140737488355328 := by rw [List.length_map, List.length_take]; have := HN.out; have := Nat.min_le_right i L.length; omega
      have hl2 : (((L.take i).map (·.v)).length + 1) * 8 ≤ 140737488355328 := by rw [List.length_map, List.length_take]; have := HN.out; have := Nat.min_le_right i L.length; omega
      obtain ⟨ea, ek, ev⟩ := e
      dsimp only at q0 q1 q3 qlt HS1 HS2 QE ⊢
      have HA := Lib.hid hA
      have c1 := cell_of_row wr b1 0 _ _ _ hA.h1
      have f1 := frozen_of_row wr b1 0 _ _ hA.h1
      simp only [List.getElem?_toArray, List.getElem?_cons_zero] at c1
      generalize (L.take i).map (·.k) = ks at *
      generalize (L.take i).map (·.v) = vs at *
      have hown := hA.o1
      unfold OI at hown
      have c1a := pw_cell_below (below_drew (below_alloc (Below.refl wr.heap.size wr) (.cells #[.int .i64 ek] 3))) c1
      have c1b := pw_cell_below (below_alloc (below_drew (Below.refl wr.heap.size wr)) (.cells #[.int .i64 ek] 3)) c1
      have c1c := pw_cell_below (below_alloc (Below.refl wr.heap.size wr) (.cells #[.int .i64 ek] 3)) c1
      clear hs1 hs2 he hge qd hA
      rw [show pv (some ea) = .pointer (some ⟨ea, 0, none⟩) from rfl]
      go_wp2_with fail
      go_region_law ((refine at_list rfl ?_; intro Q2 hQ2; at_builtin; refine print_append_row (w0 := w) w.heap.size rfl (.tmp 18) (.tmp 23) 28 3 .i64 8 rfl Try.underlying28 int_info (by decide) _ _ [ek] (some ⟨wr.heap.size, 0, none⟩) 1 1 rfl rfl (pw_own_below hown (by first | exact below_drew (below_alloc (Below.refl wr.heap.size wr) _) | exact below_alloc (below_drew (Below.refl _ _)) _)) (one_reads (t := 3) (heap_alloc_new wr _)) (below_step HA.out.bel (by first | exact below_drew (below_alloc (Below.refl _ _) _) | exact below_alloc (below_drew (Below.refl _ _)) _)) (Nat.le_trans HA.out.bel.size (by simp)) hl1 ?_; intro u5 w5 hown5 hb5 hg5 hat5; obtain ⟨A5, k5, rfl, _⟩ := own_reads hown5; have HP := Lib.hid (AllAt.push1 HA.out (W1 := (wr.alloc (.cells #[.int .i64 ek] 3)).drew) (below_drew (below_alloc (Below.refl _ _) _)) hg5 hown5 hat5); have g5 := AllAt.mid1 HA.out (W1 := (wr.alloc (.cells #[.int .i64 ek] 3)).drew) (below_drew (below_alloc (Below.refl _ _) _)) hg5; have c5 := cell_of_row w5 b1 0 _ _ _ g5; have f5 := frozen_of_row w5 b1 0 _ _ g5; simp only [List.getElem?_toArray, List.getElem?_cons_zero] at c5; obtain ⟨n5, hn5⟩ : ∃ n5, (ks ++ [ek]).length = n5 := ⟨_, rfl⟩; rw [hn5] at HP ⊢; refine hQ2 _ _ ?_; clear hQ2 Q2 hg5 hat5 hb5 g5 hn5 hown5))
      all_goals
        generalize w5.setCell ⟨b1, 0, none⟩ (.slice A5 n5 k5) = w6 at *
        have HP6 := HP
        clear HP HA c1 f1 c1a c1b c1c hown c5 f5 q0 q1 q3
        have e1 := cell_of_row w6 b2 0 _ _ _ HP6.out.h2
        have f2 := frozen_of_row w6 b2 0 _ _ HP6.out.h2
        simp only [List.getElem?_toArray, List.getElem?_cons_zero] at e1
        have e1a := pw_cell_below (below_drew (below_alloc (Below.refl w6.heap.size w6) (.cells #[.int .i64 ev] 3))) e1
        have e1b := pw_cell_below (below_alloc (below_drew (Below.refl w6.heap.size w6)) (.cells #[.int .i64 ev] 3)) e1
        have e1c := pw_cell_below (below_alloc (Below.refl w6.heap.size w6) (.cells #[.int .i64 ev] 3)) e1
        have q1 := pw_cell_below HP6.out.bel QE.out.1
        have hown2 := HP6.out.o2
        unfold OI at hown2
        go_wp2_with fail
        go_region_law ((refine at_list rfl ?_; intro Q2 hQ2; at_builtin; refine print_append_row (w0 := w) w.heap.size rfl (.tmp 25) (.tmp 30) 28 3 .i64 8 rfl Try.underlying28 int_info (by decide) _ _ [ev] (some ⟨w6.heap.size, 0, none⟩) 1 1 rfl rfl (pw_own_below hown2 (by first | exact below_drew (below_alloc (Below.refl w6.heap.size w6) _) | exact below_alloc (below_drew (Below.refl _ _)) _)) (one_reads (t := 3) (heap_alloc_new w6 _)) (below_step HP6.out.bel (by first | exact below_drew (below_alloc (Below.refl _ _) _) | exact below_alloc (below_drew (Below.refl _ _)) _)) (Nat.le_trans HP6.out.bel.size (by simp)) hl2 ?_; intro u5 w7 hown7 hb5 hg5 hat5; obtain ⟨A7, k7, rfl, _⟩ := own_reads hown7; have HP := Lib.hid (AllAt.push2 HP6.out (W1 := (w6.alloc (.cells #[.int .i64 ev] 3)).drew) (below_drew (below_alloc (Below.refl _ _) _)) hg5 hown7 hat5); have g5 := AllAt.mid2 HP6.out (W1 := (w6.alloc (.cells #[.int .i64 ev] 3)).drew) (below_drew (below_alloc (Below.refl _ _) _)) hg5; have c5 := cell_of_row w7 b2 0 _ _ _ g5; have f5 := frozen_of_row w7 b2 0 _ _ g5; simp only [List.getElem?_toArray, List.getElem?_cons_zero] at c5; obtain ⟨n7, hn7⟩ : ∃ n7, (vs ++ [ev]).length = n7 := ⟨_, rfl⟩; rw [hn7] at HP ⊢; refine hQ2 _ _ ?_; clear hQ2 Q2 hg5 hat5 hb5 g5 hn7 hown7))
        all_goals
          generalize w7.setCell ⟨b2, 0, none⟩ (.slice A7 n7 k7) = w8 at *
          have q3 := pw_cell_below HP.out.bel QE.out.2
          clear e1 f2 e1a e1b e1c q1 hown2 c5 f5 HP6
          go_wp2_with fail
          go_roundg (gk - 1)
          case measure => have := HG.out; omega
          case rel => exact ⟨i + 1, _, _, rfl, by rw [HS1.out, HS2.out]; exact HP.out, Lib.hid ⟨by omega, by have := HG.out.2; omega⟩⟩
end
end Go.Proofs.Ytdhaoodkelehpaa
end
/-! What All hands back, ranged over: its contract. -/
section
set_option linter.unusedVariables false
namespace Go.Kit
open Go.RowKit
/-- All below n but the blocks of X stands. -/
def Keep (n : Nat) (X : Nat → Prop) (W W' : World) : Prop := ∀ k, k < n → ¬ X k → W'.heap[k]? = W.heap[k]?
theorem Keep.refl (n : Nat) (X : Nat → Prop) (W : World) : Keep n X W W := fun _ _ _ => rfl
theorem Keep.trans {n : Nat} {X : Nat → Prop} {A B C : World} (h : Keep n X A B) (k : Keep n X B C) : Keep n X A C := fun i hi hx => (k i hi hx).trans (h i hi hx)
theorem Keep.cell {n : Nat} {X : Nat → Prop} {A B : World} (h : Keep n X A B) {a : Addr} (ha : a.block < n) (hx : ¬ X a.block) : B.cell? a = A.cell? a := World.cell?_of_block (h _ ha hx)
theorem Keep.putObj {n : Nat} (X : Nat → Prop) (W : World) (l : Nat) (o' : Obj) (hl : n ≤ l) : Keep n X W (W.putObj l o') := fun k hk _ => World.putObj_heap_other (by omega)
section
variable {F : Fence} {n : Nat} {P : Program} {md : Region.Mode} {ops : Array Oper} {Q : Exit → Act → World → Prop}
/-- An operation that defers nothing is carried out in a round as everywhere. -/
theorem opIn_round (l : Nat) (hro : F.round = none) (hnd : ∀ (i : Nat) o, ops[i]? = some o → ∀ c, o.op ≠ .defer c) {i : Nat} {a : Act} {w : World} {K K' : Act → World → Prop} (hK : ∀ a w, K a w → K' a w) (h : wpOpIn F n P ops Q i K a w) : wpOpIn (F.inRound l) n P ops Q i K' a w := by
  have h1 := wpOpIn_mono hK h
  unfold wpOpIn at h1 ⊢
  cases ho : ops[i]? with
  | none => simpa [ho] using h1
  | some o =>
    simp only [ho] at h1 ⊢
    by_cases hw : Region.wanted o (yielded ops a.tmps) = true
    · rw [if_pos hw] at h1 ⊢
      unfold Oper.wpIn at h1 ⊢
      rw [hro, Oper.semAt_none] at h1
      rw [Fence.inRound_round, Oper.semAt_eq _ _ _ (hnd i o ho)]
      exact h1
    · rw [if_neg hw] at h1 ⊢
      exact h1
theorem anyIn_round (l : Nat) (hro : F.round = none) (hnd : ∀ (i : Nat) o, ops[i]? = some o → ∀ c, o.op ≠ .defer c) : ∀ (fuel : Nat) (listed : Array Bool) (a : Act) (w : World), wpAnyIn F n P md ops Q fuel listed a w → wpAnyIn (F.inRound l) n P md ops Q fuel listed a w
  | 0, listed, a, w, h => h
  | fuel + 1, listed, a, w, h => ⟨h.1, fun i hi => opIn_round l hro hnd (fun a w => anyIn_round l hro hnd fuel _ a w) (h.2 i hi)⟩
/-- A region that only reads, in a round. -/
theorem quiet_round {id l : Nat} {a : Act} {w : World} {os : List Oper} (hro : F.round = none) (hm : P.follows .mixedOrders = true) (hB : Region.lexB .any os.toArray = true) (hnd : ∀ (i : Nat) o, os.toArray[i]? = some o → ∀ c, o.op ≠ .defer c)
    (h : wpQuietIn F n P os.toArray (fun w' => ∃ n, w' = w.drewN n) (fun a' => ∀ w', (∃ n, w' = w.drewN n) → Q .normal a' w') os a) : (Code.region id os.toArray true).wpIn (F.inRound l) n P Q a w := by
  simp only [Region.lexB, Bool.and_eq_true] at hB
  refine wpIn_region_any hm (anyIn_round l hro hnd _ _ _ _ (wpAnyIn_of_quiet (C := fun w' => ∃ n, w' = w.drewN n) (Q := fun a' => ∀ w', (∃ n, w' = w.drewN n) → Q .normal a' w') hro (fun _ w' hw' h => h w' hw') _ _ _ _ ⟨1, rfl⟩ ?_))
  have := wpAnyQIn_lex (F := F) (n := n) (C := fun w' => ∃ n, w' = w.drewN n) (md := .any) hB.1 os 0 (Array.replicate os.toArray.size false) a (by simp) (by simpa using hB.2) h
  simpa using this
end
end Go.Kit
namespace Go.Proofs.Ytdhaoodkelehpaa
open Go.RowKit Go.Kit Go.Shelf Go.Proofs.YtdhaoodkelehpaaW.PrintWords
attribute [local go_sem] Oper.semAt_some
/-- Pairs to be told: two boxes, each with a row, that X leaves alone. -/
structure Tells (w : World) (b1 b2 : Nat) (l : List (Int × Int)) (X : Nat → Prop) : Prop where
  e : ∃ A1 c1 A2 c2, w.cell? ⟨b1, 0, none⟩ = some (.slice A1 l.length c1) ∧ w.cell? ⟨b2, 0, none⟩ = some (.slice A2 l.length c2) ∧
    (∀ (j : Nat) x, l[j]? = some x → ∃ ad bd, A1 = some ad ∧ A2 = some bd ∧ w.cell? (ad.add j) = some (.int .i64 x.1) ∧ w.cell? (bd.add j) = some (.int .i64 x.2) ∧ ad.block < w.heap.size ∧ bd.block < w.heap.size ∧ ¬ X ad.block ∧ ¬ X bd.block)
  x1 : ¬ X b1
  x2 : ¬ X b2
  s1 : b1 < w.heap.size
  s2 : b2 < w.heap.size
  len : l.length ≤ 4096
set_option maxRecDepth 100000 in
set_option maxHeartbeats 4000000 in
theorem tells_stops (F : Fence) (n : Nat) (hF : F.fn 40) (hro : F.round = none) (hn : 1 ≤ n) {w : World} {b1 b2 : Nat} {l : List (Int × Int)} {X : Nat → Prop} (hT : Tells w b1 b2 l X) :
    SeqStopsK F n Try.prog 40 #[.pointer (some ⟨b1, 0, none⟩), .pointer (some ⟨b2, 0, none⟩)] (fun x : Int × Int => #[.int .i64 x.1, .int .i64 x.2]) (Keep w.heap.size X) (fun ys => ys = l) (fun pre => ∃ k, k ≤ l.length ∧ pre = l.take k) l.length w := by
  intro lo J Jx W hW _ _ hY h0
  obtain ⟨A1, c1, A2, c2, e1, e2, hr⟩ := hT.e
  have e1' := pw_cell_below hW e1
  have hlen := hT.len
  obtain ⟨N, hN⟩ : ∃ N, l.length = N := ⟨_, rfl⟩
  rw [hN] at e1' hlen e2
  have HN := Lib.hid hN
  refine callsIn_of_wp Try.func40 rfl hF ?_ hro
  simp only [Try.ntmps40, List.size_toArray, List.length_cons, List.length_nil, Nat.reduceAdd, Nat.reduceSub, Array.replicate_succ, Array.replicate_zero, List.push_toArray, List.append_toArray, List.nil_append, List.cons_append]
  gi_wp2
  gi_loopw [8] (fun i wr => ∃ k : Nat, k ≤ N ∧ i = .int .i64 k ∧ J (l.take k) wr ∧ Keep w.heap.size X W wr)
    (fun i _ => N - (intOf i).toNat)
  case atStart => exact ⟨0, Nat.zero_le _, rfl, h0, Keep.refl _ _ _⟩
  case round =>
    obtain ⟨k, hk, rfl, hJs, hkp⟩ := hrel
    by_cases hlt : k < N
    · have hkl : k < l.length := by rw [HN.out]; exact hlt
      obtain ⟨x, hx⟩ : ∃ x, l[k]? = some x := ⟨_, List.getElem?_eq_getElem hkl⟩
      obtain ⟨ad, bd, rfl, rfl, q1, q2, z1, z2, y1, y2⟩ := hr k x hx
      have p1 : wr.cell? (ad.add k) = some (.int .i64 x.1) := (hkp.cell (by rw [Go.Kit.add_block]; exact z1) (by rw [Go.Kit.add_block]; exact y1)).trans (pw_cell_below hW q1)
      have p2 : wr.cell? (bd.add k) = some (.int .i64 x.2) := (hkp.cell (by rw [Go.Kit.add_block]; exact z2) (by rw [Go.Kit.add_block]; exact y2)).trans (pw_cell_below hW q2)
      have p3 : wr.cell? ⟨b2, 0, none⟩ = some (.slice (some bd) N c2) := (hkp.cell hT.s2 hT.x2).trans (pw_cell_below hW e2)
      have hki : (k : Int) < (N : Int) := by omega
      have hk9 : (k : Int) ≤ 4096 := by omega
      obtain ⟨fn, tmps, assign, body, hy, hR⟩ := hY (l.take k) x wr hJs (by rw [List.length_take]; omega)
      have HX := Lib.hid hx
      have HK := Lib.hid hkp
      clear hx hr hkp q1 q2 z1 z2 y1 y2 e1 e2 e1' hN
      gi_wp2
      refine hR.mono ?_
      rintro e W3 (⟨rfl, hJ3, hk3⟩ | ⟨rfl, hJx3⟩)
      · gi_wp2
        go_roundw
        case rel => exact ⟨k + 1, by omega, by simp, by rw [snoc HX.out]; exact hJ3, HK.out.trans hk3⟩
        case measure => simp [intOf]; omega
      · gi_wp2
        refine bodyPost_ret (results_none rfl _ _ _) rfl ?_
        exact ⟨⟨_, rfl⟩, .inr ⟨_, ⟨k + 1, by rw [HN.out]; omega, (snoc HX.out).symm⟩, hJx3⟩⟩
    · obtain rfl : k = N := by omega
      gi_wp2
      go_end0
      exact ⟨⟨_, rfl⟩, .inl ⟨_, all_of (by rw [HN.out]; exact Nat.le_refl _), hJs⟩⟩
end Go.Proofs.Ytdhaoodkelehpaa
end
/-! does: one call of the program's memo and of the document's. -/
section
set_option linter.unusedVariables false
namespace Go.Kit
/-- Counts that are not too great. -/
def Cz (S : Sp Int) (i : Int) : Prop := S.hi ≤ i ∧ S.mi ≤ i ∧ S.go ≤ 4097 * i
theorem Cz.mono {S : Sp Int} {i j : Int} (h : Cz S i) (hj : i ≤ j) : Cz S j := ⟨by have := h.1; omega, by have := h.2.1; omega, by have := h.2.2; omega⟩
def kk6 (k : Int) : Int := (k.tmod 6 + 6).tmod 6
/-- What a call of a script makes of a memo. -/
def Sp.act (S : Sp Int) (x : Lc) : Sp Int :=
  if kk6 x.kind = 0 then S.get x.k else if kk6 x.kind = 2 then S.put x.k x.v else if kk6 x.kind = 3 then (S.drops x.keys).1 else if kk6 x.kind = 4 ∧ (1 ≤ x.v ∧ x.v ≤ 4096) then S.resize x.v else S
theorem act_ok {S : Sp Int} (h : S.ok) (x : Lc) : (S.act x).ok := by
  unfold Sp.act
  split
  · exact Sp.get_ok h _
  · split
    · exact Sp.put_ok h _ _
    · split
      · exact drops_ok h _
      · split
        · rename_i hv; exact resize_ok h hv.2.1 hv.2.2
        · exact h
theorem act_cz {S : Sp Int} (hok : S.ok) {i : Int} (h : Cz S i) (hi : 0 ≤ i) (x : Lc) : Cz (S.act x) (i + 1) := by
  obtain ⟨h1, h2, h3⟩ := h
  unfold Sp.act
  split
  · unfold Sp.get
    split
    · exact ⟨by show S.hi ≤ _; omega, by show S.mi + 1 ≤ _; omega, by show S.go ≤ _; omega⟩
    · exact ⟨by show S.hi + 1 ≤ _; omega, by show S.mi ≤ _; omega, by show S.go ≤ _; omega⟩
  · split
    · unfold Sp.put
      split
      · exact ⟨by show S.hi ≤ _; omega, by show S.mi ≤ _; omega, by show S.go ≤ _; omega⟩
      · split
        · exact ⟨by show S.hi ≤ _; omega, by show S.mi ≤ _; omega, by show S.go + 1 ≤ _; omega⟩
        · exact ⟨by show S.hi ≤ _; omega, by show S.mi ≤ _; omega, by show S.go ≤ _; omega⟩
    · split
      · have := drops_uses S x.keys
        exact ⟨by rw [this.1]; omega, by rw [this.2.1]; omega, by rw [this.2.2.2]; omega⟩
      · split
        · have h4 := hok.2.1
          have h5 := hok.2.2.2
          refine ⟨by show S.hi ≤ _; omega, by show S.mi ≤ _; omega, ?_⟩
          show S.go + ((S.l.length - x.v.toNat : Nat) : Int) ≤ _
          omega
        · exact ⟨by omega, by omega, by omega⟩
end Go.Kit
namespace Go.Proofs.Ytdhaoodkelehpaa
open Go.RowKit Go.Kit Go.Proofs.YtdhaoodkelehpaaW.PrintWords
/-- The program's memo and the document's, alike. -/
def PQ (w : World) (m q : Nat) (S : Sp Int) (H : Nat → Prop) : Prop := ∃ F v, Mf w m S F ∧ QS w q v S ∧ Sep F (qf q v) ∧ H = fun k => F k ∨ qf q v k
/-- What a call leaves of both. -/
def PLft (w : World) (m q : Nat) (H : Nat → Prop) (S : Sp Int) (w' : World) : Prop := ∃ H', PQ w' m q S H' ∧ Only w w' H ∧ Onto w H H'
section
variable {w w1 w2 w3 : World} {m q : Nat} {S T : Sp Int} {F H X : Nat → Prop} {v : Value}
theorem PQ.ok (h : PQ w m q S H) : S.ok := by obtain ⟨F, v, hM, _⟩ := h; exact hM.ok
theorem PQ.cnt (h : PQ w m q S H) : 0 ≤ S.hi ∧ 0 ≤ S.mi ∧ 0 ≤ S.go := by obtain ⟨F, v, hM, _⟩ := h; exact hM.cnt
theorem PQ.only (h : PQ w m q S H) (ho : Only w w1 X) (hs : Sep H X) : PQ w1 m q S H := by
  obtain ⟨F, v, hM, hQ, hF, rfl⟩ := h
  exact ⟨F, v, hM.only ho (fun k hk => hs k (.inl hk)), hQ.only ho (fun k hk => hs k (.inr hk)), hF, rfl⟩
theorem PQ.below (h : PQ w m q S H) (hb : Below w.heap.size w w1) : PQ w1 m q S H := h.only (Only.of_below hb (fun _ => False)) (fun _ _ e => e)
theorem PQ.old (h : PQ w m q S H) : Old w H := by
  obtain ⟨F, v, hM, hQ, hF, rfl⟩ := h
  exact fun k hk => hk.elim (hM.old k) (hQ.old k)
theorem lft_kept {g : Nat} {o : Obj} (hl : Lft w m F S w1) (hg : w.heap[g]? = some o) (hF : ¬ F g) : w1.heap[g]? = some o := by
  obtain ⟨F', hM, ho, hn⟩ := hl
  exact ho.kept hg hF
/-- The program's call, then the document's. -/
theorem two_calls (hM : Mf w m S F) (hQ : QS w q v S) (hF : Sep F (qf q v)) (h1 : Lft w m F T w1) : QS w1 q v S ∧ ∀ w2, QLft w1 q v T w2 → PLft w m q (fun k => F k ∨ qf q v k) T w2 := by
  obtain ⟨F', hM', ho, hn⟩ := h1
  have hQ1 := hQ.only ho (fun k hk e => hF k e hk)
  refine ⟨hQ1, fun w2 h2 => ?_⟩
  obtain ⟨v', hQ2, ho2, hn2⟩ := h2
  have hF' : Sep F' (qf q v) := hF.onto hn hQ.old
  refine ⟨_, ⟨F', v', hM'.only ho2 hF', hQ2, (hF'.symm.onto hn2 hM'.old).symm, rfl⟩, (ho.mono (fun k hk => .inl hk)).same (ho2.mono (fun k hk => .inr hk)), fun k hk => ?_⟩
  rcases hk with hk | hk
  · exact (hn k hk).elim (fun e => .inl (.inl e)) .inr
  · exact (hn2 k hk).elim (fun e => .inl (.inr e)) (fun e => .inr (Nat.le_trans ho.size e))
theorem PLft.below (h : PLft w1 m q H S w2) (hb : Below w.heap.size w w1) : PLft w m q H S w2 := by
  obtain ⟨H', hP, ho, hn⟩ := h
  exact ⟨H', hP, (Only.of_below hb H).same ho, fun k hk => (hn k hk).elim .inl (fun e => .inr (Nat.le_trans hb.size e))⟩
theorem PLft.after (h : PLft w m q H S w1) (hb : Below w1.heap.size w1 w2) : PLft w m q H S w2 := by
  obtain ⟨H', hP, ho, hn⟩ := h
  exact ⟨H', hP.below hb, ho.below hb, hn⟩
theorem PLft.same (h : PQ w m q S H) (hb : Below w.heap.size w w1) : PLft w m q H S w1 := ⟨H, h.below hb, Only.of_below hb H, Onto.refl _ _⟩
set_option maxHeartbeats 8000000 in
set_option maxRecDepth 100000 in
theorem does_any (h : PQ w m q S H) (x : Lc) (Ai : Option Addr) (ni ci : Nat) (hx : I6 x.k ∧ I6 x.v ∧ I6 x.kind) (hk : ∀ W, Only w W H → IR W Ai ni x.keys) (hn : ni ≤ 140737488351232) (i : Int) (hi : 0 ≤ i ∧ i ≤ 281474976710656) (hc : Cz S i) :
    Calls Try.prog 21 #[.pointer (some ⟨m, 0, none⟩), .pointer (some ⟨q, 0, none⟩), .agg #[.int .i64 x.kind, .int .i64 x.k, .int .i64 x.v, .slice Ai ni ci]] w fun e w' => e = .returned (.bool true) ∧ PLft w m q H (S.act x) w' := by
  have hba := below_alloc (Below.refl w.heap.size w) (.cells #[.int .i64 x.kind, .int .i64 x.k, .int .i64 x.v, .slice Ai ni ci] 30)
  have hac := heap_alloc_new w (.cells #[.int .i64 x.kind, .int .i64 x.k, .int .i64 x.v, .slice Ai ni ci] 30)
  have hold := h.old
  have hok := h.ok
  have hcn := h.cnt
  have hPa := h.below hba
  obtain ⟨F, v, hM0, hQ0, hF, rfl⟩ := h
  have HPA := Lib.hid hPa
  have HMA := Lib.hid (hM0.below hba)
  have HQA := Lib.hid (hQ0.below hba)
  have HF := Lib.hid hF
  have HBA := Lib.hid hba
  have HAC := Lib.hid hac
  have HNG : Hid (¬ F w.heap.size ∧ ¬ qf q v w.heap.size) := Lib.hid ⟨fun e => Nat.lt_irrefl _ (hold _ (.inl e)), fun e => Nat.lt_irrefl _ (hold _ (.inr e))⟩
  have HX := Lib.hid hx
  have HK : Hid (∀ W, Only (w.alloc (.cells #[.int .i64 x.kind, .int .i64 x.k, .int .i64 x.v, .slice Ai ni ci] 30)) W (fun k => F k ∨ qf q v k) → IR W Ai ni x.keys) := Lib.hid (fun W ho => hk W ((Only.of_below hba _).same ho))
  have HN := Lib.hid hn
  have HC : Hid ((0 ≤ S.hi ∧ S.hi ≤ 281474976710656) ∧ (0 ≤ S.mi ∧ S.mi ≤ 281474976710656) ∧ (0 ≤ S.go ∧ S.go ≤ 1153202979583557632)) := Lib.hid (by obtain ⟨c1, c2, c3⟩ := hc; omega)
  have HOK := Lib.hid hok
  have hkw : (wrap64 (x.kind.tmod 6 + 6)).tmod 6 = kk6 x.kind := by
    have h1 := Int.tmod_lt_of_pos x.kind (show (0 : Int) < 6 by omega)
    have h2 : -6 < x.kind.tmod 6 := by
      have := Int.lt_tmod_of_pos x.kind (show (0 : Int) < 6 by omega)
      omega
    rw [show wrap64 (x.kind.tmod 6 + 6) = x.kind.tmod 6 + 6 by unfold wrap64; omega]
    rfl
  obtain ⟨kk, hkk⟩ : ∃ kk, kk6 x.kind = kk := ⟨_, rfl⟩
  rw [hkk] at hkw
  have HKK := Lib.hid hkk
  clear hba hac hold hok hcn hPa hM0 hQ0 hF hx hk hn hc hi hkk
  go_enter Try.func21, Try.ntmps21
  by_cases k0 : kk = 0
  · subst k0
    go_wp2_with fail
    generalize w.alloc (.cells #[.int .i64 x.kind, .int .i64 x.k, .int .i64 x.v, .slice Ai ni ci] 30) = wa at *
    refine (get_f HMA.out x.k HX.out.1 (by have := HC.out; omega) (by have := HC.out; omega)).mono ?_
    rintro e w2 ⟨x1, y1, rfl, hy1, hl⟩
    obtain ⟨hQ1, hfin⟩ := two_calls HMA.out HQA.out HF.out hl
    have hac2 := lft_kept hl HAC.out HNG.out.1
    have d1 := cell_of_row w2 _ 1 _ _ _ hac2
    have d2 := cell_of_row w2 _ 2 _ _ _ hac2
    simp only [List.getElem?_toArray, List.getElem?_cons_zero, List.getElem?_cons_succ] at d1 d2
    have HQ1 := Lib.hid hQ1
    have HFI := Lib.hid hfin
    clear hQ1 hfin hac2 hl
    go_wp2_with fail
    refine (rget_any HQ1.out HOK.out.1 x.k (by have := HC.out; omega) (by have := HC.out; omega)).mono ?_
    rintro e w3 ⟨x2, y2, rfl, hy2, hl2⟩
    have he : (x1, y1) = (x2, y2) := hy1.out.trans hy2.out.symm
    obtain ⟨rfl, rfl⟩ := Prod.mk.inj he
    have HP := Lib.hid (HFI.out w3 hl2)
    have hxx : (x1 == x1) = true := by simp
    have hyy : (y1 == y1) = true := by simp
    clear he hl2 hy1 hy2 d1 d2
    go_wp2_with fail
    go_ret
    refine ⟨rfl, ?_⟩
    have ha : S.act x = S.get x.k := by unfold Sp.act; rw [if_pos HKK.out]
    rw [ha]
    exact HP.out.below HBA.out
  by_cases k1 : kk = 1
  · subst k1
    go_wp2_with fail
    generalize w.alloc (.cells #[.int .i64 x.kind, .int .i64 x.k, .int .i64 x.v, .slice Ai ni ci] 30) = wa at *
    refine (look_f HMA.out x.k HX.out.1).mono ?_
    rintro e w2 ⟨x1, y1, rfl, hy1, rfl⟩
    have d1 := cell_of_row w2 _ 1 _ _ _ HAC.out
    simp only [List.getElem?_toArray, List.getElem?_cons_zero, List.getElem?_cons_succ] at d1
    go_wp2_with fail
    refine (rlook_any HQA.out x.k).mono ?_
    rintro e w3 ⟨x2, y2, rfl, hy2, rfl⟩
    have he : (x1, y1) = (x2, y2) := hy1.out.trans hy2.out.symm
    obtain ⟨rfl, rfl⟩ := Prod.mk.inj he
    have hxx : (x1 == x1) = true := by simp
    have hyy : (y1 == y1) = true := by simp
    clear he hy1 hy2 d1
    go_wp2_with fail
    go_ret
    refine ⟨rfl, ?_⟩
    have ha : S.act x = S := by unfold Sp.act; rw [if_neg (by rw [HKK.out]; omega), if_neg (by rw [HKK.out]; omega), if_neg (by rw [HKK.out]; omega), if_neg (by rw [HKK.out]; omega)]
    rw [ha]
    exact (PLft.same HPA.out (Below.refl _ _)).below HBA.out
  by_cases k2 : kk = 2
  · subst k2
    go_wp2_with fail
    generalize w.alloc (.cells #[.int .i64 x.kind, .int .i64 x.k, .int .i64 x.v, .slice Ai ni ci] 30) = wa at *
    refine (put_f HMA.out x.k x.v HX.out.1 (by have := HC.out; omega)).mono ?_
    rintro e w2 ⟨x1, y1, rfl, hy1, hl⟩
    obtain ⟨hQ1, hfin⟩ := two_calls HMA.out HQA.out HF.out hl
    have hac2 := lft_kept hl HAC.out HNG.out.1
    have d1 := cell_of_row w2 _ 1 _ _ _ hac2
    have d2 := cell_of_row w2 _ 2 _ _ _ hac2
    simp only [List.getElem?_toArray, List.getElem?_cons_zero, List.getElem?_cons_succ] at d1 d2
    have HQ1 := Lib.hid hQ1
    have HFI := Lib.hid hfin
    clear hQ1 hfin hac2 hl
    go_wp2_with fail
    refine (rput_any HQ1.out HOK.out x.k x.v (by have := HC.out; omega)).mono ?_
    rintro e w3 ⟨x2, y2, rfl, hy2, hl2⟩
    have he : (x1, y1) = (x2, y2) := hy1.out.trans hy2.out.symm
    obtain ⟨rfl, rfl⟩ := Prod.mk.inj he
    have HP := Lib.hid (HFI.out w3 hl2)
    have hxx : (x1 == x1) = true := by simp
    have hyy : (y1 == y1) = true := by simp
    clear he hl2 hy1 hy2 d1 d2
    go_wp2_with fail
    go_ret
    refine ⟨rfl, ?_⟩
    have ha : S.act x = S.put x.k x.v := by unfold Sp.act; rw [if_neg (by rw [HKK.out]; omega), if_pos HKK.out]
    rw [ha]
    exact HP.out.below HBA.out
  by_cases k3 : kk = 3
  · subst k3
    go_wp2_with fail
    generalize w.alloc (.cells #[.int .i64 x.kind, .int .i64 x.k, .int .i64 x.v, .slice Ai ni ci] 30) = wa at *
    have d3 := cell_of_row wa _ 3 _ _ _ HAC.out
    simp only [List.getElem?_toArray, List.getElem?_cons_zero, List.getElem?_cons_succ] at d3
    obtain ⟨dn, hdn⟩ : ∃ dn : Nat, (S.drops x.keys).2 = dn := ⟨_, rfl⟩
    have HDN := Lib.hid hdn
    have hdd : ((dn : Int) == (dn : Int)) = true := by simp
    clear hdn
    go_region_held3 (fun W => W.cell? ⟨w.heap.size, 3, none⟩ = some (.slice Ai ni ci))
      (first
        | exact d3
        | exact e3
        | exact e4)
      (first
        | (go_at_call 17; refine (drop_f (HMA.out.drewN 1) Ai ni ci x.keys (fun W ho => HK.out W ((Only.of_below (below_drew (Below.refl wa.heap.size wa)) _).same (ho.mono (fun k hk => .inl hk)))) HN.out).mono ?_; rintro e w2 ⟨rfl, hl⟩; rw [HDN.out]; obtain ⟨hQ1, hfin⟩ := two_calls (HMA.out.drewN 1) (HQA.out.drewN 1) HF.out hl; have HQ1 := Lib.hid hQ1; have HFI := Lib.hid hfin; have hac2 := lft_kept hl (show (wa.drewN 1).heap[w.heap.size]? = _ from HAC.out) HNG.out.1; have e3 := cell_of_row w2 _ 3 _ _ _ hac2; have HO2 : Hid (Only wa w2 F) := Lib.hid (by (obtain ⟨F', _, ho, _⟩ := hl; exact (Only.of_below (below_drew (Below.refl wa.heap.size wa)) F).same ho)); have HAC2 := Lib.hid hac2; clear hQ1 hfin hl hac2)
        | (go_at_call 24; refine (rdrop_any HQ1.out HOK.out Ai ni ci x.keys (fun W ho => HK.out W ((HO2.out.mono (fun k hk => .inl hk)).same (ho.mono (fun k hk => .inr hk)))) HN.out).mono ?_; rintro e w3 ⟨rfl, hl2⟩; rw [HDN.out]; have e4 : w3.cell? ⟨w.heap.size, 3, none⟩ = some (.slice Ai ni ci) := (by obtain ⟨v', _, ho, _⟩ := hl2; exact ho.cell e3 HNG.out.2); have HP := Lib.hid (HFI.out w3 hl2); clear hl2))
    all_goals
      go_wp2_with fail
      go_ret
      refine ⟨rfl, ?_⟩
      have ha : S.act x = (S.drops x.keys).1 := by unfold Sp.act; rw [if_neg (by rw [HKK.out]; omega), if_neg (by rw [HKK.out]; omega), if_pos HKK.out]
      rw [ha]
      exact (HP.out.below (below_drew (Below.refl wa.heap.size wa))).below HBA.out
  by_cases k4 : kk = 4
  · subst k4
    by_cases hv : 1 ≤ x.v ∧ x.v ≤ 4096
    · have HV := Lib.hid hv
      clear hv
      go_wp2_with fail
      generalize w.alloc (.cells #[.int .i64 x.kind, .int .i64 x.k, .int .i64 x.v, .slice Ai ni ci] 30) = wa at *
      refine (resize_f HMA.out x.v HV.out.1 HV.out.2 (by have := HC.out; omega)).mono ?_
      rintro e w2 ⟨u, rfl, hl, hu⟩
      obtain ⟨hQ1, hfin⟩ := two_calls HMA.out HQA.out HF.out hl
      have hac2 := lft_kept hl HAC.out HNG.out.1
      have d2 := cell_of_row w2 _ 2 _ _ _ hac2
      simp only [List.getElem?_toArray, List.getElem?_cons_zero, List.getElem?_cons_succ] at d2
      have HSZ : Hid (wa.heap.size ≤ w2.heap.size) := Lib.hid (by obtain ⟨_, _, ho, _⟩ := hl; exact ho.size)
      have HQ1 := Lib.hid hQ1
      have HFI := Lib.hid hfin
      have HU := Lib.hid hu
      clear hQ1 hfin hac2 hl hu
      go_wp2_with fail
      refine (rresize_any HQ1.out HOK.out x.v HV.out.1 HV.out.2 (by have := HC.out; omega)).mono ?_
      rintro e w3 ⟨u2, v3, rfl, hQ3, ho3, hn3, hu2⟩
      have HU3 : Hid (OI w3 wa.heap.size u (S.outs x.v.toNat)) := Lib.hid (HU.out.only ho3 (fun k hk hq => by
        have h1 := (HU.out.block hk).1
        have h2 := HQA.out.old k hq
        omega))
      have HP := Lib.hid (HFI.out w3 ⟨v3, hQ3, ho3, hn3⟩)
      have HU2 := Lib.hid hu2
      obtain ⟨B1, c1, rfl, hr1⟩ := HU3.out.reads
      obtain ⟨B2, c2, rfl, hr2⟩ := HU2.out.reads
      have HR1 := Lib.hid hr1
      have HR2 := Lib.hid hr2
      clear hQ3 ho3 hn3 hu2 hr1 hr2 d2
      generalize (S.outs x.v.toNat).length = nn at *
      go_wp2_with fail
      refine (rsame_any B1 B2 nn nn c1 c2 _ _ HR1.out HR2.out).mono ?_
      rintro e w4 ⟨he, hb4⟩
      rw [decide_eq_true rfl] at he
      subst he
      have HB4 := Lib.hid hb4
      clear hb4
      go_wp2_with fail
      go_ret
      refine ⟨rfl, ?_⟩
      have ha : S.act x = S.resize x.v := by unfold Sp.act; rw [if_neg (by rw [HKK.out]; omega), if_neg (by rw [HKK.out]; omega), if_neg (by rw [HKK.out]; omega), if_pos ⟨HKK.out, HV.out⟩]
      rw [ha]
      exact (HP.out.after HB4.out).below HBA.out
    · have HV : Hid (x.v < 1 ∨ 4096 < x.v) := Lib.hid (by omega)
      clear hv
      go_wp2_with fail
      generalize w.alloc (.cells #[.int .i64 x.kind, .int .i64 x.k, .int .i64 x.v, .slice Ai ni ci] 30) = wa at *
      refine (resize_bad HMA.out x.v HV.out).mono ?_
      rintro e w2 ⟨rfl, rfl⟩
      have d2 := cell_of_row w2 _ 2 _ _ _ HAC.out
      simp only [List.getElem?_toArray, List.getElem?_cons_zero, List.getElem?_cons_succ] at d2
      go_wp2_with fail
      refine (rresize_bad HQA.out x.v HV.out).mono ?_
      rintro e w3 ⟨rfl, rfl⟩
      clear d2
      go_wp2_with fail
      refine (rsame_any none none 0 0 0 0 [] [] ⟨rfl, by omega, fun h => absurd h (by omega)⟩ ⟨rfl, by omega, fun h => absurd h (by omega)⟩).mono ?_
      rintro e w4 ⟨he, hb4⟩
      rw [decide_eq_true rfl] at he
      subst he
      have HB4 := Lib.hid hb4
      clear hb4
      go_wp2_with fail
      go_ret
      refine ⟨rfl, ?_⟩
      have ha : S.act x = S := by unfold Sp.act; rw [if_neg (by rw [HKK.out]; omega), if_neg (by rw [HKK.out]; omega), if_neg (by rw [HKK.out]; omega), if_neg (by have := HV.out; omega)]
      rw [ha]
      exact (PLft.same HPA.out HB4.out).below HBA.out
  · have e0 : (kk == 0) = false := by simpa using k0
    have e1 : (kk == 1) = false := by simpa using k1
    have e2 : (kk == 2) = false := by simpa using k2
    have e3 : (kk == 3) = false := by simpa using k3
    have e4 : (kk == 4) = false := by simpa using k4
    go_wp2_with fail
    go_ret
    refine ⟨rfl, ?_⟩
    have ha : S.act x = S := by unfold Sp.act; rw [if_neg (by rw [HKK.out]; omega), if_neg (by rw [HKK.out]; omega), if_neg (by rw [HKK.out]; omega), if_neg (by rw [HKK.out]; omega)]
    rw [ha]
    exact (PLft.same HPA.out (Below.refl _ _)).below HBA.out
end
end Go.Proofs.Ytdhaoodkelehpaa
end
/-! stands: whether the program's memo stands as the document's. -/
section
set_option linter.unusedVariables false
namespace Go.Proofs.Ytdhaoodkelehpaa
open Go.RowKit Go.Kit Go.Shelf Go.Proofs.YtdhaoodkelehpaaW.PrintWords
attribute [local go_sem] Oper.semAt_some
section
variable {w w1 : World} {m q : Nat} {S : Sp Int} {H X : Nat → Prop}
/-- A row of numbers, read at an index. -/
theorem oi_at {W : World} {base : Nat} {v : Value} {xs : List Int} (h : OI W base v xs) : ∃ A c, v = .slice A xs.length c ∧ ∀ (j : Nat) x, xs[j]? = some x → ∃ ad, A = some ad ∧ W.cell? (ad.add j) = some (.int .i64 x) ∧ ad.block < W.heap.size ∧ base ≤ ad.block := by
  obtain ⟨A, c, rfl, hR⟩ := h.reads
  refine ⟨A, c, rfl, fun j x hx => ?_⟩
  have hl := (List.getElem?_eq_some_iff.1 hx).1
  obtain ⟨ad, e, hc⟩ := hR.2.2 (by omega)
  subst e
  have hb := h.block (k := ad.block) rfl
  refine ⟨ad, rfl, ?_, hb.2.1, hb.1⟩
  have := hc j hl
  rwa [List.getD_eq_getElem?_getD, hx] at this
/-- What All hands back is told. -/
theorem AllAt.tells {w W : World} {b1 b2 : Nat} {v1 v2 : Value} {l : List (Int × Int)} (h : AllAt w W b1 b2 v1 v2 (l.map (·.1)) (l.map (·.2))) (hl : l.length ≤ 4096) (hX : ∀ k, X k → k < w.heap.size) : Tells W b1 b2 l X := by
  obtain ⟨A1, c1, rfl, r1⟩ := oi_at h.o1
  obtain ⟨A2, c2, rfl, r2⟩ := oi_at h.o2
  have k1 := h.l1
  have k2 := h.l2
  refine ⟨⟨A1, c1, A2, c2, ?_, ?_, fun j x hx => ?_⟩, fun e => by have := hX _ e; omega, fun e => by have := hX _ e; omega, lt_of_block h.h1, lt_of_block h.h2, hl⟩
  · have := cell_of_row W _ 0 _ _ _ h.h1
    rw [List.length_map] at this
    exact this
  · have := cell_of_row W _ 0 _ _ _ h.h2
    rw [List.length_map] at this
    exact this
  · obtain ⟨ad, e1, q1, z1, y1⟩ := r1 j x.1 (by rw [List.getElem?_map, hx]; rfl)
    obtain ⟨bd, e2, q2, z2, y2⟩ := r2 j x.2 (by rw [List.getElem?_map, hx]; rfl)
    exact ⟨ad, bd, e1, e2, q1, q2, z1, z2, fun e => by have := hX _ e; omega, fun e => by have := hX _ e; omega⟩
theorem keeps_drewN (W : World) (k : Nat) : KeepsOthers W (W.drewN k) := ⟨Nat.le_refl _, fun _ _ h _ => h⟩
theorem add_off1 (ad : Addr) (i : Nat) : ad.add (i * 2 + 1) = ⟨(ad.add (i * 2)).block, (ad.add (i * 2)).off + 1, none⟩ := by
  have e : (ad.add (i * 2)).add 1 = ⟨(ad.add (i * 2)).block, (ad.add (i * 2)).off + 1, none⟩ := by
    unfold Addr.add; simp
  rw [← e, Addr.add_add]
theorem nodefer {os : List Oper} (h : os.all (fun o => match o.op with | .defer _ => false | _ => true) = true) : ∀ (i : Nat) o, os.toArray[i]? = some o → ∀ c, o.op ≠ .defer c := by
  intro i o ho c e
  have := List.all_eq_true.1 h o (List.mem_of_getElem? (by simpa using ho))
  rw [e] at this
  cases this
theorem Keep.of_below {n : Nat} {A B : World} (h : Below n A B) : Keep n X A B := fun k hk _ => h.block k hk
set_option maxRecDepth 100000 in
set_option maxHeartbeats 8000000 in
theorem stands_any (h : PQ w m q S H) : Calls Try.prog 23 #[.pointer (some ⟨m, 0, none⟩), .pointer (some ⟨q, 0, none⟩)] w fun e w' => e = .returned (.bool true) ∧ Below w.heap.size w w' := by
  obtain ⟨F, v, hM, hQ, hF, rfl⟩ := h
  have hb0 := below_alloc (below_alloc (below_alloc (Below.refl w.heap.size w) (.cells #[.pointer (some ⟨q, 0, none⟩)] 51)) (.cells #[.bool false] 4)) (.cells #[.int .i64 0] 3)
  have hM1 := hM.below hb0
  have hQ1 := hQ.below hb0
  have hok := hM.ok
  obtain ⟨b, L, hMe, _, rfl⟩ := hM1
  obtain ⟨A, c, rfl, hRP, _⟩ := hQ.reads
  have HRP := Lib.hid hRP
  have HMw := Lib.hid hM
  have HQw := Lib.hid hQ
  have HM := Lib.hid hMe
  have HQ := Lib.hid hQ1
  have HB := Lib.hid hb0
  have HOK := Lib.hid hok
  clear hb0 hM hQ hQ1 hMe hok hF hRP
  refine (callsIn_wide (n := 8)).1 ?_
  refine callsIn_of_wp_marks Try.func23 rfl trivial ?_ rfl
  simp only [Try.ntmps23, List.size_toArray, List.length_cons, List.length_nil, Nat.reduceAdd, Nat.reduceSub, Array.replicate_succ, Array.replicate_zero, List.push_toArray, List.append_toArray, List.nil_append, List.cons_append]
  gi_wp2_with (refine ⟨trivial, ?_⟩; gi_at_call 22; refine (callsIn_wide.2 (all_any HM.out)).mono ?_; rintro e w1 ⟨b1, b2, v1, v2, rfl, hA⟩)
  have hgA := blk_below (heap_alloc_new w (.cells #[.pointer (some ⟨q, 0, none⟩)] 51)) (below_alloc (below_alloc (Below.refl _ _) (.cells #[.bool false] 4)) (.cells #[.int .i64 0] 3))
  have hgB := blk_below (heap_alloc_new (w.alloc (.cells #[.pointer (some ⟨q, 0, none⟩)] 51)) (.cells #[.bool false] 4)) (below_alloc (Below.refl _ _) (.cells #[.int .i64 0] 3))
  have hgC := heap_alloc_new ((w.alloc (.cells #[.pointer (some ⟨q, 0, none⟩)] 51)).alloc (.cells #[.bool false] 4)) (.cells #[.int .i64 0] 3)
  simp only [World.size_alloc] at hgB hgC
  have hsz : (((w.alloc (.cells #[.pointer (some ⟨q, 0, none⟩)] 51)).alloc (.cells #[.bool false] 4)).alloc (.cells #[.int .i64 0] 3)).heap.size = w.heap.size + 3 := by simp
  generalize ((w.alloc (.cells #[.pointer (some ⟨q, 0, none⟩)] 51)).alloc (.cells #[.bool false] 4)).alloc (.cells #[.int .i64 0] 3) = w0 at *
  have hb1 : Below w.heap.size w w1 := below_step HB.out hA.bel
  have q1 := blk_below hgA hA.bel
  have r1 := blk_below hgB hA.bel
  have n1 := blk_below hgC hA.bel
  have hl4 : S.l.length ≤ 4096 := by have := HOK.out.2.1; have := HOK.out.2.2.2; omega
  have hT : Tells w1 b1 b2 S.l (fun k => k = w.heap.size + 1 ∨ k = w.heap.size + 1 + 1) := hA.tells hl4 (fun k hk => by rcases hk with e | e <;> omega)
  have hM1 : Hid (MeI w1 m b KyN L S) := Lib.hid (HM.out.below hA.bel)
  have hQ1 : Hid (QS w1 q (.slice A S.l.length c) S) := Lib.hid (HQ.out.below hA.bel)
  clear HM HQ HB hA hgA hgB hgC
  have hs1 := hb1.size
  refine wpIn_rangeFunc_ownG rfl (by omega) (gf := 40) (lb := #[.pointer (some ⟨b1, 0, none⟩), .pointer (some ⟨b2, 0, none⟩)]) rfl trivial (enters_of Try.func40 (by kernel_rfl) rfl)
    (tells_stops Fence.wide (8 - 1) trivial rfl (by omega) hT) (fun h k => Keep.trans h k) (fun W l o o' hl _ _ _ => Keep.putObj _ W l o' hl) (Below.refl _ _) (fun _ => rfl)
    (fun pre W => (W.cell? ⟨w.heap.size + 1 + 1, 0, none⟩ = some (.int .i64 (pre.length : Int)) ∧ W.frozen? ⟨w.heap.size + 1 + 1, 0, none⟩ = false ∧ W.cell? ⟨w.heap.size, 0, none⟩ = some (.pointer (some ⟨q, 0, none⟩)) ∧ W.cell? ⟨w.heap.size + 1, 0, none⟩ = some (.bool false) ∧ W.frozen? ⟨w.heap.size + 1, 0, none⟩ = false) ∧ Below w.heap.size w W)
    (fun c pre _ => ∃ ini x, pre = ini ++ [x] ∧ S.l[ini.length]? ≠ some x)
    (OwnFrom.and (Own.from (fun s A B row hs hg hr => ⟨cell_kept hs.1 hg hr, (frozen_kept hs.1 hg hr).trans hs.2.1, cell_kept hs.2.2.1 hg hr, cell_kept hs.2.2.2.1 hg hr, (frozen_kept hs.2.2.2.1 hg hr).trans hs.2.2.2.2⟩) _) (ownFrom_below (Nat.le_refl _) hs1))
    (fun c => ownFrom_pure _ _)
    ⟨⟨cell_of_row w1 _ 0 _ _ _ n1, frozen_of_row w1 _ 0 _ _ n1, cell_of_row w1 _ 0 _ _ _ q1, cell_of_row w1 _ 0 _ _ _ r1, frozen_of_row w1 _ 0 _ _ r1⟩, hb1⟩
    (fun x => { tmps := #[.pointer (some ⟨m, 0, none⟩), .pointer (some ⟨q, 0, none⟩), undef, .pointer (some ⟨w.heap.size, 0, none⟩), .pointer (some ⟨w.heap.size + 1, 0, none⟩), .pointer (some ⟨w.heap.size + 1 + 1, 0, none⟩), .int .i64 x.1, .int .i64 x.2, .pointer (some ⟨m, 0, none⟩), .func (.func 40) #[] #[.pointer (some ⟨b1, 0, none⟩), .pointer (some ⟨b2, 0, none⟩)], .int .i64 x.1, .int .i64 x.2, undef, undef, undef, undef, undef, undef, undef, undef, undef, undef, undef, undef, undef, undef, undef, undef, undef, undef, undef, undef, undef, undef, undef, undef, undef, undef, undef, undef, undef, undef, undef, undef, undef, undef, undef, undef, undef, undef, undef, undef, undef, undef, undef, undef, undef, undef, undef, undef, undef, undef, undef, undef, undef, undef, undef, undef, undef, undef, undef, undef, undef, undef, undef, undef], defers := [] }) ?assign ?body ?done ?stop
  case assign =>
    intro l x W K hK
    gi_wp2
    exact hK
  case body =>
    rintro l pre x W ⟨⟨c1, c2, c3, c4, c5⟩, hB⟩ hlt
    gi_wp2
    have hq1 := (HQw.out.below hB).c1
    obtain ⟨ad, y, hA, h0, h1, hy⟩ := (HRP.out.below hB).at_ pre.length hlt
    subst hA
    rw [add_off1] at h1
    have hd : decide (S.l.length ≤ pre.length) = false := by simp; omega
    have hlt2 : (pre.length : Int) < (S.l.length : Int) := by omega
    have hfit := (HQw.out).fit
    by_cases hx1 : y.1 = x.1
    · by_cases hx2 : y.2 = x.2
      · rw [hx1] at h0
        rw [hx2] at h1
        refine quiet_round rfl (by kernel_rfl) (by kernel_rfl) (nodefer (by kernel_rfl)) ?_
        repeat (quiet_step_in (fail))
        refine wpQuietIn_nil ?_
        intro _ hw'
        obtain ⟨nq, hw''⟩ := hw'
        subst hw''
        gi_wp2
        refine ⟨(KeepsOthers.trans (keeps_drewN W nq) (KeepsOthers.setCell (W.drewN nq) _ _)).from _, fun k hk hx => (heap_setCell_other _ _ _ _ (fun e => hx (.inr e))), ⟨?_, ?_, ?_, ?_, ?_⟩, (pw_below_drewN hB nq).setCell (p := ⟨w.heap.size + 1 + 1, 0, none⟩) (by simp; omega) _⟩
        · have := World.cell?_setCell_same' (W.drewN nq) ⟨w.heap.size + 1 + 1, 0, none⟩ (.int .i64 ((pre.length : Int) + 1)) (by rw [show (W.drewN nq).cell? _ = _ from c1]; rfl)
          simpa using this
        · rw [World.frozen?_setCell]; exact c2
        · rw [World.cell?_setCell_far _ _ _ _ (by simp; try omega)]; exact c3
        · rw [World.cell?_setCell_far _ _ _ _ (by simp; try omega)]; exact c4
        · rw [World.frozen?_setCell]; exact c5
      · have hbe : (y.2 == x.2) = false := by simpa using hx2
        rw [hx1] at h0
        refine quiet_round rfl (by kernel_rfl) (by kernel_rfl) (nodefer (by kernel_rfl)) ?_
        repeat (quiet_step_in (fail))
        refine wpQuietIn_nil ?_
        intro _ hw'
        obtain ⟨nq, hw''⟩ := hw'
        subst hw''
        gi_wp2
        exact ⟨(KeepsOthers.trans (keeps_drewN W nq) (KeepsOthers.setCell (W.drewN nq) _ _)).from _, pre, x, rfl, by rw [hy.out]; intro e; injection e with e; simp [e] at hbe⟩
    · have hbe : (y.1 == x.1) = false := by simpa using hx1
      refine quiet_round rfl (by kernel_rfl) (by kernel_rfl) (nodefer (by kernel_rfl)) ?_
      repeat (quiet_step_in (fail))
      refine wpQuietIn_nil ?_
      intro _ hw'
      obtain ⟨nq, hw''⟩ := hw'
      subst hw''
      gi_wp2
      exact ⟨(KeepsOthers.trans (keeps_drewN W nq) (KeepsOthers.setCell (W.drewN nq) _ _)).from _, pre, x, rfl, by rw [hy.out]; intro e; injection e with e; simp [e] at hbe⟩
  case done =>
    rintro D ys W hD rfl ⟨⟨c1, c2, c3, c4, c5⟩, hB⟩ hK
    gi_wp2
    refine wpIn_wide.2 ?_
    have HQW := Lib.hid (HQw.out.below hB)
    have HMW := Lib.hid (HMw.out.below hB)
    have g0 := HQW.out.c0
    have g1 := HQW.out.c1
    have g2 := HQW.out.c2
    have g3 := HQW.out.c3
    have g4 := HQW.out.c4
    have hqn : q ≠ w.heap.size + 1 := by have := lt_of_block HQw.out.blk; omega
    have HBW := Lib.hid hB
    have HK := Lib.hid hK
    have HC := Lib.hid c5
    obtain ⟨N, hN⟩ : ∃ N, S.l.length = N := ⟨_, rfl⟩
    rw [hN] at c1 g1
    have HN := Lib.hid hN
    clear hB hK hN
    go_region_held3 (fun W => W.cell? ⟨w.heap.size + 1 + 1, 0, none⟩ = some (.int .i64 (N : Int)) ∧ W.cell? ⟨w.heap.size, 0, none⟩ = some (.pointer (some ⟨q, 0, none⟩)) ∧ W.cell? ⟨q, 0, none⟩ = some (.int .i64 S.most) ∧ W.cell? ⟨q, 1, none⟩ = some (.slice A N c) ∧ W.cell? ⟨q, 2, none⟩ = some (.int .i64 S.hi) ∧ W.cell? ⟨q, 3, none⟩ = some (.int .i64 S.mi) ∧ W.cell? ⟨q, 4, none⟩ = some (.int .i64 S.go))
      (first
        | exact ⟨c1, c3, g0, g1, g2, g3, g4⟩
        | exact ⟨e1, e3, k0, k1, k2, k3, k4⟩
        | (simp [*, World.cell?_setCell_far, World.cell?_drew, hqn, Ne.symm hqn]; done)
        | assumption)
      (first
        | (go_at_call 16; refine (len_f (HMW.out.drewN 1)).mono ?_; rintro e w5 ⟨rfl, rfl⟩; rw [HN.out])
        | (go_at_call 28; refine (most_f (HMW.out.drewN 1)).mono ?_; rintro e w5 ⟨rfl, rfl⟩)
        | (go_at_call 19; refine (uses_f (HMW.out.drewN 1)).mono ?_; rintro e w9 ⟨rfl, hb9⟩; have e1 := pw_cell_below hb9 c1; have e3 := pw_cell_below hb9 c3; have k0 := pw_cell_below hb9 g0; have k1 := pw_cell_below hb9 g1; have k2 := pw_cell_below hb9 g2; have k3 := pw_cell_below hb9 g3; have k4 := pw_cell_below hb9 g4; have d4 := pw_cell_below hb9 c4; have f4 := (hb9.frozen (World.block_lt_of_cell? _ _ c4)).trans HC.out))
    gi_wp2
    have hWK : (W.drewN 1).heap[D]? = some (.deferred (some [])) := HK.out
    have hK9 : w9.heap[D]? = some (.deferred (some [])) := (hb9.block D (lt_of_block hWK)).trans hWK
    have hK' : (w9.setCell ⟨w.heap.size + 1, 0, none⟩ (.bool true)).heap[D]? = some (.deferred (some [])) := (KeepsOthers.setCell w9 ⟨w.heap.size + 1, 0, none⟩ (.bool true)).same D _ hK9 rfl
    refine ⟨by simp, .inl ⟨_, _, rfl, run_takeDeferred hK', ?_⟩⟩
    have hc5 := cell_kept (World.cell?_setCell_same' w9 ⟨w.heap.size + 1, 0, none⟩ (.bool true) (by rw [d4]; rfl)) (grownBy_putObj' _ D (.deferred none)) (fun r e => by cases e; exact ⟨_, hK', rfl⟩)
    refine ⟨.bool true, ?_, rfl, ((below_step (pw_below_drewN HBW.out 1) hb9).setCell (p := ⟨w.heap.size + 1, 0, none⟩) (by simp) _).trans (belowK_b (w := w) (Nat.le_refl _) _ D _ _ (by omega) hK' rfl rfl)⟩
    simp [results, Try.f23, go_sem, hc5]
  case stop =>
    rintro D c pre W hD ⟨k, hk, rfl⟩ ⟨ini, x, e1, e2⟩ hK
    refine absurd ?_ e2
    have h1 : (S.l.take k)[ini.length]? = some x := by rw [e1]; simp
    rw [List.getElem?_take] at h1
    split at h1
    · exact h1
    · cases h1
end
end Go.Proofs.Ytdhaoodkelehpaa
end
/-! Copy. -/
section
set_option linter.unusedVariables false
namespace Go.Kit
open Go.RowKit
/-- A pair is laid back ahead of what stood behind it. -/
theorem put_back {l : List (Int × Int)} {most : Int} (hok : (⟨most, l, 0, 0, 0⟩ : Sp Int).ok) {i : Nat} {x : Int × Int} (hx : l[i]? = some x) : (⟨most, l.drop (i + 1), 0, 0, 0⟩ : Sp Int).put x.1 x.2 = ⟨most, l.drop i, 0, 0, 0⟩ := by
  obtain ⟨hlt, hg⟩ := List.getElem?_eq_some_iff.1 hx
  have hd : l.drop i = x :: l.drop (i + 1) := by rw [List.drop_eq_getElem_cons hlt, hg]
  have hnd : ((l.drop i).map (·.1)).Nodup := by
    have h := hok.1
    rw [← List.take_append_drop i l, List.map_append, List.nodup_append] at h
    exact h.2.1
  rw [hd, List.map_cons, List.nodup_cons] at hnd
  have hf : fnd (l.drop (i + 1)) x.1 = none := fnd_none.2 (fun y hy e => hnd.1 (e ▸ List.mem_map.2 ⟨y, hy, rfl⟩))
  have hfull : (⟨most, l.drop (i + 1), 0, 0, 0⟩ : Sp Int).full = false := by
    unfold Sp.full
    have h2 : (l.length : Int) ≤ most := hok.2.1
    have : ¬ most ≤ ((l.drop (i + 1)).length : Int) := by rw [List.length_drop]; omega
    simpa using this
  unfold Sp.put
  simp only [hf, hfull]
  rw [hd]
  rfl
end Go.Kit
namespace Go.Proofs.Ytdhaoodkelehpaa
open Go.RowKit Go.Kit Go.Proofs.YtdhaoodkelehpaaW.PrintWords
section
variable {w w1 : World} {m m2 b : Nat} {L : List (En Int)} {S : Sp Int} {F : Nat → Prop}
theorem put_k (h : Mf w m S F) (k v : Int) (hk : keyOf Try.prog KTI (KyN.kv k) = some (KyN.kl k)) (hgo : S.go ≤ 9223372036854775806) : Calls Try.prog 13 #[.pointer (some ⟨m, 0, none⟩), .int .i64 k, .int .i64 v] w fun e w' => ∃ x y, e = .returned (.tuple #[.int .i64 x, .bool y]) ∧ Lft w m F (S.put k v) w' := by
  obtain ⟨b, L, hM, hok, rfl⟩ := h
  refine (show Calls Try.prog 13 #[.pointer (some ⟨m, 0, none⟩), .int .i64 k, .int .i64 v] w _ from putI hM k v hk hgo).mono ?_
  rintro e w' ⟨rfl, L', hM', ho, hn⟩
  cases hx : S.out k with
  | none => exact ⟨0, false, rfl, _, ⟨b, L', hM', Sp.put_ok hok k v, rfl⟩, ho, hn⟩
  | some x => exact ⟨x, true, rfl, _, ⟨b, L', hM', Sp.put_ok hok k v, rfl⟩, ho, hn⟩
/-- The counts are laid in. -/
theorem MeI.uses3 (h : MeI w m b KyN L S) (hi mi go : Int) (hc : 0 ≤ hi ∧ 0 ≤ mi ∧ 0 ≤ go) :
    MeI (((w.setCell ⟨m, 4, none⟩ (.int .i64 hi)).setCell ⟨m, 5, none⟩ (.int .i64 mi)).setCell ⟨m, 6, none⟩ (.int .i64 go)) m b KyN L ⟨S.most, S.l, hi, mi, go⟩ ∧ Only w (((w.setCell ⟨m, 4, none⟩ (.int .i64 hi)).setCell ⟨m, 5, none⟩ (.int .i64 mi)).setCell ⟨m, 6, none⟩ (.int .i64 go)) (fun k => k = m) := by
  have ho : Only w (((w.setCell ⟨m, 4, none⟩ (.int .i64 hi)).setCell ⟨m, 5, none⟩ (.int .i64 mi)).setCell ⟨m, 6, none⟩ (.int .i64 go)) (fun k => k = m) := (((Only.refl w (fun k => k = m)).set m 4 _ (.inl rfl)).set m 5 _ (.inl rfl)).set m 6 _ (.inl rfl)
  have b1 := heap_set_same w m 4 _ _ (.int .i64 hi) h.ls.bk
  have b2 := heap_set_same _ m 5 _ _ (.int .i64 mi) b1
  have b3 := heap_set_same _ m 6 _ _ (.int .i64 go) b2
  refine ⟨⟨⟨b3, h.ls.ch.kept (fun e he => ?_), h.ls.nd, h.ls.ne⟩, h.mp.imp fun D hD => ⟨owns_onlyI hD.1 ho (fun e => h.mb e.symm), hD.2⟩, h.ky, h.eq, h.ok, hc⟩, ho⟩
  obtain ⟨u, v, h1⟩ := h.ls.ch.mem e he
  rw [h1]
  exact ho.kept h1 (fun e2 => h.ls.apart (e2 ▸ List.mem_map.2 ⟨e, he, rfl⟩))
/-- A memo with less in it, that is being filled. -/
def CpRel (w : World) (m2 : Nat) (L : List (En Int)) (S : Sp Int) (gk : Nat) (v5 : Value) (W : World) : Prop :=
  ∃ (j : Nat) (F : Nat → Prop), v5 = pv (lso none (L.take j)) ∧ Mf W m2 ⟨S.most, S.l.drop j, 0, 0, 0⟩ F ∧ (∀ k, F k → w.heap.size ≤ k) ∧ Below w.heap.size w W ∧ Hid (j ≤ L.length ∧ gk = j)
set_option maxRecDepth 100000 in
set_option maxHeartbeats 8000000 in
theorem copy_any (h : Mf w m S F) : Calls Try.prog 27 #[.pointer (some ⟨m, 0, none⟩)] w fun e w' => ∃ m2 F2, e = .returned (.pointer (some ⟨m2, 0, none⟩)) ∧ Mf w' m2 S F2 ∧ (∀ k, F2 k → w.heap.size ≤ k) ∧ Below w.heap.size w w' := by
  obtain ⟨b, L, hMe, hok, rfl⟩ := h
  have c0 : w.cell? ⟨m, 0, none⟩ = some (.int .i64 S.most) := cell_of_row w _ 0 _ _ _ hMe.ls.bk
  have c3 : w.cell? ⟨m, 3, none⟩ = some (pv (lso none L)) := cell_of_row w _ 3 _ _ _ hMe.ls.bk
  have HM := Lib.hid hMe
  have HOK := Lib.hid hok
  clear hMe hok
  go_enter Try.func27, Try.ntmps27
  go_wp2_with fail
  refine HM.out.made.mono ?_
  rintro e w9 ⟨rfl, rfl⟩
  go_wp2_with fail
  refine (new_f S.most HOK.out.2.2.1 HOK.out.2.2.2).mono ?_
  rintro e w1 ⟨m2, F1, rfl, hM1, hF1, hb1⟩
  replace c3 := pw_cell_below hb1 c3
  have HR : Hid (CpRel w9 m2 L S L.length (pv (lso none L)) w1) := Lib.hid ⟨L.length, F1, by rw [List.take_length], by rw [show S.l.drop L.length = [] by rw [← HM.out.len]; exact List.drop_length]; exact hM1, hF1, hb1, Lib.hid ⟨Nat.le_refl _, rfl⟩⟩
  have HS1 : Hid (w9.heap.size ≤ w1.heap.size) := Lib.hid hb1.size
  clear hM1 hF1 hb1 c0
  go_wp2_with fail
  go_loopg [5] L.length (fun gk v5 w' => CpRel w9 m2 L S gk v5 w')
  case atStart => exact HR.out
  case round =>
    clear HR c3
    obtain ⟨j, F2, rfl, hM2, hF2, hb2, HG⟩ := hrel
    cases j with
    | zero =>
      rw [List.take_zero, lso_nil, show pv none = Value.pointer none from rfl]
      have hMm := HM.out.below hb2
      have u4 : wr.cell? ⟨m, 4, none⟩ = some (.int .i64 S.hi) := cell_of_row wr _ 4 _ _ _ hMm.ls.bk
      have u5 : wr.cell? ⟨m, 5, none⟩ = some (.int .i64 S.mi) := cell_of_row wr _ 5 _ _ _ hMm.ls.bk
      have u6 : wr.cell? ⟨m, 6, none⟩ = some (.int .i64 S.go) := cell_of_row wr _ 6 _ _ _ hMm.ls.bk
      obtain ⟨b2, L2, hN, hok2, rfl⟩ := hM2
      have n4 : wr.cell? ⟨m2, 4, none⟩ = some (.int .i64 0) := cell_of_row wr _ 4 _ _ _ hN.ls.bk
      have n5 : wr.cell? ⟨m2, 5, none⟩ = some (.int .i64 0) := cell_of_row wr _ 5 _ _ _ hN.ls.bk
      have n6 : wr.cell? ⟨m2, 6, none⟩ = some (.int .i64 0) := cell_of_row wr _ 6 _ _ _ hN.ls.bk
      have f4 : wr.frozen? ⟨m2, 4, none⟩ = false := frozen_of_row wr _ 4 _ _ hN.ls.bk
      have f5 : wr.frozen? ⟨m2, 5, none⟩ = false := frozen_of_row wr _ 5 _ _ hN.ls.bk
      have f6 : wr.frozen? ⟨m2, 6, none⟩ = false := frozen_of_row wr _ 6 _ _ hN.ls.bk
      have HFIN := Lib.hid (hN.uses3 S.hi S.mi S.go hMm.cnt)
      have HF2 := Lib.hid hF2
      have HB2 := Lib.hid hb2
      clear hN hok2 hF2 hb2 hMm
      go_wp2_with fail
      exact bodyPost_ret (v := .pointer (some ⟨m2, 0, none⟩)) (by simp [results, Try.f27, go_sem]) rfl ⟨m2, rfl, _, ⟨b2, L2, HFIN.out.1, HOK.out, rfl⟩, HF2.out, Below.only HB2.out HFIN.out.2 HB2.out.size (fun k e => e ▸ HF2.out m2 (.inl rfl))⟩
    | succ i =>
      have hjl := HG.out.1
      obtain ⟨x, hx⟩ : ∃ x, L[i]? = some x := ⟨_, List.getElem?_eq_getElem hjl⟩
      have hlso : lso none (L.take (i + 1)) = some x.a := by
        rw [List.take_add_one, hx, lso_append]; rfl
      rw [hlso, show pv (some x.a) = Value.pointer (some ⟨x.a, 0, none⟩) from rfl]
      obtain ⟨z0, z1, z3, z2, _, _⟩ := entry_at (HM.out.below hb2) hx
      have hky := HM.out.ky x (List.mem_of_getElem? hx)
      have hxl : S.l[i]? = some (x.k, x.v) := by rw [HM.out.eq]; simp [kvs, hx]
      have HP : Hid ((⟨S.most, S.l.drop (i + 1), 0, 0, 0⟩ : Sp Int).put x.k x.v = ⟨S.most, S.l.drop i, 0, 0, 0⟩) := Lib.hid (put_back (x := (x.k, x.v)) HOK.out hxl)
      have HX := Lib.hid hx
      have HKY := Lib.hid hky
      have HM2 := Lib.hid hM2
      have HF2 := Lib.hid hF2
      have HB2 := Lib.hid hb2
      clear hM2 hF2 hb2 hjl hx hlso hky hxl
      go_wp2_with fail
      go_region_held3 (fun W => W.cell? ⟨x.a, 0, none⟩ = some (.int .i64 x.k) ∧ W.cell? ⟨x.a, 1, none⟩ = some (.int .i64 x.v))
        (first
          | exact ⟨z0, z1⟩
          | exact ⟨y0, y1⟩)
        (first
          | (go_at_call 13; refine (put_k (HM2.out.drewN 1) x.k x.v HKY.out (show (0 : Int) ≤ _ by decide)).mono ?_; rintro e w5 ⟨p1, p2, rfl, hl⟩; rw [HP.out] at hl; obtain ⟨F3, hM3, hF3, hb3⟩ := hl.step HF2.out (pw_below_drewN HB2.out 1); have HM3 := Lib.hid hM3; have HF3 := Lib.hid hF3; have HB3 := Lib.hid hb3; obtain ⟨y0, y1, _, y2, _, _⟩ := entry_at (HM.out.below hb3) HX.out; clear hM3 hF3 hb3 hl))
      all_goals
        go_wp2_with fail
        go_roundg (gk - 1)
        case rel => exact ⟨i, F3, rfl, HM3.out, HF3.out, HB3.out, Lib.hid ⟨by have := HG.out; omega, by have := HG.out; omega⟩⟩
        case measure => have := HG.out; omega
end
end Go.Proofs.Ytdhaoodkelehpaa
end
/-! The walk of LruPlays. -/
section
set_option linter.unusedVariables false
namespace Go.Proofs.Ytdhaoodkelehpaa
open Go.RowKit Go.Kit Go.Proofs.YtdhaoodkelehpaaW.PrintWords
section
variable {w w0 w1 w2 : World} {m q : Nat} {S : Sp Int} {F H : Nat → Prop}
theorem PLft.step (h : PLft w m q H S w1) (hH : ∀ k, H k → w0.heap.size ≤ k) (hb : Below w0.heap.size w0 w) : ∃ H', PQ w1 m q S H' ∧ (∀ k, H' k → w0.heap.size ≤ k) ∧ Below w0.heap.size w0 w1 := by
  obtain ⟨H', hM, ho, hn⟩ := h
  exact ⟨H', hM, fun k hk => (hn k hk).elim (hH k) (fun e => Nat.le_trans hb.size e), Below.only hb ho hb.size hH⟩
/-- Two new memos. -/
theorem start_pq {n : Int} (hn : 1 ≤ n ∧ n ≤ 4096) (hM : Mf w1 m ⟨n, [], 0, 0, 0⟩ F) (hF : ∀ k, F k → w.heap.size ≤ k) (hb1 : Below w.heap.size w w1) (hb2 : Below w1.heap.size w1 w2) :
    ∃ H, PQ (w2.alloc (.cells (qcells n (.slice none 0 0) 0 0 0) QT)) m w2.heap.size ⟨n, [], 0, 0, 0⟩ H ∧ (∀ k, H k → w.heap.size ≤ k) ∧ Below w.heap.size w (w2.alloc (.cells (qcells n (.slice none 0 0) 0 0 0) QT)) := by
  have hba := below_alloc (Below.refl w2.heap.size w2) (.cells (qcells n (.slice none 0 0) 0 0 0) QT)
  have hb12 := below_step hb1 hb2
  have hQ : QS (w2.alloc (.cells (qcells n (.slice none 0 0) 0 0 0) QT)) w2.heap.size (.slice none 0 0) ⟨n, [], 0, 0, 0⟩ := ⟨heap_alloc_new w2 _, own_nil _ _ _ _, by show 0 ≤ 5000; omega⟩
  have hM2 := hM.below hb2
  refine ⟨_, ⟨F, _, hM2.below hba, hQ, fun k hk e => ?_, rfl⟩, fun k hk => ?_, below_step hb12 hba⟩
  · have := hM2.old k hk
    rcases e with e | e
    · omega
    · cases e
  · rcases hk with hk | hk | hk
    · exact hF k hk
    · rw [hk]; exact hb12.size
    · cases hk
/-- The memo is the copy from then on. -/
theorem copied (h : PQ w m q S H) : Calls Try.prog 27 #[.pointer (some ⟨m, 0, none⟩)] w fun e w' => ∃ m2 H2, e = .returned (.pointer (some ⟨m2, 0, none⟩)) ∧ PQ w' m2 q S H2 ∧ (∀ k, H2 k → H k ∨ w.heap.size ≤ k) ∧ Below w.heap.size w w' := by
  obtain ⟨F, v, hM, hQ, hF, rfl⟩ := h
  refine (copy_any hM).mono ?_
  rintro e w' ⟨m2, F2, rfl, hM2, hF2, hb⟩
  have hold := hQ.old
  exact ⟨m2, _, rfl, ⟨F2, v, hM2, hQ.below hb, fun k hk e => absurd (hold k e) (Nat.not_lt.2 (hF2 k hk)), rfl⟩, fun k hk => hk.elim (fun e => .inr (hF2 k e)) (fun e => .inl (.inr e)), hb⟩
end
/-- Between two calls of a script. -/
def PlRel (w : World) (q np : Nat) (gk : Nat) (v5 vi : Value) (W : World) : Prop :=
  ∃ (i m : Nat) (S : Sp Int) (H : Nat → Prop), v5 = .pointer (some ⟨m, 0, none⟩) ∧ vi = .int .i64 (i : Int) ∧ PQ W m q S H ∧ (∀ k, H k → w.heap.size ≤ k) ∧ Below w.heap.size w W ∧ Hid (Cz S i) ∧ Hid (i ≤ np ∧ gk = np - i)
set_option maxHeartbeats 8000000 in
set_option maxRecDepth 100000 in
theorem LruPlays_walk (n : Int) (A : Option Addr) (np cp : Nat) (L : List Lc) (w : World) (hq : I6 n) (hA : LA w A np L) :
    Calls Try.prog 8 #[.int .i64 n, .slice A np cp] w fun e w' => e = .returned (.bool true) ∧ Below w.heap.size w w' := by
  have hmx := hA.max
  go_enter Try.func8, Try.ntmps8
  by_cases hroom : 1 ≤ n ∧ n ≤ 4096
  · go_wp2_with fail
    refine (new_f n hroom.1 hroom.2).mono ?_
    rintro e w1 ⟨m, F, rfl, hM, hF, hb1⟩
    go_wp2_with fail
    refine (rnew_any n).mono ?_
    rintro e w2 ⟨rfl, hb2⟩
    simp only [if_pos hroom]
    obtain ⟨H, hP, hH, hb3⟩ := start_pq hroom hM hF hb1 hb2
    have HP := Lib.hid hP
    have HH := Lib.hid hH
    have HB := Lib.hid hb3
    clear hM hF hb1 hb2 hP hH hb3
    unfold qcells at *
    go_wp2_with fail
    generalize w2.alloc (.cells #[.int .i64 n, .slice none 0 0, .int .i64 0, .int .i64 0, .int .i64 0] QT) = w3 at *
    generalize w2.heap.size = q at *
    refine alive_any.mono ?_
    rintro e w4 ⟨rfl, hb4⟩
    have HS : Hid (PlRel w q np np (.pointer (some ⟨m, 0, none⟩)) (.int .i64 0) w4) := Lib.hid ⟨0, m, _, H, rfl, rfl, HP.out.below hb4, HH.out, below_step HB.out hb4, Lib.hid ⟨Int.le_refl 0, Int.le_refl 0, Int.le_refl 0⟩, Lib.hid ⟨Nat.zero_le _, rfl⟩⟩
    clear HP HH HB hb4
    go_wp2_with fail
    go_loopg [5, 39] np (fun gk v5 vi w' => PlRel w q np gk v5 vi w')
    case atStart => exact HS.out
    case round =>
      clear HS
      obtain ⟨i, m1, S, H1, rfl, rfl, hP, hH, hb, HC, HG⟩ := hrel
      by_cases hi : i < np
      · obtain ⟨ad, Ai, ni, ci, x, rfl, h0, h1, h2, h3, hr, f0, f1, f2, hni, hx⟩ := hA.at0 i hi
        have hi2 : (i : Int) < (np : Int) := by omega
        have hi9 : (i : Int) ≤ 140737488351232 := by omega
        have hba := below_alloc (Below.refl wr.heap.size wr) (.cells #[.int .i64 x.kind, .int .i64 x.k, .int .i64 x.v, .slice Ai ni ci] 30)
        have hac := heap_alloc_new wr (.cells #[.int .i64 x.kind, .int .i64 x.k, .int .i64 x.v, .slice Ai ni ci] 30)
        have HB := Lib.hid (below_step hb hba)
        have HR : Hid (IR w Ai ni x.keys) := Lib.hid hr
        replace h0 := pw_cell_below hb h0
        replace h1 := pw_cell_below hb h1
        replace h2 := pw_cell_below hb h2
        replace h3 := pw_cell_below hb h3
        have HP := Lib.hid (hP.below hba)
        have HH := Lib.hid hH
        have HX : Hid ((I6 x.k ∧ I6 x.v ∧ I6 x.kind) ∧ ni ≤ 140737488351232) := Lib.hid ⟨⟨f1, f2, f0⟩, hni⟩
        have HAC := Lib.hid hac
        clear hP hH hb hba hac hr f0 f1 f2 hni hx
        by_cases k5 : (wrap64 (x.kind.tmod 6 + 6)).tmod 6 = 5
        · have hk5 : ((wrap64 (x.kind.tmod 6 + 6)).tmod 6 == 5) = true := by simpa using k5
          go_wp2_with fail
          generalize wr.alloc (.cells #[.int .i64 x.kind, .int .i64 x.k, .int .i64 x.v, .slice Ai ni ci] 30) = wa at *
          refine (copied HP.out).mono ?_
          rintro e w5 ⟨m5, H5, rfl, hP5, hH5, hb5⟩
          have PP := Lib.hid hP5
          have BB := Lib.hid (below_step HB.out hb5)
          have KK : Hid (∀ k, H5 k → w.heap.size ≤ k) := Lib.hid (fun k hk => (hH5 k hk).elim (HH.out k) (fun e => Nat.le_trans HB.out.size e))
          have hac5 := blk_below HAC.out hb5
          have d0 := cell_of_row w5 _ 0 _ _ _ hac5
          have d1 := cell_of_row w5 _ 1 _ _ _ hac5
          have d2 := cell_of_row w5 _ 2 _ _ _ hac5
          have d3 := cell_of_row w5 _ 3 _ _ _ hac5
          simp only [List.getElem?_toArray, List.getElem?_cons_zero, List.getElem?_cons_succ] at d0 d1 d2 d3
          clear hP5 hH5 hb5 hac5 HP
          go_wp2_with fail
          refine (does_any PP.out x Ai ni ci HX.out.1 (fun W ho => HR.out.below (Below.only BB.out ho BB.out.size KK.out)) HX.out.2 i (by omega) HC.out).mono ?_
          rintro e w6 ⟨rfl, hl⟩
          obtain ⟨H6, hP6, hH6, hb6⟩ := hl.step KK.out BB.out
          have HP6 := Lib.hid hP6
          have HB6 := Lib.hid hb6
          have HH6 := Lib.hid hH6
          have HC6 := Lib.hid (act_cz PP.out.ok HC.out (by omega) x)
          clear hl hP6 hb6 hH6
          go_wp2_with fail
          refine (stands_any HP6.out).mono ?_
          rintro e w7 ⟨rfl, hb7⟩
          go_wp2_with fail
          go_roundg (gk - 1)
          case rel => exact ⟨i + 1, m5, _, H6, rfl, rfl, HP6.out.below hb7, HH6.out, below_step HB6.out hb7, HC6, Lib.hid ⟨by omega, by have := HG.out.2; omega⟩⟩
          case measure => have := HG.out.2; omega
        · have hk5 : ((wrap64 (x.kind.tmod 6 + 6)).tmod 6 == 5) = false := by simpa using k5
          go_wp2_with fail
          generalize wr.alloc (.cells #[.int .i64 x.kind, .int .i64 x.k, .int .i64 x.v, .slice Ai ni ci] 30) = wa at *
          have PP := HP
          have BB := HB
          have KK := HH
          refine (does_any PP.out x Ai ni ci HX.out.1 (fun W ho => HR.out.below (Below.only BB.out ho BB.out.size KK.out)) HX.out.2 i (by omega) HC.out).mono ?_
          rintro e w6 ⟨rfl, hl⟩
          obtain ⟨H6, hP6, hH6, hb6⟩ := hl.step KK.out BB.out
          have HP6 := Lib.hid hP6
          have HB6 := Lib.hid hb6
          have HH6 := Lib.hid hH6
          have HC6 := Lib.hid (act_cz PP.out.ok HC.out (by omega) x)
          clear hl hP6 hb6 hH6
          go_wp2_with fail
          refine (stands_any HP6.out).mono ?_
          rintro e w7 ⟨rfl, hb7⟩
          go_wp2_with fail
          go_roundg (gk - 1)
          case rel => exact ⟨i + 1, m1, _, H6, rfl, rfl, HP6.out.below hb7, HH6.out, below_step HB6.out hb7, HC6, Lib.hid ⟨by omega, by have := HG.out.2; omega⟩⟩
          case measure => have := HG.out.2; omega
      · obtain rfl : np = i := by have := HG.out.1; omega
        have HP := Lib.hid hP
        have HB := Lib.hid hb
        clear hP hb hH
        go_wp2_with fail
        refine (stands_any HP.out).mono ?_
        rintro e w5 ⟨rfl, hb5⟩
        go_wp2_with fail
        go_ret
        exact ⟨rfl, below_step HB.out hb5⟩
  · go_wp2_with fail
    refine (new_badI n (by omega)).mono ?_
    rintro e w1 ⟨rfl, rfl⟩
    go_wp2_with fail
    refine (rnew_any n).mono ?_
    rintro e w2 ⟨rfl, hb2⟩
    simp only [if_neg hroom]
    unfold qcells
    go_wp2_with fail
    refine alive_any.mono ?_
    rintro e w4 ⟨rfl, hb4⟩
    go_wp2_with fail
    go_ret
    exact ⟨rfl, below_step (below_step hb2 (below_alloc (Below.refl _ _) _)) hb4⟩
end Go.Proofs.Ytdhaoodkelehpaa
end
