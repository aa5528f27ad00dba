/- Contracts of functions that the laws reach (texts laid together, part 8): each says of its call what it answers and what it leaves of memory; the conditions stand in each statement. -/
import Derived.Test.YtelfephmjkipoaaRows
import Derived.Test.YtelfephmjkipoaaMb7
import Derived.Test.YtelfephmjkipoaaMb6
set_option linter.unusedVariables false
/-! What the bound on the bulk gives. -/
section
namespace Go.Proofs.Ytelfephmjkipoaa
open Go.ChangeShapes Go.WideShapes Go.RowKit Go.Kit Go.Deep Go.Proofs.YtelfephmjkipoaaW.PrintWords
section
variable {H : Type}
theorem bulk_one (d : DataW H) : 1 ≤ Rows.uptoBulk d := by
  cases d with
  | lit l => cases l <;> simp [Rows.uptoBulk]
  | nil => simp [Rows.uptoBulk]
  | ptr d => simp [Rows.uptoBulk]
  | slice elems spare => simp [Rows.uptoBulk]
  | agg parts => simp [Rows.uptoBulk]
  | iface t d => simp [Rows.uptoBulk]
  | map entries => simp [Rows.uptoBulk]
  | held h => simp [Rows.uptoBulk]
theorem bulk_part {d : DataW H} {l : List (DataW H)} (h : d ∈ l) : Rows.uptoBulk d ≤ Rows.uptoBulkAll l := by
  induction l with
  | nil => cases h
  | cons x r ih =>
    simp only [Rows.uptoBulkAll]
    cases List.mem_cons.1 h with
    | inl e => subst e; omega
    | inr e => have := ih e; omega
theorem bulk_sum (D : Nat → DataW H) (g : Nat → Nat) : ∀ l : List Nat, (∀ i ∈ l, g i ≤ Rows.uptoBulk (D i)) → (l.map g).sum ≤ Rows.uptoBulkAll (l.map D)
  | [], _ => by simp
  | i :: l, h => by
    have h1 := h i List.mem_cons_self
    have h2 := bulk_sum D g l (fun j hj => h j (List.mem_cons_of_mem _ hj))
    simp only [List.map_cons, List.sum_cons, Rows.uptoBulkAll]
    omega
theorem bulk_slice (elems spare : List (DataW H)) : Rows.uptoBulkAll elems + 1 ≤ Rows.uptoBulk (.slice elems spare) := by
  simp only [Rows.uptoBulk]
  omega
theorem bulk_text (b : List UInt8) : Rows.uptoBulk (DataW.lit (H := H) (.string b)) = b.length + 1 := by simp [Rows.uptoBulk]
theorem bulk_agg {d : DataW H} {l : List (DataW H)} (h : d ∈ l) : Rows.uptoBulk d + 1 ≤ Rows.uptoBulk (.agg l) := by
  have := bulk_part h
  simp only [Rows.uptoBulk]
  omega
theorem bulk_ints (L : List (DataW H)) : L.length ≤ Rows.uptoBulkAll L := by
  induction L with
  | nil => simp
  | cons x r ih => have := bulk_one x; simp only [Rows.uptoBulkAll, List.length_cons]; omega
theorem bulk_lits (k : IntKind) (l : List Int) : l.length ≤ Rows.uptoBulkAll (lits (H := H) k l) := by
  have := bulk_ints (lits (H := H) k l)
  rwa [show (lits (H := H) k l).length = l.length by simp [lits]] at this
end
section
variable {H : Type} {enc : TypeId × Value → H} {P : Program} {W : World} {base : Nat} {r : Reach}
/-- Bytes, with their bulk. -/
theorem open_bytes_up {t e : TypeId} {v : Value} {d : DataW H} {ps : List MemPlace}
    (ht : P.underlying t = some (.slice e)) (he : P.underlying e = some (.int .u8)) (hc : P.cellsOf e = 1)
    (hval : Value.okWide P W r base t v) (h : DataW.Trod enc P W 0 (fun _ => true) true t v d ps) :
    ∃ A len cap xs, v = .slice A len cap ∧ RB W A len xs ∧ len ≤ cap ∧ cap ≤ Rows.uptoBulk d := by
  obtain ⟨A, len, cap, rfl⟩ := okWide_slice ht hval
  obtain ⟨fuel, hf⟩ := h
  rcases open_ints ht he hc hf with ⟨hcs, _⟩ | ⟨x, l, c, zs, hcs, _, hl, hm, hz, hxx, hcell, hwz⟩
  · simp [Value.cells] at hcs
    obtain ⟨rfl, rfl, rfl⟩ := hcs
    exact ⟨none, 0, 0, [], rfl, RB.nil W, by omega, by omega⟩
  · simp [Value.cells] at hcs
    obtain ⟨rfl, rfl, rfl⟩ := hcs
    simp only [if_true] at hz
    refine ⟨_, len, cap, zs.take len, rfl, ⟨⟨by rw [List.length_take]; omega, by unfold maxLen at hm; omega, fun _ => ⟨x, rfl, fun j hj => ?_⟩⟩, (byt_of_wf hwz).take len⟩, hl, ?_⟩
    · rw [hcell j (by omega)]
      simp [List.getD_eq_getElem?_getD, hj]
    · simp only [Prod.mk.injEq] at hxx
      rw [hxx.1]
      simp only [Rows.uptoBulk]
      have h1 := bulk_lits (H := H) .u8 (zs.take len)
      have h2 := bulk_lits (H := H) .u8 (zs.drop len)
      rw [List.length_take] at h1
      rw [List.length_drop] at h2
      omega
end
end Go.Proofs.Ytelfephmjkipoaa
end
/-! What was laid down as a frame is read back, and no beginning of it is a frame: the plain law. No program in it. -/
section
namespace Go.Proofs.Ytelfephmjkipoaa
open Go.RowKit Go.Kit CrcM Go.Proofs.YtelfephmjkipoaaW.PrintWords
/-- A reader without a fault, ahead of these bytes. -/
structure Has (D : Rd) (l : List Int) : Prop where
  why : D.why = 0
  wat : D.wat = 0
  le : D.at_ ≤ D.bs.length
  eq : D.bs.drop D.at_ = l
section
variable {D : Rd} {ys : List Int}
theorem Has.num {n : Nat} (h : Has D (sh n ++ ys)) (hn : n < 18446744073709551616) : num D.bs D.at_ = (n, (sh n).length, 0) := by
  unfold Go.Kit.num
  rw [h.eq, numR_sh n 0 0 ys (by omega) (by omega) (by omega)]
  simp
theorem Has.to {l : List Int} (h : Has D (l ++ ys)) : Has (D.to (D.at_ + l.length)) ys := by
  have hl := congrArg List.length h.eq
  rw [List.length_drop, List.length_append] at hl
  have := h.le
  refine ⟨h.why, h.wat, ?_, ?_⟩
  · show D.at_ + l.length ≤ D.bs.length
    omega
  · show D.bs.drop (D.at_ + l.length) = ys
    rw [← List.drop_drop, h.eq, List.drop_left]
theorem Has.uint {n : Nat} (h : Has D (sh n ++ ys)) (hn : n < 18446744073709551616) : ∃ D1, uintS D = (D1, n) ∧ Has D1 ys := by
  refine ⟨_, ?_, h.to⟩
  unfold uintS
  rw [if_neg (by simp [h.why]), h.num hn]
  dsimp only
  rw [if_neg (by simp)]
theorem Has.count {n : Nat} {most : Int} (h : Has D (sh n ++ ys)) (hn : n < 18446744073709551616) (hm : (n : Int) ≤ most) : ∃ D1, countS D most = (D1, n) ∧ Has D1 ys := by
  refine ⟨_, ?_, h.to⟩
  unfold countS
  rw [if_neg (by simp [h.why]), if_neg (by omega), h.num hn]
  dsimp only
  rw [if_neg (by simp), if_neg (by omega)]
theorem Has.over {n : Nat} {most : Int} (h : Has D (sh n ++ ys)) (hn : n < 18446744073709551616) (h0 : 0 ≤ most) (hm : most < (n : Int)) : ∃ D1, countS D most = (D1, 0) ∧ D1.why = 11 := by
  refine ⟨D.fail 11 D.at_, ?_, rfl⟩
  unfold countS
  rw [if_neg (by simp [h.why]), if_neg (by omega), h.num hn]
  dsimp only
  rw [if_neg (by simp), if_pos hm]
theorem Has.some_ {n : Nat} {most : Int} (h : Has D (sh n ++ ys)) (hn : n < 18446744073709551616) (hm : (n : Int) ≤ most) (h0 : 0 < n) : ∃ D1, someS D most = (D1, n) ∧ Has D1 ys := by
  obtain ⟨D1, e, h1⟩ := h.count hn hm
  exact ⟨D1, someS_some e (by omega), h1⟩
theorem Has.raw {t : List Int} {k : Int} (h : Has D (t ++ ys)) (hk : k = (t.length : Int)) : ∃ D1, rawS D k = (D1, t) ∧ Has D1 ys := by
  have hl := congrArg List.length h.eq
  rw [List.length_drop, List.length_append] at hl
  have := h.le
  refine ⟨_, ?_, h.to⟩
  unfold rawS
  rw [if_neg (by simp [h.why]), if_neg (by omega), if_neg (by omega), hk, Int.toNat_natCast, h.eq, List.take_left]
theorem Has.cut (h : Has D ys) : D.bs = D.bs.take D.at_ ++ ys ∧ (D.bs.take D.at_).length = D.at_ := by
  have := h.le
  exact ⟨by rw [← h.eq, List.take_append_drop], by rw [List.length_take]; omega⟩
theorem Has.text {s : ByteArray} {most : Int} (h : Has D (txt s ++ ys)) (hs : s.size < 18446744073709551616) (hm : (s.size : Int) ≤ most) : ∃ D1, textS D most = (D1, s) ∧ Has D1 ys := by
  refine ⟨_, ?_, h.to⟩
  obtain ⟨e, hl⟩ := h.cut
  have ht := textAt_txt (D.bs.take D.at_) ys s most hs hm
  rw [← e, hl] at ht
  unfold textS
  rw [if_neg (by simp [h.why]), if_neg (by omega), ht]
  dsimp only
  rw [if_neg (by simp)]
theorem Has.list {l : List ByteArray} {most each : Int} (h : Has D (lst l ++ ys)) (hl : l.length < 18446744073709551616) (hm : (l.length : Int) ≤ most) (he : 0 ≤ each) (hs : ∀ s ∈ l, s.size < 18446744073709551616 ∧ (s.size : Int) ≤ each) : ∃ D1, listS D most each = (D1, l) ∧ Has D1 ys := by
  have h' : Has D (sh l.length ++ (txts l ++ ys)) := by
    have e : lst l ++ ys = sh l.length ++ (txts l ++ ys) := by unfold lst; rw [List.append_assoc]
    rwa [e] at h
  have hN := h'.num hl
  have h2 := h'.to
  obtain ⟨e, hl2⟩ := h2.cut
  have hT := lstR_txts each l ((D.to (D.at_ + (sh l.length).length)).bs.take (D.to (D.at_ + (sh l.length).length)).at_) ys [] hs
  rw [← e, hl2] at hT
  have hT' : lstR D.bs each l.length (D.at_ + (sh l.length).length) [] = (l, D.at_ + (sh l.length).length + (txts l).length, 0) := hT
  refine ⟨_, ?_, h2.to⟩
  unfold listS
  rw [if_neg (by simp [h.why]), if_neg (by omega), hN]
  dsimp only
  rw [if_neg (by simp), if_neg (by omega), hT']
  dsimp only
  rw [if_neg (by simp)]
  rfl
theorem Has.end_ (h : Has D []) : endS D = D := by
  have hl := congrArg List.length h.eq
  rw [List.length_drop, List.length_nil] at hl
  unfold endS
  rw [if_neg (by omega)]
end
theorem nat_of {x : Int} (h : 0 ≤ x) : ((x.toNat : Nat) : Int) = x := Int.toNat_of_nonneg h
section
variable {D : Rd} {ys : List Int} {f : Fr}
/-- The numbers of a frame's limits may be read. -/
def Lim (f : Fr) : Prop := f.mo ≤ 2147483648 ∧ f.fu ≤ 2147483648 ∧ f.di ≤ 2147483648
theorem kind_has (hm : May f) (hw : f.wf) (hs : f.body.size ≤ 2097152) (hl : Lim f) (ht : f.tool.length = 32) (h : Has D (layF f ++ ys)) : ∃ D1, kindS D f.k.toNat = (D1, f.core) ∧ Has D1 ys := by
  have a0 := hw.id0
  have a1 := hw.id1
  have k1 := hm.k1
  have k6 := hm.k6
  have hb := hm.mo
  have hc := hm.fu
  have hd := hm.di
  rw [hm.only]
  rcases (by omega : f.k = 1 ∨ f.k = 2 ∨ f.k = 3 ∨ f.k = 4 ∨ f.k = 5 ∨ f.k = 6) with hk | hk | hk | hk | hk | hk
  · obtain ⟨v1, s1, s64⟩ := hm.hello hk
    have e : layF f ++ ys = sh f.v.toNat ++ (sh f.s.toNat ++ (f.tool ++ ys)) := by unfold layF; rw [if_pos hk]; simp only [List.append_assoc]
    rw [e] at h
    obtain ⟨D1, e1, h⟩ := h.some_ (most := 1) (by omega) (by omega) (by omega)
    obtain ⟨D2, e2, h⟩ := h.some_ (most := 64) (by omega) (by omega) (by omega)
    obtain ⟨D3, e3, h⟩ := h.raw (k := 32) (by omega)
    refine ⟨D3, ?_, h⟩
    rw [hk]
    show helloS D = _
    unfold helloS
    rw [e1]; dsimp only
    rw [e2]; dsimp only
    rw [e3]; dsimp only
    unfold onlyF
    simp [hk, ht, nat_of (show 0 ≤ f.v by omega), nat_of (show 0 ≤ f.s by omega)]
  · have e : layF f ++ ys = sh f.id.toNat ++ (sh f.mo.toNat ++ (sh f.fu.toNat ++ (sh f.di.toNat ++ (lst f.args ++ (txt f.body ++ ys))))) := by unfold layF; rw [if_neg (by omega), if_pos hk]; simp only [List.append_assoc]
    rw [e] at h
    have hmany := hm.many
    obtain ⟨l1, l2, l3⟩ := hl
    obtain ⟨D1, e1, h⟩ := h.uint (by omega)
    obtain ⟨D2, e2, h⟩ := h.count (most := 2147483648) (by omega) (by omega)
    obtain ⟨D3, e3, h⟩ := h.count (most := 2147483648) (by omega) (by omega)
    obtain ⟨D4, e4, h⟩ := h.count (most := 2147483648) (by omega) (by omega)
    obtain ⟨D5, e5, h⟩ := h.list (most := 8) (each := 4096) (by omega) (by omega) (by omega) (fun s hs => by have := hm.each s hs; omega)
    obtain ⟨D6, e6, h⟩ := h.text (most := 2097152) (by omega) (by omega)
    refine ⟨D6, ?_, h⟩
    rw [hk]
    show requestS D = _
    unfold requestS
    rw [e1]; dsimp only
    rw [e2]; dsimp only
    rw [e3]; dsimp only
    rw [e4]; dsimp only
    rw [e5]; dsimp only
    rw [e6]; dsimp only
    unfold onlyF
    simp [hk, nat_of a0, nat_of hb, nat_of hc, nat_of hd]
  · have e : layF f ++ ys = sh f.id.toNat ++ (sh f.st.toNat ++ (txt f.body ++ ys)) := by unfold layF; rw [if_neg (by omega), if_neg (by omega), if_pos hk]; simp only [List.append_assoc]
    rw [e] at h
    obtain ⟨r1, r3, _⟩ := hm.resp hk
    obtain ⟨D1, e1, h⟩ := h.uint (by omega)
    obtain ⟨D2, e2, h⟩ := h.some_ (most := 3) (by omega) (by omega) (by omega)
    obtain ⟨D3, e3, h⟩ := h.text (most := 2097152) (by omega) (by omega)
    refine ⟨D3, ?_, h⟩
    rw [hk]
    show responseS D = _
    unfold responseS
    rw [e1]; dsimp only
    rw [e2]; dsimp only
    rw [e3]; dsimp only
    unfold onlyF
    simp [hk, nat_of a0, nat_of (show 0 ≤ f.st by omega)]
  · have e : layF f ++ ys = sh f.id.toNat ++ ys := by unfold layF; rw [if_neg (by omega), if_neg (by omega), if_neg (by omega), if_pos hk]
    rw [e] at h
    obtain ⟨D1, e1, h⟩ := h.uint (by omega)
    refine ⟨D1, ?_, h⟩
    rw [hk]
    show cancelS D = _
    unfold cancelS
    rw [e1]; dsimp only
    unfold onlyF
    simp [hk, nat_of a0]
  · have e : layF f ++ ys = ys := by unfold layF; rw [if_neg (by omega), if_neg (by omega), if_neg (by omega), if_neg (by omega), if_neg (by omega), List.nil_append]
    rw [e] at h
    refine ⟨D, ?_, h⟩
    rw [hk]
    show (D, _) = _
    unfold onlyF
    simp [hk]
  · have e : layF f ++ ys = txt f.body ++ ys := by unfold layF; rw [if_neg (by omega), if_neg (by omega), if_neg (by omega), if_neg (by omega), if_pos hk]
    rw [e] at h
    obtain ⟨D1, e1, h⟩ := h.text (most := 2097152) (by omega) (by omega)
    refine ⟨D1, ?_, h⟩
    rw [hk]
    show noteS D = _
    unfold noteS
    rw [e1]; dsimp only
    unfold onlyF
    simp [hk]
/-- Limits that may not be read. -/
theorem kind_over (hm : May f) (hw : f.wf) (hl : ¬ Lim f) (h : Has D (layF f ++ ys)) : (kindS D f.k.toNat).1.why = 11 := by
  have a0 := hw.id0
  have a1 := hw.id1
  have hb := hm.mo
  have hc := hm.fu
  have hd := hm.di
  have hk : f.k = 2 := Classical.byContradiction fun hk => hl (by
    have e1 : f.mo = (onlyF f).mo := by have t := congrArg Fr.mo hm.only; exact t
    have e2 : f.fu = (onlyF f).fu := by have t := congrArg Fr.fu hm.only; exact t
    have e3 : f.di = (onlyF f).di := by have t := congrArg Fr.di hm.only; exact t
    have z1 : (onlyF f).mo = 0 := by unfold onlyF; simp [hk]
    have z2 : (onlyF f).fu = 0 := by unfold onlyF; simp [hk]
    have z3 : (onlyF f).di = 0 := by unfold onlyF; simp [hk]
    unfold Lim
    omega)
  have w1 := hw.mo.2
  have w2 := hw.fu.2
  have w3 := hw.di.2
  have e : layF f ++ ys = sh f.id.toNat ++ (sh f.mo.toNat ++ (sh f.fu.toNat ++ (sh f.di.toNat ++ (lst f.args ++ (txt f.body ++ ys))))) := by unfold layF; rw [if_neg (by omega), if_pos hk]; simp only [List.append_assoc]
  rw [e] at h
  rw [hk]
  show (requestS D).1.why = 11
  obtain ⟨D1, e1, h⟩ := h.uint (by omega)
  unfold requestS
  rw [e1]; dsimp only
  by_cases h1 : f.mo ≤ 2147483648
  · obtain ⟨D2, e2, h⟩ := h.count (most := 2147483648) (by omega) (by omega)
    rw [e2]; dsimp only
    by_cases h2 : f.fu ≤ 2147483648
    · obtain ⟨D3, e3, h⟩ := h.count (most := 2147483648) (by omega) (by omega)
      rw [e3]; dsimp only
      have h3 : ¬ f.di ≤ 2147483648 := fun h3 => hl ⟨h1, h2, h3⟩
      obtain ⟨D4, e4, hy⟩ := h.over (most := 2147483648) (by omega) (by omega) (by omega)
      have hn : D4.why ≠ 0 := by rw [hy]; decide
      rw [e4]; dsimp only
      rw [listS_bad hn]; dsimp only
      rw [textS_bad hn]; exact hy
    · obtain ⟨D3, e3, hy⟩ := h.over (most := 2147483648) (by omega) (by omega) (by omega)
      have hn : D3.why ≠ 0 := by rw [hy]; decide
      rw [e3]; dsimp only
      rw [countS_bad hn]; dsimp only
      rw [listS_bad hn]; dsimp only
      rw [textS_bad hn]; exact hy
  · obtain ⟨D2, e2, hy⟩ := h.over (most := 2147483648) (by omega) (by omega) (by omega)
    have hn : D2.why ≠ 0 := by rw [hy]; decide
    rw [e2]; dsimp only
    rw [countS_bad hn]; dsimp only
    rw [countS_bad hn]; dsimp only
    rw [listS_bad hn]; dsimp only
    rw [textS_bad hn]; exact hy
theorem new_has (L : Nat) (l : List Int) : Has ((Rd.new (sh L ++ l)).to (sh L).length) l :=
  ⟨rfl, rfl, by show (sh L).length ≤ (sh L ++ l).length; rw [List.length_append]; omega, by show (sh L ++ l).drop (sh L).length = l; rw [List.drop_left]⟩
theorem fields_has (hm : May f) (h : Has D (bodyF f ++ ys)) : ∃ D1, fieldsS D = kindS D1 f.k.toNat ∧ Has D1 (layF f ++ ys) := by
  have k1 := hm.k1
  have k6 := hm.k6
  have e : bodyF f ++ ys = sh f.k.toNat ++ (layF f ++ ys) := by unfold bodyF; rw [List.append_assoc]
  rw [e] at h
  obtain ⟨D1, e1, h⟩ := h.some_ (most := 6) (by omega) (by omega) (by omega)
  exact ⟨D1, by unfold fieldsS; rw [e1], h⟩
/-- A frame that may be is read back. -/
theorem read_back (hm : May f) (hw : f.wf) (hs : f.body.size ≤ 2097152) (hl : Lim f) (ht : f.tool.length = 32) (L : Nat) : readF (sh L ++ bodyF f) (sh L).length = (f.core, 0, 0) := by
  have h0 := new_has L (bodyF f)
  rw [← List.append_nil (bodyF f)] at h0
  obtain ⟨D1, e1, h1⟩ := fields_has (ys := []) hm h0
  obtain ⟨D2, e2, h2⟩ := kind_has hm hw hs hl ht h1
  rw [List.append_nil] at e1
  rw [readF_of (e1.trans e2)]
  have hf : finS D2 f.core (sh L).length = (0, 0) := by
    unfold finS
    rw [h2.end_, if_neg, h2.why, h2.wat]
    rintro ⟨_, k3, s1, b0⟩
    exact b0 ((hm.resp k3).2.2 s1)
  rw [hf, if_neg (by simp)]
theorem read_over (hm : May f) (hw : f.wf) (hl : ¬ Lim f) (L : Nat) : ∃ y, readF (sh L ++ bodyF f) (sh L).length = (noF, 11, y) := by
  have h0 := new_has L (bodyF f)
  rw [← List.append_nil (bodyF f)] at h0
  obtain ⟨D1, e1, h1⟩ := fields_has (ys := []) hm h0
  have h2 := kind_over hm hw hl h1
  rw [List.append_nil] at e1
  obtain ⟨D2, F, e2⟩ : ∃ D2 F, kindS D1 f.k.toNat = (D2, F) := ⟨_, _, rfl⟩
  rw [e2] at h2
  have hn : D2.why ≠ 0 := by rw [h2]; decide
  refine ⟨D2.wat, ?_⟩
  rw [readF_of (e1.trans e2), finS_bad hn, if_pos hn]
  show (noF, D2.why, D2.wat) = _
  rw [h2]
end
theorem len_enc {f : Fr} (hc : chkF f = 0) : 1 ≤ (bodyF f).length ∧ (bodyF f).length ≤ 2097152 ∧ encF f = sealed (sh (bodyF f).length ++ bodyF f) ∧ (encF f).length = (bodyF f).length + (sh (bodyF f).length).length + 4 := by
  obtain ⟨hm, hs, hl⟩ := chk_facts hc
  have h1 : 1 ≤ (bodyF f).length := by unfold bodyF; rw [List.length_append]; have := sh_pos f.k.toNat; omega
  have e : encF f = sealed (sh (bodyF f).length ++ bodyF f) := by unfold encF; rw [if_neg (by rw [hc]; decide)]
  exact ⟨h1, hl, e, by rw [e, sealed_length, List.length_append]; omega⟩
theorem sealed_apart (xs rest : List Int) : sealed xs ++ rest = xs ++ (b4 (more 0#32 xs) ++ rest) := by unfold sealed; rw [List.append_assoc]
theorem need_enc {f : Fr} (hc : chkF f = 0) (rest : List Int) : needF (encF f ++ rest) = ((encF f).length, (sh (bodyF f).length).length, 0) := by
  obtain ⟨h1, h2, e, hl⟩ := len_enc hc
  rw [hl, e, sealed_apart, List.append_assoc, need_of' _ h1 h2]
theorem dec_enc_of {f : Fr} (hc : chkF f = 0) : decF (encF f) = readF (sh (bodyF f).length ++ bodyF f) (sh (bodyF f).length).length := by
  obtain ⟨h1, h2, e, hl⟩ := len_enc hc
  have hn := need_enc hc []
  rw [List.append_nil] at hn
  have ho : openR (encF f) = (sh (bodyF f).length ++ bodyF f, 0) := by rw [e, open_sealed]
  unfold decF
  rw [hn, ho]
  dsimp only
  rw [if_neg (by simp), if_neg (by omega), if_neg (by omega), if_neg (by simp)]
/-- A frame that was written is read back. -/
theorem dec_enc {f : Fr} (hw : f.wf) (ht : f.tool.length = 32) (hc : chkF f = 0) (hl : Lim f) : decF (encF f) = (f.core, 0, 0) := by
  obtain ⟨hm, hs, _⟩ := chk_facts hc
  rw [dec_enc_of hc, read_back hm hw hs hl ht]
theorem dec_over {f : Fr} (hw : f.wf) (hc : chkF f = 0) (hl : ¬ Lim f) : ∃ y, decF (encF f) = (noF, 11, y) := by
  obtain ⟨hm, hs, _⟩ := chk_facts hc
  rw [dec_enc_of hc]
  exact read_over hm hw hl _
theorem numR_cut : ∀ (n k acc j : Nat), k ≤ 9 → acc + n * 128 ^ k < 18446744073709551616 → j < (sh n).length → numR ((sh n).take j) k acc = (0, 0, 4) := by
  intro n
  induction n using Nat.strongRecOn with
  | ind n ih =>
    intro k acc j hk hlt hj
    have e9 : (128 : Nat) ^ 9 = 9223372036854775808 := by decide
    cases j with
    | zero => rw [List.take_zero, numR]
    | succ j =>
      rcases Nat.lt_or_ge n 128 with h | h
      · rw [sh_small h] at hj; simp at hj
      · rw [sh_big h] at hj ⊢
        rw [List.length_cons] at hj
        have hk9 : k < 9 := by
          rcases Nat.lt_or_ge k 9 with h9 | h9
          · exact h9
          · have : k = 9 := by omega
            subst this
            rw [e9] at hlt
            omega
        have h1 : (((n % 128 + 128 : Nat) : Int).toNat) % 128 = n % 128 := by omega
        have h2 : acc + n % 128 * 128 ^ k + n / 128 * 128 ^ (k + 1) = acc + n * 128 ^ k := by
          have h3 : n * 128 ^ k = (n % 128 + 128 * (n / 128)) * 128 ^ k := by rw [Nat.mod_add_div]
          rw [h3, Nat.add_mul, Nat.pow_succ, Nat.mul_comm 128 (n / 128), Nat.mul_assoc, Nat.mul_comm (128 ^ k) 128]
          omega
        rw [List.take_succ_cons, numR, if_neg (by omega), if_neg (by omega), h1, ih (n / 128) (by omega) (k + 1) _ j (by omega) (by rw [h2]; exact hlt) (by omega)]
/-- No beginning of a frame's bytes is a frame. -/
theorem dec_cut {f : Fr} (hc : chkF f = 0) {j : Nat} (hj : j < (encF f).length) : decF ((encF f).take j) = (noF, 4, (j : Int)) := by
  obtain ⟨h1, h2, e, hl⟩ := len_enc hc
  have hlen : ((encF f).take j).length = j := by rw [List.length_take]; omega
  have hn : (needF ((encF f).take j)).2.2 = 0 ∧ ((needF ((encF f).take j)).1 = 0 ∨ (needF ((encF f).take j)).1 = (encF f).length) := by
    rcases Nat.lt_or_ge j (sh (bodyF f).length).length with h | h
    · have hnum : num ((encF f).take j) 0 = (0, 0, 4) := by
        unfold Go.Kit.num
        rw [List.drop_zero, e, show sealed (sh (bodyF f).length ++ bodyF f) = sh (bodyF f).length ++ (bodyF f ++ b4 (more 0#32 (sh (bodyF f).length ++ bodyF f))) by unfold sealed; rw [List.append_assoc], List.take_append_of_le_length (by omega)]
        exact numR_cut _ 0 0 j (by omega) (by omega) h
      have hh : headF ((encF f).take j) = (0, 0, 0) := by unfold headF; rw [hnum]; dsimp only; rw [if_pos rfl]
      have hne : needF ((encF f).take j) = (0, 0, 0) := by unfold needF; rw [hh]; dsimp only; rw [if_pos (.inr rfl)]
      rw [hne]; exact ⟨rfl, .inl rfl⟩
    · have ht : (encF f).take j = sh (bodyF f).length ++ (bodyF f ++ b4 (more 0#32 (sh (bodyF f).length ++ bodyF f))).take (j - (sh (bodyF f).length).length) := by
        rw [e, show sealed (sh (bodyF f).length ++ bodyF f) = sh (bodyF f).length ++ (bodyF f ++ b4 (more 0#32 (sh (bodyF f).length ++ bodyF f))) by unfold sealed; rw [List.append_assoc], List.take_append, List.take_of_length_le h]
      rw [ht, need_of' _ h1 h2]
      exact ⟨rfl, .inr (by dsimp only; omega)⟩
  unfold decF
  rw [if_neg (by simp [hn.1]), if_pos (by rw [hlen]; omega), hlen]
end Go.Proofs.Ytelfephmjkipoaa
end
/-! The walk of FrameBack. -/
section
namespace Go.Proofs.Ytelfephmjkipoaa
open Go.RowKit Go.Kit CrcM Go.Proofs.YtelfephmjkipoaaW.PrintWords
attribute [local go_sem] Go.Proofs.YtelfephmjkipoaaW.PrintMore.max_two Go.Proofs.YtelfephmjkipoaaW.PrintMore.min_two Go.Proofs.YtelfephmjkipoaaW.PrintMore.max_three
theorem run_fault_one (x y : Int) (W : World) : (binOp .eql 58 (.agg #[.int .i64 x, .int .i64 y]) (.agg #[.int .i64 x, .int .i64 y])).run Try.prog W = .ok (.bool true) W := by
  have he : (Op.equalIn 10000 58 (.agg #[.int .i64 x, .int .i64 y]) (.agg #[.int .i64 x, .int .i64 y])).run Try.prog W = .ok true W := by go_simp
  simp [run_eql_struct W 58 _ _, he]
theorem load_int' {W : World} {a : Addr} {v : Value} (h : W.cell? a = some v) : (Instr.loadAt 3 (.pointer (some a))).run Try.prog W = .ok v W := by go_simp
theorem lim_three (W : World) (g : Nat) (a b c : Int) (h : W.heap[g]? = some (.cells #[.int .i64 a, .int .i64 b, .int .i64 c] 26 (0, 0))) :
    (Instr.loadAt 3 (.pointer (some ⟨g, 0, none⟩))).run Try.prog W = .ok (.int .i64 a) W ∧ (Instr.loadAt 3 (.pointer (some ⟨g, 1, none⟩))).run Try.prog W = .ok (.int .i64 b) W ∧ (Instr.loadAt 3 (.pointer (some ⟨g, 2, none⟩))).run Try.prog W = .ok (.int .i64 c) W :=
  ⟨load_int' (by rw [cell_of_row W g 0 _ _ _ h]; rfl), load_int' (by rw [cell_of_row W g 1 _ _ _ h]; rfl), load_int' (by rw [cell_of_row W g 2 _ _ _ h]; rfl)⟩
theorem lim_size (a b c : Value) : (Try.prog.info? 26).map (·.size) = some (#[a, b, c] : Array Value).size := by kernel_rfl
/-- A frame's limits in a block of their own. -/
theorem lim_put (W : World) (a b c : Int) : ∃ W1 W2 : World, W.alloc (.cells #[.int .i64 0, .int .i64 0, .int .i64 0] 26) = W1 ∧
    (Instr.storeAt 26 (.pointer (some ⟨W.heap.size, 0, none⟩)) (.agg #[.int .i64 a, .int .i64 b, .int .i64 c])).run Try.prog W1 = .ok () W2 ∧
    W2.heap[W.heap.size]? = some (.cells #[.int .i64 a, .int .i64 b, .int .i64 c] 26 (0, 0)) ∧ Below W.heap.size W W2 := by
  have h0 := heap_alloc_new W (.cells #[.int .i64 0, .int .i64 0, .int .i64 0] 26)
  have hb := below_alloc (Below.refl _ W) (.cells #[.int .i64 0, .int .i64 0, .int .i64 0] 26)
  exact ⟨_, _, rfl, storeAt_all (P := Try.prog) _ W.heap.size 26 26 _ _ h0 rfl (lim_size _ _ _) (by simp [Value.oneCell']), setRow_heap _ _ _ _ _ _ h0, below_setRow hb (Nat.le_refl _) _⟩
theorem lim_load {f : Fr} {W : World} {g : Nat} (h : f.at_ 29 W g) : (Instr.loadAt 26 (.pointer (some ⟨g, 37, none⟩))).run Try.prog W = .ok (.agg #[.int .i64 f.mo, .int .i64 f.fu, .int .i64 f.di]) W :=
  run_loadAt_mid W g 37 26 f.lim _ h.r37 Try.underlying26 rfl (lim_size (.int .i64 f.mo) (.int .i64 f.fu) (.int .i64 f.di))
attribute [-go_sem] Instr.loadAt Instr.storeAt Instr.build run_slice_h run_slice_any
set_option maxHeartbeats 8000000 in
set_option maxRecDepth 100000 in
theorem FrameBack_walk (f : Fr) (Ab : Option Addr) (nb cb : Nat) (ys : List Int) (cut : Int) (w : World) (hf : f.ok w) (hw : f.wf) (has : ∀ s ∈ f.args, s.size ≤ 9223372036854775807) (hy : RB w Ab nb ys) (hnb : nb ≤ 1048576) :
    Calls Try.prog 8 #[f.val, .slice Ab nb cb, .int .i64 cut] w fun e w' => e = .returned (.bool true) ∧ Below w.heap.size w w' := by
  have hb := below_alloc (Below.refl _ w) (.cells f.arr 29)
  have hF := boxed hf.tool w
  have hif : (Try.prog.info? 29).map (·.size) = some f.cells.length := by rw [frame_size]; have := Fr.arr_size f hf.tool; simp [Fr.arr] at this; rw [this]
  have cE := fun W (hbw : Below w.heap.size w W) => Encode_any (hf.below hbw) hw has
  have cC := fun W (hbw : Below w.heap.size w W) => Check_any (hf.below hbw) hw has
  have HW := Lib.hid hw
  obtain ⟨l0, hl0⟩ : ∃ l0, encF f = l0 := ⟨_, rfl⟩
  obtain ⟨c, hc⟩ : ∃ c, chkF f = c := ⟨_, rfl⟩
  have HL0 := Lib.hid hl0
  have HC := Lib.hid hc
  rw [hl0] at cE
  rw [hc] at cE cC
  unfold Fr.val at cE cC
  clear hl0 hc hw has
  show Calls Try.prog _ #[.agg f.arr, _, _] w _
  go_enter Try.func8, Try.ntmps8
  go_upto_region 1 with (fail)
  generalize w.alloc (.cells f.arr 29) = w1 at *
  obtain ⟨g, hg⟩ : ∃ g, w.heap.size = g := ⟨_, rfl⟩
  rw [hg] at hF ⊢
  clear hg
  go_wp2_with fail
  refine (alive_any _).mono ?_
  rintro e w2 ⟨rfl, hb1⟩
  have hF2 := hF.below hb1
  have hb2 := below_step hb hb1
  have e1 := load_frame f hif w2 g hF2
  have hws := hb2.size
  clear hF hb hb1
  go_wp2_with fail
  refine (cE w2 hb2).mono ?_
  rintro e w3 ⟨v3, rfl, hO, hb3⟩
  have hF3 := hF2.below hb3
  have hb4 := below_step hb2 hb3
  have e2 := load_frame f hif w3 g hF3
  clear e1 hF2 hb2
  obtain ⟨A3, c3, rfl, hR3, hc3⟩ := hO.reads'
  by_cases h0 : c = 0
  · subst h0
    obtain ⟨N, hN⟩ : ∃ N, l0.length = N := ⟨_, rfl⟩
    have HN := Lib.hid hN
    rw [hN] at hR3 hc3 ⊢
    have HDB : Hid (Lim f → decF l0 = (f.core, 0, 0)) := Lib.hid (fun h => by rw [← HL0.out]; exact dec_enc HW.out hf.tool HC.out h)
    have HDO : Hid (¬ Lim f → ∃ y, decF l0 = (noF, 11, y)) := Lib.hid (fun h => by rw [← HL0.out]; exact dec_over HW.out HC.out h)
    have HDC : Hid (∀ j, j < N → decF (l0.take j) = (noF, 4, (j : Int))) := Lib.hid (fun j hj => by rw [← HL0.out]; exact dec_cut HC.out (by rw [HL0.out]; omega))
    have HNE : Hid (∀ rest, ∃ k, needF (l0 ++ rest) = (N, k, 0)) := Lib.hid (fun rest => ⟨_, by rw [← HL0.out, need_enc HC.out rest, HL0.out, hN]⟩)
    obtain ⟨q1, q2, q3, q4⟩ := len_enc HC.out
    have q5 := sh_ten (n := (bodyF f).length) (by omega)
    rw [HL0.out, hN] at q4
    have hN1 : 1 ≤ N := by omega
    have hN2 : N ≤ 2097166 := by omega
    have eL := lim_load hF3
    obtain ⟨wa, w4, s0, s1, hL, hbl⟩ := lim_put w3 f.mo f.fu f.di
    have HL := Lib.hid hL
    have HBL := Lib.hid hbl
    clear hL hbl q1 q2 q3 q4 q5 hN e2 cC cE
    go_upto_region 7 with (fail)
    clear s0 s1 eL
    have hL := HL.out
    have hb5 := below_step hb4 HBL.out
    have hF5 := hF3.below HBL.out
    have hR5 := hR3.below HBL.out
    have hO5 := hO.below HBL.out
    obtain ⟨gl, hgl⟩ : ∃ gl, w3.heap.size = gl := ⟨_, rfl⟩
    rw [hgl] at hL ⊢
    clear hgl HL HBL hF3 hR3 hO hb4 hb3
    go_wp2_with fail
    refine (Decode_any hR5 hc3).mono ?_
    rintro e w5 ⟨F, x, y, rfl, HD, hok, hfr, hb6⟩
    obtain ⟨wp, wq, w6, s0, s1, s2, hFF, hX, hbb⟩ := two_put w5 F hok.tool x y
    have HF := Lib.hid hFF
    have HX := Lib.hid hX
    have HB := Lib.hid (below_step hb6 hbb)
    have HOK := Lib.hid (hok.below hbb)
    clear hFF hX hbb hok hfr hb6
    go_upto_region 8 with (fail)
    clear s0 s1 s2
    have hF6 := hF5.below HB.out
    have hL6 := (HB.out.block _ (lt_of_block hL)).trans hL
    have hb6 := below_step hb5 HB.out
    have hR6 := hR5.below HB.out
    have hO6 := hO5.below HB.out
    have hy6 := hy.below hb6
    have hG6 := HF.out
    have hX6 := HX.out
    have hok6 := HOK.out
    obtain ⟨gf, hgf⟩ : ∃ gf, w5.heap.size = gf := ⟨_, rfl⟩
    obtain ⟨gx, hgx⟩ : ∃ gx, w5.heap.size + 1 = gx := ⟨_, rfl⟩
    rw [hgx] at hX6
    rw [hgf] at hG6
    rw [hgx, hgf]
    clear hgf hgx HF HX HOK hF5 hL hb5 hR5 hO5 hy
    obtain ⟨d0, d1, d2⟩ := lim_three w6 gl f.mo f.fu f.di hL6
    obtain ⟨m1, m2, k1, k2, hm⟩ : ∃ m1 m2, Builtin.max2 (.int .i64 f.mo) (.int .i64 f.fu) = pure (.int .i64 m1) ∧ Builtin.max2 (.int .i64 m1) (.int .i64 f.di) = pure (.int .i64 m2) ∧ (m2 ≤ 2147483648 ↔ Lim f) := by
      refine ⟨max f.mo f.fu, max (max f.mo f.fu) f.di, max2_is rfl, max2_is rfl, ?_⟩
      unfold Lim; omega
    by_cases hl : Lim f
    · have hm2 : m2 ≤ 2147483648 := hm.2 hl
      have HDE := Lib.hid (HDB.out hl)
      have hE := HD.out
      rw [HDE.out] at hE
      have hx0 : x = 0 := by have := congrArg Prod.fst hE.1; exact this.symm
      have hy0 : y = 0 := by have := congrArg Prod.snd hE.1; exact this.symm
      subst hx0 hy0
      have HFC : Hid (F.core = f.core) := Lib.hid hE.2
      clear hm hl HDB HDO hE HD HDE
      go_upto_region 10 with (fail)
      clear d0 d1 d2 k1 k2 hm2 hL6
      have HNL := HN.out
      rw [HNL] at hO6
      go_wp2_with (at_builtin; refine push_row (w0 := w) w.heap.size rfl (.const (.slice none 0 0)) (.tmp 58) 38 l0 A3 N c3 rfl Try.underlying38 u8_info rfl rfl (OB.nil _ _ _) hR6 hb6 hb6.size (by simp; omega) ?_)
      intro v7 w7 hO7 hb7 hg7 hat
      have hk7 : Below w6.heap.size w6 w7 := (Only.grown (Only.refl w6 (fun _ => False)) hg7 (fun k e => by cases e)).of_new (fun k e => e.elim)
      have hn7 : ∀ k, v7.ownBlock = some k → w6.heap.size ≤ k := fun k e => by
        rcases hat with h | ⟨b, h, hb⟩
        · rw [h] at e; cases e
        · rw [h] at e; cases e; exact hb
      have HK7 := Lib.hid hk7
      have HN7 := Lib.hid hn7
      have hy7 := hy6.below hk7
      replace hO7 : OB 5 w7 w.heap.size v7 l0 := hO7
      clear hat hg7 hk7 hn7
      go_wp2_with (at_builtin; refine push_row (w0 := w) w.heap.size rfl (.tmp 59) (.tmp 60) 38 ys Ab nb cb rfl Try.underlying38 u8_info rfl rfl hO7 hy7 hb7 hb7.size (by have := HN.out; omega) ?_)
      intro v8 w8 hO8 hb8 hg8 _
      have hk8 : Below w6.heap.size w6 w8 := ((Only.of_below HK7.out (fun _ => False)).grown hg8 (fun k e => .inr (HN7.out k e))).of_new (fun k e => e.elim)
      have HK8 := Lib.hid hk8
      obtain ⟨A8, c8, rfl, hR8, hc8⟩ := hO8.reads'
      obtain ⟨n8, hn8⟩ : ∃ n8, (l0 ++ ys).length = n8 := ⟨_, rfl⟩
      rw [hn8] at hR8 hc8 ⊢
      clear hO8 hO7 hb7 hy7 hg8 hk8 hn8 HK7 HN7
      go_wp2_with fail
      refine (Need_any A8 n8 c8 _ _ hR8 hc8).mono ?_
      rintro e w9 ⟨m, k, z, rfl, HM, hb9⟩
      have hE : m = N ∧ z = 0 := by
        obtain ⟨k9, e9⟩ := HNE.out ys
        have h := HM.out
        rw [e9] at h
        cases h
        exact ⟨rfl, rfl⟩
      obtain ⟨rfl, rfl⟩ := hE
      have hk9 := below_step HK8.out hb9
      have hb10 := below_step hb8 hb9
      have hF9 := hF6.below hk9
      have hG9 := hG6.below hk9
      have hX9 := (hk9.block _ (lt_of_block hX6)).trans hX6
      have hok9 := hok6.below hk9
      have hR9 := hR6.below hk9
      clear hR8 hb8 hb9 HM HK8 hk9 hF6 hG6 hX6 hok6 hR6 hy6 hb6 hc8
      obtain ⟨j, hj, hjk⟩ : ∃ j : Nat, j < m ∧ min (max cut 0) ((m : Int) - 1) = (j : Int) := ⟨(min (max cut 0) ((m : Int) - 1)).toNat, by omega, by omega⟩
      have k1 : Builtin.max2 (.int .i64 cut) (.int .i64 0) = pure (.int .i64 (max cut 0)) := max2_is rfl
      have k2 : Builtin.min2 (.int .i64 (max cut 0)) (.int .i64 ((m : Int) - 1)) = pure (.int .i64 (j : Int)) := min2_is hjk
      generalize max cut 0 = mc at *
      have hsl := head_bytes A3 m c3 j (by omega)
      have hRj := RB.take_ hR9 j (by omega)
      have HJ := Lib.hid (HDC.out j hj)
      clear hjk
      go_wp2_with fail
      refine (Decode_any hRj (by omega)).mono ?_
      rintro e w10 ⟨G, x2, y2, rfl, HD2, hokG, _, hb11⟩
      have hE := HD2.out.1
      rw [HJ.out] at hE
      have hx4 : x2 = 4 := (congrArg Prod.fst hE).symm
      have hyj : y2 = (j : Int) := (congrArg Prod.snd hE).symm
      subst hx4 hyj
      obtain ⟨wp2, wq2, w11, s0, s1, s2, hGG, hX2, hbb2⟩ := two_put w10 G hokG.tool 4 (j : Int)
      have HX2 := Lib.hid hX2
      have HB2 := Lib.hid (below_step hb11 hbb2)
      clear hGG hX2 hbb2 hokG hb11 hE HD2 HJ hsl hRj
      go_upto_region 13 with (fail)
      clear s0 s1 s2 k1 k2
      have hbb := HB2.out
      have hX12 := HX2.out
      have hF12 := hF9.below hbb
      have hG12 := hG9.below hbb
      have hX11 := (hbb.block _ (lt_of_block hX9)).trans hX9
      have hok12 := hok9.below hbb
      have hb12 := below_step hb10 hbb
      obtain ⟨gy, hgy⟩ : ∃ gy, w10.heap.size + 1 = gy := ⟨_, rfl⟩
      rw [hgy] at hX12
      rw [hgy]
      clear hgy HX2 HB2 hF9 hG9 hX9 hok9 hb10 hbb hR9
      have eX := get_fault hX11
      have eY := get_fault hX12
      have eF := load_frame f hif w11 g hF12
      have eG := get_frame hG12
      have q0 := run_fault_one 0 0
      have q4 := run_fault_one 4 (j : Int)
      have hz : ∀ W : World, (Instr.build 58 #[]).run Try.prog W = .ok (.agg #[.int .i64 0, .int .i64 0]) W := fun W => by kernel_rfl
      have hz2 : ∀ W : World, (Instr.build 58 #[(0, .int .i64 4), (1, .int .i64 (j : Int))]).run Try.prog W = .ok (.agg #[.int .i64 4, .int .i64 (j : Int)]) W := fun W => by kernel_rfl
      have hS : F.same f = true := by rw [same_iff]; exact HFC.out
      have mm : ((m : Int) == (m : Int)) = true := by simp
      have hfw := hf.below hb12
      go_wp2_with fail
      refine (Same_is F f true hS _ hok12 hfw).mono ?_
      rintro e w12 ⟨rfl, hb13⟩
      have hX13 := (hb13.block _ (lt_of_block hX12)).trans hX12
      have eY2 := get_fault hX13
      have eF2 := load_frame f hif w12 g (hF12.below hb13)
      have eG2 := get_frame (hG12.below hb13)
      have hok13 := hok12.below hb13
      have hfw2 := hfw.below hb13
      have hb14 := below_step hb12 hb13
      clear eX eY eF eG hX11 hX12 hF12 hG12 hok12 hfw hb12 hb13
      go_wp2_with fail
      refine (rSame_is F f true hS _ hok13 hfw2).mono ?_
      rintro e w13 ⟨rfl, hb15⟩
      have eY3 := get_fault ((hb15.block _ (lt_of_block hX13)).trans hX13)
      have hb16 := below_step hb14 hb15
      clear eY2 eF2 eG2 hX13 hok13 hfw2 hb14 hb15
      go_wp2_with fail
      go_ret
      exact ⟨rfl, hb16⟩
    · have hm2 : ¬ m2 ≤ 2147483648 := fun e => hl (hm.1 e)
      obtain ⟨y0, hy0⟩ := HDO.out hl
      have hE := HD.out
      rw [hy0] at hE
      have hx11 : x = 11 := by have := congrArg Prod.fst hE.1; exact this.symm
      have hS : F.same (kF 0) = true := by
        rw [same_iff, hE.2]; rfl
      subst hx11
      clear hm hl HDB HDO hy0 hE HD
      have eX := load_why hX6
      have eG := get_frame hG6
      have hz4 := zero_frame
      have hk0 : (kF 0).ok w6 := ⟨rfl, rt_none _ rfl rfl rfl⟩
      go_wp2_with fail
      refine (rSame_is F (kF 0) true hS _ hok6 hk0).mono ?_
      rintro e w7 ⟨rfl, hb7⟩
      have hb8 := below_step hb6 hb7
      go_wp2_with fail
      go_ret
      exact ⟨rfl, hb8⟩
  · have b0 : (c != 0) = true := by simpa using h0
    have bb : (c == c) = true := by simp
    have hl : l0.length = 0 := by rw [← HL0.out]; unfold encF; rw [if_pos (by rw [HC.out]; exact h0)]; rfl
    rw [hl]
    clear h0 hl
    go_wp2_with fail
    refine (cC _ hb4).mono ?_
    rintro e w5 ⟨rfl, hb5⟩
    have hb6 := below_step hb4 hb5
    go_wp2_with fail
    go_ret
    exact ⟨rfl, hb6⟩
end Go.Proofs.Ytelfephmjkipoaa
end
