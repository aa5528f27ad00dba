/- Contracts of functions that the laws reach (texts laid together, part 6): each says of its call what it answers and what it leaves of memory; the conditions stand in each statement. -/
import Derived.Test.YtelfephmjkipoaaMb1
import Derived.Test.YtelfephmjkipoaaMb4
import Derived.Test.YtelfephmjkipoaaMb3
import Derived.Test.YtelfephmjkipoaaMb2
import Derived.Laws.CopyRow
import Derived.Deep.RegionHeld3
import Derived.Deep.DeepMust
import Derived.Laws.Cover3
import Derived.Test.YtelfephmjkipoaaMb5
set_option linter.unusedVariables false
/-! What a reader has eaten is what it says: the plain law of frames' one form. No program in it. -/
section
namespace Go.Kit
open Go.RowKit Go.Proofs.YtelfephmjkipoaaW.PrintWords
/-- From one state to the next just these bytes were read, without a fault. -/
structure Ate (D D1 : Rd) (l : List Int) : Prop where
  why : D.why = 0
  bs : D1.bs = D.bs
  pos : D1.at_ = D.at_ + l.length
  eq : D.bs.drop D.at_ = l ++ D.bs.drop D1.at_
theorem Ate.then_ {D D1 D2 : Rd} {l m : List Int} (h : Ate D D1 l) (h2 : Ate D1 D2 m) : Ate D D2 (l ++ m) :=
  ⟨h.why, h2.bs.trans h.bs, by rw [h2.pos, h.pos, List.length_append]; omega, by rw [h.eq, ← h.bs, h2.eq, List.append_assoc]⟩
theorem Ate.nil (D : Rd) (h : D.why = 0) : Ate D D [] := ⟨h, rfl, rfl, rfl⟩
theorem eat {bs : List Int} {a k : Nat} {l : List Int} (h : (bs.drop a).take k = l) : bs.drop a = l ++ bs.drop (a + k) := by
  rw [← h, ← List.drop_drop, List.take_append_drop]
section
variable {D D1 : Rd}
theorem ate_uint (hb : Byt D.bs) {v : Nat} (h : uintS D = (D1, v)) (hw : D1.why = 0) : Ate D D1 (sh v) := by
  obtain ⟨m, k, x, hN⟩ : ∃ m k x, num D.bs D.at_ = (m, k, x) := ⟨_, _, _, rfl⟩
  unfold uintS at h
  rw [hN] at h
  split at h
  · next h0 => cases h; exact absurd hw h0
  · next h0 =>
    have h0 := Classical.not_not.mp h0
    dsimp only at h
    split at h
    · next hx => cases h; exact absurd hw hx
    · next hx =>
      have hx := Classical.not_not.mp hx
      subst hx
      cases h
      obtain ⟨g1, g2⟩ := num_form hb hN
      exact ⟨h0, rfl, by show _ + k = _; rw [g2], eat g1⟩
theorem uint_lt (hb : Byt D.bs) (ha : D.at_ ≤ D.bs.length) {v : Nat} (h : uintS D = (D1, v)) : v < 18446744073709551616 := by
  have hf := (num_facts hb ha).1
  unfold uintS at h
  split at h
  · cases h; decide
  split at h
  · cases h; decide
  · cases h; exact hf
theorem ate_count (hb : Byt D.bs) {most : Int} {v : Nat} (h : countS D most = (D1, v)) (hw : D1.why = 0) : Ate D D1 (sh v) ∧ (v : Int) ≤ most := by
  obtain ⟨m, k, x, hN⟩ : ∃ m k x, num D.bs D.at_ = (m, k, x) := ⟨_, _, _, rfl⟩
  unfold countS at h
  rw [hN] at h
  split at h
  · next h0 => cases h; exact absurd hw h0
  · next h0 =>
    have h0 := Classical.not_not.mp h0
    split at h
    · cases h; exact absurd hw (by show (1 : Int) ≠ 0; decide)
    · dsimp only at h
      split at h
      · next hx => cases h; exact absurd hw hx
      · next hx =>
        have hx := Classical.not_not.mp hx
        subst hx
        split at h
        · cases h; exact absurd hw (by show (11 : Int) ≠ 0; decide)
        · next hm =>
          cases h
          obtain ⟨g1, g2⟩ := num_form hb hN
          exact ⟨⟨h0, rfl, by show _ + k = _; rw [g2], eat g1⟩, by omega⟩
theorem ate_some (hb : Byt D.bs) {most : Int} {v : Nat} (h : someS D most = (D1, v)) (hw : D1.why = 0) : Ate D D1 (sh v) ∧ (v : Int) ≤ most ∧ 0 < v := by
  unfold someS at h
  split at h
  · cases h; exact absurd hw (by show (70 : Int) ≠ 0; decide)
  · next hn =>
    have h1 := ate_count hb h hw
    rw [h] at hn
    exact ⟨h1.1, h1.2, Nat.pos_of_ne_zero (fun e => hn ⟨hw, e⟩)⟩
theorem ate_raw {k : Nat} {t : List Int} (h : rawS D (k : Int) = (D1, t)) (hw : D1.why = 0) (ha : D.at_ ≤ D.bs.length) : Ate D D1 t ∧ t.length = k := by
  unfold rawS at h
  split at h
  · next h0 => cases h; exact absurd hw h0
  · next h0 =>
    have h0 := Classical.not_not.mp h0
    split at h
    · omega
    · split at h
      · cases h; exact absurd hw (by show (4 : Int) ≠ 0; decide)
      · next hl =>
        cases h
        have hk : (k : Int).toNat = k := by omega
        rw [hk]
        have hlen : ((D.bs.drop D.at_).take k).length = k := by rw [List.length_take, List.length_drop]; omega
        exact ⟨⟨h0, rfl, by show _ + k = _; rw [hlen], eat rfl⟩, hlen⟩
theorem ate_text (hb : Byt D.bs) {most : Int} {s : ByteArray} (h : textS D most = (D1, s)) (hw : D1.why = 0) : Ate D D1 (txt s) := by
  obtain ⟨s', en, x, hT⟩ : ∃ s' en x, textAt D.bs D.at_ most = (s', en, x) := ⟨_, _, _, rfl⟩
  unfold textS at h
  rw [hT] at h
  split at h
  · next h0 => cases h; exact absurd hw h0
  · next h0 =>
    have h0 := Classical.not_not.mp h0
    split at h
    · cases h; exact absurd hw (by show (1 : Int) ≠ 0; decide)
    · dsimp only at h
      split at h
      · next hx => cases h; exact absurd hw hx
      · next hx =>
        have hx := Classical.not_not.mp hx
        subst hx
        cases h
        obtain ⟨g1, g2⟩ := txt_of_textAt hb hT
        have hk : en - D.at_ = (txt s).length := by omega
        exact ⟨h0, rfl, g2, by
          have := eat g1
          rwa [show D.at_ + (en - D.at_) = en by omega] at this⟩
theorem back_uint {v : Nat} (h : uintS D = (D1, v)) (hw : D1.why = 0) : D.why = 0 := Classical.byContradiction fun e => by rw [uintS_bad e] at h; cases h; exact e hw
theorem back_count {m : Int} {v : Nat} (h : countS D m = (D1, v)) (hw : D1.why = 0) : D.why = 0 := Classical.byContradiction fun e => by rw [countS_bad e] at h; cases h; exact e hw
theorem back_some {m : Int} {v : Nat} (h : someS D m = (D1, v)) (hw : D1.why = 0) : D.why = 0 := Classical.byContradiction fun e => by rw [someS_bad e] at h; cases h; exact e hw
theorem back_raw {m : Int} {v : List Int} (h : rawS D m = (D1, v)) (hw : D1.why = 0) : D.why = 0 := Classical.byContradiction fun e => by rw [rawS_bad e] at h; cases h; exact e hw
theorem back_text {m : Int} {v : ByteArray} (h : textS D m = (D1, v)) (hw : D1.why = 0) : D.why = 0 := Classical.byContradiction fun e => by rw [textS_bad e] at h; cases h; exact e hw
theorem back_list {m c : Int} {v : List ByteArray} (h : listS D m c = (D1, v)) (hw : D1.why = 0) : D.why = 0 := Classical.byContradiction fun e => by rw [listS_bad e] at h; cases h; exact e hw
theorem Ate.low {l : List Int} (h : Ate D D1 l) (ha : D.at_ ≤ D.bs.length) : D1.at_ ≤ D1.bs.length := by
  have e := congrArg List.length h.eq
  rw [List.length_append, List.length_drop, List.length_drop, h.pos] at e
  rw [h.pos, h.bs]
  omega
theorem Ate.byt {l : List Int} (h : Ate D D1 l) (hb : Byt D.bs) : Byt D1.bs := by rw [h.bs]; exact hb
theorem strOf_size (l : List Int) : (strOfNums l).size = l.length := by
  unfold strOfNums
  simp [ByteArray.size]
theorem textAt_le {bs : List Int} {a en : Nat} {most : Int} {s : ByteArray} (h : textAt bs a most = (s, en, 0)) : (s.size : Int) ≤ most := by
  unfold textAt at h
  split at h
  · next hx => exact absurd (congrArg (fun p => p.2.2) h) hx
  split at h
  · exact absurd (congrArg (fun p => p.2.2) h) (by show ¬ (3 : Int) = 0; decide)
  split at h
  · exact absurd (congrArg (fun p => p.2.2) h) (by show ¬ (4 : Int) = 0; decide)
  · have e := congrArg Prod.fst h
    dsimp only at e
    rw [← e, strOf_size, List.length_take]
    omega
theorem lstR_le {bs : List Int} {each : Int} : ∀ (n a : Nat) (acc l : List ByteArray) (en : Nat), lstR bs each n a acc = (l, en, 0) → (∀ s ∈ acc, (s.size : Int) ≤ each) → ∀ s ∈ l, (s.size : Int) ≤ each
  | 0, a, acc, l, en, h, ha => by
    have e := congrArg Prod.fst h
    dsimp only [lstR] at e
    rw [← e]; exact ha
  | n + 1, a, acc, l, en, h, ha => by
    unfold lstR at h
    split at h
    · next hx => exact absurd (congrArg (fun p => p.2.2) h) hx
    · next hx =>
      refine lstR_le n _ _ l en h (fun s hs => ?_)
      rcases List.mem_append.mp hs with hs | hs
      · exact ha s hs
      · rw [List.mem_singleton.mp hs]
        exact textAt_le (bs := bs) (a := a) (en := (textAt bs a each).2.1) (by
          have := Classical.not_not.mp hx
          rw [← this])
theorem ate_list (hb : Byt D.bs) (ha : D.at_ ≤ D.bs.length) {most each : Int} {l : List ByteArray} (h : listS D most each = (D1, l)) (hw : D1.why = 0) : Ate D D1 (lst l) ∧ (l.length : Int) ≤ most ∧ ∀ s ∈ l, (s.size : Int) ≤ each := by
  obtain ⟨m, k, x, hN⟩ : ∃ m k x, num D.bs D.at_ = (m, k, x) := ⟨_, _, _, rfl⟩
  have hfa := num_facts hb ha
  rw [hN] at hfa
  unfold listS at h
  rw [hN] at h
  split at h
  · next h0 => cases h; exact absurd hw h0
  · next h0 =>
    have h0 := Classical.not_not.mp h0
    split at h
    · cases h; exact absurd hw (by show (1 : Int) ≠ 0; decide)
    · dsimp only at h hfa
      split at h
      · next hx => cases h; exact absurd hw hx
      · next hx =>
        have hx := Classical.not_not.mp hx
        subst hx
        split at h
        · cases h; exact absurd hw (by show (11 : Int) ≠ 0; decide)
        · next hm =>
          obtain ⟨L, en, y, hL⟩ : ∃ L en y, lstR D.bs each m (D.at_ + k) [] = (L, en, y) := ⟨_, _, _, rfl⟩
          rw [hL] at h
          dsimp only at h
          split at h
          · next hy => cases h; exact absurd hw hy
          · next hy =>
            have hy := Classical.not_not.mp hy
            subst hy
            cases h
            obtain ⟨g1, g2⟩ := num_form hb hN
            obtain ⟨l', e1, e2, e3, e4, e5⟩ := txts_of_lstR hb each m (D.at_ + k) [] l en hfa.2.1 hL
            rw [List.nil_append] at e1
            subst e1
            have hle := lstR_le m (D.at_ + k) [] l en hL (fun s hs => by cases hs)
            have q1 := eat g1
            have q2 := eat e3
            rw [show D.at_ + k + (en - (D.at_ + k)) = en by omega] at q2
            refine ⟨⟨h0, rfl, ?_, ?_⟩, by omega, hle⟩
            · show en = _
              unfold lst
              rw [List.length_append, e2, ← g2, e4]; omega
            · show _ = _ ++ D.bs.drop en
              unfold lst
              rw [q1, q2, e2, List.append_assoc]
end
/-- What a read frame's fields keep. -/
structure ReadOk (f : Fr) : Prop where
  core : f.core = f
  only : f.core = onlyF f
  many : f.args.length ≤ 8
  mo : 0 ≤ f.mo ∧ f.mo ≤ 2147483648
  fu : 0 ≤ f.fu ∧ f.fu ≤ 2147483648
  di : 0 ≤ f.di ∧ f.di ≤ 2147483648
  hello : f.k = 1 → f.v = 1 ∧ 1 ≤ f.s ∧ f.s ≤ 64
  resp : f.k = 3 → 1 ≤ f.st ∧ f.st ≤ 3
  each : ∀ s ∈ f.args, s.size ≤ 4096
  id : 0 ≤ f.id ∧ f.id ≤ 18446744073709551615
  byt : Byt f.tool
theorem z32_byt : Byt z32 := fun x hx => by
  have := (List.mem_replicate.1 hx).2
  omega
end Go.Kit
end
/-! Frames' one form: what is read without a fault is what would be written. No program in it. -/
section
namespace Go.Kit
open Go.RowKit Go.Proofs.YtelfephmjkipoaaW.PrintWords
section
variable {D D1 : Rd}
theorem ate_hello (hb : Byt D.bs) (ha : D.at_ ≤ D.bs.length) {f : Fr} (h : helloS D = (D1, f)) (hw : D1.why = 0) : Ate D D1 (layF f) ∧ f.k = 1 ∧ ReadOk f := by
  rcases q1 : someS D 1 with ⟨Da, v⟩
  rcases q2 : someS Da 64 with ⟨Db, s⟩
  rcases q3 : rawS Db 32 with ⟨Dc, t⟩
  unfold helloS at h
  rw [q1] at h; dsimp only at h; rw [q2] at h; dsimp only at h; rw [q3] at h; dsimp only at h
  cases h
  have w2 := back_raw q3 hw
  have w1 := back_some q2 w2
  obtain ⟨a1, v1, v0⟩ := ate_some hb q1 w1
  obtain ⟨a2, s1, s0⟩ := ate_some (a1.byt hb) q2 w2
  obtain ⟨a3, ht⟩ := ate_raw (k := 32) q3 hw (a2.low (a1.low ha))
  have hbt : Byt (if t.length = 32 then t else z32) := by
    rw [if_pos ht]
    have e := a3.eq
    intro x hx
    exact (a2.byt (a1.byt hb)) x (List.mem_of_mem_drop (by rw [e]; exact List.mem_append_left _ hx))
  refine ⟨?_, rfl, ⟨rfl, rfl, by simp, by simp, by simp, by simp, fun _ => ⟨by show (v : Int) = 1; omega, by show (1 : Int) ≤ (s : Int); omega, s1⟩, fun e => absurd e (by show ¬ (1 : Int) = 3; decide), fun s hs => (by cases hs), by simp, hbt⟩⟩
  have e : layF ⟨1, 0, (v : Int), (s : Int), if t.length = 32 then t else z32, 0, 0, 0, 0, none, 0, 0, [], ByteArray.empty⟩ = sh v ++ sh s ++ t := by simp [layF, ht]
  rw [e]
  exact (a1.then_ a2).then_ a3
theorem ate_request (hb : Byt D.bs) (ha : D.at_ ≤ D.bs.length) {f : Fr} (h : requestS D = (D1, f)) (hw : D1.why = 0) : Ate D D1 (layF f) ∧ f.k = 2 ∧ ReadOk f := by
  rcases q1 : uintS D with ⟨Da, id⟩
  rcases q2 : countS Da 2147483648 with ⟨Db, mo⟩
  rcases q3 : countS Db 2147483648 with ⟨Dc, fu⟩
  rcases q4 : countS Dc 2147483648 with ⟨Dd, di⟩
  rcases q5 : listS Dd 8 4096 with ⟨De, l⟩
  rcases q6 : textS De 2097152 with ⟨Df, s⟩
  unfold requestS at h
  rw [q1] at h; dsimp only at h; rw [q2] at h; dsimp only at h; rw [q3] at h; dsimp only at h; rw [q4] at h; dsimp only at h; rw [q5] at h; dsimp only at h; rw [q6] at h; dsimp only at h
  cases h
  have w5 := back_text q6 hw
  have w4 := back_list q5 w5
  have w3 := back_count q4 w4
  have w2 := back_count q3 w3
  have w1 := back_count q2 w2
  have a1 := ate_uint hb q1 w1
  have hid := uint_lt hb ha q1
  obtain ⟨a2, m2⟩ := ate_count (a1.byt hb) q2 w2
  obtain ⟨a3, m3⟩ := ate_count (a2.byt (a1.byt hb)) q3 w3
  obtain ⟨a4, m4⟩ := ate_count (a3.byt (a2.byt (a1.byt hb))) q4 w4
  have hb4 := a4.byt (a3.byt (a2.byt (a1.byt hb)))
  obtain ⟨a5, m5, m6⟩ := ate_list hb4 (a4.low (a3.low (a2.low (a1.low ha)))) q5 w5
  have a6 := ate_text (a5.byt hb4) q6 hw
  refine ⟨?_, rfl, ⟨rfl, rfl, by show l.length ≤ 8; omega, ⟨by show (0 : Int) ≤ (mo : Int); omega, m2⟩, ⟨by show (0 : Int) ≤ (fu : Int); omega, m3⟩, ⟨by show (0 : Int) ≤ (di : Int); omega, m4⟩, fun e => absurd e (by show ¬ (2 : Int) = 1; decide), fun e => absurd e (by show ¬ (2 : Int) = 3; decide), fun s hs => (by have := m6 s hs; omega), ⟨by show (0 : Int) ≤ (id : Int); omega, by show (id : Int) ≤ _; omega⟩, z32_byt⟩⟩
  have e : layF ⟨2, (id : Int), 0, 0, z32, 0, (mo : Int), (fu : Int), (di : Int), none, 0, 0, l, s⟩ = sh id ++ sh mo ++ sh fu ++ sh di ++ lst l ++ txt s := by simp [layF]
  rw [e]
  exact ((((a1.then_ a2).then_ a3).then_ a4).then_ a5).then_ a6
theorem ate_response (hb : Byt D.bs) (ha : D.at_ ≤ D.bs.length) {f : Fr} (h : responseS D = (D1, f)) (hw : D1.why = 0) : Ate D D1 (layF f) ∧ f.k = 3 ∧ ReadOk f := by
  rcases q1 : uintS D with ⟨Da, id⟩
  rcases q2 : someS Da 3 with ⟨Db, st⟩
  rcases q3 : textS Db 2097152 with ⟨Dc, s⟩
  unfold responseS at h
  rw [q1] at h; dsimp only at h; rw [q2] at h; dsimp only at h; rw [q3] at h; dsimp only at h
  cases h
  have w2 := back_text q3 hw
  have w1 := back_some q2 w2
  have a1 := ate_uint hb q1 w1
  have hid := uint_lt hb ha q1
  obtain ⟨a2, m2, m0⟩ := ate_some (a1.byt hb) q2 w2
  have a3 := ate_text (a2.byt (a1.byt hb)) q3 hw
  refine ⟨?_, rfl, ⟨rfl, rfl, by simp, by simp, by simp, by simp, fun e => absurd e (by show ¬ (3 : Int) = 1; decide), fun _ => ⟨by show (1 : Int) ≤ (st : Int); omega, m2⟩, fun s hs => (by cases hs), ⟨by show (0 : Int) ≤ (id : Int); omega, by show (id : Int) ≤ _; omega⟩, z32_byt⟩⟩
  have e : layF ⟨3, (id : Int), 0, 0, z32, (st : Int), 0, 0, 0, none, 0, 0, [], s⟩ = sh id ++ sh st ++ txt s := by simp [layF]
  rw [e]
  exact (a1.then_ a2).then_ a3
theorem ate_cancel (hb : Byt D.bs) (ha : D.at_ ≤ D.bs.length) {f : Fr} (h : cancelS D = (D1, f)) (hw : D1.why = 0) : Ate D D1 (layF f) ∧ f.k = 4 ∧ ReadOk f := by
  rcases q1 : uintS D with ⟨Da, id⟩
  unfold cancelS at h
  rw [q1] at h; dsimp only at h
  cases h
  have a1 := ate_uint hb q1 hw
  have hid := uint_lt hb ha q1
  refine ⟨?_, rfl, ⟨rfl, rfl, by simp, by simp, by simp, by simp, fun e => absurd e (by show ¬ (4 : Int) = 1; decide), fun e => absurd e (by show ¬ (4 : Int) = 3; decide), fun s hs => (by cases hs), ⟨by show (0 : Int) ≤ (id : Int); omega, by show (id : Int) ≤ _; omega⟩, z32_byt⟩⟩
  have e : layF ⟨4, (id : Int), 0, 0, z32, 0, 0, 0, 0, none, 0, 0, [], ByteArray.empty⟩ = sh id := by simp [layF]
  rw [e]
  exact a1
theorem ate_note (hb : Byt D.bs) {f : Fr} (h : noteS D = (D1, f)) (hw : D1.why = 0) : Ate D D1 (layF f) ∧ f.k = 6 ∧ ReadOk f := by
  rcases q1 : textS D 2097152 with ⟨Da, s⟩
  unfold noteS at h
  rw [q1] at h; dsimp only at h
  cases h
  have a1 := ate_text hb q1 hw
  refine ⟨?_, rfl, ⟨rfl, rfl, by simp, by simp, by simp, by simp, fun e => absurd e (by show ¬ (6 : Int) = 1; decide), fun e => absurd e (by show ¬ (6 : Int) = 3; decide), fun s hs => (by cases hs), by simp, z32_byt⟩⟩
  have e : layF ⟨6, 0, 0, 0, z32, 0, 0, 0, 0, none, 0, 0, [], s⟩ = txt s := by simp [layF]
  rw [e]
  exact a1
theorem ate_kind (hb : Byt D.bs) (ha : D.at_ ≤ D.bs.length) (k : Nat) (h1 : 1 ≤ k) (h6 : k ≤ 6) {f : Fr} (h : kindS D k = (D1, f)) (hw : D1.why = 0) : Ate D D1 (layF f) ∧ f.k = (k : Int) ∧ ReadOk f := by
  rcases (by omega : k = 1 ∨ k = 2 ∨ k = 3 ∨ k = 4 ∨ k = 5 ∨ k = 6) with rfl | rfl | rfl | rfl | rfl | rfl
  · exact ate_hello hb ha h hw
  · exact ate_request hb ha h hw
  · exact ate_response hb ha h hw
  · exact ate_cancel hb ha h hw
  · unfold kindS at h
    simp only [show ¬ (5 = 1) by decide, show ¬ (5 = 2) by decide, show ¬ (5 = 3) by decide, show ¬ (5 = 4) by decide, show ¬ (5 = 6) by decide, if_false] at h
    cases h
    exact ⟨Ate.nil _ hw, rfl, ⟨rfl, rfl, by simp, by simp, by simp, by simp, fun e => absurd e (by decide), fun e => absurd e (by decide), fun s hs => (by cases hs), by simp, z32_byt⟩⟩
  · exact ate_note hb h hw
theorem ate_fields (hb : Byt D.bs) (ha : D.at_ ≤ D.bs.length) {f : Fr} (h : fieldsS D = (D1, f)) (hw : D1.why = 0) : Ate D D1 (bodyF f) ∧ ReadOk f ∧ 1 ≤ f.k ∧ f.k ≤ 6 := by
  rcases q1 : someS D 6 with ⟨Da, k⟩
  unfold fieldsS at h
  rw [q1] at h
  have w1 : Da.why = 0 := Classical.byContradiction fun e => by
    have := kindS_bad e k
    rw [h] at this
    have t : D1 = Da := this
    rw [t] at hw
    exact e hw
  obtain ⟨a1, k6, k1⟩ := ate_some hb q1 w1
  obtain ⟨a2, e, ho⟩ := ate_kind (a1.byt hb) (a1.low ha) k k1 (by omega) h hw
  refine ⟨?_, ho, by omega, by omega⟩
  have e2 : bodyF f = sh k ++ layF f := by unfold bodyF; rw [e, Int.toNat_natCast]
  rw [e2]
  exact a1.then_ a2
end
/-- What is read of a body without a fault has one form, and may be. -/
theorem read_form {ys : List Int} {head : Nat} (hb : Byt ys) (hh : head ≤ ys.length) {f : Fr} {y : Int} (h : readF ys head = (f, 0, y)) : ys.drop head = bodyF f ∧ May f ∧ ReadOk f := by
  rcases q : fieldsS ((Rd.new ys).to head) with ⟨D, g⟩
  rw [readF_of q] at h
  by_cases hf : (finS D g head).1 = 0
  · rw [if_neg (by simpa using hf)] at h
    cases h
    have hend : (endS D).why = 0 := by
      unfold finS at hf
      split at hf
      · exact absurd hf (by show ¬ (70 : Int) = 0; decide)
      · exact hf
    have hD : D.why = 0 := Classical.byContradiction fun e => by rw [endS_bad e] at hend; exact e hend
    obtain ⟨a, ho, k1, k6⟩ := ate_fields (D := (Rd.new ys).to head) hb hh q hD
    have hat : ¬ D.at_ < D.bs.length := fun e => by
      unfold endS at hend
      rw [if_pos ⟨hD, e⟩] at hend
      exact absurd hend (by show ¬ (6 : Int) = 0; decide)
    have hbs : D.bs = ys := a.bs
    have hdrop : ys.drop D.at_ = [] := List.drop_eq_nil_of_le (by rw [hbs] at hat; omega)
    refine ⟨by have e := a.eq; rw [show ((Rd.new ys).to head).bs = ys from rfl, show ((Rd.new ys).to head).at_ = head from rfl, hdrop, List.append_nil] at e; exact e, ⟨k1, k6, ho.only, ho.many, ho.mo.1, ho.fu.1, ho.di.1, ho.hello, fun e => ⟨(ho.resp e).1, (ho.resp e).2, fun hs => Classical.byContradiction fun hz => ?_⟩, ho.each⟩, ho⟩
    unfold finS at hf
    rw [if_pos ⟨hend, e, hs, hz⟩] at hf
    exact absurd hf (by show ¬ (70 : Int) = 0; decide)
  · rw [if_pos hf] at h
    have e : (finS D g head).1 = 0 := congrArg (fun p => p.2.1) h
    exact absurd e hf
theorem body_le (f : Fr) (hm : May f) : f.body.size ≤ (bodyF f).length := by
  have hc := hm.only
  have hk1 := hm.k1
  have hk6 := hm.k6
  have hb : f.body = (onlyF f).body := by have t := congrArg Fr.body hc; exact t
  have ht : (txt f.body).length = (sh f.body.size).length + f.body.size := by unfold txt; rw [List.length_append, bytesOf_len]
  unfold bodyF layF
  rcases (by omega : f.k = 1 ∨ f.k = 2 ∨ f.k = 3 ∨ f.k = 4 ∨ f.k = 5 ∨ f.k = 6) with e | e | e | e | e | e
  · rw [hb]; simp [onlyF, e]
  · simp [e]; omega
  · simp [e]; omega
  · rw [hb]; simp [onlyF, e]
  · rw [hb]; simp [onlyF, e]
  · simp [e]; omega
end Go.Kit
end
/-! The deferred function of frame.read; reading a kind's fields. -/
section
namespace Go.Proofs.Ytelfephmjkipoaa
open Go.RowKit Go.Kit Go.Proofs.YtelfephmjkipoaaW.PrintWords
theorem finS_bad {D : Rd} (h : D.why ≠ 0) (f : Fr) (head : Nat) : finS D f head = (D.why, D.wat) := by
  unfold finS; rw [endS_bad h, if_neg (fun e => h e.1)]
theorem count_le {D D1 : Rd} {most : Int} {v : Nat} (hm : 0 ≤ most) (h : countS D most = (D1, v)) : (v : Int) ≤ most := by
  unfold countS at h
  split at h
  · cases h; omega
  split at h
  · cases h; omega
  split at h
  · cases h; omega
  split at h
  · cases h; omega
  · cases h; omega
theorem kind_read {w : World} {r g n c : Nat} {A : Option Addr} {D : Rd} (k : Nat) (h1 : 1 ≤ k) (h6 : k ≤ 6) (h : RS w r A n c D) (hn : n ≤ 4398046511104) (hF : (kF (k : Int)).at_ 29 w g) (hs : ¬ rdf r A g) :
    Calls Try.prog (readN (k : Int)) #[.pointer (some ⟨r, 0, none⟩), .pointer (some ⟨g, 0, none⟩)] w (KindPost w r g n c A D k) := by
  rcases (by omega : k = 1 ∨ k = 2 ∨ k = 3 ∨ k = 4 ∨ k = 5 ∨ k = 6) with rfl | rfl | rfl | rfl | rfl | rfl
  · exact hello_read h hF hs
  · exact request_read h hn hF hs
  · exact response_read h hF hs
  · exact cancel_read h hF hs
  · exact bye_read h hF
  · exact note_read h hF hs
/-- A fault's two numbers as a row. -/
def fv (a b : Int) : Array Value := #[.int .i64 a, .int .i64 b]
theorem fv_size (a b : Int) : (Try.prog.info? 58).map (·.size) = some (fv a b).size := fault_size a b
theorem fv_one (a b : Int) : (fv a b).all (·.oneCell') = true := by simp [fv, Value.oneCell']
theorem load_fault {W : World} {g : Nat} {a b : Int} {t : TypeId} (h : W.heap[g]? = some (.cells (fv a b) t (0, 0))) : (Instr.loadAt 58 (.pointer (some ⟨g, 0, none⟩))).run Try.prog W = .ok (.agg (fv a b)) W :=
  run_loadAt_mid W g 0 58 (fv a b).toList _ (fun j v hj => by rw [Nat.zero_add, cell_of_row W g j _ _ _ h]; simpa using hj) Try.underlying58 rfl (by rw [Array.length_toList]; exact fv_size a b)
set_option maxRecDepth 100000 in
theorem catch_idle (p : Addr) (w : World) :
    CallsD Try.prog 68 #[.pointer (some p)] .returning w fun e u' w' => e = .returned (.tuple #[]) ∧ u' = .returning ∧ w' = w := by
  refine callsD_of_wpS Try.func68 rfl fun c₀ cs hu => ?_
  apply wpS_seq
  apply wpS_region
  simp [wpOpsS, go_sem, recoverD, hu, Try.ntmps68, Exit.thenS]
  refine wpS_of_wp ?_
  go_wp2_with fail
  cases c₀
  simp_all [bodyPostS, results, Try.results68]
theorem assert_fault (W : World) (v : Value) : (Instr.typeAssert (.iface 58 v) 20 58 true).run Try.prog W = .ok (.tuple #[v, .bool true]) W := by kernel_rfl
attribute [-go_sem] Instr.loadAt
set_option maxHeartbeats 4000000 in
set_option maxRecDepth 100000 in
theorem catch_raised (g : Nat) (a b : Int) (Z : Array Value) (older : List PanicEntry) (w : World) (hk : w.heap[g]? = some (.cells Z 58 (0, 0))) (hz : Z.size = 2) :
    CallsD Try.prog 68 #[.pointer (some ⟨g, 0, none⟩)] (.panicking ({ v := .iface 58 (.agg (fv a b)), recovered := false } :: older)) w fun e u' w' =>
      e = .returned (.tuple #[]) ∧ u' = .panicking ({ v := .iface 58 (.agg (fv a b)), recovered := true } :: older) ∧ w'.heap[g]? = some (.cells (fv a b) 58 (0, 0)) ∧ Only w w' (fun k => k = g) := by
  have hn := heap_alloc_new w (.cells #[.int .i64 0, .int .i64 0] 58)
  have hb1 := below_setRow (below_alloc (Below.refl w.heap.size w) (.cells #[.int .i64 0, .int .i64 0] 58)) (Nat.le_refl _) (fv a b)
  have hn2 := setRow_heap _ w.heap.size _ (fv a b) _ _ hn
  have hk2 := (hb1.block g (lt_of_block hk)).trans hk
  have hl := load_fault hn2
  have hta := assert_fault w (.agg (fv a b))
  have hs := fv_size a b
  have ho := fv_one a b
  have hz2 : Z.size = (fv a b).size := hz
  have h0 : (#[.int .i64 0, .int .i64 0] : Array Value).size = (fv a b).size := rfl
  generalize fv a b = FV at *
  refine callsD_of_wpS Try.func68 rfl fun c₀ cs hu => ?_
  apply wpS_seq
  apply wpS_region
  simp [wpOpsS, go_sem, recoverD, hu, Try.ntmps68, Exit.thenS, Array.replicate_succ, Array.replicate_zero]
  refine wpS_of_wp ?_
  go_wp2_with first
    | ((with_reducible show wpList _ _ _ (Oper.mk none _ _ _ _ _ :: _) _ _); refine wpList_store_row rfl 58 (.tmp 2) (.tmp 9) rfl w.heap.size FV rfl rfl 58 _ hn hs h0 ho ?_)
    | ((with_reducible show wpList _ _ _ (Oper.mk none _ _ _ _ _ :: _) _ _); refine wpList_store_row rfl 58 (.tmp 0) (.tmp 10) rfl g FV rfl rfl 58 _ hk2 hs hz2 ho ?_)
  refine ⟨rfl, _, rfl, .tuple #[], by simp [results, Try.results68], rfl, rfl, setRow_heap _ g _ FV _ _ hk2, ((Only.refl w _).below hb1).same (Fr.only_row _ g FV)⟩
end Go.Proofs.Ytelfephmjkipoaa
end
/-! The contract of frame.read. (mk_frzi.py) -/
section
namespace Go.Proofs.Ytelfephmjkipoaa
open Go.RowKit Go.Kit Go.Proofs.YtelfephmjkipoaaW.PrintWords
theorem count_zero {D D1 : Rd} {m : Int} {v : Nat} (h : countS D m = (D1, v)) (hw : D1.why ≠ 0) : v = 0 := by
  unfold countS at h
  split at h
  · cases h; rfl
  split at h
  · cases h; rfl
  split at h
  · cases h; rfl
  split at h
  · cases h; rfl
  · next h0 _ _ _ => cases h; exact absurd (Classical.not_not.mp h0) hw
theorem raw_head {xs : List Int} {head n : Nat} {D1 : Rd} {t : List Int} (hl : xs.length = n) (hh : head ≤ n) (h : rawS (Rd.new xs) (head : Int) = (D1, t)) : D1 = (Rd.new xs).to head := by
  unfold rawS at h
  rw [if_neg (by simp [Rd.new]), if_neg (by omega), if_neg (by show ¬ ((xs.length : Int) - ((0 : Nat) : Int)) < _; omega)] at h
  have h2 := congrArg Prod.fst h
  have h3 : (Rd.new xs).at_ + (head : Int).toNat = head := by show 0 + _ = _; omega
  dsimp only at h2
  rw [h3] at h2
  exact h2.symm
/-- What frame.read leaves. -/
def ReadPost (w : World) (xs : List Int) (head : Nat) (e : Ending) (w' : World) : Prop :=
  ∃ (F : Fr) (x y : Int), e = .returned (.tuple #[.agg F.arr, .agg (fv x y)]) ∧ F.tool.length = 32 ∧ Hid ((readF xs head).2 = (x, y) ∧ (x = 0 → F.core = (readF xs head).1 ∧ y = 0)) ∧ (x = 0 → F.ok w' ∧ OwnA w' w.heap.size F) ∧ Below w.heap.size w w'
theorem read_bad {xs : List Int} {head : Nat} {D : Rd} {f : Fr} (h : fieldsS ((Rd.new xs).to head) = (D, f)) (hw : D.why ≠ 0) : (readF xs head).2 = (D.why, D.wat) := by
  rw [readF_of h, finS_bad hw, if_pos hw]
theorem endS_inv {D : Rd} (h : D.why = 0 → D.wat = 0) : (endS D).why = 0 → (endS D).wat = 0 := by
  unfold endS
  split
  · intro e; exact absurd e (by show (6 : Int) ≠ 0; decide)
  · exact h
theorem read_fin {xs : List Int} {head : Nat} {D : Rd} {f : Fr} {x y : Int} (h : fieldsS ((Rd.new xs).to head) = (D, f)) (hi : D.why = 0 → D.wat = 0) (hf : finS D f head = (x, y)) :
    (readF xs head).2 = (x, y) ∧ (x = 0 → f = (readF xs head).1 ∧ y = 0) := by
  rw [readF_of h, hf]
  by_cases hx : x = 0
  · have hy : y = 0 := by
      unfold finS at hf
      split at hf
      · cases hf; exact absurd hx (by decide)
      · cases hf; exact endS_inv hi hx
    subst hx; subst hy
    rw [if_neg (by simp)]
    exact ⟨rfl, fun _ => ⟨rfl, rfl⟩⟩
  · rw [if_pos hx]
    exact ⟨rfl, fun e => absurd e hx⟩
theorem fields_kind {D0 D1 : Rd} {v : Nat} (h : countS D0 6 = (D1, v)) (hw : ¬ (D1.why = 0 ∧ v = 0)) : fieldsS D0 = kindS D1 v := by
  unfold fieldsS; rw [someS_some h hw]
theorem fields_none {D0 D1 : Rd} {v : Nat} (h : countS D0 6 = (D1, v)) (hw : D1.why = 0 ∧ v = 0) : (fieldsS D0).1 = D0.fail 70 D0.at_ := by
  obtain ⟨h1, rfl⟩ := hw
  unfold fieldsS
  rw [someS_none h h1]
  exact kindS_bad (by show (70 : Int) ≠ 0; decide) _
theorem pair_of {α β : Type} (p : α × β) : p = (p.1, p.2) := rfl
section
variable {W : World} {g g2 : Nat} {tmps : Array Value} {F : Fr} {x y : Int} {R : Ending → World → Prop}
theorem door_out (hp : tmps.getD 4 undef = .pointer (some ⟨g, 0, none⟩)) (hq : tmps.getD 5 undef = .pointer (some ⟨g2, 0, none⟩)) (hF : F.at_ 29 W g) (hX : W.heap[g2]? = some (.cells (fv x y) 58 (0, 0)))
    (hR : R (.returned (.tuple #[.agg F.arr, .agg (fv x y)])) W) : Leaves Try.prog Try.f46 tmps R [] .returning W :=
  ⟨_, results_cell_row2 (P := Try.prog) (fn := Try.f46) (p := 4) (q := 5) rfl tmps W g g2 29 58 F.arr (fv x y) (0, 0) (0, 0) _ _ hp hF.blk Try.underlying29 rfl (by rw [Fr.arr_size F hF.tool]; kernel_rfl) hq hX Try.underlying58 rfl (fv_size x y), hR⟩
theorem door_idle (hp : tmps.getD 4 undef = .pointer (some ⟨g, 0, none⟩)) (hq : tmps.getD 5 undef = .pointer (some ⟨g2, 0, none⟩)) (hF : F.at_ 29 W g) (hX : W.heap[g2]? = some (.cells (fv x y) 58 (0, 0)))
    (hR : R (.returned (.tuple #[.agg F.arr, .agg (fv x y)])) W) : Leaves Try.prog Try.f46 tmps R [{ target := .fn (.func 68) #[.pointer (some ⟨g2, 0, none⟩)], args := #[] }] .returning W := by
  refine leaves_cons (f := 68) (args := #[.pointer (some ⟨g2, 0, none⟩)]) (by simp) (by simp [go_sem]) ?_
  refine (catch_idle _ _).mono ?_
  rintro e u' w' ⟨rfl, rfl, rfl⟩
  exact door_out hp hq hF hX hR
theorem door_raised {Z : Array Value} (hp : tmps.getD 4 undef = .pointer (some ⟨g, 0, none⟩)) (hq : tmps.getD 5 undef = .pointer (some ⟨g2, 0, none⟩)) (hF : F.at_ 29 W g) (hX : W.heap[g2]? = some (.cells Z 58 (0, 0))) (hZ : Z.size = 2) (hgg : g ≠ g2)
    (hR : ∀ W', Only W W' (fun k => k = g2) → R (.returned (.tuple #[.agg F.arr, .agg (fv x y)])) W') : Leaves Try.prog Try.f46 tmps R [{ target := .fn (.func 68) #[.pointer (some ⟨g2, 0, none⟩)], args := #[] }] (.panicking (raisedF x y)) W := by
  refine leaves_cons (f := 68) (args := #[.pointer (some ⟨g2, 0, none⟩)]) (by simp) (by simp [go_sem]) ?_
  refine (catch_raised g2 x y Z [] W hX hZ).mono ?_
  rintro e u' w' ⟨rfl, rfl, hk, ho⟩
  have hs : settle (.panicking [{ v := .iface 58 (.agg (fv x y)), recovered := true }]) = .returning := by simp [settle]
  show Leaves _ _ _ _ _ (settle (.panicking [{ v := .iface 58 (.agg (fv x y)), recovered := true }])) _
  rw [hs]
  exact door_out hp hq (hF.only ho hgg) hk (hR w' ho)
end
/-- A store, in a region that draws its order, of what lies there already. -/
theorem at_same {P : Program} {ops : Array Oper} {o : Oper} {a : Act} {w : World} {K : Act → World → Prop} {Q : Exit → Act → World → Prop} {E : Prop} (ty : TypeId) (x y : Operand) (ho : o.op = .store ty x y) (hw : Region.wanted o (yielded ops a.tmps) = true)
    (hs : (Instr.storeAt ty (a.eval x) (a.eval y)).run P w = .ok () w) (hK : K (a.put o.dst undef) w) : if Region.wanted o (yielded ops a.tmps) = true then Oper.wp P o a w K Q else E := by
  rw [if_pos hw]
  unfold Oper.wp execOp
  simp only [ho, Sem.run_bind, hs, Result.andThen_ok, Sem.run_pure]
  exact hK
theorem storeAt_all {P : Program} (W : World) (g : Nat) (ty t : TypeId) (cells cur : Array Value) (hg : W.heap[g]? = some (.cells cur t (0, 0))) (hfit : cur.size = cells.size) (hi : (P.info? ty).map (·.size) = some cells.size) (h1 : cells.all (·.oneCell') = true) :
    (Instr.storeAt ty (.pointer (some ⟨g, 0, none⟩)) (.agg cells)).run P W = .ok () (W.setRow g cells) := by
  have hst := run_storeCells_at (P := P) g 0 t cells.toList 0 cur W hg (by simp [hfit]) (fun v hv => (Array.all_eq_true_iff_forall_mem.1 h1) v (by simpa using hv))
  have he : (cur.toList.take 0 ++ cells.toList ++ cur.toList.drop (0 + cells.toList.length)).toArray = cells := by
    rw [List.drop_eq_nil_of_le (by simp [hfit])]; simp
  simp only [Instr.storeAt, Instr.sureAddr, Sem.run_bind, Sem.run_pure, Result.andThen_ok]
  cases hq : P.info? ty with
  | none => simp [hq] at hi
  | some i =>
    have hs : cells.size = i.size := by simp [hq] at hi; omega
    simp only [Nat.add_zero] at hst
    rw [he] at hst
    simp [storeVar, sizeOf, typeInfo, hq, Value.cells, hs, hst]
theorem same_frame {W : World} {g : Nat} {F : Fr} (h : F.at_ 29 W g) : (Instr.storeAt 29 (.pointer (some ⟨g, 0, none⟩)) (.agg F.arr)).run Try.prog W = .ok () W := by
  have e := storeAt_all (P := Try.prog) W g 29 29 F.arr F.arr h.blk rfl (by rw [Fr.arr_size F h.tool]; kernel_rfl) (arr_one F)
  rw [e, setRow_self W g F.arr _ _ h.blk]
theorem same_fault {W : World} {g : Nat} {x y : Int} (h : W.heap[g]? = some (.cells (fv x y) 58 (0, 0))) : (Instr.storeAt 58 (.pointer (some ⟨g, 0, none⟩)) (.agg (fv x y))).run Try.prog W = .ok () W := by
  have e := storeAt_all (P := Try.prog) W g 58 58 (fv x y) (fv x y) h rfl (fv_size x y) (fv_one x y)
  rw [e, setRow_self W g (fv x y) _ _ h]
theorem put_int (x : Int) (W : World) (a : Addr) (u : Value) (hc : W.cell? a = some u) (hf : W.frozen? a = false) : (Instr.storeAt 3 (.pointer (some a)) (.int .i64 x)).run Try.prog W = .ok () (W.setCell a (.int .i64 x)) := by go_simp
attribute [-go_sem] Instr.loadAt Instr.storeAt
section
variable {A : Option Addr} {n cap : Nat} {xs : List Int} {w : World}
set_option maxHeartbeats 8000000 in
set_option maxRecDepth 100000 in
theorem read_any (hx : RB w A n xs) (hl : n ≤ 4194304) (head : Nat) (hh : head ≤ n) : Calls Try.prog 46 #[.slice A n cap, .int .i64 (head : Int)] w (ReadPost w xs head) := by
  have HXL := Lib.hid hx.len
  have hb0 := below_alloc (below_alloc (Below.refl _ w) (.cells #[.int .i64 0, .int .u64 0, .int .i64 0, .int .i64 0, .int .u8 0, .int .u8 0, .int .u8 0, .int .u8 0, .int .u8 0, .int .u8 0, .int .u8 0, .int .u8 0, .int .u8 0, .int .u8 0, .int .u8 0, .int .u8 0, .int .u8 0, .int .u8 0, .int .u8 0, .int .u8 0, .int .u8 0, .int .u8 0, .int .u8 0, .int .u8 0, .int .u8 0, .int .u8 0, .int .u8 0, .int .u8 0, .int .u8 0, .int .u8 0, .int .u8 0, .int .u8 0, .int .u8 0, .int .u8 0, .int .u8 0, .int .u8 0, .int .i64 0, .int .i64 0, .int .i64 0, .int .i64 0, .slice none 0 0, .string ⟨#[]⟩] 29)) (.cells #[.int .i64 0, .int .i64 0] 58)
  have hg0 : ((w.alloc (.cells #[.int .i64 0, .int .u64 0, .int .i64 0, .int .i64 0, .int .u8 0, .int .u8 0, .int .u8 0, .int .u8 0, .int .u8 0, .int .u8 0, .int .u8 0, .int .u8 0, .int .u8 0, .int .u8 0, .int .u8 0, .int .u8 0, .int .u8 0, .int .u8 0, .int .u8 0, .int .u8 0, .int .u8 0, .int .u8 0, .int .u8 0, .int .u8 0, .int .u8 0, .int .u8 0, .int .u8 0, .int .u8 0, .int .u8 0, .int .u8 0, .int .u8 0, .int .u8 0, .int .u8 0, .int .u8 0, .int .u8 0, .int .u8 0, .int .i64 0, .int .i64 0, .int .i64 0, .int .i64 0, .slice none 0 0, .string ⟨#[]⟩] 29)).alloc (.cells #[.int .i64 0, .int .i64 0] 58)).heap[w.heap.size]? = some (.cells (kF 0).arr 29 (0, 0)) := (heap_alloc_old _ _ (by simp)).trans (heap_alloc_new w _)
  have hf0 : ((w.alloc (.cells #[.int .i64 0, .int .u64 0, .int .i64 0, .int .i64 0, .int .u8 0, .int .u8 0, .int .u8 0, .int .u8 0, .int .u8 0, .int .u8 0, .int .u8 0, .int .u8 0, .int .u8 0, .int .u8 0, .int .u8 0, .int .u8 0, .int .u8 0, .int .u8 0, .int .u8 0, .int .u8 0, .int .u8 0, .int .u8 0, .int .u8 0, .int .u8 0, .int .u8 0, .int .u8 0, .int .u8 0, .int .u8 0, .int .u8 0, .int .u8 0, .int .u8 0, .int .u8 0, .int .u8 0, .int .u8 0, .int .u8 0, .int .u8 0, .int .i64 0, .int .i64 0, .int .i64 0, .int .i64 0, .slice none 0 0, .string ⟨#[]⟩] 29)).alloc (.cells #[.int .i64 0, .int .i64 0] 58)).heap[w.heap.size + 1]? = some (.cells (fv 0 0) 58 (0, 0)) := by
    have := heap_alloc_new (w.alloc (.cells #[.int .i64 0, .int .u64 0, .int .i64 0, .int .i64 0, .int .u8 0, .int .u8 0, .int .u8 0, .int .u8 0, .int .u8 0, .int .u8 0, .int .u8 0, .int .u8 0, .int .u8 0, .int .u8 0, .int .u8 0, .int .u8 0, .int .u8 0, .int .u8 0, .int .u8 0, .int .u8 0, .int .u8 0, .int .u8 0, .int .u8 0, .int .u8 0, .int .u8 0, .int .u8 0, .int .u8 0, .int .u8 0, .int .u8 0, .int .u8 0, .int .u8 0, .int .u8 0, .int .u8 0, .int .u8 0, .int .u8 0, .int .u8 0, .int .i64 0, .int .i64 0, .int .i64 0, .int .i64 0, .slice none 0 0, .string ⟨#[]⟩] 29)) (.cells #[.int .i64 0, .int .i64 0] 58)
    simpa [fv] using this
  have hF0 : (kF 0).at_ 29 ((w.alloc (.cells #[.int .i64 0, .int .u64 0, .int .i64 0, .int .i64 0, .int .u8 0, .int .u8 0, .int .u8 0, .int .u8 0, .int .u8 0, .int .u8 0, .int .u8 0, .int .u8 0, .int .u8 0, .int .u8 0, .int .u8 0, .int .u8 0, .int .u8 0, .int .u8 0, .int .u8 0, .int .u8 0, .int .u8 0, .int .u8 0, .int .u8 0, .int .u8 0, .int .u8 0, .int .u8 0, .int .u8 0, .int .u8 0, .int .u8 0, .int .u8 0, .int .u8 0, .int .u8 0, .int .u8 0, .int .u8 0, .int .u8 0, .int .u8 0, .int .i64 0, .int .i64 0, .int .i64 0, .int .i64 0, .slice none 0 0, .string ⟨#[]⟩] 29)).alloc (.cells #[.int .i64 0, .int .i64 0] 58)) w.heap.size := ⟨hg0, rfl⟩
  have hmf : ∀ (fn : Fn) (first cap : Array Value) (w : World), (Instr.makeFunc fn first cap).run Try.prog w = .ok (.func fn first cap) w := fun _ _ _ _ => rfl
  clear hg0
  go_enter_defers Try.func46, Try.ntmps46
  go_upto_region 1 with (fail)
  generalize hw1 : (w.alloc (.cells #[.int .i64 0, .int .u64 0, .int .i64 0, .int .i64 0, .int .u8 0, .int .u8 0, .int .u8 0, .int .u8 0, .int .u8 0, .int .u8 0, .int .u8 0, .int .u8 0, .int .u8 0, .int .u8 0, .int .u8 0, .int .u8 0, .int .u8 0, .int .u8 0, .int .u8 0, .int .u8 0, .int .u8 0, .int .u8 0, .int .u8 0, .int .u8 0, .int .u8 0, .int .u8 0, .int .u8 0, .int .u8 0, .int .u8 0, .int .u8 0, .int .u8 0, .int .u8 0, .int .u8 0, .int .u8 0, .int .u8 0, .int .u8 0, .int .i64 0, .int .i64 0, .int .i64 0, .int .i64 0, .slice none 0 0, .string ⟨#[]⟩] 29)).alloc (.cells #[.int .i64 0, .int .i64 0] 58) = w1 at *
  go_upto_region 2 with (fail)
  clear hw1
  obtain ⟨g, hg⟩ : ∃ g, w.heap.size = g := ⟨_, rfl⟩
  obtain ⟨g2, hg2⟩ : ∃ g2, w.heap.size + 1 = g2 := ⟨_, rfl⟩
  have HG := Lib.hid hg
  have HG2 := Lib.hid hg2
  have hgg : g ≠ g2 := by omega
  rw [hg] at hF0
  rw [hg2] at hf0
  rw [hg2, hg]
  have hxb := hx.below hb0
  clear hg hg2 hx
  go_wp2_with fail
  refine (NewReader_any A n cap xs _ hxb (by omega)).mono ?_
  rintro e w2 ⟨r, A', c, rfl, hR, hnew, hb1⟩
  have hF1 := hF0.below hb1
  have hX1 := (hb1.block _ (lt_of_block hf0)).trans hf0
  have hbw := below_step hb0 hb1
  have hs : ¬ rdf r A' g := fun e => by have := hnew _ e; have := hF0.lt; omega
  have hs2 : ¬ rdf r A' g2 := fun e => by have := hnew _ e; have := lt_of_block hf0; omega
  have hr2 : ¬ g2 = r := fun e => hs2 (.inl e)
  have HRW : Hid (w.heap.size ≤ r) := Lib.hid (Nat.le_trans hb0.size (hnew r (.inl rfl)))
  clear hb0 hb1 hf0 hF0 hnew hxb
  go_wp2_with fail
  refine (Raw_any hR (head : Int) (by omega)).mono ?_
  rintro e w3 ⟨D0, v0, t0, rfl, HR, hO, hR1, ho⟩
  have HD0 := Lib.hid (raw_head HXL.out hh HR.out)
  have hF2 := hF1.only ho (notr hs)
  have hX2 := ho.kept hX1 hr2
  have hbx := Below.only hbw ho hbw.size (fun k e => e ▸ HRW.out)
  clear hR HR hO ho hF1 hX1 hbw hh
  go_wp2_with fail
  refine (part_any hR1 6 (by omega)).mono ?_
  rintro e w4 ⟨D1, v, HC, hR2, ho2, (⟨HV, rfl⟩ | ⟨HV, rfl⟩)⟩
  · have hF3 := hF2.only ho2 (notr hs)
    have hX3 := ho2.kept hX2 hr2
    have hby := Below.only hbx ho2 hbx.size (fun k e => e ▸ HRW.out)
    have q0 := put_int (v : Int) w4 _ _ hF3.c0 (hF3.fz 0)
    have hF4 := hF3.set0 (v : Int)
    have ho3 := Fr.only_at w4 g 0 (.int .i64 (v : Int))
    have hR4 := hR2.only ho3 (sepg hs)
    have hX4 := ho3.kept hX3 (fun e => hgg e.symm)
    have hbz := Below.only hby ho3 hby.size (fun k e => by have := HG.out; omega)
    replace hF4 : (kF (v : Int)).at_ 29 (w4.setCell ⟨g, 0, none⟩ (.int .i64 (v : Int))) g := hF4
    clear hR1 hF2 hX2 hbx ho2 hF3 hX3 hby ho3 hR2
    go_upto_region 5 with (fail)
    clear q0
    generalize w4.setCell ⟨g, 0, none⟩ (.int .i64 (v : Int)) = w5 at *
    have e0 := load_int hF4.c0
    by_cases hw : D1.why = 0
    · have hv1 : 1 ≤ v := by have := HV.out; omega
      have hv6 : v ≤ 6 := by have := count_le (by omega) HC.out; omega
      have hen := read_enters (v : Int) (by omega) (by omega)
      have HKF := fields_kind HC.out HV.out
      clear hw
      go_wp2_with fail
      refine (of_any (v : Int) (by omega) (by omega) _).mono ?_
      rintro e w6 ⟨rfl, hb6⟩
      have hbK := below_alloc (Below.refl w6.heap.size w6) (.cells #[.nilFunc, .nilFunc, .nilFunc, .nilFunc] 75)
      have hblk := heap_alloc_new w6 (.cells #[.nilFunc, .nilFunc, .nilFunc, .nilFunc] 75)
      have h4 : (#[.nilFunc, .nilFunc, .nilFunc, .nilFunc] : Array Value).size = (kV (v : Int)).size := rfl
      have hsz := kind_size (k := (v : Int))
      have hone := kind_one (v : Int)
      obtain ⟨KK, hKK⟩ : ∃ KK, kV (v : Int) = KK := ⟨_, rfl⟩
      have hk1 : KK[1]? = some (.func (.func (readN (v : Int))) #[] #[]) := by rw [← hKK]; rfl
      rw [hKK] at h4 hsz hone ⊢
      clear hKK e0
      go_upto_region 6 with ((with_reducible show wpList _ _ _ (Oper.mk none _ _ _ _ _ :: _) _ _); refine wpList_store_row rfl 75 (.tmp 7) (.tmp 22) rfl w6.heap.size KK rfl rfl 75 _ hblk hsz h4 hone ?_)
      have hb7 := below_setRow (below_step hb6 hbK) hb6.size KK
      have hK := setRow_heap _ w6.heap.size _ KK _ _ hblk
      have hF5 := hF4.below hb7
      have hR5 := hR4.below hb7
      have hX5 := (hb7.block _ (lt_of_block hX4)).trans hX4
      have hbq := below_step hbz hb7
      clear hF4 hR4 hX4 hbz hb7 hbK hblk h4 hsz hone hb6
      generalize (w6.alloc (.cells #[.nilFunc, .nilFunc, .nilFunc, .nilFunc] 75)).setRow w6.heap.size KK = w7 at *
      generalize w6.heap.size = gk at *
      have e1 := load_read (by rw [cell_of_row w7 gk 1 _ _ _ hK]; exact hk1)
      clear hK hk1
      go_wp2_with fail
      refine (kind_read v hv1 hv6 hR5 (by omega) hF5 hs).mono ?_
      rintro e w8 (⟨D2, F, rfl, HK, hR6, hF6, hok, hfr, ho6⟩ | ⟨F, rfl, HK, hF6, ho6⟩)
      · have hX6 := ho6.kept hX5 (fun e => e.elim hr2 (fun e => hgg e.symm))
        have hbr := Below.only hbq ho6 hbq.size (fun k e => e.elim (fun e => e ▸ HRW.out) (fun e => by have := HG.out; omega))
        have HKF2 : Hid (fieldsS ((Rd.new xs).to head) = (D2, F.core)) := Lib.hid (by rw [← HD0.out, HKF, HK.out])
        have hoa := hfr.less hbq.size
        have HFA : Hid (∀ a, F.A = some a → ¬ a.block = r ∧ ¬ a.block = g2) := Lib.hid (fun a e => by have := hfr.fresh a e; have := lt_of_block hR5.rk; have := lt_of_block hX5; omega)
        clear hbq ho6 hX5 hR5 hF5 HK HKF hfr e1 hen
        go_wp2_with fail
        refine (End_any hR6).mono ?_
        rintro e w9 ⟨rfl, hR7, ho7⟩
        have hF7 := hF6.only ho7 (notr hs)
        have hX7 := ho7.kept hX6 hr2
        have hbs := Below.only hbr ho7 hbr.size (fun k e => e ▸ HRW.out)
        obtain ⟨D3, hD3⟩ : ∃ D3, endS D2 = D3 := ⟨_, rfl⟩
        have hfin : finS D2 F.core head = if D3.why = 0 ∧ F.k = 3 ∧ F.st ≠ 1 ∧ F.body.size ≠ 0 then (70, (head : Int)) else (D3.why, D3.wat) := by unfold finS; rw [hD3]; rfl
        have HINV := Lib.hid hR6.inv
        have HIV3 : Hid (D3.why = 0 → D3.wat = 0) := Lib.hid (by rw [← hD3]; exact endS_inv HINV.out)
        rw [hD3] at hR7 ⊢
        clear hD3
        have hR8 := hR7
        clear hR8 hR6 hR7
        obtain ⟨x, hx⟩ : ∃ x, D3.why = x := ⟨_, rfl⟩
        obtain ⟨y, hy⟩ : ∃ y, D3.wat = y := ⟨_, rfl⟩
        rw [hx, hy] at hfin HIV3
        rw [hx, hy]
        have HFIN := Lib.hid hfin
        clear hx hy hfin
        have hsz2 := fv_size x y
        go_upto_region 9 with ((with_reducible show wpList _ _ _ (Oper.mk none _ _ _ _ _ :: _) _ _); refine wpList_store_row rfl 58 (.tmp 5) (.tmp 30) rfl g2 (fv x y) rfl rfl 58 _ hX7 hsz2 rfl (fv_one x y) ?_)
        have hX8 := setRow_heap _ g2 _ (fv x y) _ _ hX7
        have hF8 := hF7.only (Fr.only_row w9 g2 (fv x y)) hgg
        have hbt := below_setRow (cs := fv x y) hbs (g := g2) (by have := HG2.out; omega)
        have hok8 : F.ok (w9.setRow g2 (fv x y)) := ⟨hok.tool, (hok.args.apart ho7 (fun a e => (HFA.out a e).1)).apart (Fr.only_row w9 g2 (fv x y)) (fun a e => (HFA.out a e).2)⟩
        have hoa8 := (hoa.only ho7 (fun a e => (HFA.out a e).1)).only (Fr.only_row w9 g2 (fv x y)) (fun a e => (HFA.out a e).2)
        clear hF7 hbs hok hX7 ho7 hsz2 hoa
        generalize w9.setRow g2 (fv x y) = w10 at *
        have eX : (Instr.loadAt 58 (.pointer (some ⟨g2, 0, none⟩))).run Try.prog w10 = .ok (.agg #[.int .i64 x, .int .i64 y]) w10 := load_fault hX8
        have hif : (Try.prog.info? 29).map (·.size) = some F.cells.length := by have := Fr.arr_size F hF8.tool; rw [frame_size]; simp [Fr.arr] at this; rw [this]
        have hdr := below_drew (Below.refl w10.heap.size w10)
        have hFd := hF8.below hdr
        have hXd := (hdr.block _ (lt_of_block hX8)).trans hX8
        have eF := load_frame F hif w10.drew g hFd
        have eXd : (Instr.loadAt 58 (.pointer (some ⟨g2, 0, none⟩))).run Try.prog w10.drew = .ok (.agg #[.int .i64 x, .int .i64 y]) w10.drew := load_fault hXd
        have sF := same_frame hFd
        have sX : (Instr.storeAt 58 (.pointer (some ⟨g2, 0, none⟩)) (.agg #[.int .i64 x, .int .i64 y])).run Try.prog w10.drew = .ok () w10.drew := same_fault hXd
        have eK := load_int hF8.c0
        have eS := load_int hF8.c36
        have eB := load_str hF8.c41
        have hz : ∀ W : World, (Instr.build 58 #[]).run Try.prog W = .ok (.agg #[.int .i64 0, .int .i64 0]) W := fun W => by kernel_rfl
        have hbe := body_empty F.body
        have hqg : Try.prog.eqGuardType Try.prog.depth 58 = false := by kernel_rfl
        have hDone : ∀ (HP : finS D2 F.core head = (x, y)) , ReadPost w xs head (.returned (.tuple #[.agg F.arr, .agg (fv x y)])) w10.drew := fun HP => ⟨F, x, y, rfl, hF8.tool, Lib.hid (read_fin HKF2.out HINV.out HP), fun _ => ⟨hok8.below hdr, hoa8.below hdr⟩, below_step hbt hdr⟩
        have HDone := Lib.hid hDone
        clear hDone hif
        by_cases h0 : x = 0
        · have heq := run_fault x y true (by rw [h0, HIV3.out h0]; rfl)
          by_cases hk : F.k = 3
          · have bk : (F.k == 3) = true := by rw [beq_iff_eq]; exact hk
            by_cases hst : F.st = 1
            · have bs : (F.st != 1) = false := by simp [hst]
              have HP : Hid (finS D2 F.core head = (x, y)) := Lib.hid (by rw [HFIN.out, if_neg (fun e => e.2.2.1 hst)])
              clear hbe hk hst h0
              go_wp2_with fail
              go_region_law (fail)
              all_goals ((try go_wp2_with fail); exact door_idle (by rfl) (by rfl) hFd hXd (HDone.out HP.out))
            · have bs : (F.st != 1) = true := by simp [hst]
              by_cases hb0 : F.body.size = 0
              · have b0 : F.body.toList.isEmpty = true := by rw [hbe]; exact decide_eq_true hb0
                have HP : Hid (finS D2 F.core head = (x, y)) := Lib.hid (by rw [HFIN.out, if_neg (fun e => e.2.2.2 hb0)])
                clear hbe hk hst h0 hb0
                go_wp2_with fail
                go_region_law (fail)
                all_goals ((try go_wp2_with fail); exact door_idle (by rfl) (by rfl) hFd hXd (HDone.out HP.out))
              · have b0 : F.body.toList.isEmpty = false := by rw [hbe]; exact decide_eq_false hb0
                have HP : Hid (finS D2 F.core head = (70, (head : Int))) := Lib.hid (by rw [HFIN.out, if_pos ⟨h0, hk, hst, hb0⟩])
                clear hbe hk hst h0 hb0
                have hb2 : ∀ (x y : Int) (W : World), (Instr.build 58 #[(0, .int .i64 x), (1, .int .i64 y)]).run Try.prog W = .ok (.agg #[.int .i64 x, .int .i64 y]) W := fun x y W => by kernel_rfl
                have hszq := fv_size 70 (head : Int)
                clear sF sX eF eXd hFd hXd hdr
                go_upto_region 11 with ((with_reducible show wpList _ _ _ (Oper.mk none _ _ _ _ _ :: _) _ _); refine wpList_store_row rfl 58 (.tmp 5) (.tmp 50) rfl g2 (fv 70 (head : Int)) rfl rfl 58 _ hX8 hszq rfl (fv_one _ _) ?_)
                have hX9 := setRow_heap _ g2 _ (fv 70 (head : Int)) _ _ hX8
                have hF9 := hF8.only (Fr.only_row w10 g2 (fv 70 (head : Int))) hgg
                have hbu := below_setRow (cs := fv 70 (head : Int)) hbt (g := g2) (by have := HG2.out; omega)
                have hDone : ReadPost w xs head (.returned (.tuple #[.agg F.arr, .agg (fv 70 (head : Int))])) (w10.setRow g2 (fv 70 (head : Int))).drew := ⟨F, 70, (head : Int), rfl, hF9.tool, Lib.hid (read_fin HKF2.out HINV.out HP.out), fun e => absurd e (by decide), below_step hbu (below_drew (Below.refl _ _))⟩
                have HDone2 := Lib.hid hDone
                clear hF8 hbt hX8 hDone eX eK eS eB
                generalize w10.setRow g2 (fv 70 (head : Int)) = w11 at *
                have hdr := below_drew (Below.refl w11.heap.size w11)
                have hFd := hF9.below hdr
                have hXd := (hdr.block _ (lt_of_block hX9)).trans hX9
                have eXd := load_fault hXd
                have hif : (Try.prog.info? 29).map (·.size) = some F.cells.length := by have := Fr.arr_size F hF9.tool; rw [frame_size]; simp [Fr.arr] at this; rw [this]
                have eF := load_frame F hif w11.drew g hFd
                have sF := same_frame hFd
                have sX := same_fault hXd
                clear hif
                go_wp2_with fail
                go_region_law (fail)
                all_goals ((try go_wp2_with fail); exact door_idle (by rfl) (by rfl) hFd hXd HDone2.out)
          · have bk : (F.k == 3) = false := by rw [beq_eq_false_iff_ne]; exact hk
            have HP : Hid (finS D2 F.core head = (x, y)) := Lib.hid (by rw [HFIN.out, if_neg (fun e => hk e.2.1)])
            clear hbe hk h0
            go_wp2_with fail
            go_region_law (fail)
            all_goals ((try go_wp2_with fail); exact door_idle (by rfl) (by rfl) hFd hXd (HDone.out HP.out))
        · have heq := run_fault x y false (by rw [Bool.and_eq_false_iff]; left; rw [beq_eq_false_iff_ne]; exact h0)
          have HP : Hid (finS D2 F.core head = (x, y)) := Lib.hid (by rw [HFIN.out, if_neg (fun e => h0 e.1)])
          clear hbe h0
          go_wp2_with fail
          go_region_law (fail)
          all_goals ((try go_wp2_with fail); exact door_idle (by rfl) (by rfl) hFd hXd (HDone.out HP.out))
      · have hX6 := ho6.kept hX5 (fun e => e.elim hr2 (fun e => hgg e.symm))
        have hbr := Below.only hbq ho6 hbq.size (fun k e => e.elim (fun e => e ▸ HRW.out) (fun e => by have := HG.out; omega))
        have HB : Hid ((readF xs head).2 = ((70 : Int), (kindS D1 v).1.wat)) := Lib.hid (by
          have e2 : fieldsS ((Rd.new xs).to head) = ((kindS D1 v).1, (kindS D1 v).2) := by rw [← HD0.out, HKF]
          rw [read_bad e2 (by rw [HK.out]; decide), HK.out])
        refine door_raised (Z := fv 0 0) rfl rfl hF6 hX6 rfl hgg (fun W' ho' => ?_)
        exact ⟨F, 70, _, rfl, hF6.tool, Lib.hid ⟨HB.out, fun e => absurd e (by decide)⟩, fun e => absurd e (by decide), Below.only hbr ho' hbr.size (fun k e => by have := HG2.out; omega)⟩
    · have hv0 := count_zero HC.out hw
      subst hv0
      have HKF := fields_kind HC.out HV.out
      have HWB := Lib.hid hw
      go_wp2_with fail
      refine (of_bad (0 : Int) (by omega) _).mono ?_
      rintro e w6 ⟨rfl, hb6⟩
      have hbK := below_alloc (Below.refl w6.heap.size w6) (.cells #[.nilFunc, .nilFunc, .nilFunc, .nilFunc] 75)
      have hblk := heap_alloc_new w6 (.cells #[.nilFunc, .nilFunc, .nilFunc, .nilFunc] 75)
      have hsz : (Try.prog.info? 75).map (·.size) = some (#[.nilFunc, .nilFunc, .nilFunc, .nilFunc] : Array Value).size := kind_size4
      clear e0 hw
      go_upto_region 6 with ((with_reducible show wpList _ _ _ (Oper.mk none _ _ _ _ _ :: _) _ _); refine wpList_store_row rfl 75 (.tmp 7) (.tmp 22) rfl w6.heap.size #[.nilFunc, .nilFunc, .nilFunc, .nilFunc] rfl rfl 75 _ hblk hsz rfl (by simp [Value.oneCell']) ?_)
      have hb7 := below_setRow (below_step hb6 hbK) hb6.size #[.nilFunc, .nilFunc, .nilFunc, .nilFunc]
      have hF6 := hF4.below hb7
      have hR6 := hR4.below hb7
      have hX6 := (hb7.block _ (lt_of_block hX4)).trans hX4
      have hbr := below_step hbz hb7
      obtain ⟨F, hF⟩ : ∃ F, kF ((0 : Nat) : Int) = F := ⟨_, rfl⟩
      have HKF2 : Hid (fieldsS ((Rd.new xs).to head) = (D1, F.core)) := Lib.hid (by rw [← HD0.out, HKF, ← hF, pair_of (kindS D1 0), kindS_bad HWB.out]; rfl)
      have hok : F.ok ((w6.alloc (.cells #[.nilFunc, .nilFunc, .nilFunc, .nilFunc] 75)).setRow w6.heap.size #[.nilFunc, .nilFunc, .nilFunc, .nilFunc]) := by rw [← hF]; exact ⟨rfl, rt_none _ rfl rfl rfl⟩
      have hoa : OwnA ((w6.alloc (.cells #[.nilFunc, .nilFunc, .nilFunc, .nilFunc] 75)).setRow w6.heap.size #[.nilFunc, .nilFunc, .nilFunc, .nilFunc]) w.heap.size F := by rw [← hF]; exact OwnA.none _ _ ⟨rfl, rfl, rfl, rfl⟩
      have HFA : Hid (∀ a, F.A = some a → ¬ a.block = r ∧ ¬ a.block = g2) := Lib.hid (fun a e => by rw [← hF] at e; cases e)
      rw [hF] at hF6
      clear hF4 hR4 hX4 hbz hb7 hbK hblk hsz hb6 hF HKF
      generalize (w6.alloc (.cells #[.nilFunc, .nilFunc, .nilFunc, .nilFunc] 75)).setRow w6.heap.size #[.nilFunc, .nilFunc, .nilFunc, .nilFunc] = w8 at *
      obtain ⟨D2, hD2⟩ : ∃ D2, D1 = D2 := ⟨_, rfl⟩
      rw [hD2] at HKF2 hR6
      go_wp2_with fail
      refine (End_any hR6).mono ?_
      rintro e w9 ⟨rfl, hR7, ho7⟩
      have hF7 := hF6.only ho7 (notr hs)
      have hX7 := ho7.kept hX6 hr2
      have hbs := Below.only hbr ho7 hbr.size (fun k e => e ▸ HRW.out)
      obtain ⟨D3, hD3⟩ : ∃ D3, endS D2 = D3 := ⟨_, rfl⟩
      have hfin : finS D2 F.core head = if D3.why = 0 ∧ F.k = 3 ∧ F.st ≠ 1 ∧ F.body.size ≠ 0 then (70, (head : Int)) else (D3.why, D3.wat) := by unfold finS; rw [hD3]; rfl
      have HINV := Lib.hid hR6.inv
      have HIV3 : Hid (D3.why = 0 → D3.wat = 0) := Lib.hid (by rw [← hD3]; exact endS_inv HINV.out)
      rw [hD3] at hR7 ⊢
      clear hD3
      have hR8 := hR7
      clear hR8 hR6 hR7
      obtain ⟨x, hx⟩ : ∃ x, D3.why = x := ⟨_, rfl⟩
      obtain ⟨y, hy⟩ : ∃ y, D3.wat = y := ⟨_, rfl⟩
      rw [hx, hy] at hfin HIV3
      rw [hx, hy]
      have HFIN := Lib.hid hfin
      clear hx hy hfin
      have hsz2 := fv_size x y
      go_upto_region 9 with ((with_reducible show wpList _ _ _ (Oper.mk none _ _ _ _ _ :: _) _ _); refine wpList_store_row rfl 58 (.tmp 5) (.tmp 30) rfl g2 (fv x y) rfl rfl 58 _ hX7 hsz2 rfl (fv_one x y) ?_)
      have hX8 := setRow_heap _ g2 _ (fv x y) _ _ hX7
      have hF8 := hF7.only (Fr.only_row w9 g2 (fv x y)) hgg
      have hbt := below_setRow (cs := fv x y) hbs (g := g2) (by have := HG2.out; omega)
      have hok8 : F.ok (w9.setRow g2 (fv x y)) := ⟨hok.tool, (hok.args.apart ho7 (fun a e => (HFA.out a e).1)).apart (Fr.only_row w9 g2 (fv x y)) (fun a e => (HFA.out a e).2)⟩
      have hoa8 := (hoa.only ho7 (fun a e => (HFA.out a e).1)).only (Fr.only_row w9 g2 (fv x y)) (fun a e => (HFA.out a e).2)
      clear hF7 hbs hok hX7 ho7 hsz2 hoa
      generalize w9.setRow g2 (fv x y) = w10 at *
      have eX : (Instr.loadAt 58 (.pointer (some ⟨g2, 0, none⟩))).run Try.prog w10 = .ok (.agg #[.int .i64 x, .int .i64 y]) w10 := load_fault hX8
      have hif : (Try.prog.info? 29).map (·.size) = some F.cells.length := by have := Fr.arr_size F hF8.tool; rw [frame_size]; simp [Fr.arr] at this; rw [this]
      have hdr := below_drew (Below.refl w10.heap.size w10)
      have hFd := hF8.below hdr
      have hXd := (hdr.block _ (lt_of_block hX8)).trans hX8
      have eF := load_frame F hif w10.drew g hFd
      have eXd : (Instr.loadAt 58 (.pointer (some ⟨g2, 0, none⟩))).run Try.prog w10.drew = .ok (.agg #[.int .i64 x, .int .i64 y]) w10.drew := load_fault hXd
      have sF := same_frame hFd
      have sX : (Instr.storeAt 58 (.pointer (some ⟨g2, 0, none⟩)) (.agg #[.int .i64 x, .int .i64 y])).run Try.prog w10.drew = .ok () w10.drew := same_fault hXd
      have eK := load_int hF8.c0
      have eS := load_int hF8.c36
      have eB := load_str hF8.c41
      have hz : ∀ W : World, (Instr.build 58 #[]).run Try.prog W = .ok (.agg #[.int .i64 0, .int .i64 0]) W := fun W => by kernel_rfl
      have hbe := body_empty F.body
      have hqg : Try.prog.eqGuardType Try.prog.depth 58 = false := by kernel_rfl
      have hDone : ∀ (HP : finS D2 F.core head = (x, y)) , ReadPost w xs head (.returned (.tuple #[.agg F.arr, .agg (fv x y)])) w10.drew := fun HP => ⟨F, x, y, rfl, hF8.tool, Lib.hid (read_fin HKF2.out HINV.out HP), fun _ => ⟨hok8.below hdr, hoa8.below hdr⟩, below_step hbt hdr⟩
      have HDone := Lib.hid hDone
      clear hDone hif
      by_cases h0 : x = 0
      · have heq := run_fault x y true (by rw [h0, HIV3.out h0]; rfl)
        by_cases hk : F.k = 3
        · have bk : (F.k == 3) = true := by rw [beq_iff_eq]; exact hk
          by_cases hst : F.st = 1
          · have bs : (F.st != 1) = false := by simp [hst]
            have HP : Hid (finS D2 F.core head = (x, y)) := Lib.hid (by rw [HFIN.out, if_neg (fun e => e.2.2.1 hst)])
            clear hbe hk hst h0
            go_wp2_with fail
            go_region_law (fail)
            all_goals ((try go_wp2_with fail); exact door_idle (by rfl) (by rfl) hFd hXd (HDone.out HP.out))
          · have bs : (F.st != 1) = true := by simp [hst]
            by_cases hb0 : F.body.size = 0
            · have b0 : F.body.toList.isEmpty = true := by rw [hbe]; exact decide_eq_true hb0
              have HP : Hid (finS D2 F.core head = (x, y)) := Lib.hid (by rw [HFIN.out, if_neg (fun e => e.2.2.2 hb0)])
              clear hbe hk hst h0 hb0
              go_wp2_with fail
              go_region_law (fail)
              all_goals ((try go_wp2_with fail); exact door_idle (by rfl) (by rfl) hFd hXd (HDone.out HP.out))
            · have b0 : F.body.toList.isEmpty = false := by rw [hbe]; exact decide_eq_false hb0
              have HP : Hid (finS D2 F.core head = (70, (head : Int))) := Lib.hid (by rw [HFIN.out, if_pos ⟨h0, hk, hst, hb0⟩])
              clear hbe hk hst h0 hb0
              have hb2 : ∀ (x y : Int) (W : World), (Instr.build 58 #[(0, .int .i64 x), (1, .int .i64 y)]).run Try.prog W = .ok (.agg #[.int .i64 x, .int .i64 y]) W := fun x y W => by kernel_rfl
              have hszq := fv_size 70 (head : Int)
              clear sF sX eF eXd hFd hXd hdr
              go_upto_region 11 with ((with_reducible show wpList _ _ _ (Oper.mk none _ _ _ _ _ :: _) _ _); refine wpList_store_row rfl 58 (.tmp 5) (.tmp 50) rfl g2 (fv 70 (head : Int)) rfl rfl 58 _ hX8 hszq rfl (fv_one _ _) ?_)
              have hX9 := setRow_heap _ g2 _ (fv 70 (head : Int)) _ _ hX8
              have hF9 := hF8.only (Fr.only_row w10 g2 (fv 70 (head : Int))) hgg
              have hbu := below_setRow (cs := fv 70 (head : Int)) hbt (g := g2) (by have := HG2.out; omega)
              have hDone : ReadPost w xs head (.returned (.tuple #[.agg F.arr, .agg (fv 70 (head : Int))])) (w10.setRow g2 (fv 70 (head : Int))).drew := ⟨F, 70, (head : Int), rfl, hF9.tool, Lib.hid (read_fin HKF2.out HINV.out HP.out), fun e => absurd e (by decide), below_step hbu (below_drew (Below.refl _ _))⟩
              have HDone2 := Lib.hid hDone
              clear hF8 hbt hX8 hDone eX eK eS eB
              generalize w10.setRow g2 (fv 70 (head : Int)) = w11 at *
              have hdr := below_drew (Below.refl w11.heap.size w11)
              have hFd := hF9.below hdr
              have hXd := (hdr.block _ (lt_of_block hX9)).trans hX9
              have eXd := load_fault hXd
              have hif : (Try.prog.info? 29).map (·.size) = some F.cells.length := by have := Fr.arr_size F hF9.tool; rw [frame_size]; simp [Fr.arr] at this; rw [this]
              have eF := load_frame F hif w11.drew g hFd
              have sF := same_frame hFd
              have sX := same_fault hXd
              clear hif
              go_wp2_with fail
              go_region_law (fail)
              all_goals ((try go_wp2_with fail); exact door_idle (by rfl) (by rfl) hFd hXd HDone2.out)
        · have bk : (F.k == 3) = false := by rw [beq_eq_false_iff_ne]; exact hk
          have HP : Hid (finS D2 F.core head = (x, y)) := Lib.hid (by rw [HFIN.out, if_neg (fun e => hk e.2.1)])
          clear hbe hk h0
          go_wp2_with fail
          go_region_law (fail)
          all_goals ((try go_wp2_with fail); exact door_idle (by rfl) (by rfl) hFd hXd (HDone.out HP.out))
      · have heq := run_fault x y false (by rw [Bool.and_eq_false_iff]; left; rw [beq_eq_false_iff_ne]; exact h0)
        have HP : Hid (finS D2 F.core head = (x, y)) := Lib.hid (by rw [HFIN.out, if_neg (fun e => h0 e.1)])
        clear hbe h0
        go_wp2_with fail
        go_region_law (fail)
        all_goals ((try go_wp2_with fail); exact door_idle (by rfl) (by rfl) hFd hXd (HDone.out HP.out))
  · have hF3 := hF2.only ho2 (notr hs)
    have hX3 := ho2.kept hX2 hr2
    have hby := Below.only hbx ho2 hbx.size (fun k e => e ▸ HRW.out)
    have HB : Hid ((readF xs head).2 = ((70 : Int), (D0.at_ : Int))) := Lib.hid (by
      have e2 : fieldsS ((Rd.new xs).to head) = (D0.fail 70 D0.at_, (fieldsS D0).2) := by rw [← HD0.out, ← fields_none HC.out HV.out]
      exact read_bad e2 (by show (70 : Int) ≠ 0; decide))
    refine door_raised (Z := fv 0 0) rfl rfl hF3 hX3 rfl hgg (fun W' ho' => ?_)
    exact ⟨kF 0, 70, _, rfl, hF3.tool, Lib.hid ⟨HB.out, fun e => absurd e (by decide)⟩, fun e => absurd e (by decide), Below.only hby ho' hby.size (fun k e => by have := HG2.out; omega)⟩
end
end Go.Proofs.Ytelfephmjkipoaa
end
/-! The contracts of Open and of the document's Open. -/
section
namespace Go.Proofs.Ytelfephmjkipoaa
open Go.RowKit Go.Kit CrcM Go.Proofs.YtelfephmjkipoaaW.PrintWords

/-- What Open answers. -/
def openR (xs : List Int) : List Int × Int :=
  if xs.length < 4 then ([], 4) else if b4 (more 0#32 (xs.take (xs.length - 4))) = xs.drop (xs.length - 4) then (xs.take (xs.length - 4), 0) else ([], 71)
theorem openR_short {xs : List Int} (h : xs.length < 4) : openR xs = ([], 4) := if_pos h
theorem openR_good {xs : List Int} {N : Nat} (h : xs.length = N + 4) (e : b4 (more 0#32 (xs.take N)) = xs.drop N) : openR xs = (xs.take N, 0) := by
  unfold openR; rw [if_neg (by omega), show xs.length - 4 = N from by omega, if_pos e]
theorem openR_bad {xs : List Int} {N : Nat} (h : xs.length = N + 4) (e : b4 (more 0#32 (xs.take N)) ≠ xs.drop N) : openR xs = ([], 71) := by
  unfold openR; rw [if_neg (by omega), show xs.length - 4 = N from by omega, if_neg e]
theorem last_four {xs : List Int} {N : Nat} (h : xs.length = N + 4) : ∃ y0 y1 y2 y3, xs.drop N = [y0, y1, y2, y3] := by
  have hl : (xs.drop N).length = 4 := by rw [List.length_drop]; omega
  match hd : xs.drop N, hl with
  | [y0, y1, y2, y3], _ => exact ⟨y0, y1, y2, y3, rfl⟩
theorem RBs.drew {w : World} {A : Option Addr} {n : Nat} {L : List (List Int)} (h : RBs w A n L) : RBs w.drew A n L := ⟨h.len, h.max, fun i hi => by
  obtain ⟨ad, Ai, ci, xs, e, hc, hx, hr⟩ := h.at0 i hi
  exact ⟨ad, Ai, ci, xs, e, hc, hx, hr.drew⟩⟩
theorem Sum_of {A : Option Addr} {n : Nat} {xs : List Int} {w : World} (h : RBs w A n [xs]) (c : Nat) :
    Calls Try.prog 48 #[.slice A n c] w fun e w' => ∃ s : W, e = .returned (.int .u32 (s.toNat : Int)) ∧ Hid (s = more 0#32 xs) ∧ Below w.heap.size w w' := by
  refine (Sum_any _ n c [xs] _ h).mono ?_
  rintro e w1 ⟨rfl, hb1⟩
  exact ⟨_, rfl, Lib.hid (by simp), hb1⟩
theorem openS {w w1 : World} {a0 a1 a2 a3 : Addr} {v0 v1 v2 v3 : Value} (h0 : w.cell? a0 = some v0) (h1 : w.cell? a1 = some v1) (h2 : w.cell? a2 = some v2) (h3 : w.cell? a3 = some v3) (hb : Below w.heap.size w w1) :
    Below w.heap.size w w1 ∧ w1.cell? a0 = some v0 ∧ w1.cell? a1 = some v1 ∧ w1.cell? a2 = some v2 ∧ w1.cell? a3 = some v3 :=
  ⟨hb, pw_cell_below hb h0, pw_cell_below hb h1, pw_cell_below hb h2, pw_cell_below hb h3⟩
def sameL (l m : List Int) : Bool := decide (l = m)
set_option maxHeartbeats 2000000 in
set_option maxRecDepth 100000 in
theorem Open_any (A : Option Addr) (len cap : Nat) (xs : List Int) (w : World) (hx : RB w A len xs) (hcap : len ≤ cap) (hl : len ≤ 140737488355000) :
    Calls Try.prog 45 #[.slice A len cap] w fun e w' => ∃ v ys err, e = .returned (.tuple #[v, .int .i64 err]) ∧ OB 5 w' w.heap.size v ys ∧ Hid ((ys, err) = openR xs) ∧ Below w.heap.size w w' := by
  by_cases h4 : len < 4
  · have HF : Hid (([], 4) = openR xs) := (openR_short (by rw [hx.len]; exact h4)).symm
    go_enter Try.func45, Try.ntmps45
    go_wp2_with fail
    go_ret2
    exact ⟨_, _, _, rfl, OB.nil _ _ _, HF, Below.refl _ _⟩
  · obtain ⟨N, rfl⟩ : ∃ N, len = N + 4 := ⟨len - 4, by omega⟩
    obtain ⟨y0, y1, y2, y3, hd⟩ := last_four hx.len
    obtain ⟨ad, rfl, hcells⟩ := hx.rd.2.2 (by omega)
    have hget : ∀ j, xs.getD (N + j) 0 = (xs.drop N).getD j 0 := fun j => by simp [List.getD_eq_getElem?_getD, List.getElem?_drop]
    have c0 : w.cell? (ad.add N) = some (.int .u8 y0) := by rw [hcells N (by omega)]; have := hget 0; rw [Nat.add_zero] at this; rw [this, hd]; rfl
    have c1 : w.cell? ⟨(ad.add N).block, (ad.add N).off + 1, none⟩ = some (.int .u8 y1) := by rw [← add_field ad N 1 (by omega), hcells (N + 1) (by omega), hget 1, hd]; rfl
    have c2 : w.cell? ⟨(ad.add N).block, (ad.add N).off + 2, none⟩ = some (.int .u8 y2) := by rw [← add_field ad N 2 (by omega), hcells (N + 2) (by omega), hget 2, hd]; rfl
    have c3 : w.cell? ⟨(ad.add N).block, (ad.add N).off + 3, none⟩ = some (.int .u8 y3) := by rw [← add_field ad N 3 (by omega), hcells (N + 3) (by omega), hget 3, hd]; rfl
    have HD := Lib.hid hd
    clear hd hget hcells
    have hcN : ¬ cap = N := by omega
    go_enter Try.func45, Try.ntmps45
    go_wp2_with fail
    have hxN := RB.take_ hx N (by omega)
    have harr : ∀ (W : World) (a : Option Addr) (c : Nat), (Instr.arrayAt 86 (.slice a 4 c)).run Try.prog W = .ok (.pointer a) W := fun W a c => run_arrayAt W 86 5 4 a 4 c Try.underlying86 (by omega)
    have heq : ∀ (W : World) (x0 x1 x2 x3 : Int), (Op.equalIn 10000 86 (.agg #[.int .u8 x0, .int .u8 x1, .int .u8 x2, .int .u8 x3]) (.agg #[.int .u8 y0, .int .u8 y1, .int .u8 y2, .int .u8 y3])).run Try.prog W = .ok (sameL [x0, x1, x2, x3] [y0, y1, y2, y3]) W := by
      intro W x0 x1 x2 x3
      obtain ⟨i0, hi, hz0, hz1, hz2⟩ := info_parts u8_info
      exact run_equalIn_nums (P := Try.prog) (w := W) 9998 [x0, x1, x2, x3] [y0, y1, y2, y3] Try.underlying86 hi hz1 Try.underlying5 rfl rfl
    have b1 : (0 : Int) ≤ (N : Int) := by omega
    have b2 : (N : Int) ≤ (cap : Int) := by omega
    have b3 : (N : Int) ≤ (N : Int) + 4 := by omega
    have b4 : (N : Int) + 4 ≤ (cap : Int) := by omega
    go_region_held3 (fun w' => Below w.heap.size w w' ∧ w'.cell? (ad.add N) = some (.int .u8 y0) ∧ w'.cell? ⟨(ad.add N).block, (ad.add N).off + 1, none⟩ = some (.int .u8 y1) ∧ w'.cell? ⟨(ad.add N).block, (ad.add N).off + 2, none⟩ = some (.int .u8 y2) ∧ w'.cell? ⟨(ad.add N).block, (ad.add N).off + 3, none⟩ = some (.int .u8 y3))
      (first
        | assumption
        | (go_split_ands; refine ⟨?_, ?_, ?_, ?_, ?_⟩ <;> assumption)
        | exact openS c0 c1 c2 c3 (below_drew (Below.refl _ _))
        | (go_split_ands; refine openS c0 c1 c2 c3 (below_step ?_ hb3); assumption)
        | (go_split_ands; refine openS c0 c1 c2 c3 (below_step ?_ hb2); assumption)
        | (go_split_ands; refine openS c0 c1 c2 c3 (below_alloc ?_ _); assumption)
        | exact openS c0 c1 c2 c3 (below_drew (below_alloc (Below.refl _ _) _)))
      (first
        | (go_at_call 48; go_split_ands; go_must (refine (Sum_of (RBs.drew (RBs.one _ hxN)) _).mono ?_); rintro e w2 ⟨s, rfl, HS, hb2⟩)
        | (go_at_call 47; refine (Bytes_any s _ rfl _).mono ?_; rintro e w3 ⟨x0, x1, x2, x3, rfl, HB, hb3⟩))
    all_goals
      clear harr heq c0 c1 c2 c3 hcN
      go_split_ands
      by_cases hq : [x0, x1, x2, x3] = [y0, y1, y2, y3]
      · have HF : Hid ((xs.take N, 0) = openR xs) := (openR_good hx.len (by rw [← HS.out, HB.out, HD.out]; exact hq)).symm
        have hqd : sameL [x0, x1, x2, x3] [y0, y1, y2, y3] = true := decide_eq_true hq
        rw [hqd]
        clear hq hqd
        obtain ⟨i0, hi, hz0, hz1, hz2⟩ := info_parts u8_info
        have hmk := fun W => run_make_rowN 38 5 i0 _ Try.underlying38 hi hz0 N N (Nat.le_refl _) (by rw [hz2]; omega) (by omega) W (N : Int) (N : Int) rfl rfl
        simp only [hz1, Value.cells, Nat.mul_one, made_u8] at hmk
        clear hi hz0 hz1 hz2
        go_wp2_with (refine wpList_copy_bytes (w := w) rfl (.tmp 26) (.tmp 27) 38 5 rfl Try.underlying38 u8_size (some ad) N N (N + 4) cap xs _ rfl rfl ((hx.below (by assumption)).alloc _) (by omega) (heap_alloc_new _ _) (Nat.le_refl _) (by omega) (below_alloc (by assumption) _) (Below.size (by assumption)) ?_)
        intro w9 hO hb9
        go_wp2_with fail
        go_ret2
        exact ⟨_, _, _, rfl, hO, HF, hb9⟩
      · have HF : Hid (([], 71) = openR xs) := (openR_bad hx.len (by rw [← HS.out, HB.out, HD.out]; exact hq)).symm
        have hqd : sameL [x0, x1, x2, x3] [y0, y1, y2, y3] = false := decide_eq_false hq
        rw [hqd]
        clear hq hqd
        go_wp2_with fail
        go_ret2
        exact ⟨_, _, _, rfl, OB.nil _ _ _, HF, by assumption⟩
end Go.Proofs.Ytelfephmjkipoaa
end
/-! The contract of frame.Decode. (mk_frzj.py) -/
section
namespace Go.Proofs.Ytelfephmjkipoaa
open Go.RowKit Go.Kit Go.Proofs.YtelfephmjkipoaaW.PrintWords
/-- The frame that bytes say, why not, and where. -/
def decF (xs : List Int) : Fr × Int × Int :=
  if (needF xs).2.2 ≠ 0 then (noF, (needF xs).2.2, 0) else if (needF xs).1 = 0 ∨ xs.length < (needF xs).1 then (noF, 4, (xs.length : Int)) else if (needF xs).1 < xs.length then (noF, 6, ((needF xs).1 : Int))
  else if (openR xs).2 ≠ 0 then (noF, 71, ((needF xs).1 : Int) - 4) else readF (openR xs).1 (needF xs).2.1
def DecPost (w : World) (xs : List Int) (e : Ending) (w' : World) : Prop :=
  ∃ (F : Fr) (x y : Int), e = .returned (.tuple #[.agg F.arr, .agg (fv x y)]) ∧ Hid ((decF xs).2 = (x, y) ∧ F.core = (decF xs).1) ∧ F.ok w' ∧ OwnA w' w.heap.size F ∧ Below w.heap.size w w'
theorem two_new (W : World) : Below W.heap.size W ((W.alloc (.cells #[.int .i64 0, .int .u64 0, .int .i64 0, .int .i64 0, .int .u8 0, .int .u8 0, .int .u8 0, .int .u8 0, .int .u8 0, .int .u8 0, .int .u8 0, .int .u8 0, .int .u8 0, .int .u8 0, .int .u8 0, .int .u8 0, .int .u8 0, .int .u8 0, .int .u8 0, .int .u8 0, .int .u8 0, .int .u8 0, .int .u8 0, .int .u8 0, .int .u8 0, .int .u8 0, .int .u8 0, .int .u8 0, .int .u8 0, .int .u8 0, .int .u8 0, .int .u8 0, .int .u8 0, .int .u8 0, .int .u8 0, .int .u8 0, .int .i64 0, .int .i64 0, .int .i64 0, .int .i64 0, .slice none 0 0, .string ⟨#[]⟩] 29)).alloc (.cells #[.int .i64 0, .int .i64 0] 58)) ∧
    (kF 0).at_ 29 ((W.alloc (.cells #[.int .i64 0, .int .u64 0, .int .i64 0, .int .i64 0, .int .u8 0, .int .u8 0, .int .u8 0, .int .u8 0, .int .u8 0, .int .u8 0, .int .u8 0, .int .u8 0, .int .u8 0, .int .u8 0, .int .u8 0, .int .u8 0, .int .u8 0, .int .u8 0, .int .u8 0, .int .u8 0, .int .u8 0, .int .u8 0, .int .u8 0, .int .u8 0, .int .u8 0, .int .u8 0, .int .u8 0, .int .u8 0, .int .u8 0, .int .u8 0, .int .u8 0, .int .u8 0, .int .u8 0, .int .u8 0, .int .u8 0, .int .u8 0, .int .i64 0, .int .i64 0, .int .i64 0, .int .i64 0, .slice none 0 0, .string ⟨#[]⟩] 29)).alloc (.cells #[.int .i64 0, .int .i64 0] 58)) W.heap.size ∧
    ((W.alloc (.cells #[.int .i64 0, .int .u64 0, .int .i64 0, .int .i64 0, .int .u8 0, .int .u8 0, .int .u8 0, .int .u8 0, .int .u8 0, .int .u8 0, .int .u8 0, .int .u8 0, .int .u8 0, .int .u8 0, .int .u8 0, .int .u8 0, .int .u8 0, .int .u8 0, .int .u8 0, .int .u8 0, .int .u8 0, .int .u8 0, .int .u8 0, .int .u8 0, .int .u8 0, .int .u8 0, .int .u8 0, .int .u8 0, .int .u8 0, .int .u8 0, .int .u8 0, .int .u8 0, .int .u8 0, .int .u8 0, .int .u8 0, .int .u8 0, .int .i64 0, .int .i64 0, .int .i64 0, .int .i64 0, .slice none 0 0, .string ⟨#[]⟩] 29)).alloc (.cells #[.int .i64 0, .int .i64 0] 58)).heap[W.heap.size + 1]? = some (.cells (fv 0 0) 58 (0, 0)) := by
  refine ⟨below_alloc (below_alloc (Below.refl _ W) _) _, ⟨(heap_alloc_old _ _ (by simp)).trans (heap_alloc_new W _), rfl⟩, ?_⟩
  have := heap_alloc_new (W.alloc (.cells #[.int .i64 0, .int .u64 0, .int .i64 0, .int .i64 0, .int .u8 0, .int .u8 0, .int .u8 0, .int .u8 0, .int .u8 0, .int .u8 0, .int .u8 0, .int .u8 0, .int .u8 0, .int .u8 0, .int .u8 0, .int .u8 0, .int .u8 0, .int .u8 0, .int .u8 0, .int .u8 0, .int .u8 0, .int .u8 0, .int .u8 0, .int .u8 0, .int .u8 0, .int .u8 0, .int .u8 0, .int .u8 0, .int .u8 0, .int .u8 0, .int .u8 0, .int .u8 0, .int .u8 0, .int .u8 0, .int .u8 0, .int .u8 0, .int .i64 0, .int .i64 0, .int .i64 0, .int .i64 0, .slice none 0 0, .string ⟨#[]⟩] 29)) (.cells #[.int .i64 0, .int .i64 0] 58)
  simpa [fv] using this
theorem put_fault {W : World} {g : Nat} {x y : Int} (a b : Int) (h : W.heap[g]? = some (.cells (fv x y) 58 (0, 0))) : (Instr.storeAt 58 (.pointer (some ⟨g, 0, none⟩)) (.agg #[.int .i64 a, .int .i64 b])).run Try.prog W = .ok () (W.setRow g (fv a b)) :=
  storeAt_all (P := Try.prog) W g 58 58 (fv a b) (fv x y) h rfl (fv_size a b) (fv_one a b)
theorem put_frame {W : World} {g : Nat} {F : Fr} (f : Fr) (hf : f.tool.length = 32) (h : F.at_ 29 W g) : (Instr.storeAt 29 (.pointer (some ⟨g, 0, none⟩)) (.agg f.arr)).run Try.prog W = .ok () (W.setRow g f.arr) :=
  storeAt_all (P := Try.prog) W g 29 29 f.arr F.arr h.blk (by rw [Fr.arr_size F h.tool, Fr.arr_size f hf]) (by rw [Fr.arr_size f hf]; kernel_rfl) (arr_one f)
theorem put_at {W : World} {g : Nat} {F : Fr} (f : Fr) (hf : f.tool.length = 32) (h : F.at_ 29 W g) : f.at_ 29 (W.setRow g f.arr) g := ⟨setRow_heap _ _ _ _ _ _ h.blk, hf⟩
theorem get_fault {W : World} {g : Nat} {a b : Int} (h : W.heap[g]? = some (.cells (fv a b) 58 (0, 0))) : (Instr.loadAt 58 (.pointer (some ⟨g, 0, none⟩))).run Try.prog W = .ok (.agg #[.int .i64 a, .int .i64 b]) W := load_fault h
theorem get_frame {W : World} {g : Nat} {F : Fr} (h : F.at_ 29 W g) : (Instr.loadAt 29 (.pointer (some ⟨g, 0, none⟩))).run Try.prog W = .ok (.agg F.arr) W :=
  load_frame F (by have := Fr.arr_size F h.tool; rw [frame_size]; simp [Fr.arr] at this; rw [this]) W g h
theorem keep_fault {W W1 : World} {g : Nat} {a b : Int} {S : Nat → Prop} (h : W.heap[g]? = some (.cells (fv a b) 58 (0, 0))) (ho : Only W W1 S) (hs : ¬ S g) : W1.heap[g]? = some (.cells (fv a b) 58 (0, 0)) := ho.kept h hs
theorem set_fault {W : World} {g : Nat} {x y : Int} (a b : Int) (h : W.heap[g]? = some (.cells (fv x y) 58 (0, 0))) : (W.setRow g (fv a b)).heap[g]? = some (.cells (fv a b) 58 (0, 0)) := setRow_heap _ _ _ _ _ _ h
set_option maxRecDepth 100000 in
theorem same_zero {W : World} {g : Nat} (h : (kF 0).at_ 29 W g) : (Instr.storeAt 29 (.pointer (some ⟨g, 0, none⟩)) (.agg #[.int .i64 0, .int .u64 0, .int .i64 0, .int .i64 0, .int .u8 0, .int .u8 0, .int .u8 0, .int .u8 0, .int .u8 0, .int .u8 0, .int .u8 0, .int .u8 0, .int .u8 0, .int .u8 0, .int .u8 0, .int .u8 0, .int .u8 0, .int .u8 0, .int .u8 0, .int .u8 0, .int .u8 0, .int .u8 0, .int .u8 0, .int .u8 0, .int .u8 0, .int .u8 0, .int .u8 0, .int .u8 0, .int .u8 0, .int .u8 0, .int .u8 0, .int .u8 0, .int .u8 0, .int .u8 0, .int .u8 0, .int .u8 0, .int .i64 0, .int .i64 0, .int .i64 0, .int .i64 0, .slice none 0 0, .string ⟨#[]⟩])).run Try.prog W = .ok () W := same_frame h
theorem zero_frame (W : World) : (Instr.build 29 #[]).run Try.prog W = .ok (.agg (kF 0).arr) W := by kernel_rfl
theorem run_fault_ne (x y : Int) (b : Bool) (hb : ((x == 0) && (y == 0)) = b) (W : World) : (binOp .neq 58 (.agg #[.int .i64 x, .int .i64 y]) (.agg #[.int .i64 0, .int .i64 0])).run Try.prog W = .ok (.bool !b) W := by
  have he : (Op.equalIn 10000 58 (.agg #[.int .i64 x, .int .i64 y]) (.agg #[.int .i64 0, .int .i64 0])).run Try.prog W = .ok b W := by
    subst hb
    by_cases h1 : x = 0 <;> by_cases h2 : y = 0 <;> go_simp
  simp [run_neq_struct W 58 _ _, he]
theorem need_head {xs : List Int} {m k : Nat} (h : needF xs = (m, k, 0)) (hm : m ≠ 0) : ∃ m0, headF xs = (m0, k, 0) ∧ m = m0 + k + 4 := by
  unfold needF at h
  split at h
  · exact absurd (congrArg Prod.fst h).symm hm
  · next hn =>
    have h0 : (headF xs).2.2 = 0 := Classical.byContradiction fun e => hn (.inl e)
    simp only [Prod.mk.injEq] at h
    obtain ⟨h1, h2, _⟩ := h
    exact ⟨(headF xs).1, Prod.ext rfl (Prod.ext h2 h0), by omega⟩
theorem readF_none {p : List Int} {head : Nat} (h : (readF p head).2.1 ≠ 0) : (readF p head).1 = noF := by
  unfold readF at h ⊢
  split at h
  · next D f he =>
    split at h
    · next hc => rw [if_pos hc]
    · exact absurd rfl h
theorem open_take {xs ys : List Int} (h : openR xs = (ys, 0)) : ys = xs.take (xs.length - 4) ∧ ¬ xs.length < 4 := by
  unfold openR at h
  split at h
  · cases h
  split at h
  · next h4 _ => cases h; exact ⟨rfl, h4⟩
  · cases h
theorem two_put (W : World) (F : Fr) (hT : F.tool.length = 32) (x y : Int) : ∃ W1 W2 W3 : World, (W.alloc (.cells #[.int .i64 0, .int .u64 0, .int .i64 0, .int .i64 0, .int .u8 0, .int .u8 0, .int .u8 0, .int .u8 0, .int .u8 0, .int .u8 0, .int .u8 0, .int .u8 0, .int .u8 0, .int .u8 0, .int .u8 0, .int .u8 0, .int .u8 0, .int .u8 0, .int .u8 0, .int .u8 0, .int .u8 0, .int .u8 0, .int .u8 0, .int .u8 0, .int .u8 0, .int .u8 0, .int .u8 0, .int .u8 0, .int .u8 0, .int .u8 0, .int .u8 0, .int .u8 0, .int .u8 0, .int .u8 0, .int .u8 0, .int .u8 0, .int .i64 0, .int .i64 0, .int .i64 0, .int .i64 0, .slice none 0 0, .string ⟨#[]⟩] 29)).alloc (.cells #[.int .i64 0, .int .i64 0] 58) = W1 ∧
    (Instr.storeAt 29 (.pointer (some ⟨W.heap.size, 0, none⟩)) (.agg F.arr)).run Try.prog W1 = .ok () W2 ∧
    (Instr.storeAt 58 (.pointer (some ⟨W.heap.size + 1, 0, none⟩)) (.agg (fv x y))).run Try.prog W2 = .ok () W3 ∧
    F.at_ 29 W3 W.heap.size ∧ W3.heap[W.heap.size + 1]? = some (.cells (fv x y) 58 (0, 0)) ∧ Below W.heap.size W W3 := by
  obtain ⟨hbn, hFz, hXz⟩ := two_new W
  obtain ⟨W1, h1⟩ : ∃ W1, (W.alloc (.cells #[.int .i64 0, .int .u64 0, .int .i64 0, .int .i64 0, .int .u8 0, .int .u8 0, .int .u8 0, .int .u8 0, .int .u8 0, .int .u8 0, .int .u8 0, .int .u8 0, .int .u8 0, .int .u8 0, .int .u8 0, .int .u8 0, .int .u8 0, .int .u8 0, .int .u8 0, .int .u8 0, .int .u8 0, .int .u8 0, .int .u8 0, .int .u8 0, .int .u8 0, .int .u8 0, .int .u8 0, .int .u8 0, .int .u8 0, .int .u8 0, .int .u8 0, .int .u8 0, .int .u8 0, .int .u8 0, .int .u8 0, .int .u8 0, .int .i64 0, .int .i64 0, .int .i64 0, .int .i64 0, .slice none 0 0, .string ⟨#[]⟩] 29)).alloc (.cells #[.int .i64 0, .int .i64 0] 58) = W1 := ⟨_, rfl⟩
  rw [h1] at hbn hFz hXz
  refine ⟨W1, W1.setRow W.heap.size F.arr, (W1.setRow W.heap.size F.arr).setRow (W.heap.size + 1) (fv x y), h1, ?_⟩
  clear h1
  have hFa := put_at F hT hFz
  have ho1 := Fr.only_row W1 W.heap.size F.arr
  have hXa := keep_fault hXz ho1 (fun e => by omega)
  have ho2 := Fr.only_row (W1.setRow W.heap.size F.arr) (W.heap.size + 1) (fv x y)
  exact ⟨put_frame F hT hFz, put_fault x y hXa, hFa.only ho2 (fun e => by omega), set_fault x y hXa, below_setRow (below_setRow hbn (Nat.le_refl _) _) (Nat.le_succ _) _⟩
theorem dec_ret {W : World} {g g2 : Nat} {tmps : Array Value} {F : Fr} {x y : Int} (hp : tmps.getD 2 undef = .pointer (some ⟨g, 0, none⟩)) (hq : tmps.getD 3 undef = .pointer (some ⟨g2, 0, none⟩)) (hF : F.at_ 29 W g) (hX : W.heap[g2]? = some (.cells (fv x y) 58 (0, 0))) :
    (results Try.f30 tmps).run Try.prog W = .ok (.tuple #[.agg F.arr, .agg (fv x y)]) W :=
  results_cell_row2 (P := Try.prog) (fn := Try.f30) (p := 2) (q := 3) rfl tmps W g g2 29 58 F.arr (fv x y) (0, 0) (0, 0) _ _ hp hF.blk Try.underlying29 rfl (by rw [Fr.arr_size F hF.tool]; kernel_rfl) hq hX Try.underlying58 rfl (fv_size x y)
theorem dec_bad {w W : World} {xs : List Int} {x y : Int} (h : Hid (decF xs = (noF, x, y))) (hb : Below w.heap.size w W) : DecPost w xs (.returned (.tuple #[.agg (kF 0).arr, .agg (fv x y)])) W :=
  ⟨kF 0, x, y, rfl, Lib.hid ⟨by rw [h.out], by rw [h.out]; rfl⟩, ⟨rfl, rt_none _ rfl rfl rfl⟩, OwnA.none _ _ ⟨rfl, rfl, rfl, rfl⟩, hb⟩
attribute [-go_sem] Instr.loadAt Instr.storeAt
section
variable {A : Option Addr} {n cap : Nat} {xs : List Int} {w : World}
set_option maxHeartbeats 8000000 in
set_option maxRecDepth 100000 in
theorem Decode_any (hx : RB w A n xs) (hc : n ≤ cap) : Calls Try.prog 30 #[.slice A n cap] w (DecPost w xs) := by
  have HXL := Lib.hid hx.len
  have HBY := Lib.hid hx.byt
  obtain ⟨hb0, hF0, hf0⟩ := two_new w
  have hbd : ∀ (x : Int) (W : World), (Instr.build 58 #[(0, .int .i64 x)]).run Try.prog W = .ok (.agg #[.int .i64 x, .int .i64 0]) W := fun x W => by kernel_rfl
  have hb2 : ∀ (x y : Int) (W : World), (Instr.build 58 #[(0, .int .i64 x), (1, .int .i64 y)]).run Try.prog W = .ok (.agg #[.int .i64 x, .int .i64 y]) W := fun x y W => by kernel_rfl
  have hz : ∀ W : World, (Instr.build 58 #[]).run Try.prog W = .ok (.agg #[.int .i64 0, .int .i64 0]) W := fun W => by kernel_rfl
  go_enter Try.func30, Try.ntmps30
  go_upto_region 1 with (fail)
  generalize (w.alloc (.cells #[.int .i64 0, .int .u64 0, .int .i64 0, .int .i64 0, .int .u8 0, .int .u8 0, .int .u8 0, .int .u8 0, .int .u8 0, .int .u8 0, .int .u8 0, .int .u8 0, .int .u8 0, .int .u8 0, .int .u8 0, .int .u8 0, .int .u8 0, .int .u8 0, .int .u8 0, .int .u8 0, .int .u8 0, .int .u8 0, .int .u8 0, .int .u8 0, .int .u8 0, .int .u8 0, .int .u8 0, .int .u8 0, .int .u8 0, .int .u8 0, .int .u8 0, .int .u8 0, .int .u8 0, .int .u8 0, .int .u8 0, .int .u8 0, .int .i64 0, .int .i64 0, .int .i64 0, .int .i64 0, .slice none 0 0, .string ⟨#[]⟩] 29)).alloc (.cells #[.int .i64 0, .int .i64 0] 58) = w1 at *
  obtain ⟨g, hg⟩ : ∃ g, w.heap.size = g := ⟨_, rfl⟩
  obtain ⟨g2, hg2⟩ : ∃ g2, w.heap.size + 1 = g2 := ⟨_, rfl⟩
  have HG := Lib.hid hg
  have HG2 := Lib.hid hg2
  have hgg : g ≠ g2 := by omega
  rw [hg] at hF0
  rw [hg2] at hf0
  rw [hg2, hg]
  have hxb := hx.below hb0
  clear hg hg2 hx
  go_wp2_with fail
  refine (Need_any A n cap xs _ hxb hc).mono ?_
  rintro e w2 ⟨m, k, x, rfl, HN, hb1⟩
  have hF1 := hF0.below hb1
  have hX1 := (hb1.block _ (lt_of_block hf0)).trans hf0
  have hbw := below_step hb0 hb1
  have hx1 := hxb.below hb1
  have HWX := hbw.size
  clear hb0 hb1 hf0 hF0 hxb
  by_cases h0 : x = 0
  · subst h0
    by_cases hm : m = 0 ∨ n < m
    · have hdm : decide ((n : Int) < (m : Int)) = decide (n < m) := by simp
      have HD : Hid (decF xs = (noF, 4, (n : Int))) := Lib.hid (by unfold decF; rw [HN.out, if_neg (by simp), if_pos (by rw [HXL.out]; exact hm), HXL.out])
      have sF := same_zero hF1
      have sX := put_fault 4 (n : Int) hX1
      have hXn := set_fault 4 (n : Int) hX1
      have hFn := hF1.only (Fr.only_row w2 g2 (fv 4 (n : Int))) hgg
      have hbn := below_setRow (cs := fv 4 (n : Int)) hbw (g := g2) (by have := HG2.out; omega)
      by_cases hm0 : m = 0
      · have bm : ((m : Int) == 0) = true := by rw [beq_iff_eq]; omega
        clear hm hm0 hdm
        go_wp2_with fail
        try simp only [Exit.inBlock, Exit.then]
        exact bodyPost_ret (v := .tuple #[.agg (kF 0).arr, .agg (fv 4 (n : Int))]) (dec_ret rfl rfl hFn hXn) rfl (dec_bad HD hbn)
      · have bm : ((m : Int) == 0) = false := by rw [beq_eq_false_iff_ne]; omega
        have hlt : (n : Int) < (m : Int) := by omega
        clear hm hm0 hdm
        go_wp2_with fail
        try simp only [Exit.inBlock, Exit.then]
        exact bodyPost_ret (v := .tuple #[.agg (kF 0).arr, .agg (fv 4 (n : Int))]) (dec_ret rfl rfl hFn hXn) rfl (dec_bad HD hbn)
    · have bm : ((m : Int) == 0) = false := by rw [beq_eq_false_iff_ne]; omega
      have hlt : ¬ (n : Int) < (m : Int) := by omega
      by_cases hm2 : m < n
      · have hgt : (n : Int) > (m : Int) := by omega
        have HD : Hid (decF xs = (noF, 6, (m : Int))) := Lib.hid (by unfold decF; rw [HN.out, if_neg (by simp), if_neg (by rw [HXL.out]; exact hm), if_pos (by rw [HXL.out]; exact hm2)])
        have sF := same_zero hF1
        have sX := put_fault 6 (m : Int) hX1
        have hXn := set_fault 6 (m : Int) hX1
        have hFn := hF1.only (Fr.only_row w2 g2 (fv 6 (m : Int))) hgg
        have hbn := below_setRow (cs := fv 6 (m : Int)) hbw (g := g2) (by have := HG2.out; omega)
        clear hm hm2
        go_wp2_with fail
        try simp only [Exit.inBlock, Exit.then]
        exact bodyPost_ret (v := .tuple #[.agg (kF 0).arr, .agg (fv 6 (m : Int))]) (dec_ret rfl rfl hFn hXn) rfl (dec_bad HD hbn)
      · have hmn : m = n := by omega
        have hgt : ¬ (n : Int) > (m : Int) := by omega
        have hl : n ≤ 140737488355000 := by
          obtain ⟨m0, hh0, hm0⟩ := need_head HN.out (fun e => hm (.inl e))
          have := headF_facts HBY.out hh0
          omega
        have HM := Lib.hid hm
        have HMN := Lib.hid hmn
        clear hm hm2 hmn
        go_wp2_with fail
        refine (Open_any A n cap xs _ hx1 hc hl).mono ?_
        rintro e w3 ⟨v, ys, x, rfl, hO, HO, hb3⟩
        have hF2 := hF1.below hb3
        have hX2 := (hb3.block _ (lt_of_block hX1)).trans hX1
        have hbx := below_step hbw hb3
        have hx2 := hx1.below hb3
        clear hF1 hX1 hx1
        by_cases h1 : x = 0
        · subst h1
          obtain ⟨A2, c2, rfl, hR2, hc2⟩ := hO.reads'
          have HOT := Lib.hid (open_take HO.out.symm)
          obtain ⟨N, hN⟩ : ∃ N, ys.length = N := ⟨_, rfl⟩
          have HNL := Lib.hid hN
          rw [hN] at hR2 hc2 ⊢
          clear hO hN
          go_wp2_with fail
          refine (head_any A n cap xs _ hx2 hc).mono ?_
          rintro e w4 ⟨m1, k1, x1, rfl, HH, hb4⟩
          obtain ⟨m0, hh0, hm0⟩ := need_head HN.out (fun e => HM.out (.inl e))
          have he := HH.out.symm.trans hh0
          cases he
          have hfa := headF_facts HBY.out HH.out
          have hF3 := hF2.below hb4
          have hX3 := (hb4.block _ (lt_of_block hX2)).trans hX2
          have hby := below_step hbx hb4
          have hR3 := hR2.below hb4
          have hyl : N = n - 4 := by rw [← HNL.out]; have e := HOT.out; rw [HXL.out] at e; rw [e.1, List.length_take, HXL.out]; omega
          have hk2 : k ≤ N := by have := HMN.out; omega
          have hn2 : N ≤ 4194304 := by have := HMN.out; omega
          clear hF2 hX2 hbx hx2 hR2 hfa hm0 hh0 hb4 hyl
          go_wp2_with fail
          refine (read_any hR3 hn2 k hk2).mono ?_
          rintro e w5 ⟨F, x, y, rfl, hT, HRD, hok, hb5⟩
          obtain ⟨w6, w7, w8, s0, s1, s2, hFb, hXb, hbq⟩ := two_put w5 F hT x y
          have HFB := Lib.hid hFb
          have HXB := Lib.hid hXb
          have HBQ := Lib.hid hbq
          clear hFb hXb hbq
          go_upto_region 13 with (fail)
          clear s0 s1 s2
          have hbq := HBQ.out
          have hgl := hF3.lt
          have hF4 := (hF3.below hb5).below hbq
          have hbz := below_step (below_step hby hb5) hbq
          have hX4a := (hb5.block _ (lt_of_block hX3)).trans hX3
          have hX4 := (hbq.block _ (lt_of_block hX4a)).trans hX4a
          clear hX4a hF3 hX3
          have hF5 := HFB.out
          have hX5 := HXB.out
          have hg3 : ¬ w5.heap.size + 1 = g := by have := hb5.size; omega
          have HD : Hid (decF xs = readF ys k) := Lib.hid (by
            have e := HO.out
            unfold decF; rw [HN.out, if_neg (by simp), if_neg (by rw [HXL.out]; exact HM.out), if_neg (by rw [HXL.out, HMN.out]; simp), ← e, if_neg (by simp)])
          have hok2 : x = 0 → F.ok w8 ∧ OwnA w8 w.heap.size F ∧ (∀ a, F.A = some a → ¬ a.block = g) := fun h0 => ⟨(hok h0).1.below hbq, ((hok h0).2.below hbq).less hby.size, fun a e => by have := (hok h0).2.fresh a e; have := hby.size; omega⟩
          have HOK := Lib.hid hok2
          obtain ⟨g3, hg3e⟩ : ∃ g3, w5.heap.size = g3 := ⟨_, rfl⟩
          obtain ⟨g4, hg4e⟩ : ∃ g4, w5.heap.size + 1 = g4 := ⟨_, rfl⟩
          rw [hg4e] at hX5 hg3
          rw [hg3e] at hF5
          rw [hg4e, hg3e]
          clear HFB HXB HBQ hbq hok hok2 hb5 hby hR3 hgl hg3e hg4e hk2 hn2
          have hdr := below_drew (Below.refl w8.heap.size w8)
          have eX0 := get_fault hX5
          have hF4d := hF4.below hdr
          have hX4d := (hdr.block _ (lt_of_block hX4)).trans hX4
          have hF5d := hF5.below hdr
          have hX5d := (hdr.block _ (lt_of_block hX5)).trans hX5
          have hbzd := below_step hbz hdr
          have hg2g : g2 ≠ g := fun e => hgg e.symm
          by_cases hx0 : x = 0
          · have hy0 : y = 0 := (HRD.out.2 hx0).2
            have HRR := Lib.hid (HRD.out.2 hx0).1
            have HR2 := HRD
            have hok3 := HOK.out hx0
            subst hx0
            subst hy0
            have heq := run_fault_ne 0 0 true rfl
            have e1 := get_frame hF5d
            have e2 := get_fault hX5d
            have s1 := put_frame F hT hF4d
            have sX : (Instr.storeAt 58 (.pointer (some ⟨g2, 0, none⟩)) (.agg #[.int .i64 0, .int .i64 0])).run Try.prog w8.drew = .ok () w8.drew := same_fault hX4d
            have ho1 := Fr.only_row w8.drew g F.arr
            have hXg4 := keep_fault hX5d ho1 hg3
            have hXg2 := keep_fault hX4d ho1 hg2g
            have e3 := get_fault hXg4
            have sX2 : (Instr.storeAt 58 (.pointer (some ⟨g2, 0, none⟩)) (.agg #[.int .i64 0, .int .i64 0])).run Try.prog (w8.drew.setRow g F.arr) = .ok () (w8.drew.setRow g F.arr) := same_fault hXg2
            have hFg := put_at F hT hF4d
            have hbg := below_setRow (cs := F.arr) hbzd (g := g) (by have := HG.out; omega)
            have hokg : F.ok (w8.drew.setRow g F.arr) := ⟨hT, (hok3.1.below hdr).args.apart ho1 hok3.2.2⟩
            have HP : Hid (DecPost w xs (.returned (.tuple #[.agg F.arr, .agg (fv 0 0)])) (w8.drew.setRow g F.arr)) := Lib.hid ⟨F, 0, 0, rfl, Lib.hid ⟨by rw [HD.out]; exact HR2.out.1, by rw [HD.out]; exact HRR.out⟩, hokg, (hok3.2.1.below hdr).only ho1 hok3.2.2, hbg⟩
            clear hok3 hokg ho1 HOK
            generalize w8.drew.setRow g F.arr = w9 at *
            go_wp2_with fail
            go_region_law (fail)
            all_goals
              try go_wp2_with fail
              try simp only [Exit.inBlock, Exit.then]
              exact bodyPost_ret (v := .tuple #[.agg F.arr, .agg (fv 0 0)]) (dec_ret rfl rfl hFg hXg2) rfl HP.out
          · have heq := run_fault_ne x y false (by rw [Bool.and_eq_false_iff]; left; rw [beq_eq_false_iff_ne]; exact hx0)
            have HD2 : Hid (decF xs = (noF, x, y)) := Lib.hid (by
              rw [HD.out]
              have e := HRD.out.1
              refine Prod.ext ?_ e
              have hh := readF_none (p := ys) (head := k) (by rw [e]; exact hx0)
              exact hh)
            have e2 := get_fault hX5d
            have sF := same_zero hF4d
            have s1 := put_fault x y hX4d
            have ho1 := Fr.only_row w8.drew g2 (fv x y)
            have hFq := hF4d.only ho1 hgg
            have sF2 := same_zero hFq
            have hXq := set_fault x y hX4d
            have hbq := below_setRow (cs := fv x y) hbzd (g := g2) (by have := HG2.out; omega)
            have HP : Hid (DecPost w xs (.returned (.tuple #[.agg (kF 0).arr, .agg (fv x y)])) (w8.drew.setRow g2 (fv x y))) := Lib.hid (dec_bad HD2 hbq)
            clear hx0 ho1 HOK
            generalize w8.drew.setRow g2 (fv x y) = w9 at *
            go_wp2_with fail
            go_region_law (fail)
            all_goals
              try go_wp2_with fail
              try simp only [Exit.inBlock, Exit.then]
              exact bodyPost_ret (v := .tuple #[.agg (kF 0).arr, .agg (fv x y)]) (dec_ret rfl rfl hFq hXq) rfl HP.out
        · have b1 : (x != 0) = true := by simpa using h1
          have HD : Hid (decF xs = (noF, 71, (m : Int) - 4)) := Lib.hid (by
            have e := HO.out
            unfold decF; rw [HN.out, if_neg (by simp), if_neg (by rw [HXL.out]; exact HM.out), if_neg (by rw [HXL.out, HMN.out]; simp), if_pos (by rw [← e]; exact h1)])
          have hwr : IntKind.i64.wrap ((m : Int) - 4) = (m : Int) - 4 := IntWalk.i64_in _ ⟨by have := HMN.out; omega, by have := HMN.out; omega⟩
          have sF := same_zero hF2
          have sX := put_fault 71 ((m : Int) - 4) hX2
          have hXn := set_fault 71 ((m : Int) - 4) hX2
          have hFn := hF2.only (Fr.only_row w3 g2 (fv 71 ((m : Int) - 4))) hgg
          have hbn := below_setRow (cs := fv 71 ((m : Int) - 4)) hbx (g := g2) (by have := HG2.out; omega)
          clear h1
          go_wp2_with fail
          try simp only [Exit.inBlock, Exit.then]
          exact bodyPost_ret (v := .tuple #[.agg (kF 0).arr, .agg (fv 71 ((m : Int) - 4))]) (dec_ret rfl rfl hFn hXn) rfl (dec_bad HD hbn)
  · have b0 : (x != 0) = true := by simpa using h0
    have HD : Hid (decF xs = (noF, x, 0)) := Lib.hid (by unfold decF; rw [HN.out, if_pos h0])
    have sF := same_zero hF1
    have sX := put_fault x 0 hX1
    have hXn := set_fault x 0 hX1
    have hFn := hF1.only (Fr.only_row w2 g2 (fv x 0)) hgg
    have hbn := below_setRow (cs := fv x 0) hbw (g := g2) (by have := HG2.out; omega)
    clear h0
    go_wp2_with fail
    try simp only [Exit.inBlock, Exit.then]
    exact bodyPost_ret (v := .tuple #[.agg (kF 0).arr, .agg (fv x 0)]) (dec_ret rfl rfl hFn hXn) rfl (dec_bad HD hbn)
end
end Go.Proofs.Ytelfephmjkipoaa
end
/-! Decoded bytes are the one form of the frame that they say: the plain law. -/
section
namespace Go.Proofs.Ytelfephmjkipoaa
open Go.RowKit Go.Kit CrcM Go.Proofs.YtelfephmjkipoaaW.PrintWords
theorem head_num {xs : List Int} {m k : Nat} (h : headF xs = (m, k, 0)) (hk : k ≠ 0 ∨ m ≠ 0) : num xs 0 = (m, k, 0) ∧ m ≤ 2097152 ∧ m ≠ 0 := by
  obtain ⟨p, q, x, hN⟩ : ∃ p q x, num xs 0 = (p, q, x) := ⟨_, _, _, rfl⟩
  unfold headF at h
  rw [hN] at h
  dsimp only at h
  split at h
  · cases h; omega
  split at h
  · next h0 => exact absurd (congrArg (fun p => p.2.2) h) h0
  · next h0 =>
    have h0 := Classical.not_not.mp h0
    split at h
    · exact absurd (congrArg (fun p => p.2.2) h) (by show ¬ (3 : Int) = 0; decide)
    split at h
    · exact absurd (congrArg (fun p => p.2.2) h) (by show ¬ (70 : Int) = 0; decide)
    · cases h
      exact ⟨by rw [hN, h0], by omega, by assumption⟩
theorem need_k {xs : List Int} {m k : Nat} (h : needF xs = (m, k, 0)) (hm : m ≠ 0) : k ≠ 0 := by
  unfold needF at h
  split at h
  · exact absurd (congrArg Prod.fst h).symm hm
  · next hn =>
    have e : (headF xs).2.1 = k := congrArg (fun p => p.2.1) h
    rw [← e]
    exact fun e => hn (.inr e)
theorem seal_of_open {xs ys : List Int} (h : openR xs = (ys, 0)) : xs = sealed ys := by
  unfold openR at h
  split at h
  · cases h
  split at h
  · next h4 he => cases h; unfold sealed; rw [he, List.take_append_drop]
  · cases h
theorem dec_form {xs : List Int} (hb : Byt xs) {f : Fr} {y : Int} (h : decF xs = (f, 0, y)) : chkF f = 0 ∧ encF f = xs ∧ ReadOk f := by
  obtain ⟨m, k, e, hN⟩ : ∃ m k e, needF xs = (m, k, e) := ⟨_, _, _, rfl⟩
  obtain ⟨ys, er, hO⟩ : ∃ ys er, openR xs = (ys, er) := ⟨_, _, rfl⟩
  unfold decF at h
  rw [hN, hO] at h
  dsimp only at h
  split at h
  · next h0 => exact absurd (congrArg (fun p => p.2.1) h) h0
  next h0 =>
  have h0 := Classical.not_not.mp h0
  subst h0
  split at h
  · exact absurd (congrArg (fun p => p.2.1) h) (by show ¬ (4 : Int) = 0; decide)
  next hm =>
  split at h
  · exact absurd (congrArg (fun p => p.2.1) h) (by show ¬ (6 : Int) = 0; decide)
  next hm2 =>
  split at h
  · exact absurd (congrArg (fun p => p.2.1) h) (by show ¬ (71 : Int) = 0; decide)
  next h1 =>
  have h1 := Classical.not_not.mp h1
  subst h1
  obtain ⟨m0, hh, hm0⟩ := need_head hN (fun e => hm (.inl e))
  have hs := seal_of_open hO
  obtain ⟨ht, h4⟩ := open_take hO
  have hyb : Byt ys := by rw [ht]; exact hb.take _
  have hyl : ys.length = xs.length - 4 := by rw [ht, List.length_take]; omega
  have hk : k ≤ ys.length := by omega
  have hm0' : k ≠ 0 ∨ m0 ≠ 0 := by
    exact .inl (need_k hN (fun e => hm (.inl e)))
  obtain ⟨hn, hn1, hn2⟩ := head_num hh hm0'
  obtain ⟨g1, g2⟩ := num_form hb hn
  obtain ⟨hd, hmay, hro⟩ := read_form hyb hk h
  rw [List.drop_zero] at g1
  have htk : ys.take k = sh m0 := by rw [ht, List.take_take, Nat.min_eq_left (by omega)]; exact g1
  have hy : ys = sh m0 ++ bodyF f := by rw [← htk, ← hd, List.take_append_drop]
  have hlen : (bodyF f).length = m0 := by rw [← hd, List.length_drop]; omega
  have hc : chkF f = 0 := chk_ok hmay (by have := body_le f hmay; omega)
  refine ⟨hc, ?_, hro⟩
  unfold encF
  rw [if_neg (by rw [hc]; decide), hlen, ← hy, ← hs]
theorem core_wf {f g : Fr} (h : g.core = f) (ho : ReadOk f) (hk : 1 ≤ f.k ∧ f.k ≤ 6) : g.wf := by
  subst h
  have h1 := ho.hello
  have h2 := ho.resp
  have e := ho.only
  have hv : g.core.v = (onlyF g.core).v := by have t := congrArg Fr.v e; exact t
  have hs : g.core.s = (onlyF g.core).s := by have t := congrArg Fr.s e; exact t
  have ht : g.core.st = (onlyF g.core).st := by have t := congrArg Fr.st e; exact t
  have b1 : -9223372036854775808 ≤ g.core.v ∧ g.core.v ≤ 9223372036854775807 := by
    by_cases hc : g.core.k = 1
    · have := h1 hc; omega
    · rw [hv, show (onlyF g.core).v = if g.core.k = 1 then g.core.v else 0 from rfl, if_neg hc]; omega
  have b2 : -9223372036854775808 ≤ g.core.s ∧ g.core.s ≤ 9223372036854775807 := by
    by_cases hc : g.core.k = 1
    · have := h1 hc; omega
    · rw [hs, show (onlyF g.core).s = if g.core.k = 1 then g.core.s else 0 from rfl, if_neg hc]; omega
  have b3 : -9223372036854775808 ≤ g.core.st ∧ g.core.st ≤ 9223372036854775807 := by
    by_cases hc : g.core.k = 3
    · have := h2 hc; omega
    · rw [ht, show (onlyF g.core).st = if g.core.k = 3 then g.core.st else 0 from rfl, if_neg hc]; omega
  have m1 := ho.mo
  have m2 := ho.fu
  have m3 := ho.di
  exact ⟨ho.id.1, ho.id.2, ⟨by show _ ≤ g.core.k; omega, by show g.core.k ≤ _; omega⟩, b1, b2, b3, ⟨by show _ ≤ g.core.mo; omega, by show g.core.mo ≤ _; omega⟩, ⟨by show _ ≤ g.core.fu; omega, by show g.core.fu ≤ _; omega⟩, ⟨by show _ ≤ g.core.di; omega, by show g.core.di ≤ _; omega⟩, ho.byt⟩
end Go.Proofs.Ytelfephmjkipoaa
end
/-! The walk of FrameForm. (mk_frfo) -/
section
namespace Go.Proofs.Ytelfephmjkipoaa
open Go.RowKit Go.Kit Go.Proofs.YtelfephmjkipoaaW.PrintWords
theorem dec_zero {xs : List Int} {f : Fr} {y : Int} (h : decF xs = (f, 0, y)) : y = 0 := by
  unfold decF at h
  split at h
  · next h0 => exact absurd (congrArg (fun p => p.2.1) h) h0
  split at h
  · exact absurd (congrArg (fun p => p.2.1) h) (by show ¬ (4 : Int) = 0; decide)
  split at h
  · exact absurd (congrArg (fun p => p.2.1) h) (by show ¬ (6 : Int) = 0; decide)
  split at h
  · exact absurd (congrArg (fun p => p.2.1) h) (by show ¬ (71 : Int) = 0; decide)
  unfold readF at h
  split at h
  split at h
  · next hc => exact absurd (congrArg (fun p => p.2.1) h) hc
  · exact (congrArg (fun p => p.2.2) h).symm
theorem dec_none {xs : List Int} (h : (decF xs).2.1 ≠ 0) : (decF xs).1 = noF := by
  unfold decF at h ⊢
  split
  · rfl
  · next h0 =>
    rw [if_neg h0] at h
    split
    · rfl
    · next h1 =>
      rw [if_neg h1] at h
      split
      · rfl
      · next h2 =>
        rw [if_neg h2] at h
        split
        · rfl
        · next h3 =>
          rw [if_neg h3] at h
          exact readF_none h
theorem form_of {xs : List Int} (hb : Byt xs) {F : Fr} (h1 : (decF xs).2 = (0, 0)) (h2 : F.core = (decF xs).1) : chkF F = 0 ∧ encF F = xs ∧ F.wf ∧ ∀ s ∈ F.args, s.size ≤ 9223372036854775807 := by
  have e : decF xs = (F.core, 0, 0) := Prod.ext h2.symm h1
  obtain ⟨a, b, c⟩ := dec_form hb e
  have hm := (chk_facts a).1
  exact ⟨a, b, core_wf rfl c ⟨hm.k1, hm.k6⟩, fun s hs => by have := c.each s hs; omega⟩
theorem load_errno {W : World} {a : Addr} {v : Value} (h : W.cell? a = some v) : (Instr.loadAt 39 (.pointer (some a))).run Try.prog W = .ok v W := by go_simp
theorem load_why {W : World} {g : Nat} {a b : Int} (h : W.heap[g]? = some (.cells (fv a b) 58 (0, 0))) : (Instr.loadAt 39 (.pointer (some ⟨g, 0, none⟩))).run Try.prog W = .ok (.int .i64 a) W := load_errno (by rw [cell_of_row W g 0 _ _ _ h]; rfl)
attribute [-go_sem] Instr.loadAt Instr.storeAt Instr.build
section
variable {A : Option Addr} {n cap : Nat} {xs : List Int} {w : World}
set_option maxHeartbeats 8000000 in
set_option maxRecDepth 100000 in
theorem FrameForm_walk (hx : RB w A n xs) (hc : n ≤ cap) : Calls Try.prog 9 #[.slice A n cap] w fun e w' => e = .returned (.bool true) ∧ Below w.heap.size w w' := by
  have hz : ∀ W : World, (Instr.build 58 #[]).run Try.prog W = .ok (.agg #[.int .i64 0, .int .i64 0]) W := fun W => by kernel_rfl
  have hz4 := zero_frame
  have HBY := Lib.hid hx.byt
  go_enter Try.func9, Try.ntmps9
  go_wp2_with fail
  refine (Decode_any hx hc).mono ?_
  rintro e w1 ⟨F, x, y, rfl, HD, hok, hfr, hb1⟩
  obtain ⟨w2, w3, w4, s0, s1, s2, hF, hX, hb⟩ := two_put w1 F hok.tool x y
  have HF := Lib.hid hF
  have HX := Lib.hid hX
  have HB := Lib.hid hb
  clear hF hX hb
  go_upto_region 2 with (fail)
  clear s0 s1 s2
  have hF := HF.out
  have hX := HX.out
  have hb4 := below_step hb1 HB.out
  have hx4 := (hx.below hb1).below HB.out
  have hok4 := hok.below HB.out
  clear HF HX hx hok hfr hb1 HB
  obtain ⟨g, hg⟩ : ∃ g, w1.heap.size = g := ⟨_, rfl⟩
  obtain ⟨g2, hg2⟩ : ∃ g2, w1.heap.size + 1 = g2 := ⟨_, rfl⟩
  rw [hg2] at hX
  rw [hg] at hF
  rw [hg2, hg]
  clear hg hg2
  have eX := get_fault hX
  have eF := get_frame hF
  by_cases hx0 : x = 0
  · have hy0 : y = 0 := by
      subst hx0
      exact dec_zero (f := (decF xs).1) (Prod.ext rfl HD.out.1)
    subst hx0
    subst hy0
    have heq := run_fault_ne 0 0 true rfl
    obtain ⟨hc0, he0, hwf, has⟩ := form_of HBY.out HD.out.1 HD.out.2
    have HE := Lib.hid he0
    have HWF := Lib.hid hwf
    have HAS := Lib.hid has
    clear he0 hwf has
    go_wp2_with fail
    refine (Encode_any hok4 HWF.out HAS.out).mono ?_
    rintro e w5 ⟨v, rfl, hO, hb5⟩
    rw [HE.out] at hO
    rw [hc0]
    obtain ⟨A2, c2, rfl, hR2, _⟩ := hO.reads'
    have hL := hx4.len
    rw [hL] at hR2 ⊢
    have hF5 := hF.below hb5
    have eF5 := get_frame hF5
    have hx5 := hx4.below hb5
    have hb6 := below_step hb4 hb5
    have hok5 := hok4.below hb5
    clear hF eF eX hX hx4 hb4 hb5 hok4 hO hL heq
    go_wp2_with fail
    refine (Equal_same hx5 hR2 rfl).mono ?_
    rintro e w6 ⟨rfl, rfl⟩
    go_wp2_with fail
    refine (Check_any hok5 HWF.out HAS.out).mono ?_
    rintro e w7 ⟨rfl, hb7⟩
    rw [hc0]
    have hb8 := below_step hb6 hb7
    clear hF5 eF5 hx5 hb6 hb7 hok5 hR2
    go_wp2_with fail
    refine (alive_any _).mono ?_
    rintro e w9 ⟨rfl, hb9⟩
    have hb10 := below_step hb8 hb9
    go_wp2_with fail
    go_ret
    exact ⟨rfl, hb10⟩
  · have heq := run_fault_ne x y false (by rw [Bool.and_eq_false_iff]; left; rw [beq_eq_false_iff_ne]; exact hx0)
    have hS : F.same (kF 0) = true := by
      rw [same_iff, HD.out.2, dec_none (by rw [HD.out.1]; exact hx0)]; rfl
    have b1 : (x != 0) = true := by simpa using hx0
    have hk0 : (kF 0).ok w4 := ⟨rfl, rt_none _ rfl rfl rfl⟩
    go_wp2_with fail
    refine (rSame_is F (kF 0) true hS _ hok4 hk0).mono ?_
    rintro e w5 ⟨rfl, hb5⟩
    have hX5 := (hb5.block _ (lt_of_block hX)).trans hX
    have eW := load_why hX5
    have hb6 := below_step hb4 hb5
    clear eX eF hF hX hx4 hb4 hb5 hok4 hk0 heq
    go_wp2_with fail
    refine (alive_any _).mono ?_
    rintro e w9 ⟨rfl, hb9⟩
    have hb10 := below_step hb6 hb9
    go_wp2_with fail
    go_ret
    exact ⟨rfl, hb10⟩
end
end Go.Proofs.Ytelfephmjkipoaa
end
