/- Contracts of functions that the law reaches (texts laid together, part 2): each says of its call what it answers and what it leaves of memory; the conditions stand in each statement. -/
import Derived.Test.YtpjpgcjhdbiepaaGreatMpStreamFrames1
import Derived.Test.YtpjpgcjhdbiepaaGreatWWords
import Derived.WalkKit
import Derived.Lib.Hide
import Derived.Laws.BitsAllLaws
import Derived.Deep.WholeRow
import Derived.Deep.CutBlock
import Derived.Deep.Cut
import Derived.Deep.LoopGhost
import Derived.Laws.CopyOwn
import Derived.Lib.SlBytesConst
import Derived.ChangeKeysEq
import Derived.Laws.StructEq
import Derived.Test.YtpjpgcjhdbiepaaGreatWMore
import Derived.Laws.Bits64b
import Derived.IntWalk
import Derived.Test.YtpjpgcjhdbiepaaGreatProg
import Derived.Test.YtpjpgcjhdbiepaaGreatWGuard
import Derived.Deep.MidRow
import Derived.Deep.RegionHeld3
import Derived.Deep.RegionLaw
import Derived.Deep.DeepMust
import Derived.Laws.Cover3
import Derived.Test.YtpjpgcjhdbiepaaGreatWEqStruct
import Derived.StillTailTactics
import Derived.Recover
import Derived.WalkLawsBesides
import Derived.Deep.RegionWith
import Derived.Test.YtpjpgcjhdbiepaaGreatRows
import Derived.ProofKit
import Derived.OpenShut
import Derived.SizedLaws
import Derived.Deep.Matrix
import Derived.Lib.SmallJoins
import Derived.Test.YtpjpgcjhdbiepaaGreatWSized
import Derived.Deep.Strs
set_option linter.unusedVariables false
/-! Frames in memory that are written; the contracts of what reads a kind's fields. -/
section
namespace Go.Kit
open Go.RowKit Go.Proofs.YtpjpgcjhdbiepaaGreatW.PrintWords
namespace Fr
section
variable {t : TypeId} {w w1 : World} {g : Nat} {f : Fr} {S : Nat → Prop}
theorem at_.only (h : f.at_ t w g) (ho : Only w w1 S) (hs : ¬ S g) : f.at_ t w1 g := ⟨ho.kept h.blk hs, h.tool⟩
theorem at_.lt (h : f.at_ t w g) : g < w.heap.size := lt_of_block h.blk
theorem at_.fz (h : f.at_ t w g) (j : Nat) : w.frozen? ⟨g, j, none⟩ = false := frozen_of_row w g j _ _ h.blk
theorem set_tail (T : List Value) (hT : T.length = 32) (a b c d : Value) (R : List Value) (j : Nat) (v : Value) : ([a, b, c, d] ++ (T ++ R)).set (36 + j) v = [a, b, c, d] ++ (T ++ R.set j v) := by
  rw [List.set_append_right _ _ (by simp; omega), List.set_append_right _ _ (by simp; omega)]
  congr 3
  simp; omega
theorem at_.put (h : f.at_ t w g) {f1 : Fr} (j : Nat) (v : Value) (he : f.cells.set j v = f1.cells) (ht : f1.tool = f.tool) : f1.at_ t (w.setCell ⟨g, j, none⟩ v) g := by
  refine ⟨?_, by rw [ht]; exact h.tool⟩
  have h1 := heap_set_same w g j _ _ v h.blk
  rw [h1]
  unfold Fr.arr
  rw [List.setIfInBounds_toArray, he]
theorem at_.set0 (h : f.at_ t w g) (x : Int) : ({ f with k := x } : Fr).at_ t (w.setCell ⟨g, 0, none⟩ (.int .i64 x)) g := h.put 0 _ rfl rfl
theorem at_.set1 (h : f.at_ t w g) (x : Int) : ({ f with id := x } : Fr).at_ t (w.setCell ⟨g, 1, none⟩ (.int .u64 x)) g := h.put 1 _ rfl rfl
theorem at_.set2 (h : f.at_ t w g) (x : Int) : ({ f with v := x } : Fr).at_ t (w.setCell ⟨g, 2, none⟩ (.int .i64 x)) g := h.put 2 _ rfl rfl
theorem at_.set3 (h : f.at_ t w g) (x : Int) : ({ f with s := x } : Fr).at_ t (w.setCell ⟨g, 3, none⟩ (.int .i64 x)) g := h.put 3 _ rfl rfl
theorem len32 (h : f.at_ t w g) : (nums .u8 f.tool).length = 32 := by simp [nums, h.tool]
theorem at_.set36 (h : f.at_ t w g) (x : Int) : ({ f with st := x } : Fr).at_ t (w.setCell ⟨g, 36, none⟩ (.int .i64 x)) g := h.put 36 _ (set_tail _ (len32 h) _ _ _ _ _ 0 _) rfl
theorem at_.set37 (h : f.at_ t w g) (x : Int) : ({ f with mo := x } : Fr).at_ t (w.setCell ⟨g, 37, none⟩ (.int .i64 x)) g := h.put 37 _ (set_tail _ (len32 h) _ _ _ _ _ 1 _) rfl
theorem at_.set38 (h : f.at_ t w g) (x : Int) : ({ f with fu := x } : Fr).at_ t (w.setCell ⟨g, 38, none⟩ (.int .i64 x)) g := h.put 38 _ (set_tail _ (len32 h) _ _ _ _ _ 2 _) rfl
theorem at_.set39 (h : f.at_ t w g) (x : Int) : ({ f with di := x } : Fr).at_ t (w.setCell ⟨g, 39, none⟩ (.int .i64 x)) g := h.put 39 _ (set_tail _ (len32 h) _ _ _ _ _ 3 _) rfl
theorem at_.set40 (h : f.at_ t w g) (A : Option Addr) (n c : Nat) (l : List ByteArray) : ({ f with A := A, n := n, c := c, args := l } : Fr).at_ t (w.setCell ⟨g, 40, none⟩ (.slice A n c)) g := h.put 40 _ (set_tail _ (len32 h) _ _ _ _ _ 4 _) rfl
theorem at_.set41 (h : f.at_ t w g) (s : ByteArray) : ({ f with body := s } : Fr).at_ t (w.setCell ⟨g, 41, none⟩ (.string s)) g := h.put 41 _ (set_tail _ (len32 h) _ _ _ _ _ 5 _) rfl
theorem tool_splice (T U : List Value) (hT : T.length = 32) (a b c d : Value) (R : List Value) : ([a, b, c, d] ++ (T ++ R)).take 4 ++ (U ++ ([a, b, c, d] ++ (T ++ R)).drop (4 + 32)) = [a, b, c, d] ++ (U ++ R) := by
  have h1 : ([a, b, c, d] ++ (T ++ R)).drop (4 + 32) = R := by
    rw [← List.append_assoc, List.drop_append_of_le_length (by simp; omega)]
    rw [List.drop_of_length_le (by simp; omega), List.nil_append]
  rw [h1]; rfl
theorem at_.c37 (h : f.at_ t w g) : w.cell? ⟨g, 37, none⟩ = some (.int .i64 f.mo) := h.cell 37 _ (by rw [tail_at f h.tool 1]; rfl)
theorem at_.c38 (h : f.at_ t w g) : w.cell? ⟨g, 38, none⟩ = some (.int .i64 f.fu) := h.cell 38 _ (by rw [tail_at f h.tool 2]; rfl)
theorem at_.c39 (h : f.at_ t w g) : w.cell? ⟨g, 39, none⟩ = some (.int .i64 f.di) := h.cell 39 _ (by rw [tail_at f h.tool 3]; rfl)
/-- The tool written over. -/
theorem at_.tooled (h : f.at_ t w g) (ts : List Int) (hl : ts.length = 32) : ({ f with tool := ts } : Fr).at_ t (w.setRow g (f.arr.toList.take 4 ++ (nums .u8 ts ++ f.arr.toList.drop (4 + (nums .u8 ts).length))).toArray) g := by
  refine ⟨?_, hl⟩
  rw [setRow_heap w g _ _ t _ h.blk]
  have h2 : (nums .u8 ts).length = 32 := by simp [nums, hl]
  rw [h2]
  exact congrArg (fun l : List Value => some (Obj.cells l.toArray t (0, 0))) (tool_splice (nums .u8 f.tool) (nums .u8 ts) (len32 h) _ _ _ _ _)
theorem only_row (w : World) (g : Nat) (cs : Array Value) : Only w (w.setRow g cs) (fun k => k = g) :=
  ⟨rfl, rfl, rfl, by simp, fun k _ hk => setRow_other w g k cs hk⟩
theorem only_at (w : World) (g j : Nat) (v : Value) : Only w (w.setCell ⟨g, j, none⟩ v) (fun k => k = g) := (Only.refl w _).set g j v (.inl rfl)
end
end Fr
theorem RT.apart {w w1 : World} {A : Option Addr} {n : Nat} {xs : List ByteArray} {S : Nat → Prop} (h : RT w A n xs) (ho : Only w w1 S) (hs : ∀ a, A = some a → ¬ S a.block) : RT w1 A n xs :=
  ⟨h.1, h.2.1, fun hn => by
    obtain ⟨ad, e, hc⟩ := h.2.2 hn
    exact ⟨ad, e, fun j hj => ho.cell (hc j hj) (by rw [add_block]; exact hs ad e)⟩⟩
/-- A row of texts of the call's own: where it lies. -/
theorem OT.open_ {e : TypeId} {w : World} {base : Nat} {v : Value} {xs : List ByteArray} (h : OT e w base v xs) : ∃ A c, v = .slice A xs.length c ∧ RT w A xs.length xs ∧ xs.length ≤ c ∧ ∀ a, A = some a → base ≤ a.block ∧ a.block < w.heap.size := by
  obtain ⟨A, c, hv, hr⟩ := h.reads
  rcases h.2 with ⟨h1, h2⟩ | ⟨g, cap, cur, h1, h2, h3, h4, h5⟩
  · rw [h1] at hv
    injection hv with e1 e2 e3
    subst e1
    exact ⟨none, c, by rw [h1, ← e2, ← e3], hr, by omega, fun a e => by cases e⟩
  · rw [h1] at hv
    injection hv with e1 e2 e3
    refine ⟨A, c, by rw [h1, e1, e3], hr, by omega, fun a ha => ?_⟩
    rw [← e1] at ha
    cases ha
    exact ⟨h2, lt_of_block h3⟩
end Go.Kit
end
/-! The contracts of what reads a kind's fields: hello, response, cancel, bye, note. -/
section
namespace Go.Proofs.YtpjpgcjhdbiepaaGreat
open Go.RowKit Go.Kit Go.Proofs.YtpjpgcjhdbiepaaGreatW.PrintWords
/-- A frame of a kind without fields. -/
def kF (k : Int) : Fr := ⟨k, 0, 0, 0, z32, 0, 0, 0, 0, none, 0, 0, [], ByteArray.empty⟩
/-- A frame's texts lie in a row of the call's own. -/
def OwnA (w : World) (base : Nat) (F : Fr) : Prop := OT 9 w base (.slice F.A F.n F.c) F.args
theorem OwnA.none (w : World) (base : Nat) {F : Fr} (h : F.A = none ∧ F.n = 0 ∧ F.c = 0 ∧ F.args = []) : OwnA w base F := by
  unfold OwnA; rw [h.1, h.2.1, h.2.2.1, h.2.2.2]; exact OT.nil _ _ _
theorem OwnA.below {w w1 : World} {base : Nat} {F : Fr} (h : OwnA w base F) (hb : Below w.heap.size w w1) : OwnA w1 base F := OT.below h hb
theorem OwnA.less {w : World} {base b : Nat} {F : Fr} (h : OwnA w base F) (hle : b ≤ base) : OwnA w b F := OT.less h hle
theorem ot_only {e : TypeId} {w w1 : World} {base : Nat} {v : Value} {xs : List ByteArray} {S : Nat → Prop} (h : OT e w base v xs) (ho : Only w w1 S) (hs : Sep (rf v) S) : OT e w1 base v xs := by
  refine ⟨h.1, ?_⟩
  rcases h.2 with h1 | ⟨g, cap, cur, h1, h2, h3, h4⟩
  · exact .inl h1
  · exact .inr ⟨g, cap, cur, h1, h2, ho.kept h3 (hs g (by rw [h1]; rfl)), h4⟩
theorem own_block_at {A : Option Addr} {n c k : Nat} (h : rf (.slice A n c) k) : ∃ a, A = some a ∧ a.block = k := by
  unfold rf Value.ownBlock at h
  cases A with
  | none => simp at h
  | some a => exact ⟨a, rfl, by simpa using h⟩
theorem OwnA.only {w w1 : World} {base : Nat} {F : Fr} {S : Nat → Prop} (h : OwnA w base F) (ho : Only w w1 S) (hs : ∀ a, F.A = some a → ¬ S a.block) : OwnA w1 base F :=
  ot_only h ho (fun k hk hS => by obtain ⟨a, e, rfl⟩ := own_block_at hk; exact hs a e hS)
theorem OwnA.fresh {w : World} {base : Nat} {F : Fr} (h : OwnA w base F) : ∀ a, F.A = some a → base ≤ a.block ∧ a.block < w.heap.size := fun a e => by
  obtain ⟨A, c, hv, _, _, hA⟩ := OT.open_ h
  injection hv with h1
  exact hA a (h1 ▸ e)
/-- What a kind's reading leaves. -/
def KindPost (w : World) (r g n c : Nat) (A : Option Addr) (D : Rd) (k : Nat) (e : Ending) (w' : World) : Prop :=
  (∃ (D1 : Rd) (F : Fr), e = .returned (.tuple #[]) ∧ Hid (kindS D k = (D1, F.core)) ∧ RS w' r A n c D1 ∧ F.at_ 48 w' g ∧ F.ok w' ∧ OwnA w' w.heap.size F ∧ Only w w' (fun k => k = r ∨ k = g)) ∨
  (∃ (F : Fr), e = .panicked (raisedF 70 (kindS D k).1.wat) ∧ Hid ((kindS D k).1.why = 70) ∧ F.at_ 48 w' g ∧ Only w w' (fun k => k = r ∨ k = g))
theorem notr {r g : Nat} {A : Option Addr} (h : ¬ rdf r A g) : ¬ g = r := fun e => h (.inl e)
theorem sepg {r g : Nat} {A : Option Addr} (h : ¬ rdf r A g) : Sep (rdf r A) (fun k => k = g) := fun k hk e => h (e ▸ hk)
theorem _root_.Go.Kit.Only.orr {w w1 w2 : World} {r g : Nat} (h : Only w w1 (fun k => k = r ∨ k = g)) (h2 : Only w1 w2 (fun k => k = r)) : Only w w2 (fun k => k = r ∨ k = g) := h.same (h2.mono (fun _ e => .inl e))
theorem _root_.Go.Kit.Only.org {w w1 w2 : World} {r g : Nat} (h : Only w w1 (fun k => k = r ∨ k = g)) (h2 : Only w1 w2 (fun k => k = g)) : Only w w2 (fun k => k = r ∨ k = g) := h.same (h2.mono (fun _ e => .inr e))
section
variable {w : World} {r g n c : Nat} {A : Option Addr} {D : Rd}
theorem rt_none (w : World) {F : Fr} (hA : F.A = none) (hn : F.n = 0) (ha : F.args = []) : RT w F.A F.n F.args := by rw [hA, hn, ha]; exact RT.nil w
set_option maxHeartbeats 4000000 in
set_option maxRecDepth 100000 in
theorem cancel_read (h : RS w r A n c D) (hF : (kF 4).at_ 48 w g) (hs : ¬ rdf r A g) : Calls Tryz.prog 126 #[.pointer (some ⟨r, 0, none⟩), .pointer (some ⟨g, 0, none⟩)] w (KindPost w r g n c A D 4) := by
  go_enter Tryz.func126, Tryz.ntmps126
  go_wp2_with fail
  refine (Uint_any h).mono ?_
  rintro e w2 ⟨D1, v, rfl, HU, hR, ho⟩
  have hF2 := hF.only ho (notr hs)
  have q1 := hF2.c1
  have f1 := hF2.fz 1
  have ho2 := (Only.refl w (fun k => k = r ∨ k = g)).orr ho
  have hF3 := hF2.set1 (v : Int)
  have hR3 := hR.only (Fr.only_at w2 g 1 (.int .u64 (v : Int))) (sepg hs)
  have ho3 := ho2.org (Fr.only_at w2 g 1 (.int .u64 (v : Int)))
  have HK : Hid (kindS D 4 = (D1, ({ kF 4 with id := (v : Int) } : Fr).core)) := Lib.hid (by
    show cancelS D = _
    unfold cancelS; rw [HU.out]; rfl)
  clear hF hF2 hR ho ho2 HU
  go_wp2_with fail
  exact bodyPost_end (v := .tuple #[]) (by simp [results, Tryz.results126, go_sem]) rfl (.inl ⟨D1, _, rfl, HK, hR3, hF3, ⟨rfl, rt_none _ rfl rfl rfl⟩, OwnA.none _ _ ⟨rfl, rfl, rfl, rfl⟩, ho3⟩)
set_option maxHeartbeats 4000000 in
set_option maxRecDepth 100000 in
theorem note_read (h : RS w r A n c D) (hF : (kF 6).at_ 48 w g) (hs : ¬ rdf r A g) : Calls Tryz.prog 133 #[.pointer (some ⟨r, 0, none⟩), .pointer (some ⟨g, 0, none⟩)] w (KindPost w r g n c A D 6) := by
  go_enter Tryz.func133, Tryz.ntmps133
  go_wp2_with fail
  refine (Text_any h 2097152 (by omega)).mono ?_
  rintro e w2 ⟨D1, v, rfl, HU, hR, ho⟩
  have hF2 := hF.only ho (notr hs)
  have q1 := hF2.c41
  have f1 := hF2.fz 41
  have ho2 := (Only.refl w (fun k => k = r ∨ k = g)).orr ho
  have hF3 := hF2.set41 v
  have hR3 := hR.only (Fr.only_at w2 g 41 (.string v)) (sepg hs)
  have ho3 := ho2.org (Fr.only_at w2 g 41 (.string v))
  have HK : Hid (kindS D 6 = (D1, ({ kF 6 with body := v } : Fr).core)) := Lib.hid (by
    show noteS D = _
    unfold noteS; rw [HU.out]; rfl)
  clear hF hF2 hR ho ho2 HU
  go_wp2_with fail
  exact bodyPost_end (v := .tuple #[]) (by simp [results, Tryz.results133, go_sem]) rfl (.inl ⟨D1, _, rfl, HK, hR3, hF3, ⟨rfl, rt_none _ rfl rfl rfl⟩, OwnA.none _ _ ⟨rfl, rfl, rfl, rfl⟩, ho3⟩)
set_option maxHeartbeats 4000000 in
set_option maxRecDepth 100000 in
theorem bye_read (h : RS w r A n c D) (hF : (kF 5).at_ 48 w g) : Calls Tryz.prog 130 #[.pointer (some ⟨r, 0, none⟩), .pointer (some ⟨g, 0, none⟩)] w (KindPost w r g n c A D 5) := by
  go_enter Tryz.func130, Tryz.ntmps130
  go_wp2_with fail
  exact bodyPost_end (v := .tuple #[]) (by simp [results, Tryz.results130, go_sem]) rfl (.inl ⟨D, kF 5, rfl, Lib.hid rfl, h, hF, ⟨rfl, rt_none _ rfl rfl rfl⟩, OwnA.none _ _ ⟨rfl, rfl, rfl, rfl⟩, Only.refl _ _⟩)
set_option maxHeartbeats 4000000 in
set_option maxRecDepth 100000 in
theorem response_read (h : RS w r A n c D) (hF : (kF 3).at_ 48 w g) (hs : ¬ rdf r A g) : Calls Tryz.prog 122 #[.pointer (some ⟨r, 0, none⟩), .pointer (some ⟨g, 0, none⟩)] w (KindPost w r g n c A D 3) := by
  go_enter Tryz.func122, Tryz.ntmps122
  go_wp2_with fail
  refine (Uint_any h).mono ?_
  rintro e w2 ⟨D1, v, rfl, HU, hR, ho⟩
  have hF2 := hF.only ho (notr hs)
  have q1 := hF2.c1
  have f1 := hF2.fz 1
  have ho2 := (Only.refl w (fun k => k = r ∨ k = g)).orr ho
  have hF3 := hF2.set1 (v : Int)
  have hR3 := hR.only (Fr.only_at w2 g 1 (.int .u64 (v : Int))) (sepg hs)
  have ho3 := ho2.org (Fr.only_at w2 g 1 (.int .u64 (v : Int)))
  clear hF hF2 hR ho ho2
  go_wp2_with fail
  generalize w2.setCell ⟨g, 1, none⟩ (.int .u64 (v : Int)) = w3 at *
  clear q1 f1
  refine (part_any hR3 3 (by omega)).mono ?_
  rintro e w4 ⟨D2, st, HC, hR4, ho4, (⟨HV, rfl⟩ | ⟨HV, rfl⟩)⟩
  · have hF4 := hF3.only ho4 (notr hs)
    have ho5 := ho3.orr ho4
    have q1 := hF4.c36
    have f1 := hF4.fz 36
    have hF5 := hF4.set36 (st : Int)
    have hR5 := hR4.only (Fr.only_at w4 g 36 (.int .i64 (st : Int))) (sepg hs)
    have ho6 := ho5.org (Fr.only_at w4 g 36 (.int .i64 (st : Int)))
    clear hR3 hF3 ho3 hR4 ho4 hF4 ho5
    go_wp2_with fail
    generalize w4.setCell ⟨g, 36, none⟩ (.int .i64 (st : Int)) = w5 at *
    clear q1 f1
    refine (Text_any hR5 2097152 (by omega)).mono ?_
    rintro e w6 ⟨D3, s, rfl, HT, hR6, ho7⟩
    have hF6 := hF5.only ho7 (notr hs)
    have q1 := hF6.c41
    have f1 := hF6.fz 41
    have ho8 := ho6.orr ho7
    have hF7 := hF6.set41 s
    have hR7 := hR6.only (Fr.only_at w6 g 41 (.string s)) (sepg hs)
    have ho9 := ho8.org (Fr.only_at w6 g 41 (.string s))
    have HK : Hid (kindS D 3 = (D3, ({ kF 3 with id := (v : Int), st := (st : Int), body := s } : Fr).core)) := Lib.hid (by
      show responseS D = _
      unfold responseS; rw [HU.out]; dsimp only; rw [someS_some HC.out HV.out]; dsimp only; rw [HT.out]; rfl)
    clear hF5 hF6 hR5 hR6 ho6 ho7 ho8
    go_wp2_with fail
    exact bodyPost_end (v := .tuple #[]) (by simp [results, Tryz.results122, go_sem]) rfl (.inl ⟨D3, _, rfl, HK, hR7, hF7, ⟨rfl, rt_none _ rfl rfl rfl⟩, OwnA.none _ _ ⟨rfl, rfl, rfl, rfl⟩, ho9⟩)
  · have ho5 := ho3.orr ho4
    have HK : Hid ((kindS D 3).1 = D1.fail 70 D1.at_) := Lib.hid (by
      have hbad : (D1.fail 70 D1.at_).why ≠ 0 := by show (70 : Int) ≠ 0; decide
      show (responseS D).1 = _
      unfold responseS; rw [HU.out]; dsimp only
      have h0 := HV.out.2
      subst h0
      rw [someS_none HC.out HV.out.1]; dsimp only; rw [textS_bad hbad])
    have hF4 := hF3.only ho4 (notr hs)
    clear hR3 hF3 ho3 hR4 ho4
    refine ⟨rfl, .inr ⟨_, ?_, ?_, hF4, ho5⟩⟩
    · rw [HK.out]; rfl
    · exact Lib.hid (by rw [HK.out]; rfl)
end
end Go.Proofs.YtpjpgcjhdbiepaaGreat
end
/-! The contracts of frame's Same and the document's Same. (frsame.py) -/
section
namespace Go.Proofs.YtpjpgcjhdbiepaaGreat
open Go.RowKit Go.Kit Go.Proofs.YtpjpgcjhdbiepaaGreatW.PrintWords

theorem event_eq {P : Program} {ops : Array Oper} {rest : List Oper} {o : Oper} {a : Act} {Q : Exit → Act → World → Prop} {W : World} (hgd : o.guard = none) (t u : TypeId) (x y : Operand) (ho : o.op = .binOp .eql t x y u)
    (X Y : Array Value) (b : Bool) (hx : a.eval x = .agg X) (hy : a.eval y = .agg Y) (hm : P.eqGuardType P.depth t = false) (he : (Op.equalIn 10000 t (.agg X) (.agg Y)).run P W = .ok b W)
    (h : wpList P ops Q rest (a.put o.dst (.bool b)) W) : wpList P ops Q (o :: rest) a W := by
  refine Kd.event_run hgd (w1 := W) (v := .bool b) ?_ h
  unfold execOp
  simp only [ho, hx, hy]
  simp [run_eqGuard_agg W .eql t x y X Y hm, run_eql_struct W t X Y, he]
theorem lim_eq3 (a b c x y z : Int) (W : World) : (Op.equalIn 10000 45 (.agg #[.int .i64 a, .int .i64 b, .int .i64 c]) (.agg #[.int .i64 x, .int .i64 y, .int .i64 z])).run Tryz.prog W = .ok (a == x && (b == y && c == z)) W := by
  cases h0 : a == x <;> cases h1 : b == y <;> cases h2 : c == z <;> go_simp
theorem lim_eq (f g : Fr) : ∀ W, (Op.equalIn 10000 45 (.agg f.lim.toArray) (.agg g.lim.toArray)).run Tryz.prog W = .ok (f.mo == g.mo && (f.fu == g.fu && f.di == g.di)) W := fun W => lim_eq3 _ _ _ _ _ _ W
theorem tool_eq (x y : List Int) (hx : x.length = 32) (hy : y.length = 32) : ∀ W, (Op.equalIn 10000 43 (.agg (nums .u8 x).toArray) (.agg (nums .u8 y).toArray)).run Tryz.prog W = .ok (decide (x = y)) W := by
  intro W
  obtain ⟨i0, hi, hz0, hz1, hz2⟩ := info_parts u8_info
  exact run_equalIn_nums (P := Tryz.prog) (w := W) 9998 x y Tryz.underlying43 hi hz1 Tryz.underlying5 hx hy
theorem tool_size (f : Fr) (h : f.tool.length = 32) : (Tryz.prog.info? 43).map (·.size) = some (nums .u8 f.tool).length := by
  rw [show (nums .u8 f.tool).length = 32 from by simp [nums, h]]; kernel_rfl
set_option maxHeartbeats 8000000 in
set_option maxRecDepth 100000 in
theorem Same_any (f g : Fr) (w : World) (hf : f.ok w) (hg : g.ok w) :
    Calls Tryz.prog 73 #[f.val, g.val] w fun e w' => ∃ t, e = .returned (.bool t) ∧ Hid (t = f.same g) ∧ Below w.heap.size w w' := by
  have hT := tool_eq f.tool g.tool hf.tool hg.tool
  have hL := lim_eq f g
  have hs4 := tool_size f hf.tool
  have ht4 := tool_size g hg.tool
  have hq4 : Tryz.prog.eqGuardType Tryz.prog.depth 43 = false := by kernel_rfl
  have hq37 : Tryz.prog.eqGuardType Tryz.prog.depth 45 = false := by kernel_rfl
  have hsz : (Tryz.prog.info? 45).map (·.size) = some 3 := by kernel_rfl
  show Calls Tryz.prog _ #[.agg f.arr, .agg g.arr] w _
  go_enter Tryz.func73, Tryz.ntmps73
  have hF : f.at_ 48 ((w.alloc (.cells f.arr 48)).alloc (.cells g.arr 48)) w.heap.size := Fr.at_.below ⟨heap_alloc_new w _, hf.tool⟩ (below_alloc (Below.refl _ _) _)
  have hG : g.at_ 48 ((w.alloc (.cells f.arr 48)).alloc (.cells g.arr 48)) (w.heap.size + 1) := ⟨by simpa using heap_alloc_new (w.alloc (.cells f.arr 48)) (.cells g.arr 48), hg.tool⟩
  have hb := below_alloc (below_alloc (Below.refl _ w) (.cells f.arr 48)) (.cells g.arr 48)
  go_upto_region 1 with (fail)
  generalize (w.alloc (.cells f.arr 48)).alloc (.cells g.arr 48) = w2 at *
  generalize w.heap.size + 1 = g2 at *
  have rL := hF.r4
  have rM := hG.r4
  have rX := hF.r37
  have rY := hG.r37
  have hs37 : (Tryz.prog.info? 45).map (·.size) = some f.lim.length := hsz
  have ht37 : (Tryz.prog.info? 45).map (·.size) = some g.lim.length := hsz
  generalize nums .u8 f.tool = L at hT rL hs4
  generalize nums .u8 g.tool = M at hT rM ht4
  generalize f.lim = X at hL rX hs37
  generalize g.lim = Y at hL rY ht37
  have hf2 := hf.args.below hb
  have hg2 := hg.args.below hb
  have ac0 := hF.c0
  have bc0 := hG.c0
  have ac1 := hF.c1
  have bc1 := hG.c1
  have ac2 := hF.c2
  have bc2 := hG.c2
  have ac3 := hF.c3
  have bc3 := hG.c3
  have ac36 := hF.c36
  have bc36 := hG.c36
  have ac40 := hF.c40
  have bc40 := hG.c40
  have ac41 := hF.c41
  have bc41 := hG.c41
  cases h0 : f.k == g.k with
  | false =>
    have HS : Hid (false = f.same g) := Lib.hid (by simp only [Fr.same, h0, Bool.false_and])
    go_wp2_with fail
    go_ret
    exact ⟨_, rfl, HS, hb⟩
  | true =>
  cases h1 : f.id == g.id with
  | false =>
    have HS : Hid (false = f.same g) := Lib.hid (by simp only [Fr.same, h0, h1, Bool.true_and, Bool.false_and])
    go_wp2_with fail
    go_ret
    exact ⟨_, rfl, HS, hb⟩
  | true =>
  cases h2 : f.v == g.v with
  | false =>
    have HS : Hid (false = f.same g) := Lib.hid (by simp only [Fr.same, h0, h1, h2, Bool.true_and, Bool.false_and])
    go_wp2_with fail
    go_ret
    exact ⟨_, rfl, HS, hb⟩
  | true =>
  cases h3 : f.s == g.s with
  | false =>
    have HS : Hid (false = f.same g) := Lib.hid (by simp only [Fr.same, h0, h1, h2, h3, Bool.true_and, Bool.false_and])
    go_wp2_with fail
    go_ret
    exact ⟨_, rfl, HS, hb⟩
  | true =>
  cases h4 : decide (f.tool = g.tool) with
  | false =>
    have HS : Hid (false = f.same g) := Lib.hid (by simp only [Fr.same, h0, h1, h2, h3, h4, Bool.true_and, Bool.false_and])
    rw [h4] at hT
    go_wp2_with (first | (with_reducible show wpList _ _ _ (Oper.mk (some 33) _ _ _ _ _ :: _) _ _; refine gate_guard rfl ?_; refine wpList_load_mid rfl 43 (.tmp 32) rfl w.heap.size 4 rfl L _ rL Tryz.underlying43 rfl hs4 ?_) | (with_reducible show wpList _ _ _ (Oper.mk (some 35) _ _ _ _ _ :: _) _ _; refine gate_guard rfl ?_; refine wpList_load_mid rfl 43 (.tmp 34) rfl g2 4 rfl M _ rM Tryz.underlying43 rfl ht4 ?_) | (with_reducible show wpList _ _ _ (Oper.mk (some 36) _ _ _ _ _ :: _) _ _; refine gate_guard rfl ?_; refine event_eq rfl 43 43 (.tmp 33) (.tmp 35) rfl L.toArray M.toArray _ rfl rfl hq4 (hT _) ?_))
    go_ret
    exact ⟨_, rfl, HS, hb⟩
  | true =>
  rw [h4] at hT
  cases h5 : f.st == g.st with
  | false =>
    have HS : Hid (false = f.same g) := Lib.hid (by simp only [Fr.same, h0, h1, h2, h3, h4, h5, Bool.true_and, Bool.false_and])
    go_wp2_with (first | (with_reducible show wpList _ _ _ (Oper.mk (some 33) _ _ _ _ _ :: _) _ _; refine gate_guard rfl ?_; refine wpList_load_mid rfl 43 (.tmp 32) rfl w.heap.size 4 rfl L _ rL Tryz.underlying43 rfl hs4 ?_) | (with_reducible show wpList _ _ _ (Oper.mk (some 35) _ _ _ _ _ :: _) _ _; refine gate_guard rfl ?_; refine wpList_load_mid rfl 43 (.tmp 34) rfl g2 4 rfl M _ rM Tryz.underlying43 rfl ht4 ?_) | (with_reducible show wpList _ _ _ (Oper.mk (some 36) _ _ _ _ _ :: _) _ _; refine gate_guard rfl ?_; refine event_eq rfl 43 43 (.tmp 33) (.tmp 35) rfl L.toArray M.toArray _ rfl rfl hq4 (hT _) ?_))
    go_ret
    exact ⟨_, rfl, HS, hb⟩
  | true =>
  cases h6 : (f.mo == g.mo && (f.fu == g.fu && f.di == g.di)) with
  | false =>
    have HS : Hid (false = f.same g) := Lib.hid (by simp only [Fr.same, h0, h1, h2, h3, h4, h5, h6, Bool.true_and, Bool.false_and])
    rw [h6] at hL
    go_wp2_with (first | (with_reducible show wpList _ _ _ (Oper.mk (some 33) _ _ _ _ _ :: _) _ _; refine gate_guard rfl ?_; refine wpList_load_mid rfl 43 (.tmp 32) rfl w.heap.size 4 rfl L _ rL Tryz.underlying43 rfl hs4 ?_) | (with_reducible show wpList _ _ _ (Oper.mk (some 35) _ _ _ _ _ :: _) _ _; refine gate_guard rfl ?_; refine wpList_load_mid rfl 43 (.tmp 34) rfl g2 4 rfl M _ rM Tryz.underlying43 rfl ht4 ?_) | (with_reducible show wpList _ _ _ (Oper.mk (some 36) _ _ _ _ _ :: _) _ _; refine gate_guard rfl ?_; refine event_eq rfl 43 43 (.tmp 33) (.tmp 35) rfl L.toArray M.toArray _ rfl rfl hq4 (hT _) ?_) | (with_reducible show wpList _ _ _ (Oper.mk (some 47) _ _ _ _ _ :: _) _ _; refine gate_guard rfl ?_; refine wpList_load_mid rfl 45 (.tmp 46) rfl w.heap.size 37 rfl X _ rX Tryz.underlying45 rfl hs37 ?_) | (with_reducible show wpList _ _ _ (Oper.mk (some 49) _ _ _ _ _ :: _) _ _; refine gate_guard rfl ?_; refine wpList_load_mid rfl 45 (.tmp 48) rfl g2 37 rfl Y _ rY Tryz.underlying45 rfl ht37 ?_) | (with_reducible show wpList _ _ _ (Oper.mk (some 50) _ _ _ _ _ :: _) _ _; refine gate_guard rfl ?_; refine event_eq rfl 45 45 (.tmp 47) (.tmp 49) rfl X.toArray Y.toArray _ rfl rfl hq37 (hL _) ?_))
    go_ret
    exact ⟨_, rfl, HS, hb⟩
  | true =>
  rw [h6] at hL
  go_wp2_with (first | (with_reducible show wpList _ _ _ (Oper.mk (some 33) _ _ _ _ _ :: _) _ _; refine gate_guard rfl ?_; refine wpList_load_mid rfl 43 (.tmp 32) rfl w.heap.size 4 rfl L _ rL Tryz.underlying43 rfl hs4 ?_) | (with_reducible show wpList _ _ _ (Oper.mk (some 35) _ _ _ _ _ :: _) _ _; refine gate_guard rfl ?_; refine wpList_load_mid rfl 43 (.tmp 34) rfl g2 4 rfl M _ rM Tryz.underlying43 rfl ht4 ?_) | (with_reducible show wpList _ _ _ (Oper.mk (some 36) _ _ _ _ _ :: _) _ _; refine gate_guard rfl ?_; refine event_eq rfl 43 43 (.tmp 33) (.tmp 35) rfl L.toArray M.toArray _ rfl rfl hq4 (hT _) ?_) | (with_reducible show wpList _ _ _ (Oper.mk (some 47) _ _ _ _ _ :: _) _ _; refine gate_guard rfl ?_; refine wpList_load_mid rfl 45 (.tmp 46) rfl w.heap.size 37 rfl X _ rX Tryz.underlying45 rfl hs37 ?_) | (with_reducible show wpList _ _ _ (Oper.mk (some 49) _ _ _ _ _ :: _) _ _; refine gate_guard rfl ?_; refine wpList_load_mid rfl 45 (.tmp 48) rfl g2 37 rfl Y _ rY Tryz.underlying45 rfl ht37 ?_) | (with_reducible show wpList _ _ _ (Oper.mk (some 50) _ _ _ _ _ :: _) _ _; refine gate_guard rfl ?_; refine event_eq rfl 45 45 (.tmp 47) (.tmp 49) rfl X.toArray Y.toArray _ rfl rfl hq37 (hL _) ?_))
  refine (SEq_any f.A g.A f.n g.n f.c g.c f.args g.args w2 hf2 hg2).mono ?_
  rintro e w3 ⟨t7, rfl, h7, hb7⟩
  have a41 := (hF.below hb7).c41
  have b41 := (hG.below hb7).c41
  replace hb := below_step hb hb7
  cases t7
  · have HS : Hid (false = f.same g) := Lib.hid (by simp only [Fr.same, h0, h1, h2, h3, h4, h5, h6, ← h7.out, Bool.true_and, Bool.false_and])
    go_wp2_with fail
    go_ret
    exact ⟨_, rfl, HS, hb⟩
  · have HS : Hid ((f.body.toList == g.body.toList) = f.same g) := Lib.hid (by simp only [Fr.same, h0, h1, h2, h3, h4, h5, h6, ← h7.out, Bool.true_and])
    go_wp2_with fail
    go_ret
    exact ⟨_, rfl, HS, hb⟩
set_option maxHeartbeats 8000000 in
set_option maxRecDepth 100000 in
theorem rSame_any (f g : Fr) (w : World) (hf : f.ok w) (hg : g.ok w) :
    Calls Tryz.prog 24 #[f.val, g.val] w fun e w' => ∃ t, e = .returned (.bool t) ∧ Hid (t = f.same g) ∧ Below w.heap.size w w' := by
  have hT := tool_eq f.tool g.tool hf.tool hg.tool
  have hL := lim_eq f g
  have hs4 := tool_size f hf.tool
  have ht4 := tool_size g hg.tool
  have hq4 : Tryz.prog.eqGuardType Tryz.prog.depth 43 = false := by kernel_rfl
  have hq37 : Tryz.prog.eqGuardType Tryz.prog.depth 45 = false := by kernel_rfl
  have hsz : (Tryz.prog.info? 45).map (·.size) = some 3 := by kernel_rfl
  show Calls Tryz.prog _ #[.agg f.arr, .agg g.arr] w _
  go_enter Tryz.func24, Tryz.ntmps24
  have hF : f.at_ 48 ((w.alloc (.cells f.arr 48)).alloc (.cells g.arr 48)) w.heap.size := Fr.at_.below ⟨heap_alloc_new w _, hf.tool⟩ (below_alloc (Below.refl _ _) _)
  have hG : g.at_ 48 ((w.alloc (.cells f.arr 48)).alloc (.cells g.arr 48)) (w.heap.size + 1) := ⟨by simpa using heap_alloc_new (w.alloc (.cells f.arr 48)) (.cells g.arr 48), hg.tool⟩
  have hb := below_alloc (below_alloc (Below.refl _ w) (.cells f.arr 48)) (.cells g.arr 48)
  go_upto_region 1 with (fail)
  generalize (w.alloc (.cells f.arr 48)).alloc (.cells g.arr 48) = w2 at *
  generalize w.heap.size + 1 = g2 at *
  have rL := hF.r4
  have rM := hG.r4
  have rX := hF.r37
  have rY := hG.r37
  have hs37 : (Tryz.prog.info? 45).map (·.size) = some f.lim.length := hsz
  have ht37 : (Tryz.prog.info? 45).map (·.size) = some g.lim.length := hsz
  generalize nums .u8 f.tool = L at hT rL hs4
  generalize nums .u8 g.tool = M at hT rM ht4
  generalize f.lim = X at hL rX hs37
  generalize g.lim = Y at hL rY ht37
  have hf2 := hf.args.below hb
  have hg2 := hg.args.below hb
  have ac0 := hF.c0
  have bc0 := hG.c0
  have ac1 := hF.c1
  have bc1 := hG.c1
  have ac2 := hF.c2
  have bc2 := hG.c2
  have ac3 := hF.c3
  have bc3 := hG.c3
  have ac36 := hF.c36
  have bc36 := hG.c36
  have ac40 := hF.c40
  have bc40 := hG.c40
  have ac41 := hF.c41
  have bc41 := hG.c41
  cases h0 : f.k == g.k with
  | false =>
    have HS : Hid (false = f.same g) := Lib.hid (by simp only [Fr.same, h0, Bool.false_and])
    go_wp2_with fail
    go_ret
    exact ⟨_, rfl, HS, hb⟩
  | true =>
  cases h1 : f.id == g.id with
  | false =>
    have HS : Hid (false = f.same g) := Lib.hid (by simp only [Fr.same, h0, h1, Bool.true_and, Bool.false_and])
    go_wp2_with fail
    go_ret
    exact ⟨_, rfl, HS, hb⟩
  | true =>
  cases h2 : f.v == g.v with
  | false =>
    have HS : Hid (false = f.same g) := Lib.hid (by simp only [Fr.same, h0, h1, h2, Bool.true_and, Bool.false_and])
    go_wp2_with fail
    go_ret
    exact ⟨_, rfl, HS, hb⟩
  | true =>
  cases h3 : f.s == g.s with
  | false =>
    have HS : Hid (false = f.same g) := Lib.hid (by simp only [Fr.same, h0, h1, h2, h3, Bool.true_and, Bool.false_and])
    go_wp2_with fail
    go_ret
    exact ⟨_, rfl, HS, hb⟩
  | true =>
  cases h4 : decide (f.tool = g.tool) with
  | false =>
    have HS : Hid (false = f.same g) := Lib.hid (by simp only [Fr.same, h0, h1, h2, h3, h4, Bool.true_and, Bool.false_and])
    rw [h4] at hT
    go_wp2_with (first | (with_reducible show wpList _ _ _ (Oper.mk (some 33) _ _ _ _ _ :: _) _ _; refine gate_guard rfl ?_; refine wpList_load_mid rfl 43 (.tmp 32) rfl w.heap.size 4 rfl L _ rL Tryz.underlying43 rfl hs4 ?_) | (with_reducible show wpList _ _ _ (Oper.mk (some 35) _ _ _ _ _ :: _) _ _; refine gate_guard rfl ?_; refine wpList_load_mid rfl 43 (.tmp 34) rfl g2 4 rfl M _ rM Tryz.underlying43 rfl ht4 ?_) | (with_reducible show wpList _ _ _ (Oper.mk (some 36) _ _ _ _ _ :: _) _ _; refine gate_guard rfl ?_; refine event_eq rfl 43 43 (.tmp 33) (.tmp 35) rfl L.toArray M.toArray _ rfl rfl hq4 (hT _) ?_))
    go_ret
    exact ⟨_, rfl, HS, hb⟩
  | true =>
  rw [h4] at hT
  cases h5 : f.st == g.st with
  | false =>
    have HS : Hid (false = f.same g) := Lib.hid (by simp only [Fr.same, h0, h1, h2, h3, h4, h5, Bool.true_and, Bool.false_and])
    go_wp2_with (first | (with_reducible show wpList _ _ _ (Oper.mk (some 33) _ _ _ _ _ :: _) _ _; refine gate_guard rfl ?_; refine wpList_load_mid rfl 43 (.tmp 32) rfl w.heap.size 4 rfl L _ rL Tryz.underlying43 rfl hs4 ?_) | (with_reducible show wpList _ _ _ (Oper.mk (some 35) _ _ _ _ _ :: _) _ _; refine gate_guard rfl ?_; refine wpList_load_mid rfl 43 (.tmp 34) rfl g2 4 rfl M _ rM Tryz.underlying43 rfl ht4 ?_) | (with_reducible show wpList _ _ _ (Oper.mk (some 36) _ _ _ _ _ :: _) _ _; refine gate_guard rfl ?_; refine event_eq rfl 43 43 (.tmp 33) (.tmp 35) rfl L.toArray M.toArray _ rfl rfl hq4 (hT _) ?_))
    go_ret
    exact ⟨_, rfl, HS, hb⟩
  | true =>
  cases h6 : (f.mo == g.mo && (f.fu == g.fu && f.di == g.di)) with
  | false =>
    have HS : Hid (false = f.same g) := Lib.hid (by simp only [Fr.same, h0, h1, h2, h3, h4, h5, h6, Bool.true_and, Bool.false_and])
    rw [h6] at hL
    go_wp2_with (first | (with_reducible show wpList _ _ _ (Oper.mk (some 33) _ _ _ _ _ :: _) _ _; refine gate_guard rfl ?_; refine wpList_load_mid rfl 43 (.tmp 32) rfl w.heap.size 4 rfl L _ rL Tryz.underlying43 rfl hs4 ?_) | (with_reducible show wpList _ _ _ (Oper.mk (some 35) _ _ _ _ _ :: _) _ _; refine gate_guard rfl ?_; refine wpList_load_mid rfl 43 (.tmp 34) rfl g2 4 rfl M _ rM Tryz.underlying43 rfl ht4 ?_) | (with_reducible show wpList _ _ _ (Oper.mk (some 36) _ _ _ _ _ :: _) _ _; refine gate_guard rfl ?_; refine event_eq rfl 43 43 (.tmp 33) (.tmp 35) rfl L.toArray M.toArray _ rfl rfl hq4 (hT _) ?_) | (with_reducible show wpList _ _ _ (Oper.mk (some 47) _ _ _ _ _ :: _) _ _; refine gate_guard rfl ?_; refine wpList_load_mid rfl 45 (.tmp 46) rfl w.heap.size 37 rfl X _ rX Tryz.underlying45 rfl hs37 ?_) | (with_reducible show wpList _ _ _ (Oper.mk (some 49) _ _ _ _ _ :: _) _ _; refine gate_guard rfl ?_; refine wpList_load_mid rfl 45 (.tmp 48) rfl g2 37 rfl Y _ rY Tryz.underlying45 rfl ht37 ?_) | (with_reducible show wpList _ _ _ (Oper.mk (some 50) _ _ _ _ _ :: _) _ _; refine gate_guard rfl ?_; refine event_eq rfl 45 45 (.tmp 47) (.tmp 49) rfl X.toArray Y.toArray _ rfl rfl hq37 (hL _) ?_))
    go_ret
    exact ⟨_, rfl, HS, hb⟩
  | true =>
  rw [h6] at hL
  go_wp2_with (first | (with_reducible show wpList _ _ _ (Oper.mk (some 33) _ _ _ _ _ :: _) _ _; refine gate_guard rfl ?_; refine wpList_load_mid rfl 43 (.tmp 32) rfl w.heap.size 4 rfl L _ rL Tryz.underlying43 rfl hs4 ?_) | (with_reducible show wpList _ _ _ (Oper.mk (some 35) _ _ _ _ _ :: _) _ _; refine gate_guard rfl ?_; refine wpList_load_mid rfl 43 (.tmp 34) rfl g2 4 rfl M _ rM Tryz.underlying43 rfl ht4 ?_) | (with_reducible show wpList _ _ _ (Oper.mk (some 36) _ _ _ _ _ :: _) _ _; refine gate_guard rfl ?_; refine event_eq rfl 43 43 (.tmp 33) (.tmp 35) rfl L.toArray M.toArray _ rfl rfl hq4 (hT _) ?_) | (with_reducible show wpList _ _ _ (Oper.mk (some 47) _ _ _ _ _ :: _) _ _; refine gate_guard rfl ?_; refine wpList_load_mid rfl 45 (.tmp 46) rfl w.heap.size 37 rfl X _ rX Tryz.underlying45 rfl hs37 ?_) | (with_reducible show wpList _ _ _ (Oper.mk (some 49) _ _ _ _ _ :: _) _ _; refine gate_guard rfl ?_; refine wpList_load_mid rfl 45 (.tmp 48) rfl g2 37 rfl Y _ rY Tryz.underlying45 rfl ht37 ?_) | (with_reducible show wpList _ _ _ (Oper.mk (some 50) _ _ _ _ _ :: _) _ _; refine gate_guard rfl ?_; refine event_eq rfl 45 45 (.tmp 47) (.tmp 49) rfl X.toArray Y.toArray _ rfl rfl hq37 (hL _) ?_))
  refine (RSame_any f.A g.A f.n g.n f.c g.c f.args g.args w2 hf2 hg2).mono ?_
  rintro e w3 ⟨t7, rfl, h7, hb7⟩
  have a41 := (hF.below hb7).c41
  have b41 := (hG.below hb7).c41
  replace hb := below_step hb hb7
  cases t7
  · have HS : Hid (false = f.same g) := Lib.hid (by simp only [Fr.same, h0, h1, h2, h3, h4, h5, h6, ← h7.out, Bool.true_and, Bool.false_and])
    go_wp2_with fail
    go_ret
    exact ⟨_, rfl, HS, hb⟩
  · have HS : Hid ((f.body.toList == g.body.toList) = f.same g) := Lib.hid (by simp only [Fr.same, h0, h1, h2, h3, h4, h5, h6, ← h7.out, Bool.true_and])
    go_wp2_with fail
    go_ret
    exact ⟨_, rfl, HS, hb⟩
end Go.Proofs.YtpjpgcjhdbiepaaGreat
end
/-! The contracts of frame's makers. -/
section
namespace Go.Proofs.YtpjpgcjhdbiepaaGreat
open Go.RowKit Go.Kit Go.Proofs.YtpjpgcjhdbiepaaGreatW.PrintWords
def zero32 : List Int := List.replicate 32 0
def byeF : Fr := ⟨5, 0, 0, 0, zero32, 0, 0, 0, 0, none, 0, 0, [], ByteArray.empty⟩
def zeroF : Fr := ⟨0, 0, 0, 0, zero32, 0, 0, 0, 0, none, 0, 0, [], ByteArray.empty⟩
theorem frame_size : (Tryz.prog.info? 48).map (·.size) = some 42 := by kernel_rfl
theorem arr_one (f : Fr) : f.arr.all (·.oneCell') = true := by
  simp only [Fr.arr, Fr.cells, Fr.lim, List.all_toArray, List.all_append, Bool.and_eq_true, List.all_eq_true]
  refine ⟨?_, ?_, ?_, ?_, ?_⟩ <;> intro x hx
  · simp at hx; rcases hx with rfl | rfl | rfl | rfl <;> rfl
  · simp only [nums, List.mem_map] at hx; obtain ⟨q, _, rfl⟩ := hx; rfl
  all_goals simp at hx; rcases hx with rfl | rfl | rfl <;> rfl
theorem size_of (f : Fr) (h : f.tool.length = 32) : (Tryz.prog.info? 48).map (·.size) = some f.arr.size := by rw [frame_size, Fr.arr_size f h]
/-- What is built of some fields. -/
theorem built_of {w : World} {parts : Array (Nat × Value)} {cs : Array Value} (h : Tryz.prog.built 48 parts.toList = some cs) : (Instr.build 48 parts).run Tryz.prog w = .ok (.agg cs) w := run_build w _ _ _ h
/-- The box of a frame that is to be returned. -/
structure Box (w w1 : World) (g : Nat) : Prop where
  blk : ∃ Z : Array Value, Z.size = 42 ∧ w1.heap[g]? = some (.cells Z 48 (0, 0))
  bel : Below w.heap.size w w1
  base : w.heap.size ≤ g
theorem box_of2 (w : World) (o : Obj) : Box w ((w.alloc o).alloc (.cells zeroF.arr 48)) (w.heap.size + 1) :=
  ⟨⟨zeroF.arr, by kernel_rfl, by simpa using heap_alloc_new (w.alloc o) (.cells zeroF.arr 48)⟩, below_alloc (below_alloc (Below.refl _ w) _) _, by omega⟩
attribute [-go_sem] Instr.build
attribute [-go_sem] Instr.loadAt
attribute [-go_sem] Instr.storeAt
end Go.Proofs.YtpjpgcjhdbiepaaGreat
end
/-! The kinds: their makers, of, and the fields that each has. (mk_frs.py) -/
section
namespace Go.Proofs.YtpjpgcjhdbiepaaGreat
open Go.RowKit Go.Kit Go.Proofs.YtpjpgcjhdbiepaaGreatW.PrintWords
attribute [-go_sem] Instr.build
def fnV (f : Nat) : Value := .func (.func f) #[] #[]
def layN (k : Int) : Nat := if k = 1 then 107 else if k = 2 then 111 else if k = 3 then 121 else if k = 4 then 125 else if k = 5 then 129 else 132
def readN (k : Int) : Nat := if k = 1 then 108 else if k = 2 then 114 else if k = 3 then 122 else if k = 4 then 126 else if k = 5 then 130 else 133
def onlyN (k : Int) : Nat := if k = 1 then 109 else if k = 2 then 117 else if k = 3 then 123 else if k = 4 then 127 else if k = 5 then 131 else 134
def mayN (k : Int) : Nat := if k = 1 then 110 else if k = 2 then 118 else if k = 3 then 124 else if k = 4 then 128 else if k = 5 then 128 else 128
/-- A kind's row. -/
def kV (k : Int) : Array Value := #[fnV (layN k), fnV (readN k), fnV (onlyN k), fnV (mayN k)]
theorem kind_size4 : (Tryz.prog.info? 142).map (·.size) = some 4 := by kernel_rfl
theorem kind_size {k : Int} : (Tryz.prog.info? 142).map (·.size) = some (kV k).size := kind_size4
theorem hello_row : kV 1 = #[fnV 107, fnV 108, fnV 109, fnV 110] := by simp [kV, layN, readN, onlyN, mayN]
set_option maxRecDepth 100000 in
theorem hello_kind (k : Int) (hk : k = 1) (w : World) : Calls Tryz.prog 93 #[] w fun e w' => e = .returned (.agg (kV k)) ∧ Below w.heap.size w w' := by
  subst hk
  rw [hello_row]
  obtain ⟨KK, hKK⟩ : ∃ KK : Array Value, #[.func (.func 107) #[] #[], .func (.func 108) #[] #[], .func (.func 109) #[] #[], .func (.func 110) #[] #[]] = KK := ⟨_, rfl⟩
  have hsz : (Tryz.prog.info? 142).map (·.size) = some KK.size := by rw [← hKK]; exact kind_size4
  have hone : KK.all (·.oneCell') = true := by rw [← hKK]; simp [Value.oneCell']
  have h4 : (#[.nilFunc, .nilFunc, .nilFunc, .nilFunc] : Array Value).size = KK.size := by rw [← hKK]; rfl
  have hbl : ∀ W : World, (Instr.build 142 #[(0, .func (.func 107) #[] #[]), (1, .func (.func 108) #[] #[]), (2, .func (.func 109) #[] #[]), (3, .func (.func 110) #[] #[])]).run Tryz.prog W = .ok (.agg KK) W := fun W => by rw [← hKK]; kernel_rfl
  show Calls Tryz.prog _ _ _ fun e w' => e = .returned (.agg #[.func (.func 107) #[] #[], .func (.func 108) #[] #[], .func (.func 109) #[] #[], .func (.func 110) #[] #[]]) ∧ _
  rw [hKK]
  clear hKK
  go_enter Tryz.func93, Tryz.ntmps93
  go_upto_region 1 with (fail)
  have hblk := heap_alloc_new w (.cells #[.nilFunc, .nilFunc, .nilFunc, .nilFunc] 142)
  have hbel := below_alloc (Below.refl w.heap.size w) (.cells #[.nilFunc, .nilFunc, .nilFunc, .nilFunc] 142)
  generalize w.alloc (.cells #[.nilFunc, .nilFunc, .nilFunc, .nilFunc] 142) = w1 at *
  go_wp2_with (with_reducible show wpList _ _ _ (Oper.mk none _ _ _ _ _ :: _) _ _; refine wpList_store_row rfl 142 (.tmp 0) (.tmp 1) rfl w.heap.size KK rfl rfl 142 _ hblk hsz h4 hone ?_)
  exact bodyPost_ret (v := .agg KK) (results_cell_row rfl _ _ w.heap.size 142 KK (0, 0) _ rfl (setRow_heap _ _ _ _ _ _ hblk) Tryz.underlying142 rfl hsz) rfl ⟨rfl, below_setRow hbel (Nat.le_refl _) _⟩
theorem request_row : kV 2 = #[fnV 111, fnV 114, fnV 117, fnV 118] := by simp [kV, layN, readN, onlyN, mayN]
set_option maxRecDepth 100000 in
theorem request_kind (k : Int) (hk : k = 2) (w : World) : Calls Tryz.prog 94 #[] w fun e w' => e = .returned (.agg (kV k)) ∧ Below w.heap.size w w' := by
  subst hk
  rw [request_row]
  obtain ⟨KK, hKK⟩ : ∃ KK : Array Value, #[.func (.func 111) #[] #[], .func (.func 114) #[] #[], .func (.func 117) #[] #[], .func (.func 118) #[] #[]] = KK := ⟨_, rfl⟩
  have hsz : (Tryz.prog.info? 142).map (·.size) = some KK.size := by rw [← hKK]; exact kind_size4
  have hone : KK.all (·.oneCell') = true := by rw [← hKK]; simp [Value.oneCell']
  have h4 : (#[.nilFunc, .nilFunc, .nilFunc, .nilFunc] : Array Value).size = KK.size := by rw [← hKK]; rfl
  have hbl : ∀ W : World, (Instr.build 142 #[(0, .func (.func 111) #[] #[]), (1, .func (.func 114) #[] #[]), (2, .func (.func 117) #[] #[]), (3, .func (.func 118) #[] #[])]).run Tryz.prog W = .ok (.agg KK) W := fun W => by rw [← hKK]; kernel_rfl
  show Calls Tryz.prog _ _ _ fun e w' => e = .returned (.agg #[.func (.func 111) #[] #[], .func (.func 114) #[] #[], .func (.func 117) #[] #[], .func (.func 118) #[] #[]]) ∧ _
  rw [hKK]
  clear hKK
  go_enter Tryz.func94, Tryz.ntmps94
  go_upto_region 1 with (fail)
  have hblk := heap_alloc_new w (.cells #[.nilFunc, .nilFunc, .nilFunc, .nilFunc] 142)
  have hbel := below_alloc (Below.refl w.heap.size w) (.cells #[.nilFunc, .nilFunc, .nilFunc, .nilFunc] 142)
  generalize w.alloc (.cells #[.nilFunc, .nilFunc, .nilFunc, .nilFunc] 142) = w1 at *
  go_wp2_with (with_reducible show wpList _ _ _ (Oper.mk none _ _ _ _ _ :: _) _ _; refine wpList_store_row rfl 142 (.tmp 0) (.tmp 1) rfl w.heap.size KK rfl rfl 142 _ hblk hsz h4 hone ?_)
  exact bodyPost_ret (v := .agg KK) (results_cell_row rfl _ _ w.heap.size 142 KK (0, 0) _ rfl (setRow_heap _ _ _ _ _ _ hblk) Tryz.underlying142 rfl hsz) rfl ⟨rfl, below_setRow hbel (Nat.le_refl _) _⟩
theorem response_row : kV 3 = #[fnV 121, fnV 122, fnV 123, fnV 124] := by simp [kV, layN, readN, onlyN, mayN]
set_option maxRecDepth 100000 in
theorem response_kind (k : Int) (hk : k = 3) (w : World) : Calls Tryz.prog 95 #[] w fun e w' => e = .returned (.agg (kV k)) ∧ Below w.heap.size w w' := by
  subst hk
  rw [response_row]
  obtain ⟨KK, hKK⟩ : ∃ KK : Array Value, #[.func (.func 121) #[] #[], .func (.func 122) #[] #[], .func (.func 123) #[] #[], .func (.func 124) #[] #[]] = KK := ⟨_, rfl⟩
  have hsz : (Tryz.prog.info? 142).map (·.size) = some KK.size := by rw [← hKK]; exact kind_size4
  have hone : KK.all (·.oneCell') = true := by rw [← hKK]; simp [Value.oneCell']
  have h4 : (#[.nilFunc, .nilFunc, .nilFunc, .nilFunc] : Array Value).size = KK.size := by rw [← hKK]; rfl
  have hbl : ∀ W : World, (Instr.build 142 #[(0, .func (.func 121) #[] #[]), (1, .func (.func 122) #[] #[]), (2, .func (.func 123) #[] #[]), (3, .func (.func 124) #[] #[])]).run Tryz.prog W = .ok (.agg KK) W := fun W => by rw [← hKK]; kernel_rfl
  show Calls Tryz.prog _ _ _ fun e w' => e = .returned (.agg #[.func (.func 121) #[] #[], .func (.func 122) #[] #[], .func (.func 123) #[] #[], .func (.func 124) #[] #[]]) ∧ _
  rw [hKK]
  clear hKK
  go_enter Tryz.func95, Tryz.ntmps95
  go_upto_region 1 with (fail)
  have hblk := heap_alloc_new w (.cells #[.nilFunc, .nilFunc, .nilFunc, .nilFunc] 142)
  have hbel := below_alloc (Below.refl w.heap.size w) (.cells #[.nilFunc, .nilFunc, .nilFunc, .nilFunc] 142)
  generalize w.alloc (.cells #[.nilFunc, .nilFunc, .nilFunc, .nilFunc] 142) = w1 at *
  go_wp2_with (with_reducible show wpList _ _ _ (Oper.mk none _ _ _ _ _ :: _) _ _; refine wpList_store_row rfl 142 (.tmp 0) (.tmp 1) rfl w.heap.size KK rfl rfl 142 _ hblk hsz h4 hone ?_)
  exact bodyPost_ret (v := .agg KK) (results_cell_row rfl _ _ w.heap.size 142 KK (0, 0) _ rfl (setRow_heap _ _ _ _ _ _ hblk) Tryz.underlying142 rfl hsz) rfl ⟨rfl, below_setRow hbel (Nat.le_refl _) _⟩
theorem cancel_row : kV 4 = #[fnV 125, fnV 126, fnV 127, fnV 128] := by simp [kV, layN, readN, onlyN, mayN]
set_option maxRecDepth 100000 in
theorem cancel_kind (k : Int) (hk : k = 4) (w : World) : Calls Tryz.prog 96 #[] w fun e w' => e = .returned (.agg (kV k)) ∧ Below w.heap.size w w' := by
  subst hk
  rw [cancel_row]
  obtain ⟨KK, hKK⟩ : ∃ KK : Array Value, #[.func (.func 125) #[] #[], .func (.func 126) #[] #[], .func (.func 127) #[] #[], .func (.func 128) #[] #[]] = KK := ⟨_, rfl⟩
  have hsz : (Tryz.prog.info? 142).map (·.size) = some KK.size := by rw [← hKK]; exact kind_size4
  have hone : KK.all (·.oneCell') = true := by rw [← hKK]; simp [Value.oneCell']
  have h4 : (#[.nilFunc, .nilFunc, .nilFunc, .nilFunc] : Array Value).size = KK.size := by rw [← hKK]; rfl
  have hbl : ∀ W : World, (Instr.build 142 #[(0, .func (.func 125) #[] #[]), (1, .func (.func 126) #[] #[]), (2, .func (.func 127) #[] #[]), (3, .func (.func 128) #[] #[])]).run Tryz.prog W = .ok (.agg KK) W := fun W => by rw [← hKK]; kernel_rfl
  show Calls Tryz.prog _ _ _ fun e w' => e = .returned (.agg #[.func (.func 125) #[] #[], .func (.func 126) #[] #[], .func (.func 127) #[] #[], .func (.func 128) #[] #[]]) ∧ _
  rw [hKK]
  clear hKK
  go_enter Tryz.func96, Tryz.ntmps96
  go_upto_region 1 with (fail)
  have hblk := heap_alloc_new w (.cells #[.nilFunc, .nilFunc, .nilFunc, .nilFunc] 142)
  have hbel := below_alloc (Below.refl w.heap.size w) (.cells #[.nilFunc, .nilFunc, .nilFunc, .nilFunc] 142)
  generalize w.alloc (.cells #[.nilFunc, .nilFunc, .nilFunc, .nilFunc] 142) = w1 at *
  go_wp2_with (with_reducible show wpList _ _ _ (Oper.mk none _ _ _ _ _ :: _) _ _; refine wpList_store_row rfl 142 (.tmp 0) (.tmp 1) rfl w.heap.size KK rfl rfl 142 _ hblk hsz h4 hone ?_)
  exact bodyPost_ret (v := .agg KK) (results_cell_row rfl _ _ w.heap.size 142 KK (0, 0) _ rfl (setRow_heap _ _ _ _ _ _ hblk) Tryz.underlying142 rfl hsz) rfl ⟨rfl, below_setRow hbel (Nat.le_refl _) _⟩
theorem bye_row : kV 5 = #[fnV 129, fnV 130, fnV 131, fnV 128] := by simp [kV, layN, readN, onlyN, mayN]
set_option maxRecDepth 100000 in
theorem bye_kind (k : Int) (hk : k = 5) (w : World) : Calls Tryz.prog 97 #[] w fun e w' => e = .returned (.agg (kV k)) ∧ Below w.heap.size w w' := by
  subst hk
  rw [bye_row]
  obtain ⟨KK, hKK⟩ : ∃ KK : Array Value, #[.func (.func 129) #[] #[], .func (.func 130) #[] #[], .func (.func 131) #[] #[], .func (.func 128) #[] #[]] = KK := ⟨_, rfl⟩
  have hsz : (Tryz.prog.info? 142).map (·.size) = some KK.size := by rw [← hKK]; exact kind_size4
  have hone : KK.all (·.oneCell') = true := by rw [← hKK]; simp [Value.oneCell']
  have h4 : (#[.nilFunc, .nilFunc, .nilFunc, .nilFunc] : Array Value).size = KK.size := by rw [← hKK]; rfl
  have hbl : ∀ W : World, (Instr.build 142 #[(0, .func (.func 129) #[] #[]), (1, .func (.func 130) #[] #[]), (2, .func (.func 131) #[] #[]), (3, .func (.func 128) #[] #[])]).run Tryz.prog W = .ok (.agg KK) W := fun W => by rw [← hKK]; kernel_rfl
  show Calls Tryz.prog _ _ _ fun e w' => e = .returned (.agg #[.func (.func 129) #[] #[], .func (.func 130) #[] #[], .func (.func 131) #[] #[], .func (.func 128) #[] #[]]) ∧ _
  rw [hKK]
  clear hKK
  go_enter Tryz.func97, Tryz.ntmps97
  go_upto_region 1 with (fail)
  have hblk := heap_alloc_new w (.cells #[.nilFunc, .nilFunc, .nilFunc, .nilFunc] 142)
  have hbel := below_alloc (Below.refl w.heap.size w) (.cells #[.nilFunc, .nilFunc, .nilFunc, .nilFunc] 142)
  generalize w.alloc (.cells #[.nilFunc, .nilFunc, .nilFunc, .nilFunc] 142) = w1 at *
  go_wp2_with (with_reducible show wpList _ _ _ (Oper.mk none _ _ _ _ _ :: _) _ _; refine wpList_store_row rfl 142 (.tmp 0) (.tmp 1) rfl w.heap.size KK rfl rfl 142 _ hblk hsz h4 hone ?_)
  exact bodyPost_ret (v := .agg KK) (results_cell_row rfl _ _ w.heap.size 142 KK (0, 0) _ rfl (setRow_heap _ _ _ _ _ _ hblk) Tryz.underlying142 rfl hsz) rfl ⟨rfl, below_setRow hbel (Nat.le_refl _) _⟩
theorem note_row : kV 6 = #[fnV 132, fnV 133, fnV 134, fnV 128] := by simp [kV, layN, readN, onlyN, mayN]
set_option maxRecDepth 100000 in
theorem note_kind (k : Int) (hk : k = 6) (w : World) : Calls Tryz.prog 98 #[] w fun e w' => e = .returned (.agg (kV k)) ∧ Below w.heap.size w w' := by
  subst hk
  rw [note_row]
  obtain ⟨KK, hKK⟩ : ∃ KK : Array Value, #[.func (.func 132) #[] #[], .func (.func 133) #[] #[], .func (.func 134) #[] #[], .func (.func 128) #[] #[]] = KK := ⟨_, rfl⟩
  have hsz : (Tryz.prog.info? 142).map (·.size) = some KK.size := by rw [← hKK]; exact kind_size4
  have hone : KK.all (·.oneCell') = true := by rw [← hKK]; simp [Value.oneCell']
  have h4 : (#[.nilFunc, .nilFunc, .nilFunc, .nilFunc] : Array Value).size = KK.size := by rw [← hKK]; rfl
  have hbl : ∀ W : World, (Instr.build 142 #[(0, .func (.func 132) #[] #[]), (1, .func (.func 133) #[] #[]), (2, .func (.func 134) #[] #[]), (3, .func (.func 128) #[] #[])]).run Tryz.prog W = .ok (.agg KK) W := fun W => by rw [← hKK]; kernel_rfl
  show Calls Tryz.prog _ _ _ fun e w' => e = .returned (.agg #[.func (.func 132) #[] #[], .func (.func 133) #[] #[], .func (.func 134) #[] #[], .func (.func 128) #[] #[]]) ∧ _
  rw [hKK]
  clear hKK
  go_enter Tryz.func98, Tryz.ntmps98
  go_upto_region 1 with (fail)
  have hblk := heap_alloc_new w (.cells #[.nilFunc, .nilFunc, .nilFunc, .nilFunc] 142)
  have hbel := below_alloc (Below.refl w.heap.size w) (.cells #[.nilFunc, .nilFunc, .nilFunc, .nilFunc] 142)
  generalize w.alloc (.cells #[.nilFunc, .nilFunc, .nilFunc, .nilFunc] 142) = w1 at *
  go_wp2_with (with_reducible show wpList _ _ _ (Oper.mk none _ _ _ _ _ :: _) _ _; refine wpList_store_row rfl 142 (.tmp 0) (.tmp 1) rfl w.heap.size KK rfl rfl 142 _ hblk hsz h4 hone ?_)
  exact bodyPost_ret (v := .agg KK) (results_cell_row rfl _ _ w.heap.size 142 KK (0, 0) _ rfl (setRow_heap _ _ _ _ _ _ hblk) Tryz.underlying142 rfl hsz) rfl ⟨rfl, below_setRow hbel (Nat.le_refl _) _⟩
end Go.Proofs.YtpjpgcjhdbiepaaGreat
end
/-! The contract of frame.of. (mk_frt.py) -/
section
namespace Go.Proofs.YtpjpgcjhdbiepaaGreat
open Go.RowKit Go.Kit Go.Proofs.YtpjpgcjhdbiepaaGreatW.PrintWords
theorem results_cell_row_tmp {P : Program} {fn : Func} {p u : Tmp} {ty : TypeId} (h : fn.results = #[.cell p ty, .tmp u]) (tmps : Array Value) (w : World) (g : Nat) (t : TypeId) (cs : Array Value) (fr : Nat × Nat) (d : TypeDesc)
    (hp : tmps.getD p undef = .pointer (some ⟨g, 0, none⟩)) (hg : w.heap[g]? = some (.cells cs t fr))
    (hu : P.underlying ty = some d) (hd : (match d with | .struct _ | .array _ _ => true | _ => false) = true) (hi : (P.info? ty).map (·.size) = some cs.size) (v : Value) (hv : tmps.getD u undef = v) :
    (results fn tmps).run P w = .ok (.tuple #[.agg cs, v]) w := by
  subst hv
  have hp' : tmps[p]?.getD undef = .pointer (some ⟨g, 0, none⟩) := by simpa using hp
  simp [results, h, hp', asAddr, run_loadVar_row w g t ty cs fr d hg hu hd hi]
theorem results_cell_row2 {P : Program} {fn : Func} {p q : Tmp} {ty ty2 : TypeId} (h : fn.results = #[.cell p ty, .cell q ty2]) (tmps : Array Value) (w : World) (g g2 : Nat) (t t2 : TypeId) (cs cs2 : Array Value) (fr fr2 : Nat × Nat) (d d2 : TypeDesc)
    (hp : tmps.getD p undef = .pointer (some ⟨g, 0, none⟩)) (hg : w.heap[g]? = some (.cells cs t fr))
    (hu : P.underlying ty = some d) (hd : (match d with | .struct _ | .array _ _ => true | _ => false) = true) (hi : (P.info? ty).map (·.size) = some cs.size)
    (hp2 : tmps.getD q undef = .pointer (some ⟨g2, 0, none⟩)) (hg2 : w.heap[g2]? = some (.cells cs2 t2 fr2))
    (hu2 : P.underlying ty2 = some d2) (hd2 : (match d2 with | .struct _ | .array _ _ => true | _ => false) = true) (hi2 : (P.info? ty2).map (·.size) = some cs2.size) :
    (results fn tmps).run P w = .ok (.tuple #[.agg cs, .agg cs2]) w := by
  have hp' : tmps[p]?.getD undef = .pointer (some ⟨g, 0, none⟩) := by simpa using hp
  have hp2' : tmps[q]?.getD undef = .pointer (some ⟨g2, 0, none⟩) := by simpa using hp2
  simp [results, h, hp', hp2', asAddr, run_loadVar_row w g t ty cs fr d hg hu hd hi, run_loadVar_row w g2 t2 ty2 cs2 fr2 d2 hg2 hu2 hd2 hi2]
theorem kind_one (k : Int) : (kV k).all (·.oneCell') = true := by unfold kV fnV; simp [Value.oneCell']
attribute [-go_sem] Instr.storeAt
set_option maxHeartbeats 1000000 in
set_option maxRecDepth 100000 in
theorem of_hello (k : Int) (hk : k = 1) (w : World) : Calls Tryz.prog 72 #[.int .i64 k] w fun e w' => e = .returned (.tuple #[.agg (kV k), .bool true]) ∧ Below w.heap.size w w' := by
  have hc := fun W => hello_kind k hk W
  have hsz := kind_size (k := k)
  have hone := kind_one k
  have h4 : (#[.nilFunc, .nilFunc, .nilFunc, .nilFunc] : Array Value).size = (kV k).size := rfl
  generalize kV k = KK at *
  subst hk
  go_enter Tryz.func72, Tryz.ntmps72
  have hblk : ((w.alloc (.cells #[.nilFunc, .nilFunc, .nilFunc, .nilFunc] 142)).alloc (.cells #[.func (.func 93) #[] #[], .func (.func 94) #[] #[], .func (.func 95) #[] #[], .func (.func 96) #[] #[], .func (.func 97) #[] #[], .func (.func 98) #[] #[]] 159)).heap[w.heap.size]? = some (.cells #[.nilFunc, .nilFunc, .nilFunc, .nilFunc] 142 (0, 0)) := (heap_alloc_old _ _ (by simp)).trans (heap_alloc_new w _)
  have hbel := below_alloc (below_alloc (Below.refl _ w) (.cells #[.nilFunc, .nilFunc, .nilFunc, .nilFunc] 142)) (.cells #[.func (.func 93) #[] #[], .func (.func 94) #[] #[], .func (.func 95) #[] #[], .func (.func 96) #[] #[], .func (.func 97) #[] #[], .func (.func 98) #[] #[]] 159)
  go_wp2_with fail
  refine (hc _).mono ?_
  rintro e w2 ⟨rfl, hb2⟩
  have hblk2 := (hb2.block _ (lt_of_block hblk)).trans hblk
  have hb3 := below_step hbel hb2
  clear hblk hbel hb2 hc
  go_wp2_with (with_reducible show wpList _ _ _ (Oper.mk none _ _ _ _ _ :: _) _ _; refine wpList_store_row rfl 142 (.tmp 2) (.tmp 20) rfl w.heap.size KK rfl rfl 142 _ hblk2 hsz h4 hone ?_)
  exact bodyPost_ret (v := .tuple #[.agg KK, .bool true]) (results_cell_row_tmp rfl _ _ w.heap.size 142 KK (0, 0) _ rfl (setRow_heap _ _ _ _ _ _ hblk2) Tryz.underlying142 rfl hsz _ rfl) rfl ⟨rfl, below_setRow hb3 (Nat.le_refl _) _⟩
set_option maxHeartbeats 1000000 in
set_option maxRecDepth 100000 in
theorem of_request (k : Int) (hk : k = 2) (w : World) : Calls Tryz.prog 72 #[.int .i64 k] w fun e w' => e = .returned (.tuple #[.agg (kV k), .bool true]) ∧ Below w.heap.size w w' := by
  have hc := fun W => request_kind k hk W
  have hsz := kind_size (k := k)
  have hone := kind_one k
  have h4 : (#[.nilFunc, .nilFunc, .nilFunc, .nilFunc] : Array Value).size = (kV k).size := rfl
  generalize kV k = KK at *
  subst hk
  go_enter Tryz.func72, Tryz.ntmps72
  have hblk : ((w.alloc (.cells #[.nilFunc, .nilFunc, .nilFunc, .nilFunc] 142)).alloc (.cells #[.func (.func 93) #[] #[], .func (.func 94) #[] #[], .func (.func 95) #[] #[], .func (.func 96) #[] #[], .func (.func 97) #[] #[], .func (.func 98) #[] #[]] 159)).heap[w.heap.size]? = some (.cells #[.nilFunc, .nilFunc, .nilFunc, .nilFunc] 142 (0, 0)) := (heap_alloc_old _ _ (by simp)).trans (heap_alloc_new w _)
  have hbel := below_alloc (below_alloc (Below.refl _ w) (.cells #[.nilFunc, .nilFunc, .nilFunc, .nilFunc] 142)) (.cells #[.func (.func 93) #[] #[], .func (.func 94) #[] #[], .func (.func 95) #[] #[], .func (.func 96) #[] #[], .func (.func 97) #[] #[], .func (.func 98) #[] #[]] 159)
  go_wp2_with fail
  refine (hc _).mono ?_
  rintro e w2 ⟨rfl, hb2⟩
  have hblk2 := (hb2.block _ (lt_of_block hblk)).trans hblk
  have hb3 := below_step hbel hb2
  clear hblk hbel hb2 hc
  go_wp2_with (with_reducible show wpList _ _ _ (Oper.mk none _ _ _ _ _ :: _) _ _; refine wpList_store_row rfl 142 (.tmp 2) (.tmp 20) rfl w.heap.size KK rfl rfl 142 _ hblk2 hsz h4 hone ?_)
  exact bodyPost_ret (v := .tuple #[.agg KK, .bool true]) (results_cell_row_tmp rfl _ _ w.heap.size 142 KK (0, 0) _ rfl (setRow_heap _ _ _ _ _ _ hblk2) Tryz.underlying142 rfl hsz _ rfl) rfl ⟨rfl, below_setRow hb3 (Nat.le_refl _) _⟩
set_option maxHeartbeats 1000000 in
set_option maxRecDepth 100000 in
theorem of_response (k : Int) (hk : k = 3) (w : World) : Calls Tryz.prog 72 #[.int .i64 k] w fun e w' => e = .returned (.tuple #[.agg (kV k), .bool true]) ∧ Below w.heap.size w w' := by
  have hc := fun W => response_kind k hk W
  have hsz := kind_size (k := k)
  have hone := kind_one k
  have h4 : (#[.nilFunc, .nilFunc, .nilFunc, .nilFunc] : Array Value).size = (kV k).size := rfl
  generalize kV k = KK at *
  subst hk
  go_enter Tryz.func72, Tryz.ntmps72
  have hblk : ((w.alloc (.cells #[.nilFunc, .nilFunc, .nilFunc, .nilFunc] 142)).alloc (.cells #[.func (.func 93) #[] #[], .func (.func 94) #[] #[], .func (.func 95) #[] #[], .func (.func 96) #[] #[], .func (.func 97) #[] #[], .func (.func 98) #[] #[]] 159)).heap[w.heap.size]? = some (.cells #[.nilFunc, .nilFunc, .nilFunc, .nilFunc] 142 (0, 0)) := (heap_alloc_old _ _ (by simp)).trans (heap_alloc_new w _)
  have hbel := below_alloc (below_alloc (Below.refl _ w) (.cells #[.nilFunc, .nilFunc, .nilFunc, .nilFunc] 142)) (.cells #[.func (.func 93) #[] #[], .func (.func 94) #[] #[], .func (.func 95) #[] #[], .func (.func 96) #[] #[], .func (.func 97) #[] #[], .func (.func 98) #[] #[]] 159)
  go_wp2_with fail
  refine (hc _).mono ?_
  rintro e w2 ⟨rfl, hb2⟩
  have hblk2 := (hb2.block _ (lt_of_block hblk)).trans hblk
  have hb3 := below_step hbel hb2
  clear hblk hbel hb2 hc
  go_wp2_with (with_reducible show wpList _ _ _ (Oper.mk none _ _ _ _ _ :: _) _ _; refine wpList_store_row rfl 142 (.tmp 2) (.tmp 20) rfl w.heap.size KK rfl rfl 142 _ hblk2 hsz h4 hone ?_)
  exact bodyPost_ret (v := .tuple #[.agg KK, .bool true]) (results_cell_row_tmp rfl _ _ w.heap.size 142 KK (0, 0) _ rfl (setRow_heap _ _ _ _ _ _ hblk2) Tryz.underlying142 rfl hsz _ rfl) rfl ⟨rfl, below_setRow hb3 (Nat.le_refl _) _⟩
set_option maxHeartbeats 1000000 in
set_option maxRecDepth 100000 in
theorem of_cancel (k : Int) (hk : k = 4) (w : World) : Calls Tryz.prog 72 #[.int .i64 k] w fun e w' => e = .returned (.tuple #[.agg (kV k), .bool true]) ∧ Below w.heap.size w w' := by
  have hc := fun W => cancel_kind k hk W
  have hsz := kind_size (k := k)
  have hone := kind_one k
  have h4 : (#[.nilFunc, .nilFunc, .nilFunc, .nilFunc] : Array Value).size = (kV k).size := rfl
  generalize kV k = KK at *
  subst hk
  go_enter Tryz.func72, Tryz.ntmps72
  have hblk : ((w.alloc (.cells #[.nilFunc, .nilFunc, .nilFunc, .nilFunc] 142)).alloc (.cells #[.func (.func 93) #[] #[], .func (.func 94) #[] #[], .func (.func 95) #[] #[], .func (.func 96) #[] #[], .func (.func 97) #[] #[], .func (.func 98) #[] #[]] 159)).heap[w.heap.size]? = some (.cells #[.nilFunc, .nilFunc, .nilFunc, .nilFunc] 142 (0, 0)) := (heap_alloc_old _ _ (by simp)).trans (heap_alloc_new w _)
  have hbel := below_alloc (below_alloc (Below.refl _ w) (.cells #[.nilFunc, .nilFunc, .nilFunc, .nilFunc] 142)) (.cells #[.func (.func 93) #[] #[], .func (.func 94) #[] #[], .func (.func 95) #[] #[], .func (.func 96) #[] #[], .func (.func 97) #[] #[], .func (.func 98) #[] #[]] 159)
  go_wp2_with fail
  refine (hc _).mono ?_
  rintro e w2 ⟨rfl, hb2⟩
  have hblk2 := (hb2.block _ (lt_of_block hblk)).trans hblk
  have hb3 := below_step hbel hb2
  clear hblk hbel hb2 hc
  go_wp2_with (with_reducible show wpList _ _ _ (Oper.mk none _ _ _ _ _ :: _) _ _; refine wpList_store_row rfl 142 (.tmp 2) (.tmp 20) rfl w.heap.size KK rfl rfl 142 _ hblk2 hsz h4 hone ?_)
  exact bodyPost_ret (v := .tuple #[.agg KK, .bool true]) (results_cell_row_tmp rfl _ _ w.heap.size 142 KK (0, 0) _ rfl (setRow_heap _ _ _ _ _ _ hblk2) Tryz.underlying142 rfl hsz _ rfl) rfl ⟨rfl, below_setRow hb3 (Nat.le_refl _) _⟩
set_option maxHeartbeats 1000000 in
set_option maxRecDepth 100000 in
theorem of_bye (k : Int) (hk : k = 5) (w : World) : Calls Tryz.prog 72 #[.int .i64 k] w fun e w' => e = .returned (.tuple #[.agg (kV k), .bool true]) ∧ Below w.heap.size w w' := by
  have hc := fun W => bye_kind k hk W
  have hsz := kind_size (k := k)
  have hone := kind_one k
  have h4 : (#[.nilFunc, .nilFunc, .nilFunc, .nilFunc] : Array Value).size = (kV k).size := rfl
  generalize kV k = KK at *
  subst hk
  go_enter Tryz.func72, Tryz.ntmps72
  have hblk : ((w.alloc (.cells #[.nilFunc, .nilFunc, .nilFunc, .nilFunc] 142)).alloc (.cells #[.func (.func 93) #[] #[], .func (.func 94) #[] #[], .func (.func 95) #[] #[], .func (.func 96) #[] #[], .func (.func 97) #[] #[], .func (.func 98) #[] #[]] 159)).heap[w.heap.size]? = some (.cells #[.nilFunc, .nilFunc, .nilFunc, .nilFunc] 142 (0, 0)) := (heap_alloc_old _ _ (by simp)).trans (heap_alloc_new w _)
  have hbel := below_alloc (below_alloc (Below.refl _ w) (.cells #[.nilFunc, .nilFunc, .nilFunc, .nilFunc] 142)) (.cells #[.func (.func 93) #[] #[], .func (.func 94) #[] #[], .func (.func 95) #[] #[], .func (.func 96) #[] #[], .func (.func 97) #[] #[], .func (.func 98) #[] #[]] 159)
  go_wp2_with fail
  refine (hc _).mono ?_
  rintro e w2 ⟨rfl, hb2⟩
  have hblk2 := (hb2.block _ (lt_of_block hblk)).trans hblk
  have hb3 := below_step hbel hb2
  clear hblk hbel hb2 hc
  go_wp2_with (with_reducible show wpList _ _ _ (Oper.mk none _ _ _ _ _ :: _) _ _; refine wpList_store_row rfl 142 (.tmp 2) (.tmp 20) rfl w.heap.size KK rfl rfl 142 _ hblk2 hsz h4 hone ?_)
  exact bodyPost_ret (v := .tuple #[.agg KK, .bool true]) (results_cell_row_tmp rfl _ _ w.heap.size 142 KK (0, 0) _ rfl (setRow_heap _ _ _ _ _ _ hblk2) Tryz.underlying142 rfl hsz _ rfl) rfl ⟨rfl, below_setRow hb3 (Nat.le_refl _) _⟩
set_option maxHeartbeats 1000000 in
set_option maxRecDepth 100000 in
theorem of_note (k : Int) (hk : k = 6) (w : World) : Calls Tryz.prog 72 #[.int .i64 k] w fun e w' => e = .returned (.tuple #[.agg (kV k), .bool true]) ∧ Below w.heap.size w w' := by
  have hc := fun W => note_kind k hk W
  have hsz := kind_size (k := k)
  have hone := kind_one k
  have h4 : (#[.nilFunc, .nilFunc, .nilFunc, .nilFunc] : Array Value).size = (kV k).size := rfl
  generalize kV k = KK at *
  subst hk
  go_enter Tryz.func72, Tryz.ntmps72
  have hblk : ((w.alloc (.cells #[.nilFunc, .nilFunc, .nilFunc, .nilFunc] 142)).alloc (.cells #[.func (.func 93) #[] #[], .func (.func 94) #[] #[], .func (.func 95) #[] #[], .func (.func 96) #[] #[], .func (.func 97) #[] #[], .func (.func 98) #[] #[]] 159)).heap[w.heap.size]? = some (.cells #[.nilFunc, .nilFunc, .nilFunc, .nilFunc] 142 (0, 0)) := (heap_alloc_old _ _ (by simp)).trans (heap_alloc_new w _)
  have hbel := below_alloc (below_alloc (Below.refl _ w) (.cells #[.nilFunc, .nilFunc, .nilFunc, .nilFunc] 142)) (.cells #[.func (.func 93) #[] #[], .func (.func 94) #[] #[], .func (.func 95) #[] #[], .func (.func 96) #[] #[], .func (.func 97) #[] #[], .func (.func 98) #[] #[]] 159)
  go_wp2_with fail
  refine (hc _).mono ?_
  rintro e w2 ⟨rfl, hb2⟩
  have hblk2 := (hb2.block _ (lt_of_block hblk)).trans hblk
  have hb3 := below_step hbel hb2
  clear hblk hbel hb2 hc
  go_wp2_with (with_reducible show wpList _ _ _ (Oper.mk none _ _ _ _ _ :: _) _ _; refine wpList_store_row rfl 142 (.tmp 2) (.tmp 20) rfl w.heap.size KK rfl rfl 142 _ hblk2 hsz h4 hone ?_)
  exact bodyPost_ret (v := .tuple #[.agg KK, .bool true]) (results_cell_row_tmp rfl _ _ w.heap.size 142 KK (0, 0) _ rfl (setRow_heap _ _ _ _ _ _ hblk2) Tryz.underlying142 rfl hsz _ rfl) rfl ⟨rfl, below_setRow hb3 (Nat.le_refl _) _⟩
theorem of_any (k : Int) (h1 : 1 ≤ k) (h6 : k ≤ 6) (w : World) : Calls Tryz.prog 72 #[.int .i64 k] w fun e w' => e = .returned (.tuple #[.agg (kV k), .bool true]) ∧ Below w.heap.size w w' := by
  rcases (by omega : k = 1 ∨ k = 2 ∨ k = 3 ∨ k = 4 ∨ k = 5 ∨ k = 6) with h | h | h | h | h | h
  · exact of_hello k h w
  · exact of_request k h w
  · exact of_response k h w
  · exact of_cancel k h w
  · exact of_bye k h w
  · exact of_note k h w
set_option maxHeartbeats 1000000 in
set_option maxRecDepth 100000 in
theorem of_bad (k : Int) (hk : k < 1 ∨ 6 < k) (w : World) : Calls Tryz.prog 72 #[.int .i64 k] w fun e w' => e = .returned (.tuple #[.agg #[.nilFunc, .nilFunc, .nilFunc, .nilFunc], .bool false]) ∧ Below w.heap.size w w' := by
  have hsz : (Tryz.prog.info? 142).map (·.size) = some (#[.nilFunc, .nilFunc, .nilFunc, .nilFunc] : Array Value).size := kind_size4
  have hbl : ∀ W : World, (Instr.build 142 #[]).run Tryz.prog W = .ok (.agg #[.nilFunc, .nilFunc, .nilFunc, .nilFunc]) W := fun W => by kernel_rfl
  have hbel := below_alloc (below_alloc (Below.refl _ w) (.cells #[.nilFunc, .nilFunc, .nilFunc, .nilFunc] 142)) (.cells #[.func (.func 93) #[] #[], .func (.func 94) #[] #[], .func (.func 95) #[] #[], .func (.func 96) #[] #[], .func (.func 97) #[] #[], .func (.func 98) #[] #[]] 159)
  have hblk : ((w.alloc (.cells #[.nilFunc, .nilFunc, .nilFunc, .nilFunc] 142)).alloc (.cells #[.func (.func 93) #[] #[], .func (.func 94) #[] #[], .func (.func 95) #[] #[], .func (.func 96) #[] #[], .func (.func 97) #[] #[], .func (.func 98) #[] #[]] 159)).heap[w.heap.size]? = some (.cells #[.nilFunc, .nilFunc, .nilFunc, .nilFunc] 142 (0, 0)) := (heap_alloc_old _ _ (by simp)).trans (heap_alloc_new w _)
  by_cases h1 : k < 1
  all_goals
    have h6 : ¬ k < 1 → k > 6 := fun h => by omega
    try have h6 := h6 h1
    clear hk
    go_enter Tryz.func72, Tryz.ntmps72
    go_upto_region 3 with (fail)
    generalize ((w.alloc (.cells #[.nilFunc, .nilFunc, .nilFunc, .nilFunc] 142)).alloc (.cells #[.func (.func 93) #[] #[], .func (.func 94) #[] #[], .func (.func 95) #[] #[], .func (.func 96) #[] #[], .func (.func 97) #[] #[], .func (.func 98) #[] #[]] 159)) = w1 at *
    go_wp2_with (with_reducible show wpList _ _ _ (Oper.mk none _ _ _ _ _ :: _) _ _; refine wpList_store_row rfl 142 (.tmp 2) (.tmp 14) rfl w.heap.size #[.nilFunc, .nilFunc, .nilFunc, .nilFunc] rfl rfl 142 _ hblk hsz rfl (by simp [Value.oneCell']) ?_)
    exact bodyPost_ret (v := .tuple #[.agg #[.nilFunc, .nilFunc, .nilFunc, .nilFunc], .bool false]) (results_cell_row_tmp rfl _ _ w.heap.size 142 #[.nilFunc, .nilFunc, .nilFunc, .nilFunc] (0, 0) _ rfl (setRow_heap _ _ _ _ _ _ hblk) Tryz.underlying142 rfl hsz _ rfl) rfl ⟨rfl, below_setRow hbel (Nat.le_refl _) _⟩
end Go.Proofs.YtpjpgcjhdbiepaaGreat
end
/-! The walk of FrameSame. -/
section
namespace Go.Proofs.YtpjpgcjhdbiepaaGreat
open Go.RowKit Go.Kit Go.Proofs.YtpjpgcjhdbiepaaGreatW.PrintWords
theorem sameT_self (l : List ByteArray) : sameT l l = true := decide_eq_true rfl
theorem same_self (f : Fr) : f.same f = true := by simp [Fr.same, sameT_self]
theorem beq_sym (a b : Int) : (a == b) = (b == a) := by rw [Bool.eq_iff_iff, beq_iff_eq, beq_iff_eq]; exact eq_comm
theorem same_sym (f g : Fr) : f.same g = g.same f := by
  have h1 : decide (f.tool = g.tool) = decide (g.tool = f.tool) := by rw [decide_eq_decide]; exact eq_comm
  have h2 : sameT f.args g.args = sameT g.args f.args := by unfold sameT; rw [decide_eq_decide]; exact eq_comm
  have h3 : (f.body.toList == g.body.toList) = (g.body.toList == f.body.toList) := by rw [Bool.eq_iff_iff, beq_iff_eq, beq_iff_eq]; exact eq_comm
  unfold Fr.same
  rw [h1, h2, h3, beq_sym f.k, beq_sym f.id, beq_sym f.v, beq_sym f.s, beq_sym f.st, beq_sym f.mo, beq_sym f.fu, beq_sym f.di]
theorem Same_is (f g : Fr) (s : Bool) (h : f.same g = s) (w : World) (hf : f.ok w) (hg : g.ok w) :
    Calls Tryz.prog 73 #[f.val, g.val] w fun e w' => e = .returned (.bool s) ∧ Below w.heap.size w w' :=
  (Same_any f g w hf hg).mono fun e w' ⟨t, he, ht, hb⟩ => ⟨by rw [he, ht.out, h], hb⟩
theorem rSame_is (f g : Fr) (s : Bool) (h : f.same g = s) (w : World) (hf : f.ok w) (hg : g.ok w) :
    Calls Tryz.prog 24 #[f.val, g.val] w fun e w' => e = .returned (.bool s) ∧ Below w.heap.size w w' :=
  (rSame_any f g w hf hg).mono fun e w' ⟨t, he, ht, hb⟩ => ⟨by rw [he, ht.out, h], hb⟩
theorem load_frame (f : Fr) (hi : (Tryz.prog.info? 48).map (·.size) = some f.cells.length) (W : World) (ga : Nat) (h : f.at_ 48 W ga) :
    (Instr.loadAt 48 (.pointer (some ⟨ga, 0, none⟩))).run Tryz.prog W = .ok (.agg f.arr) W :=
  run_loadAt_mid W ga 0 48 f.cells _ (h.range 0 _ (fun j v h => by rw [Nat.zero_add]; exact h)) Tryz.underlying48 rfl hi
attribute [-go_sem] Instr.loadAt
end Go.Proofs.YtpjpgcjhdbiepaaGreat
end
/-! The contracts of what the kinds' only and may do. (mk_fru.py) -/
section
namespace Go.Proofs.YtpjpgcjhdbiepaaGreat
open Go.RowKit Go.Kit Go.Proofs.YtpjpgcjhdbiepaaGreatW.PrintWords
attribute [-go_sem] Instr.build
def only1 (f : Fr) : Fr := ⟨0, 0, f.v, f.s, f.tool, 0, 0, 0, 0, none, 0, 0, [], ByteArray.empty⟩
def only2 (f : Fr) : Fr := ⟨0, f.id, 0, 0, z32, 0, f.mo, f.fu, f.di, f.A, f.n, f.c, f.args, f.body⟩
def only3 (f : Fr) : Fr := ⟨0, f.id, 0, 0, z32, f.st, 0, 0, 0, none, 0, 0, [], f.body⟩
def only4 (f : Fr) : Fr := ⟨0, f.id, 0, 0, z32, 0, 0, 0, 0, none, 0, 0, [], ByteArray.empty⟩
def only6 (f : Fr) : Fr := ⟨0, 0, 0, 0, z32, 0, 0, 0, 0, none, 0, 0, [], f.body⟩
def onlyG (k : Int) (f : Fr) : Fr := if k = 1 then only1 f else if k = 2 then only2 f else if k = 3 then only3 f else if k = 4 then only4 f else if k = 5 then noF else only6 f
theorem tool_at {W : World} {g : Nat} {f : Fr} (h : f.at_ 48 W g) : (Instr.loadAt 43 (.pointer (some ⟨g, 4, none⟩))).run Tryz.prog W = .ok (.agg (nums .u8 f.tool).toArray) W :=
  run_loadAt_mid W g 4 43 (nums .u8 f.tool) _ h.r4 Tryz.underlying43 rfl (tool_size f h.tool)
theorem lim_at {W : World} {g : Nat} {f : Fr} (h : f.at_ 48 W g) : (Instr.loadAt 45 (.pointer (some ⟨g, 37, none⟩))).run Tryz.prog W = .ok (.agg f.lim.toArray) W :=
  run_loadAt_mid W g 37 45 f.lim _ h.r37 Tryz.underlying45 rfl (by kernel_rfl)
theorem hello_obuilt (f : Fr) (hf : f.tool.length = 32) (W : World) : (Instr.build 48 #[(2, .int .i64 f.v), (3, .int .i64 f.s), (4, .agg (nums .u8 f.tool).toArray)]).run Tryz.prog W = .ok (.agg (only1 f).arr) W := by
  refine built_of ?_
  unfold only1
  match f.tool, hf with
  | [a0,a1,a2,a3,a4,a5,a6,a7,a8,a9,a10,a11,a12,a13,a14,a15,a16,a17,a18,a19,a20,a21,a22,a23,a24,a25,a26,a27,a28,a29,a30,a31], _ => show _ = _; kernel_rfl
set_option maxHeartbeats 2000000 in
set_option maxRecDepth 100000 in
theorem hello_only (f : Fr) (hf : f.tool.length = 32) (w : World) : Calls Tryz.prog 109 #[f.val] w fun e w' => e = .returned (.agg (only1 f).arr) ∧ Below w.heap.size w w' := by
  have hsz := size_of (only1 f) hf
  have hone := arr_one (only1 f)
  have has := Fr.arr_size (only1 f) hf
  have hbl := hello_obuilt f hf
  generalize (only1 f).arr = GA at *
  show Calls Tryz.prog _ #[.agg f.arr] w _
  go_enter Tryz.func109, Tryz.ntmps109
  go_upto_region 1 with (fail)
  have hB := box_of2 w (.cells f.arr 48)
  have hF : f.at_ 48 ((w.alloc (.cells f.arr 48)).alloc (.cells zeroF.arr 48)) w.heap.size := Fr.at_.below ⟨heap_alloc_new w _, hf⟩ (below_alloc (Below.refl _ _) _)
  show Code.wp _ _ _ _ ((w.alloc (.cells f.arr 48)).alloc (.cells zeroF.arr 48))
  generalize (w.alloc (.cells f.arr 48)).alloc (.cells zeroF.arr 48) = w1 at *
  obtain ⟨⟨Z, hZ, hblk⟩, hbel, hge⟩ := hB
  generalize w.heap.size + 1 = g1 at *
  have q0 := hF.c2
  have q1 := hF.c3
  have rL := hF.r4
  go_wp2_with (first | (with_reducible show wpList _ _ _ (Oper.mk (some 8) _ _ _ _ _ :: _) _ _; refine wpList_load_mid rfl 43 (.tmp 7) rfl w.heap.size 4 rfl (nums .u8 f.tool) _ rL Tryz.underlying43 rfl (tool_size f hf) ?_) | (with_reducible show wpList _ _ _ (Oper.mk none _ _ _ _ _ :: _) _ _; refine wpList_store_row rfl 48 (.tmp 2) (.tmp 9) rfl g1 GA rfl rfl 48 Z hblk hsz (by rw [hZ]; exact has.symm) hone ?_))
  exact bodyPost_ret (v := .agg GA) (results_cell_row rfl _ _ g1 48 GA (0, 0) _ rfl (setRow_heap _ _ _ _ _ _ hblk) Tryz.underlying48 rfl hsz) rfl ⟨rfl, below_setRow hbel hge _⟩
theorem request_obuilt (f : Fr) (hf : f.tool.length = 32) (W : World) : (Instr.build 48 #[(1, .int .u64 f.id), (6, .agg f.lim.toArray), (7, .slice f.A f.n f.c), (8, .string f.body)]).run Tryz.prog W = .ok (.agg (only2 f).arr) W := built_of (by show _ = _; kernel_rfl)
set_option maxHeartbeats 2000000 in
set_option maxRecDepth 100000 in
theorem request_only (f : Fr) (hf : f.tool.length = 32) (w : World) : Calls Tryz.prog 117 #[f.val] w fun e w' => e = .returned (.agg (only2 f).arr) ∧ Below w.heap.size w w' := by
  have hsz := size_of (only2 f) rfl
  have hone := arr_one (only2 f)
  have has := Fr.arr_size (only2 f) rfl
  have hbl := request_obuilt f hf
  have hlim : (Tryz.prog.info? 45).map (·.size) = some f.lim.length := by show _ = some 3; kernel_rfl
  generalize (only2 f).arr = GA at *
  show Calls Tryz.prog _ #[.agg f.arr] w _
  go_enter Tryz.func117, Tryz.ntmps117
  go_upto_region 1 with (fail)
  have hB := box_of2 w (.cells f.arr 48)
  have hF : f.at_ 48 ((w.alloc (.cells f.arr 48)).alloc (.cells zeroF.arr 48)) w.heap.size := Fr.at_.below ⟨heap_alloc_new w _, hf⟩ (below_alloc (Below.refl _ _) _)
  show Code.wp _ _ _ _ ((w.alloc (.cells f.arr 48)).alloc (.cells zeroF.arr 48))
  generalize (w.alloc (.cells f.arr 48)).alloc (.cells zeroF.arr 48) = w1 at *
  obtain ⟨⟨Z, hZ, hblk⟩, hbel, hge⟩ := hB
  generalize w.heap.size + 1 = g1 at *
  have q0 := hF.c1
  have q1 := hF.c40
  have q2 := hF.c41
  have rL := hF.r37
  go_wp2_with (first | (with_reducible show wpList _ _ _ (Oper.mk (some 6) _ _ _ _ _ :: _) _ _; refine wpList_load_mid rfl 45 (.tmp 5) rfl w.heap.size 37 rfl f.lim _ rL Tryz.underlying45 rfl (hlim) ?_) | (with_reducible show wpList _ _ _ (Oper.mk none _ _ _ _ _ :: _) _ _; refine wpList_store_row rfl 48 (.tmp 2) (.tmp 11) rfl g1 GA rfl rfl 48 Z hblk hsz (by rw [hZ]; exact has.symm) hone ?_))
  exact bodyPost_ret (v := .agg GA) (results_cell_row rfl _ _ g1 48 GA (0, 0) _ rfl (setRow_heap _ _ _ _ _ _ hblk) Tryz.underlying48 rfl hsz) rfl ⟨rfl, below_setRow hbel hge _⟩
theorem response_obuilt (f : Fr) (hf : f.tool.length = 32) (W : World) : (Instr.build 48 #[(1, .int .u64 f.id), (5, .int .i64 f.st), (8, .string f.body)]).run Tryz.prog W = .ok (.agg (only3 f).arr) W := built_of (by show _ = _; kernel_rfl)
set_option maxHeartbeats 2000000 in
set_option maxRecDepth 100000 in
theorem response_only (f : Fr) (hf : f.tool.length = 32) (w : World) : Calls Tryz.prog 123 #[f.val] w fun e w' => e = .returned (.agg (only3 f).arr) ∧ Below w.heap.size w w' := by
  have hsz := size_of (only3 f) rfl
  have hone := arr_one (only3 f)
  have has := Fr.arr_size (only3 f) rfl
  have hbl := response_obuilt f hf
  generalize (only3 f).arr = GA at *
  show Calls Tryz.prog _ #[.agg f.arr] w _
  go_enter Tryz.func123, Tryz.ntmps123
  go_upto_region 1 with (fail)
  have hB := box_of2 w (.cells f.arr 48)
  have hF : f.at_ 48 ((w.alloc (.cells f.arr 48)).alloc (.cells zeroF.arr 48)) w.heap.size := Fr.at_.below ⟨heap_alloc_new w _, hf⟩ (below_alloc (Below.refl _ _) _)
  show Code.wp _ _ _ _ ((w.alloc (.cells f.arr 48)).alloc (.cells zeroF.arr 48))
  generalize (w.alloc (.cells f.arr 48)).alloc (.cells zeroF.arr 48) = w1 at *
  obtain ⟨⟨Z, hZ, hblk⟩, hbel, hge⟩ := hB
  generalize w.heap.size + 1 = g1 at *
  have q0 := hF.c1
  have q1 := hF.c36
  have q2 := hF.c41
  go_wp2_with (with_reducible show wpList _ _ _ (Oper.mk none _ _ _ _ _ :: _) _ _; refine wpList_store_row rfl 48 (.tmp 2) (.tmp 9) rfl g1 GA rfl rfl 48 Z hblk hsz (by rw [hZ]; exact has.symm) hone ?_)
  exact bodyPost_ret (v := .agg GA) (results_cell_row rfl _ _ g1 48 GA (0, 0) _ rfl (setRow_heap _ _ _ _ _ _ hblk) Tryz.underlying48 rfl hsz) rfl ⟨rfl, below_setRow hbel hge _⟩
theorem cancel_obuilt (f : Fr) (hf : f.tool.length = 32) (W : World) : (Instr.build 48 #[(1, .int .u64 f.id)]).run Tryz.prog W = .ok (.agg (only4 f).arr) W := built_of (by show _ = _; kernel_rfl)
set_option maxHeartbeats 2000000 in
set_option maxRecDepth 100000 in
theorem cancel_only (f : Fr) (hf : f.tool.length = 32) (w : World) : Calls Tryz.prog 127 #[f.val] w fun e w' => e = .returned (.agg (only4 f).arr) ∧ Below w.heap.size w w' := by
  have hsz := size_of (only4 f) rfl
  have hone := arr_one (only4 f)
  have has := Fr.arr_size (only4 f) rfl
  have hbl := cancel_obuilt f hf
  generalize (only4 f).arr = GA at *
  show Calls Tryz.prog _ #[.agg f.arr] w _
  go_enter Tryz.func127, Tryz.ntmps127
  go_upto_region 1 with (fail)
  have hB := box_of2 w (.cells f.arr 48)
  have hF : f.at_ 48 ((w.alloc (.cells f.arr 48)).alloc (.cells zeroF.arr 48)) w.heap.size := Fr.at_.below ⟨heap_alloc_new w _, hf⟩ (below_alloc (Below.refl _ _) _)
  show Code.wp _ _ _ _ ((w.alloc (.cells f.arr 48)).alloc (.cells zeroF.arr 48))
  generalize (w.alloc (.cells f.arr 48)).alloc (.cells zeroF.arr 48) = w1 at *
  obtain ⟨⟨Z, hZ, hblk⟩, hbel, hge⟩ := hB
  generalize w.heap.size + 1 = g1 at *
  have q0 := hF.c1
  go_wp2_with (with_reducible show wpList _ _ _ (Oper.mk none _ _ _ _ _ :: _) _ _; refine wpList_store_row rfl 48 (.tmp 2) (.tmp 5) rfl g1 GA rfl rfl 48 Z hblk hsz (by rw [hZ]; exact has.symm) hone ?_)
  exact bodyPost_ret (v := .agg GA) (results_cell_row rfl _ _ g1 48 GA (0, 0) _ rfl (setRow_heap _ _ _ _ _ _ hblk) Tryz.underlying48 rfl hsz) rfl ⟨rfl, below_setRow hbel hge _⟩
theorem bye_obuilt (f : Fr) (hf : f.tool.length = 32) (W : World) : (Instr.build 48 #[]).run Tryz.prog W = .ok (.agg (noF).arr) W := built_of (by show _ = _; kernel_rfl)
set_option maxHeartbeats 2000000 in
set_option maxRecDepth 100000 in
theorem bye_only (f : Fr) (hf : f.tool.length = 32) (w : World) : Calls Tryz.prog 131 #[f.val] w fun e w' => e = .returned (.agg (noF).arr) ∧ Below w.heap.size w w' := by
  have hsz := size_of (noF) rfl
  have hone := arr_one (noF)
  have has := Fr.arr_size (noF) rfl
  have hbl := bye_obuilt f hf
  generalize (noF).arr = GA at *
  show Calls Tryz.prog _ #[.agg f.arr] w _
  go_enter Tryz.func131, Tryz.ntmps131
  go_upto_region 1 with (fail)
  have hB := box_of2 w (.cells f.arr 48)
  have hF : f.at_ 48 ((w.alloc (.cells f.arr 48)).alloc (.cells zeroF.arr 48)) w.heap.size := Fr.at_.below ⟨heap_alloc_new w _, hf⟩ (below_alloc (Below.refl _ _) _)
  show Code.wp _ _ _ _ ((w.alloc (.cells f.arr 48)).alloc (.cells zeroF.arr 48))
  generalize (w.alloc (.cells f.arr 48)).alloc (.cells zeroF.arr 48) = w1 at *
  obtain ⟨⟨Z, hZ, hblk⟩, hbel, hge⟩ := hB
  generalize w.heap.size + 1 = g1 at *
  go_wp2_with (with_reducible show wpList _ _ _ (Oper.mk none _ _ _ _ _ :: _) _ _; refine wpList_store_row rfl 48 (.tmp 2) (.tmp 3) rfl g1 GA rfl rfl 48 Z hblk hsz (by rw [hZ]; exact has.symm) hone ?_)
  exact bodyPost_ret (v := .agg GA) (results_cell_row rfl _ _ g1 48 GA (0, 0) _ rfl (setRow_heap _ _ _ _ _ _ hblk) Tryz.underlying48 rfl hsz) rfl ⟨rfl, below_setRow hbel hge _⟩
theorem note_obuilt (f : Fr) (hf : f.tool.length = 32) (W : World) : (Instr.build 48 #[(8, .string f.body)]).run Tryz.prog W = .ok (.agg (only6 f).arr) W := built_of (by show _ = _; kernel_rfl)
set_option maxHeartbeats 2000000 in
set_option maxRecDepth 100000 in
theorem note_only (f : Fr) (hf : f.tool.length = 32) (w : World) : Calls Tryz.prog 134 #[f.val] w fun e w' => e = .returned (.agg (only6 f).arr) ∧ Below w.heap.size w w' := by
  have hsz := size_of (only6 f) rfl
  have hone := arr_one (only6 f)
  have has := Fr.arr_size (only6 f) rfl
  have hbl := note_obuilt f hf
  generalize (only6 f).arr = GA at *
  show Calls Tryz.prog _ #[.agg f.arr] w _
  go_enter Tryz.func134, Tryz.ntmps134
  go_upto_region 1 with (fail)
  have hB := box_of2 w (.cells f.arr 48)
  have hF : f.at_ 48 ((w.alloc (.cells f.arr 48)).alloc (.cells zeroF.arr 48)) w.heap.size := Fr.at_.below ⟨heap_alloc_new w _, hf⟩ (below_alloc (Below.refl _ _) _)
  show Code.wp _ _ _ _ ((w.alloc (.cells f.arr 48)).alloc (.cells zeroF.arr 48))
  generalize (w.alloc (.cells f.arr 48)).alloc (.cells zeroF.arr 48) = w1 at *
  obtain ⟨⟨Z, hZ, hblk⟩, hbel, hge⟩ := hB
  generalize w.heap.size + 1 = g1 at *
  have q0 := hF.c41
  go_wp2_with (with_reducible show wpList _ _ _ (Oper.mk none _ _ _ _ _ :: _) _ _; refine wpList_store_row rfl 48 (.tmp 2) (.tmp 5) rfl g1 GA rfl rfl 48 Z hblk hsz (by rw [hZ]; exact has.symm) hone ?_)
  exact bodyPost_ret (v := .agg GA) (results_cell_row rfl _ _ g1 48 GA (0, 0) _ rfl (setRow_heap _ _ _ _ _ _ hblk) Tryz.underlying48 rfl hsz) rfl ⟨rfl, below_setRow hbel hge _⟩
theorem only_any (k : Int) (h1 : 1 ≤ k) (h6 : k ≤ 6) (f : Fr) (hf : f.tool.length = 32) (w : World) : Calls Tryz.prog (onlyN k) #[f.val] w fun e w' => e = .returned (.agg (onlyG k f).arr) ∧ Below w.heap.size w w' := by
  rcases (by omega : k = 1 ∨ k = 2 ∨ k = 3 ∨ k = 4 ∨ k = 5 ∨ k = 6) with rfl | rfl | rfl | rfl | rfl | rfl
  · exact hello_only f hf w
  · exact request_only f hf w
  · exact response_only f hf w
  · exact cancel_only f hf w
  · exact bye_only f hf w
  · exact note_only f hf w
end Go.Proofs.YtpjpgcjhdbiepaaGreat
end
/-! The contracts of slices.ContainsFunc over long texts, and of the kinds' may. -/
section
namespace Go.Proofs.YtpjpgcjhdbiepaaGreat
open Go.RowKit Go.Kit Go.Proofs.YtpjpgcjhdbiepaaGreatW.PrintWords
/-- A truth that says whether P. -/
def BoolIs (t : Bool) (P : Prop) : Prop := t = true ↔ P
def SomeBool (P : Prop) (R : World → Prop) (e : Ending) (w' : World) : Prop := ∃ t : Bool, e = .returned (.bool t) ∧ Hid (BoolIs t P) ∧ R w'
def SomeInt (P : Int → Prop) (R : World → Prop) (e : Ending) (w' : World) : Prop := ∃ i : Int, e = .returned (.int .i64 i) ∧ Hid (P i) ∧ R w'
theorem bool_yes {P : Prop} (h : P) : Hid (BoolIs true P) := Lib.hid ⟨fun _ => h, fun _ => rfl⟩
theorem bool_no {P : Prop} (h : ¬ P) : Hid (BoolIs false P) := Lib.hid ⟨fun e => (by cases e), fun e => absurd e h⟩
set_option maxHeartbeats 1000000 in
theorem long_one (s : ByteArray) (hs : s.size ≤ 9223372036854775807) (w : World) : Calls Tryz.prog 120 #[.string s] w fun e w' => e = .returned (.bool (decide (4096 < s.size))) ∧ w' = w := by
  by_cases h : 4096 < s.size
  · have hi : (4096 : Int) < (s.size : Int) := by omega
    have hd : decide (4096 < s.size) = true := decide_eq_true h
    rw [hd]
    clear h hd
    go_enter Tryz.func120, Tryz.ntmps120
    go_wp2_with fail
    go_ret
    exact ⟨rfl, rfl⟩
  · have hi : ¬ (4096 : Int) < (s.size : Int) := by omega
    have hd : decide (4096 < s.size) = false := decide_eq_false h
    rw [hd]
    clear h hd
    go_enter Tryz.func120, Tryz.ntmps120
    go_wp2_with fail
    go_ret
    exact ⟨rfl, rfl⟩
set_option maxHeartbeats 2000000 in
theorem long_index (A : Option Addr) (n c : Nat) (xs : List ByteArray) (w : World) (hx : RT w A n xs) (hs : ∀ s ∈ xs, s.size ≤ 9223372036854775807) :
    Calls Tryz.prog 138 #[.slice A n c, .func (.func 120) #[] #[]] w (SomeInt (fun i => 0 ≤ i ↔ ∃ s ∈ xs, 4096 < s.size) (fun w' => w' = w)) := by
  have hmx := hx.max
  have HS := Lib.hid hs
  have HX := Lib.hid hx
  clear hs
  go_enter Tryz.func138, Tryz.ntmps138
  go_wp2_with fail
  go_loopg [8] n (fun gk v8 w' => ∃ k : Nat, v8 = .int .i64 (k : Int) ∧ w' = w ∧ Hid (k + gk = n ∧ ∀ j, j < k → ∀ s, xs[j]? = some s → ¬ 4096 < s.size))
  case atStart => exact ⟨0, rfl, rfl, by omega, fun j hj => absurd hj (by omega)⟩
  case round =>
    obtain ⟨k, rfl, rfl, HG⟩ := hrel
    by_cases hk : k < n
    · obtain ⟨ad, s, rfl, hcell, HXX⟩ := HX.out.at_ k hk
      have hsz := HS.out s (List.mem_of_getElem? HXX.out)
      have hk2 : (k : Int) < (n : Int) := by omega
      by_cases hl : 4096 < s.size
      · have hd : decide (4096 < s.size) = true := decide_eq_true hl
        have HF : Hid ((0 : Int) ≤ (k : Int) ↔ ∃ s ∈ xs, 4096 < s.size) := Lib.hid ⟨fun _ => ⟨s, List.mem_of_getElem? HXX.out, hl⟩, fun _ => by omega⟩
        clear hl
        go_wp2_with fail
        refine (long_one s hsz _).mono ?_
        rintro e w1 ⟨rfl, rfl⟩
        rw [hd]
        go_wp2_with fail
        go_ret
        exact ⟨_, rfl, HF, rfl⟩
      · have hd : decide (4096 < s.size) = false := decide_eq_false hl
        have HL := Lib.hid hl
        clear hl
        go_wp2_with fail
        refine (long_one s hsz _).mono ?_
        rintro e w1 ⟨rfl, rfl⟩
        rw [hd]
        go_wp2_with fail
        go_roundg (gk - 1)
        case measure => have := HG.out.1; omega
        case rel =>
          refine ⟨k + 1, by simp, rfl, by have := HG.out.1; omega, fun j hj s2 h2 => ?_⟩
          rcases Nat.lt_or_ge j k with h | h
          · exact HG.out.2 j h s2 h2
          · obtain rfl : j = k := by omega
            rw [HXX.out] at h2
            cases h2
            exact HL.out
    · have hk2 : ¬ (k : Int) < (n : Int) := by omega
      have HF : Hid ((0 : Int) ≤ -1 ↔ ∃ s ∈ xs, 4096 < s.size) := Lib.hid ⟨fun h => by omega, fun ⟨s, hm, hl⟩ => by
        obtain ⟨j, hj, e⟩ := List.mem_iff_getElem.1 hm
        have hlen := HX.out.len
        have := HG.out.1
        exact absurd hl (HG.out.2 j (by omega) s (by rw [List.getElem?_eq_getElem hj, e]))⟩
      go_wp2_with fail
      go_ret
      exact ⟨_, rfl, HF, rfl⟩
set_option maxHeartbeats 1000000 in
theorem long_any (A : Option Addr) (n c : Nat) (xs : List ByteArray) (w : World) (hx : RT w A n xs) (hs : ∀ s ∈ xs, s.size ≤ 9223372036854775807) :
    Calls Tryz.prog 119 #[.slice A n c, .func (.func 120) #[] #[]] w (SomeBool (∃ s ∈ xs, 4096 < s.size) (fun w' => w' = w)) := by
  go_enter Tryz.func119, Tryz.ntmps119
  go_wp2_with fail
  refine (long_index A n c xs _ hx hs).mono ?_
  rintro e w1 ⟨i, rfl, HI, rfl⟩
  by_cases h : 0 ≤ i
  · have HF := bool_yes (HI.out.1 h)
    go_wp2_with fail
    go_ret
    exact ⟨true, rfl, HF, rfl⟩
  · have HF := bool_no (fun e => h (HI.out.2 e))
    have hd : decide (0 ≤ i) = false := decide_eq_false h
    clear h
    go_wp2_with fail
    go_ret
    exact ⟨false, rfl, HF, rfl⟩
/-- What a kind asks of its fields. -/
def MayK (k : Int) (f : Fr) : Prop :=
  (k = 1 → f.v = 1 ∧ 1 ≤ f.s ∧ f.s ≤ 64) ∧ (k = 2 → 0 ≤ f.mo ∧ 0 ≤ f.fu ∧ 0 ≤ f.di ∧ f.n ≤ 8 ∧ ∀ s ∈ f.args, s.size ≤ 4096) ∧ (k = 3 → f.st = 1 ∨ ((f.st = 2 ∨ f.st = 3) ∧ f.body.size = 0))
section
variable {f : Fr} {w : World}
theorem boxed (hf : f.tool.length = 32) (w : World) : f.at_ 48 (w.alloc (.cells f.arr 48)) w.heap.size := ⟨heap_alloc_new w _, hf⟩
set_option maxHeartbeats 2000000 in
set_option maxRecDepth 100000 in
theorem some_may (hf : f.ok w) : Calls Tryz.prog 128 #[f.val] w fun e w' => e = .returned (.bool true) ∧ Below w.heap.size w w' := by
  have hb := below_alloc (Below.refl _ w) (.cells f.arr 48)
  show Calls Tryz.prog _ #[.agg f.arr] w _
  go_enter Tryz.func128, Tryz.ntmps128
  go_wp2_with fail
  go_ret
  exact ⟨rfl, hb⟩
set_option maxHeartbeats 2000000 in
set_option maxRecDepth 100000 in
theorem hello_may (hf : f.ok w) : Calls Tryz.prog 110 #[f.val] w (SomeBool (MayK 1 f) (fun w' => Below w.heap.size w w')) := by
  have hb := below_alloc (Below.refl _ w) (.cells f.arr 48)
  have hF := boxed hf.tool w
  show Calls Tryz.prog _ #[.agg f.arr] w _
  go_enter Tryz.func110, Tryz.ntmps110
  go_upto_region 1 with (fail)
  generalize w.alloc (.cells f.arr 48) = w1 at *
  have q1 := hF.c2
  have q2 := hF.c3
  by_cases h1 : f.v = 1
  · have b1 : (f.v == 1) = true := by rw [beq_iff_eq]; exact h1
    by_cases h2 : 1 ≤ f.s
    · by_cases h3 : f.s ≤ 64
      · have HF : Hid (BoolIs true (MayK 1 f)) := bool_yes ⟨fun _ => ⟨h1, h2, h3⟩, fun e => by omega, fun e => by omega⟩
        clear h1
        go_wp2_with fail
        go_ret
        exact ⟨true, rfl, HF, hb⟩
      · have HF : Hid (BoolIs false (MayK 1 f)) := bool_no (fun e => h3 (e.1 rfl).2.2)
        clear h1
        go_wp2_with fail
        go_ret
        exact ⟨false, rfl, HF, hb⟩
    · have HF : Hid (BoolIs false (MayK 1 f)) := bool_no (fun e => h2 (e.1 rfl).2.1)
      clear h1
      go_wp2_with fail
      go_ret
      exact ⟨false, rfl, HF, hb⟩
  · have b1 : (f.v == 1) = false := by rw [beq_eq_false_iff_ne]; exact h1
    have HF : Hid (BoolIs false (MayK 1 f)) := bool_no (fun e => h1 (e.1 rfl).1)
    clear h1
    go_wp2_with fail
    go_ret
    exact ⟨false, rfl, HF, hb⟩
theorem not3 {f : Fr} (h : ¬ (f.st = 1 ∨ ((f.st = 2 ∨ f.st = 3) ∧ f.body.size = 0))) : Hid (BoolIs false (MayK 3 f)) := bool_no (fun e => h (e.2.2 rfl))
theorem yes3 {f : Fr} (h : f.st = 1 ∨ ((f.st = 2 ∨ f.st = 3) ∧ f.body.size = 0)) : Hid (BoolIs true (MayK 3 f)) := bool_yes ⟨fun e => by omega, fun e => by omega, fun _ => h⟩
theorem body_empty (s : ByteArray) : s.toList.isEmpty = decide (s.size = 0) := by
  rw [Bool.eq_iff_iff, List.isEmpty_iff, decide_eq_true_iff]
  constructor
  · intro h
    have h2 : s.toList = ByteArray.empty.toList := by rw [h]; simp
    rw [bs_inj h2]; rfl
  · intro h
    have : s = ByteArray.empty := by
      cases s with | mk d => 
        have : d = #[] := Array.eq_empty_of_size_eq_zero h
        rw [this]; rfl
    rw [this]; simp
set_option maxHeartbeats 2000000 in
set_option maxRecDepth 100000 in
theorem response_may (hf : f.ok w) : Calls Tryz.prog 124 #[f.val] w (SomeBool (MayK 3 f) (fun w' => Below w.heap.size w w')) := by
  have hb := below_alloc (Below.refl _ w) (.cells f.arr 48)
  have hF := boxed hf.tool w
  show Calls Tryz.prog _ #[.agg f.arr] w _
  go_enter Tryz.func124, Tryz.ntmps124
  go_upto_region 1 with (fail)
  generalize w.alloc (.cells f.arr 48) = w1 at *
  have q1 := hF.c36
  have q2 := hF.c41
  have hbe := body_empty f.body
  by_cases h1 : f.st = 1
  · have b1 : (f.st == 1) = true := by rw [beq_iff_eq]; exact h1
    have HF := yes3 (f := f) (.inl h1)
    clear h1 hbe
    go_wp2_with fail
    go_ret
    exact ⟨true, rfl, HF, hb⟩
  · have b1 : (f.st == 1) = false := by rw [beq_eq_false_iff_ne]; exact h1
    by_cases h2 : f.st = 2
    · have b2 : (f.st == 2) = true := by rw [beq_iff_eq]; exact h2
      by_cases h0 : f.body.size = 0
      · have b0 : f.body.toList.isEmpty = true := by rw [hbe]; exact decide_eq_true h0
        have HF := yes3 (f := f) (.inr ⟨.inl h2, h0⟩)
        clear h1 h2 hbe h0
        go_wp2_with fail
        go_ret
        exact ⟨true, rfl, HF, hb⟩
      · have b0 : f.body.toList.isEmpty = false := by rw [hbe]; exact decide_eq_false h0
        have HF := not3 (f := f) (by omega)
        clear h1 h2 hbe h0
        go_wp2_with fail
        go_ret
        exact ⟨false, rfl, HF, hb⟩
    · have b2 : (f.st == 2) = false := by rw [beq_eq_false_iff_ne]; exact h2
      by_cases h3 : f.st = 3
      · have b3 : (f.st == 3) = true := by rw [beq_iff_eq]; exact h3
        by_cases h0 : f.body.size = 0
        · have b0 : f.body.toList.isEmpty = true := by rw [hbe]; exact decide_eq_true h0
          have HF := yes3 (f := f) (.inr ⟨.inr h3, h0⟩)
          clear h1 h2 h3 hbe h0
          go_wp2_with fail
          go_ret
          exact ⟨true, rfl, HF, hb⟩
        · have b0 : f.body.toList.isEmpty = false := by rw [hbe]; exact decide_eq_false h0
          have HF := not3 (f := f) (by omega)
          clear h1 h2 h3 hbe h0
          go_wp2_with fail
          go_ret
          exact ⟨false, rfl, HF, hb⟩
      · have b3 : (f.st == 3) = false := by rw [beq_eq_false_iff_ne]; exact h3
        have HF := not3 (f := f) (by omega)
        clear h1 h2 h3 hbe
        go_wp2_with fail
        go_ret
        exact ⟨false, rfl, HF, hb⟩
theorem not2 {f : Fr} (h : ¬ (0 ≤ f.mo ∧ 0 ≤ f.fu ∧ 0 ≤ f.di ∧ f.n ≤ 8 ∧ ∀ s ∈ f.args, s.size ≤ 4096)) : Hid (BoolIs false (MayK 2 f)) := bool_no (fun e => h (e.2.1 rfl))
set_option maxHeartbeats 4000000 in
set_option maxRecDepth 100000 in
theorem request_may (hf : f.ok w) (hs : ∀ s ∈ f.args, s.size ≤ 9223372036854775807) : Calls Tryz.prog 118 #[f.val] w (SomeBool (MayK 2 f) (fun w' => Below w.heap.size w w')) := by
  have hb := below_alloc (Below.refl _ w) (.cells f.arr 48)
  have hF := boxed hf.tool w
  have HT := Lib.hid (hf.args.below hb)
  have hmx := hf.args.max
  show Calls Tryz.prog _ #[.agg f.arr] w _
  go_enter Tryz.func118, Tryz.ntmps118
  go_upto_region 1 with (fail)
  generalize w.alloc (.cells f.arr 48) = w1 at *
  have q1 := hF.c40
  have q2 := hF.c37
  have q3 := hF.c38
  have q4 := hF.c39
  go_wp2_with fail
  refine (long_any _ _ f.c _ _ HT.out hs).mono ?_
  rintro e w2 ⟨t, rfl, HL, rfl⟩
  by_cases h1 : 0 ≤ f.mo
  · by_cases h2 : 0 ≤ f.fu
    · by_cases h3 : 0 ≤ f.di
      · by_cases h4 : f.n ≤ 8
        · have h4i : (f.n : Int) ≤ 8 := by omega
          cases t with
          | false =>
            have HF : Hid (BoolIs true (MayK 2 f)) := bool_yes ⟨fun e => by omega, fun _ => ⟨h1, h2, h3, h4, fun s hm => by
              rcases Nat.lt_or_ge 4096 s.size with h | h
              · exact absurd (HL.out.2 ⟨s, hm, h⟩) (by simp)
              · exact h⟩, fun e => by omega⟩
            clear h4
            go_wp2_with fail
            go_ret
            exact ⟨true, rfl, HF, hb⟩
          | true =>
            have HF := not2 (f := f) (fun e => by
              obtain ⟨s, hm, hl⟩ := HL.out.1 rfl
              have := e.2.2.2.2 s hm
              omega)
            clear h4
            go_wp2_with fail
            go_ret
            exact ⟨false, rfl, HF, hb⟩
        · have HF := not2 (f := f) (fun e => h4 e.2.2.2.1)
          have h4i : ¬ (f.n : Int) ≤ 8 := by omega
          clear h4
          go_wp2_with fail
          go_ret
          exact ⟨false, rfl, HF, hb⟩
      · have HF := not2 (f := f) (fun e => h3 e.2.2.1)
        have hd : decide (0 ≤ f.di) = false := decide_eq_false h3
        clear h3
        go_wp2_with fail
        go_ret
        exact ⟨false, rfl, HF, hb⟩
    · have HF := not2 (f := f) (fun e => h2 e.2.1)
      have hd : decide (0 ≤ f.fu) = false := decide_eq_false h2
      clear h2
      go_wp2_with fail
      go_ret
      exact ⟨false, rfl, HF, hb⟩
  · have HF := not2 (f := f) (fun e => h1 e.1)
    have hd : decide (0 ≤ f.mo) = false := decide_eq_false h1
    clear h1
    go_wp2_with fail
    go_ret
    exact ⟨false, rfl, HF, hb⟩
theorem may_any (k : Int) (h1 : 1 ≤ k) (h6 : k ≤ 6) (hf : f.ok w) (hs : ∀ s ∈ f.args, s.size ≤ 9223372036854775807) : Calls Tryz.prog (mayN k) #[f.val] w (SomeBool (MayK k f) (fun w' => Below w.heap.size w w')) := by
  have yes : ∀ k : Int, k ≠ 1 → k ≠ 2 → k ≠ 3 → Hid (BoolIs true (MayK k f)) := fun k a b c => bool_yes ⟨fun e => absurd e a, fun e => absurd e b, fun e => absurd e c⟩
  rcases (by omega : k = 1 ∨ k = 2 ∨ k = 3 ∨ k = 4 ∨ k = 5 ∨ k = 6) with rfl | rfl | rfl | rfl | rfl | rfl
  · exact hello_may hf
  · exact request_may hf hs
  · exact response_may hf
  · exact (some_may hf).mono fun e w' ⟨he, hb⟩ => ⟨true, he, yes 4 (by omega) (by omega) (by omega), hb⟩
  · exact (some_may hf).mono fun e w' ⟨he, hb⟩ => ⟨true, he, yes 5 (by omega) (by omega) (by omega), hb⟩
  · exact (some_may hf).mono fun e w' ⟨he, hb⟩ => ⟨true, he, yes 6 (by omega) (by omega) (by omega), hb⟩
end
end Go.Proofs.YtpjpgcjhdbiepaaGreat
end
/-! wire.PutUint, PutInt, PutBool, texts, PutText, PutList, Size; the document's Int, Bool, Text, Texts, List. -/
section
namespace Go.Proofs.YtpjpgcjhdbiepaaGreat
open Go.RowKit Go.Kit Go.Proofs.YtpjpgcjhdbiepaaGreatW.PrintWords
section
variable {A : Option Addr} {n cap : Nat} {xs : List Int} {w : World}
set_option maxHeartbeats 1000000 in
theorem PutUint_any (u : Int) (hx : RB w A n xs) (hl : n + 10 ≤ 140737488355328) (h0 : 0 ≤ u) (h1 : u ≤ 18446744073709551615) :
    Calls Tryz.prog 61 #[.slice A n cap, .int .u64 u] w fun e w' => ∃ v, e = .returned v ∧ OB 5 w' w.heap.size v (xs ++ sh u.toNat) ∧ Below w.heap.size w w' := by
  obtain ⟨m, rfl⟩ := Int.eq_ofNat_of_zero_le h0
  have HM : Hid (m < 18446744073709551616) := Lib.hid (by omega)
  have HL := Lib.hid hx.len
  clear h0 h1
  go_enter Tryz.func61, Tryz.ntmps61
  go_wp2_with fail
  refine (fresh_any A n cap 10 xs w hx (by omega)).mono ?_
  rintro e w1 ⟨v, rfl, hO, hb⟩
  go_wp2_with fail
  refine (short_any w.heap.size v xs m w1 hO hb.size (by rw [HL.out]; exact hl) HM.out).mono ?_
  rintro e w2 ⟨v2, rfl, hO2, hb2⟩
  have hb3 : Below w.heap.size w w2 := hb.trans hb2
  go_wp2_with fail
  go_ret
  exact ⟨_, rfl, hO2, hb3⟩
end
set_option maxHeartbeats 2000000 in
set_option maxRecDepth 100000 in
theorem texts_any (base : Nat) (v : Value) (xs : List Int) (w : World) (B : Option Addr) (m c : Nat) (l : List ByteArray) (hO : OB 5 w base v xs) (hb : base ≤ w.heap.size) (hT : RT w B m l)
    (hB : ∀ W, Below base w W → RT W B m l) (K : Nat) (hK : K ≤ 140737488355328) (hs : ∀ s ∈ l, s.size ≤ K) (hl : xs.length + m * (10 + K) ≤ 140737488355328) :
    Calls Tryz.prog 136 #[v, .slice B m c] w fun e w' => ∃ v', e = .returned v' ∧ OB 5 w' base v' (xs ++ txts l) ∧ Below base w w' := by
  have hmm := hT.max
  have HLn := Lib.hid hT.len
  have HS := Lib.hid hs
  have HL : Hid (∀ i, i < m → xs.length + (txts (l.take i)).length + 10 + K ≤ 140737488355328) := Lib.hid (fun i hi => by
    have h1 := txts_length (l.take i) K (by omega) (fun s h => hs s (List.mem_of_mem_take h))
    have h2 : (l.take i).length ≤ i := List.length_take_le _ _
    have h3 := Nat.mul_le_mul_right (10 + K) (show (l.take i).length + 1 ≤ m by omega)
    rw [Nat.add_mul] at h3
    omega)
  have HB := Lib.hid hB
  clear hs hl hB
  go_enter Tryz.func136, Tryz.ntmps136
  go_wp2_with fail
  go_loopg [0, 9] m (fun gk v0 v1 w' => ∃ (i : Nat), v1 = .int .i64 (i : Int) ∧ OB 5 w' base v0 (xs ++ txts (l.take i)) ∧ Below base w w' ∧ Hid (i ≤ m ∧ gk = m - i))
  case atStart => exact ⟨0, rfl, by simpa [txts] using hO, Below.refl _ _, by omega, rfl⟩
  case round =>
    clear hO
    obtain ⟨i, rfl, hO, hb1, HG⟩ := hrel
    have hsz := hb1.size
    by_cases hi : i < m
    · have hi2 : (i : Int) < (m : Int) := by omega
      obtain ⟨ad, s, rfl, hc, HX⟩ := (HB.out _ hb1).at_ i hi
      have HSZ : Hid (s.size ≤ K) := Lib.hid (HS.out s (List.mem_of_getElem? HX.out))
      have HLi := Lib.hid (HL.out i hi)
      have hss : s.size < 9223372036854775808 := by have := HSZ.out; omega
      go_wp2_with fail
      refine (short_any base u0 _ s.size wr hO (Nat.le_trans hb hsz) (by have := HLi.out; rw [List.length_append]; omega) (by omega)).mono ?_
      rintro e w1 ⟨v1, rfl, hO1, hb2⟩
      have hb3 : Below base w w1 := hb1.trans hb2
      have hs3 := hb3.size
      have hln : ((xs ++ txts (l.take i)) ++ sh s.size).length + s.size ≤ 140737488355328 := by
        have h1 := HLi.out
        have h2 := HSZ.out
        have h3 := sh_ten (n := s.size) (by omega)
        rw [List.length_append, List.length_append]; omega
      go_wp2_with (at_builtin; refine push_text (w0 := w) base rfl (.tmp 17) (.tmp 18) 22 9 s rfl Tryz.underlying22 Tryz.underlying9 u8_info rfl rfl hO1 hb3 (Nat.le_trans hb hs3) hln ?_)
      intro v2 w2 hO2 hb4 _
      have hO3 : OB 5 w2 base v2 (xs ++ txts (l.take (i + 1))) := by
        rw [txts_snoc HX.out, txt]
        simpa only [List.append_assoc] using hO2
      clear hO2 hO1 hO hln
      go_wp2_with fail
      go_roundg (gk - 1)
      case measure => have := HG.out.2; omega
      case rel => exact ⟨i + 1, by simp, hO3, hb4, by omega, by have := HG.out.2; omega⟩
    · have hn : i = m := by have := HG.out; omega
      subst hn
      rw [all_of (by rw [HLn.out]; exact Nat.le_refl _)] at hO
      go_wp2_with fail
      go_ret
      exact ⟨_, rfl, hO, hb1⟩
section
variable {A B : Option Addr} {n cap m c : Nat} {xs : List Int} {l : List ByteArray} {w : World}
set_option maxHeartbeats 1000000 in
theorem PutText_any (hx : RB w A n xs) (hT : RT w B m l) (K : Nat) (hK : K ≤ 140737488355328) (hs : ∀ s ∈ l, s.size ≤ K) (hl : n + 16 + m * (10 + K) ≤ 140737488355328) :
    Calls Tryz.prog 112 #[.slice A n cap, .slice B m c] w fun e w' => ∃ v, e = .returned v ∧ OB 5 w' w.heap.size v (xs ++ txts l) ∧ Below w.heap.size w w' := by
  have HL := Lib.hid hx.len
  have HS := Lib.hid hs
  clear hs
  go_enter Tryz.func112, Tryz.ntmps112
  go_wp2_with fail
  refine (fresh_any A n cap 16 xs w hx (by omega)).mono ?_
  rintro e w1 ⟨v, rfl, hO, hb⟩
  have hT1 := hT.below hb
  go_wp2_with fail
  refine (texts_any w.heap.size v xs w1 B m c l hO hb.size hT1 (fun W h => hT.below (hb.trans h)) K hK HS.out (by rw [HL.out]; omega)).mono ?_
  rintro e w2 ⟨v2, rfl, hO2, hb2⟩
  have hb3 : Below w.heap.size w w2 := hb.trans hb2
  go_wp2_with fail
  go_ret
  exact ⟨_, rfl, hO2, hb3⟩
set_option maxHeartbeats 1000000 in
theorem PutList_any (hx : RB w A n xs) (hT : RT w B m l) (K : Nat) (hK : K ≤ 140737488355328) (hs : ∀ s ∈ l, s.size ≤ K) (hl : n + 16 + m * (10 + K) ≤ 140737488355328) :
    Calls Tryz.prog 113 #[.slice A n cap, .slice B m c] w fun e w' => ∃ v, e = .returned v ∧ OB 5 w' w.heap.size v (xs ++ lst l) ∧ Below w.heap.size w w' := by
  have HL := Lib.hid hx.len
  have HS := Lib.hid hs
  have HM := Lib.hid hT.len
  have hmx := hT.max
  clear hs
  go_enter Tryz.func113, Tryz.ntmps113
  go_wp2_with fail
  refine (fresh_any A n cap 16 xs w hx (by omega)).mono ?_
  rintro e w1 ⟨v, rfl, hO, hb⟩
  go_wp2_with fail
  refine (short_any w.heap.size v xs m w1 hO hb.size (by rw [HL.out]; omega) (by omega)).mono ?_
  rintro e w2 ⟨v2, rfl, hO2, hb2⟩
  have hb3 : Below w.heap.size w w2 := hb.trans hb2
  have hT2 := hT.below hb3
  have hsh := sh_ten (n := m) (by omega)
  have HSH := Lib.hid hsh
  clear hsh
  go_wp2_with fail
  refine (texts_any w.heap.size v2 _ w2 B m c l hO2 hb3.size hT2 (fun W h => hT.below (hb3.trans h)) K hK HS.out (by rw [List.length_append, HL.out]; have := HSH.out; omega)).mono ?_
  rintro e w3 ⟨v3, rfl, hO3, hb4⟩
  have hb5 : Below w.heap.size w w3 := hb3.trans hb4
  have hO4 : OB 5 w3 w.heap.size v3 (xs ++ lst l) := by unfold lst; rw [HM.out]; simpa only [List.append_assoc] using hO3
  go_wp2_with fail
  go_ret
  exact ⟨_, rfl, hO4, hb5⟩
end
end Go.Proofs.YtpjpgcjhdbiepaaGreat
end
/-! wire.Size; the document's Int, Bool, Text, Texts, List; the law's lay and told. -/
section
namespace Go.Proofs.YtpjpgcjhdbiepaaGreat
open Go.RowKit Go.Kit Go.Proofs.YtpjpgcjhdbiepaaGreatW.PrintWords
section
variable {w : World}
set_option maxHeartbeats 1000000 in
theorem rText_any (s : ByteArray) (hs : s.size ≤ 140737488355000) : Calls Tryz.prog 49 #[.string s] w fun e w' => ∃ v, e = .returned v ∧ OB 5 w' w.heap.size v (txt s) ∧ Below w.heap.size w w' := by
  have HS := Lib.hid hs
  go_enter Tryz.func49, Tryz.ntmps49
  go_wp2_with fail
  refine (rUint_any s.size w (by omega)).mono ?_
  rintro e w1 ⟨v, rfl, hO, hb⟩
  have hln : (sh s.size).length + s.size ≤ 140737488355328 := by
    have h3 := sh_ten (n := s.size) (by omega)
    omega
  go_wp2_with (at_builtin; refine push_text (w0 := w) w.heap.size rfl (.tmp 6) (.tmp 7) 22 9 s rfl Tryz.underlying22 Tryz.underlying9 u8_info rfl rfl hO hb hb.size hln ?_)
  intro v2 w2 hO2 hb4 _
  go_wp2_with fail
  go_ret
  exact ⟨_, rfl, hO2, hb4⟩
end
set_option maxHeartbeats 2000000 in
set_option maxRecDepth 100000 in
theorem rTexts_any {w : World} {B : Option Addr} {m c : Nat} {l : List ByteArray} (hT : RT w B m l) (K : Nat) (hK : K ≤ 140737488355000) (hs : ∀ s ∈ l, s.size ≤ K) (hl : m * (10 + K) ≤ 140737488355328) :
    Calls Tryz.prog 62 #[.slice B m c] w fun e w' => ∃ v', e = .returned v' ∧ OB 5 w' w.heap.size v' (txts l) ∧ Below w.heap.size w w' := by
  have hmm := hT.max
  have HLn := Lib.hid hT.len
  have HS := Lib.hid hs
  have HL : Hid (∀ i, i < m → (txts (l.take i)).length + 10 + K ≤ 140737488355328) := Lib.hid (fun i hi => by
    have h1 := txts_length (l.take i) K (by omega) (fun s h => hs s (List.mem_of_mem_take h))
    have h2 : (l.take i).length ≤ i := List.length_take_le _ _
    have h3 := Nat.mul_le_mul_right (10 + K) (show (l.take i).length + 1 ≤ m by omega)
    rw [Nat.add_mul] at h3
    omega)
  clear hs hl
  go_enter Tryz.func62, Tryz.ntmps62
  go_wp2_with fail
  go_loopg [3, 4] m (fun gk v0 v1 w' => ∃ (i : Nat), v1 = .int .i64 (i : Int) ∧ OB 5 w' w.heap.size v0 (txts (l.take i)) ∧ Below w.heap.size w w' ∧ Hid (i ≤ m ∧ gk = m - i))
  case atStart => exact ⟨0, rfl, by simpa [txts] using OB.nil _ _ _, Below.refl _ _, by omega, rfl⟩
  case round =>
    obtain ⟨i, rfl, hO, hb1, HG⟩ := hrel
    have hsz := hb1.size
    by_cases hi : i < m
    · have hi2 : (i : Int) < (m : Int) := by omega
      obtain ⟨ad, s, rfl, hc, HX⟩ := (hT.below hb1).at_ i hi
      have HSZ : Hid (s.size ≤ K) := Lib.hid (HS.out s (List.mem_of_getElem? HX.out))
      have HLi := Lib.hid (HL.out i hi)
      go_wp2_with fail
      refine (rText_any s (by have := HSZ.out; omega)).mono ?_
      rintro e w1 ⟨v1, rfl, hO1, hb2⟩
      replace hO := hO.below hb2
      have hb3 : Below w.heap.size w w1 := below_step hb1 hb2
      have hs3 := hb3.size
      obtain ⟨A1, c1, rfl, hR1, _⟩ := hO1.reads'
      have hln : (txts (l.take i)).length + (txt s).length ≤ 140737488355328 := by
        have h1 := HLi.out
        have h2 := HSZ.out
        have h3 := txt_length (s := s) (by omega)
        omega
      go_wp2_with (at_builtin; refine push_row (w0 := w) w.heap.size rfl (.tmp 11) (.tmp 16) 22 (txt s) A1 _ c1 rfl Tryz.underlying22 u8_info rfl rfl hO hR1 hb3 hs3 hln ?_)
      intro v2 w2 hO2 hb4 _ _
      have hO3 : OB 5 w2 w.heap.size v2 (txts (l.take (i + 1))) := by
        rw [txts_snoc HX.out]; exact hO2
      clear hO2 hO1 hO hln
      go_wp2_with fail
      go_roundg (gk - 1)
      case measure => have := HG.out.2; omega
      case rel => exact ⟨i + 1, by simp, hO3, hb4, by omega, by have := HG.out.2; omega⟩
    · have hn : i = m := by have := HG.out; omega
      subst hn
      rw [all_of (by rw [HLn.out]; exact Nat.le_refl _)] at hO
      go_wp2_with fail
      go_ret
      exact ⟨_, rfl, hO, hb1⟩
set_option maxHeartbeats 1000000 in
theorem rList_any {w : World} {B : Option Addr} {m c : Nat} {l : List ByteArray} (hT : RT w B m l) (K : Nat) (hK : K ≤ 140737488355000) (hs : ∀ s ∈ l, s.size ≤ K) (hl : 16 + m * (10 + K) ≤ 140737488355328) :
    Calls Tryz.prog 48 #[.slice B m c] w fun e w' => ∃ v', e = .returned v' ∧ OB 5 w' w.heap.size v' (lst l) ∧ Below w.heap.size w w' := by
  have HS := Lib.hid hs
  have HM := Lib.hid hT.len
  have hmx := hT.max
  have HLL : Hid ((txts l).length ≤ m * (10 + K)) := Lib.hid (by have := txts_length l K (by omega) hs; rw [hT.len] at this; exact this)
  clear hs
  go_enter Tryz.func48, Tryz.ntmps48
  go_wp2_with fail
  refine (rUint_any m w (by omega)).mono ?_
  rintro e w1 ⟨v, rfl, hO, hb⟩
  have hT1 := hT.below hb
  have HSH := Lib.hid (sh_ten (n := m) (by omega))
  go_wp2_with fail
  refine (rTexts_any hT1 K hK HS.out (by omega)).mono ?_
  rintro e w2 ⟨v2, rfl, hO2, hb2⟩
  replace hO := hO.below hb2
  have hb3 : Below w.heap.size w w2 := below_step hb hb2
  have hs3 := hb3.size
  obtain ⟨A1, c1, rfl, hR1, _⟩ := hO2.reads'
  have hln : (sh m).length + (txts l).length ≤ 140737488355328 := by
    have h1 := HLL.out
    have h2 := HSH.out
    omega
  go_wp2_with (at_builtin; refine push_row (w0 := w) w.heap.size rfl (.tmp 6) (.tmp 8) 22 (txts l) A1 _ c1 rfl Tryz.underlying22 u8_info rfl rfl hO hR1 hb3 hs3 hln ?_)
  intro v3 w3 hO3 hb4 _ _
  have hO4 : OB 5 w3 w.heap.size v3 (lst l) := by unfold lst; rw [HM.out]; exact hO3
  go_wp2_with fail
  go_ret
  exact ⟨_, rfl, hO4, hb4⟩
end Go.Proofs.YtpjpgcjhdbiepaaGreat
end
/-! The contracts of what lays down a kind's fields. -/
section
namespace Go.Kit
open Go.RowKit Go.Proofs.YtpjpgcjhdbiepaaGreatW.PrintWords
/-- Its numbers fit, its tool is bytes. -/
structure Fr.wf (f : Fr) : Prop where
  id0 : 0 ≤ f.id
  id1 : f.id ≤ 18446744073709551615
  k : -9223372036854775808 ≤ f.k ∧ f.k ≤ 9223372036854775807
  v : -9223372036854775808 ≤ f.v ∧ f.v ≤ 9223372036854775807
  s : -9223372036854775808 ≤ f.s ∧ f.s ≤ 9223372036854775807
  st : -9223372036854775808 ≤ f.st ∧ f.st ≤ 9223372036854775807
  mo : -9223372036854775808 ≤ f.mo ∧ f.mo ≤ 9223372036854775807
  fu : -9223372036854775808 ≤ f.fu ∧ f.fu ≤ 9223372036854775807
  di : -9223372036854775808 ≤ f.di ∧ f.di ≤ 9223372036854775807
  byt : Byt f.tool
theorem u64_nn {x : Int} (h0 : 0 ≤ x) (h1 : x ≤ 9223372036854775807) : IntKind.u64.wrap x = x := IntWalk.u64_in _ ⟨by omega, by omega⟩
theorem add_four (g j : Nat) : (⟨g, 4, none⟩ : Addr).add j = ⟨g, 4 + j, none⟩ := by
  unfold Addr.add
  split
  · next h => subst h; rfl
  · rfl
theorem Fr.at_.tool_rb {t : TypeId} {w : World} {g : Nat} {f : Fr} (h : f.at_ t w g) (hb : Byt f.tool) : RB w (some ⟨g, 4, none⟩) 32 f.tool :=
  ⟨⟨h.tool, by omega, fun _ => ⟨_, rfl, fun j hj => by
    have h1 := h.r4 j (.int .u8 (f.tool.getD j 0)) (by
      have hl := h.tool
      simp [nums, List.getElem?_eq_getElem (show j < f.tool.length by omega), List.getD_eq_getElem?_getD])
    rw [Go.Kit.add_four]; exact h1⟩⟩, hb⟩
end Go.Kit
namespace Go.Proofs.YtpjpgcjhdbiepaaGreat
open Go.RowKit Go.Kit Go.Proofs.YtpjpgcjhdbiepaaGreatW.PrintWords
section
variable {f : Fr} {w : World} {A : Option Addr} {n c : Nat} {xs : List Int}
/-- What laying leaves. -/
def Laid (w : World) (ys : List Int) (e : Ending) (w' : World) : Prop := ∃ v, e = .returned v ∧ OB 5 w' w.heap.size v ys ∧ Below w.heap.size w w'
set_option maxHeartbeats 4000000 in
set_option maxRecDepth 100000 in
theorem nothing_lay (hf : f.tool.length = 32) (v : Value) (hO : OB 5 w 0 v xs) : Calls Tryz.prog 129 #[v, f.val] w fun e w' => e = .returned v ∧ Below w.heap.size w w' := by
  have hb := below_alloc (Below.refl _ w) (.cells f.arr 48)
  show Calls Tryz.prog _ #[v, .agg f.arr] w _
  go_enter Tryz.func129, Tryz.ntmps129
  go_wp2_with fail
  go_ret
  exact ⟨rfl, hb⟩
set_option maxHeartbeats 4000000 in
set_option maxRecDepth 100000 in
theorem cancel_lay (hf : f.ok w) (hw : f.wf) (hx : RB w A n xs) (hl : n ≤ 8388608) : Calls Tryz.prog 125 #[.slice A n c, f.val] w (Laid w (xs ++ sh f.id.toNat)) := by
  have hb := below_alloc (Below.refl _ w) (.cells f.arr 48)
  have hF := boxed hf.tool w
  have hx1 := hx.below hb
  show Calls Tryz.prog _ #[.slice A n c, .agg f.arr] w _
  go_enter Tryz.func125, Tryz.ntmps125
  go_upto_region 1 with (fail)
  generalize w.alloc (.cells f.arr 48) = w1 at *
  have q1 := hF.c1
  go_wp2_with fail
  refine (PutUint_any f.id hx1 (by omega) hw.id0 hw.id1).mono ?_
  rintro e w2 ⟨v, rfl, hO, hb2⟩
  have hb3 := below_step hb hb2
  go_wp2_with fail
  go_ret
  exact ⟨_, rfl, hO.less hb.size, hb3⟩
set_option maxHeartbeats 4000000 in
set_option maxRecDepth 100000 in
theorem note_lay (hf : f.ok w) (hs : f.body.size ≤ 2097152) (hx : RB w A n xs) (hl : n ≤ 8388608) : Calls Tryz.prog 132 #[.slice A n c, f.val] w (Laid w (xs ++ txt f.body)) := by
  have hb := below_alloc (Below.refl _ w) (.cells f.arr 48)
  have hF := boxed hf.tool w
  have hx1 := hx.below hb
  show Calls Tryz.prog _ #[.slice A n c, .agg f.arr] w _
  go_enter Tryz.func132, Tryz.ntmps132
  go_upto_region 1 with (fail)
  generalize w.alloc (.cells f.arr 48) = w1 at *
  have q1 := hF.c41
  have hb2 := below_alloc (Below.refl w1.heap.size w1) (.cells #[.string f.body] 9)
  have hx2 := hx1.below hb2
  have hT : RT (w1.alloc (.cells #[.string f.body] 9)) (some ⟨w1.heap.size, 0, none⟩) 1 [f.body] := ⟨rfl, by omega, fun _ => ⟨_, rfl, fun j hj => by
    obtain rfl : j = 0 := by omega
    exact World.cell?_alloc_new (w := w1) _ _ 0⟩⟩
  have hb3 := below_step hb hb2
  go_wp2_with fail
  refine (PutText_any (c := 1) hx2 hT 2097152 (by omega) (fun s hm => by simp at hm; rw [hm]; exact hs) (by omega)).mono ?_
  rintro e w2 ⟨v, rfl, hO, hb4⟩
  have hb5 := below_step hb3 hb4
  go_wp2_with fail
  go_ret
  refine ⟨_, rfl, ?_, hb5⟩
  have := hO.less hb3.size
  simpa [txts] using this
theorem PutUint_own {W : World} {base : Nat} {v : Value} {ys : List Int} (hO : OB 5 W base v ys) (hl : ys.length ≤ 8388608) (u : Int) (h0 : 0 ≤ u) (h1 : u ≤ 18446744073709551615) :
    Calls Tryz.prog 61 #[v, .int .u64 u] W (Laid W (ys ++ sh u.toNat)) := by
  obtain ⟨A, c, rfl, hr⟩ := hO.reads
  exact PutUint_any u hr (by omega) h0 h1
theorem PutText_own {W : World} {base : Nat} {v : Value} {ys : List Int} (hO : OB 5 W base v ys) (hl : ys.length ≤ 8388608) {B : Option Addr} {m d : Nat} {l : List ByteArray} (hT : RT W B m l) (hm : m ≤ 1) (hs : ∀ s ∈ l, s.size ≤ 2097152) :
    Calls Tryz.prog 112 #[v, .slice B m d] W (Laid W (ys ++ txts l)) := by
  obtain ⟨A, c, rfl, hr⟩ := hO.reads
  exact PutText_any hr hT 2097152 (by omega) hs (by omega)
theorem PutList_own {W : World} {base : Nat} {v : Value} {ys : List Int} (hO : OB 5 W base v ys) (hl : ys.length ≤ 8388608) {B : Option Addr} {m d : Nat} {l : List ByteArray} (hT : RT W B m l) (hm : m ≤ 8) (hs : ∀ s ∈ l, s.size ≤ 4096) :
    Calls Tryz.prog 113 #[v, .slice B m d] W (Laid W (ys ++ lst l)) := by
  obtain ⟨A, c, rfl, hr⟩ := hO.reads
  exact PutList_any hr hT 4096 (by omega) hs (by omega)
theorem keepF {w W W1 : World} {g : Nat} {f : Fr} (hb : Below w.heap.size w W) (hF : f.at_ 48 W g) (hk : Below W.heap.size W W1) : Below w.heap.size w W1 ∧ f.at_ 48 W1 g ∧ W1.cell? ⟨g, 1, none⟩ = some (.int .u64 f.id) ∧ W1.cell? ⟨g, 2, none⟩ = some (.int .i64 f.v) ∧ W1.cell? ⟨g, 3, none⟩ = some (.int .i64 f.s) ∧ W1.cell? ⟨g, 36, none⟩ = some (.int .i64 f.st) ∧ W1.cell? ⟨g, 40, none⟩ = some (.slice f.A f.n f.c) ∧ W1.cell? ⟨g, 41, none⟩ = some (.string f.body) :=
  ⟨below_step hb hk, hF.below hk, (hF.below hk).c1, (hF.below hk).c2, (hF.below hk).c3, (hF.below hk).c36, (hF.below hk).c40, (hF.below hk).c41⟩
set_option maxHeartbeats 4000000 in
set_option maxRecDepth 100000 in
theorem hello_lay (hf : f.ok w) (hw : f.wf) (hv : 0 ≤ f.v) (hs : 0 ≤ f.s) (hx : RB w A n xs) (hl : n ≤ 4194304) : Calls Tryz.prog 107 #[.slice A n c, f.val] w (Laid w (xs ++ (sh f.v.toNat ++ sh f.s.toNat ++ f.tool))) := by
  have hb := below_alloc (Below.refl _ w) (.cells f.arr 48)
  have hF := boxed hf.tool w
  have hu1 := u64_nn hv hw.v.2
  have hu2 := u64_nn hs hw.s.2
  have HWF := Lib.hid hw
  have hl1 := sh_ten (n := f.v.toNat) (by have := hw.v.2; omega)
  have HL1 := Lib.hid hl1
  have hl2 := sh_ten (n := f.s.toNat) (by have := hw.s.2; omega)
  have HL2 := Lib.hid hl2
  have HXL := Lib.hid hx.len
  have c1 : ∀ W, Below w.heap.size w W → Calls Tryz.prog 61 #[.slice A n c, .int .u64 f.v] W (Laid W (xs ++ sh f.v.toNat)) := fun W h => PutUint_any f.v (hx.below h) (by omega) hv (by have := HWF.out.v.2; omega)
  have c2 : ∀ W v base, OB 5 W base v (xs ++ sh f.v.toNat) → Calls Tryz.prog 61 #[v, .int .u64 f.s] W (Laid W (xs ++ sh f.v.toNat ++ sh f.s.toNat)) := fun W v base h => PutUint_own h (by rw [List.length_append, HXL.out]; have := HL1.out; omega) f.s hs (by have := HWF.out.s.2; omega)
  clear hw hl1 hl2
  show Calls Tryz.prog _ #[.slice A n c, .agg f.arr] w _
  go_enter Tryz.func107, Tryz.ntmps107
  go_upto_region 1 with (fail)
  generalize w.alloc (.cells f.arr 48) = w1 at *
  have q1 := hF.c2
  have q2 := hF.c3
  obtain ⟨g, hg⟩ : ∃ g, w.heap.size = g := ⟨_, rfl⟩
  rw [hg] at hF q1 q2 ⊢
  clear hg
  go_region_held3 (fun w' => Below w.heap.size w w' ∧ f.at_ 48 w' g ∧ w'.cell? ⟨g, 1, none⟩ = some (.int .u64 f.id) ∧ w'.cell? ⟨g, 2, none⟩ = some (.int .i64 f.v) ∧ w'.cell? ⟨g, 3, none⟩ = some (.int .i64 f.s) ∧ w'.cell? ⟨g, 36, none⟩ = some (.int .i64 f.st) ∧ w'.cell? ⟨g, 40, none⟩ = some (.slice f.A f.n f.c) ∧ w'.cell? ⟨g, 41, none⟩ = some (.string f.body))
    (first
      | assumption
      | (refine keepF hb hF ?_; exact below_drew (Below.refl _ _))
      | (refine keepF hb hF ?_; exact Below.refl _ _)
      | (go_split_ands; refine keepF ?_ ?_ hb3 <;> assumption)
      | (go_split_ands; refine keepF ?_ ?_ hb4 <;> assumption))
    (first
      | (go_at_call 61; go_split_ands; (with_reducible refine (c1 _ (by assumption)).mono ?_); rintro e w3 ⟨v3, rfl, hO3, hb3⟩)
      | (go_at_call 61; go_split_ands; (with_reducible refine (c2 _ _ _ (by assumption)).mono ?_); rintro e w4 ⟨v4, rfl, hO4, hb4⟩))
  have hb5 : Below w.heap.size w w4 := below_step (below_step (hb.trans (below_drew (Below.refl _ _))) hb3) hb4
  have hF5 : f.at_ 48 w4 g := ((hF.below (below_drew (Below.refl _ _))).below hb3).below hb4
  have hO5 : OB 5 w4 w.heap.size v4 (xs ++ sh f.v.toNat ++ sh f.s.toNat) := hO4.less (Nat.le_trans hb.size hb3.size)
  have hRT := hF5.tool_rb HWF.out.byt
  have hlen : (xs ++ sh f.v.toNat ++ sh f.s.toNat).length + 32 ≤ 140737488355328 := by rw [List.length_append, List.length_append, HXL.out]; have := HL1.out; have := HL2.out; omega
  have HLN := Lib.hid hlen
  clear hb3 hb4 hO3 hO4 hF q1 q2 c1 c2 hlen hF5
  go_wp2_with (at_builtin; refine push_row (w0 := w) w.heap.size rfl (.tmp 14) (.tmp 16) 22 f.tool (some ⟨g, 4, none⟩) 32 32 rfl Tryz.underlying22 u8_info rfl rfl hO5 hRT hb5 hb5.size HLN.out ?_)
  intro v6 w6 hO6 hb6 _ _
  go_wp2_with fail
  go_ret
  have hO7 : OB 5 w6 w.heap.size v6 (xs ++ (sh f.v.toNat ++ sh f.s.toNat ++ f.tool)) := by simpa only [List.append_assoc] using hO6
  exact ⟨_, rfl, hO7, hb6⟩
theorem OB.alloc_ {e : TypeId} {w : World} {base : Nat} {v : Value} {xs : List Int} (h : OB e w base v xs) (o : Obj) : OB e (w.alloc o) base v xs := h.below (below_alloc (Below.refl _ _) o)
theorem rt_lit (W : World) (s : ByteArray) : RT (W.alloc (.cells #[.string s] 9)) (some ⟨W.heap.size, 0, none⟩) 1 [s] := ⟨rfl, by omega, fun _ => ⟨_, rfl, fun j hj => by
    obtain rfl : j = 0 := by omega
    exact World.cell?_alloc_new (w := W) _ _ 0⟩⟩
theorem rt_lit_d (W : World) (s : ByteArray) : RT (W.alloc (.cells #[.string s] 9)).drew (some ⟨W.heap.size, 0, none⟩) 1 [s] := (rt_lit W s).below (below_drew (Below.refl _ _))
set_option maxHeartbeats 8000000 in
set_option maxRecDepth 100000 in
theorem response_lay (hf : f.ok w) (hw : f.wf) (hv : 0 ≤ f.st) (hs : f.body.size ≤ 2097152) (hx : RB w A n xs) (hl : n ≤ 4194304) : Calls Tryz.prog 121 #[.slice A n c, f.val] w (Laid w (xs ++ (sh f.id.toNat ++ sh f.st.toNat ++ txt f.body))) := by
  have hb := below_alloc (Below.refl _ w) (.cells f.arr 48)
  have hF := boxed hf.tool w
  have hu2 := u64_nn hv hw.st.2
  have HWF := Lib.hid hw
  have hl1 := sh_ten (n := f.id.toNat) (by have := hw.id1; omega)
  have HL1 := Lib.hid hl1
  have hl2 := sh_ten (n := f.st.toNat) (by have := hw.st.2; omega)
  have HL2 := Lib.hid hl2
  have HXL := Lib.hid hx.len
  have c1 : ∀ W, Below w.heap.size w W → Calls Tryz.prog 61 #[.slice A n c, .int .u64 f.id] W (Laid W (xs ++ sh f.id.toNat)) := fun W h => PutUint_any f.id (hx.below h) (by omega) HWF.out.id0 HWF.out.id1
  have c2 : ∀ W v base, OB 5 W base v (xs ++ sh f.id.toNat) → Calls Tryz.prog 61 #[v, .int .u64 f.st] W (Laid W (xs ++ sh f.id.toNat ++ sh f.st.toNat)) := fun W v base h => PutUint_own h (by rw [List.length_append, HXL.out]; have := HL1.out; omega) f.st hv (by have := HWF.out.st.2; omega)
  have c3 : ∀ W v base B m d, OB 5 W base v (xs ++ sh f.id.toNat ++ sh f.st.toNat) → RT W B m [f.body] → m ≤ 1 → Calls Tryz.prog 112 #[v, .slice B m d] W (Laid W (xs ++ sh f.id.toNat ++ sh f.st.toNat ++ txts [f.body])) := fun W v base B m d h ht hm => PutText_own h (by rw [List.length_append, List.length_append, HXL.out]; have := HL1.out; have := HL2.out; omega) ht hm (fun s hm => by simp at hm; rw [hm]; exact hs)
  clear hw hl1 hl2
  show Calls Tryz.prog _ #[.slice A n c, .agg f.arr] w _
  go_enter Tryz.func121, Tryz.ntmps121
  go_upto_region 1 with (fail)
  generalize w.alloc (.cells f.arr 48) = w1 at *
  have q1 := hF.c1
  have q2 := hF.c36
  have q3 := hF.c41
  obtain ⟨g, hg⟩ : ∃ g, w.heap.size = g := ⟨_, rfl⟩
  rw [hg] at hF q1 q2 q3 ⊢
  clear hg
  go_region_held3 (fun w' => Below w.heap.size w w' ∧ f.at_ 48 w' g ∧ w'.cell? ⟨g, 1, none⟩ = some (.int .u64 f.id) ∧ w'.cell? ⟨g, 2, none⟩ = some (.int .i64 f.v) ∧ w'.cell? ⟨g, 3, none⟩ = some (.int .i64 f.s) ∧ w'.cell? ⟨g, 36, none⟩ = some (.int .i64 f.st) ∧ w'.cell? ⟨g, 40, none⟩ = some (.slice f.A f.n f.c) ∧ w'.cell? ⟨g, 41, none⟩ = some (.string f.body))
    (first
      | assumption
      | (refine keepF hb hF ?_; exact below_drew (Below.refl _ _))
      | (refine keepF hb hF ?_; exact Below.refl _ _)
      | (go_split_ands; refine keepF ?_ ?_ hb3 <;> assumption)
      | (go_split_ands; refine keepF ?_ ?_ hb4 <;> assumption)
      | (go_split_ands; refine keepF ?_ ?_ hb5 <;> assumption)
      | (refine keepF hb hF ?_; exact below_drew (below_alloc (Below.refl _ _) _))
      | (go_split_ands; refine keepF ?_ ?_ (below_alloc (Below.refl _ _) _) <;> assumption))
    (first
      | (go_at_call 61; go_split_ands; (with_reducible refine (c1 _ (by assumption)).mono ?_); rintro e w3 ⟨v3, rfl, hO3, hb3⟩)
      | (go_at_call 61; go_split_ands; (with_reducible refine (c2 _ _ _ (by first | assumption | exact OB.alloc_ (by assumption) _)).mono ?_); rintro e w4 ⟨v4, rfl, hO4, hb4⟩)
      | (go_at_call 112; go_split_ands; (with_reducible refine (c3 _ _ _ _ _ _ (by first | assumption | exact OB.alloc_ (by assumption) _) (by first | exact rt_lit _ _ | exact (rt_lit _ _).below hb4 | exact ((rt_lit_d _ _).below hb3).below hb4) (by omega)).mono ?_); rintro e w5 ⟨v5, rfl, hO5, hb5⟩))
  all_goals
    have hO6 : OB 5 w5 w.heap.size v5 (xs ++ sh f.id.toNat ++ sh f.st.toNat ++ txts [f.body]) := hO5.less (by
      have h1 := hb.size
      have h3 := hb3.size
      have h4 := hb4.size
      simp at h3 h4 ⊢
      omega)
    go_split_ands
    have hb6 : Below w.heap.size w w5 := by assumption
    clear hO3 hO4 hO5 hb3 hb4 hb5 c1 c2 c3
    go_wp2_with fail
    go_ret
    refine ⟨_, rfl, ?_, hb6⟩
    simpa [txts] using hO6
def shs (L : List Int) : List Int := (L.map fun x => sh x.toNat).flatten
theorem shs_snoc {L : List Int} {i : Nat} {x : Int} (h : L[i]? = some x) : shs (L.take (i + 1)) = shs (L.take i) ++ sh x.toNat := by rw [snoc h]; simp [shs]
theorem shs_len (L : List Int) (h : ∀ x ∈ L, x ≤ 9223372036854775807) : (shs L).length ≤ 10 * L.length := by
  induction L with
  | nil => simp [shs]
  | cons x l ih =>
    have h1 := ih (fun y hy => h y (List.mem_cons_of_mem _ hy))
    have h2 := sh_ten (n := x.toNat) (by have := h x List.mem_cons_self; omega)
    simp only [shs, List.map_cons, List.flatten_cons, List.length_append, List.length_cons] at h1 ⊢
    omega
set_option maxHeartbeats 8000000 in
set_option maxRecDepth 100000 in
theorem request_lay (hf : f.ok w) (hw : f.wf) (h0 : 0 ≤ f.mo ∧ 0 ≤ f.fu ∧ 0 ≤ f.di) (hs : f.body.size ≤ 2097152) (hn : f.n ≤ 8) (ha : ∀ s ∈ f.args, s.size ≤ 4096) (hx : RB w A n xs) (hl : n ≤ 4194304) : Calls Tryz.prog 111 #[.slice A n c, f.val] w (Laid w (xs ++ (sh f.id.toNat ++ sh f.mo.toNat ++ sh f.fu.toNat ++ sh f.di.toNat ++ lst f.args ++ txt f.body))) := by
  have hb := below_alloc (Below.refl _ w) (.cells f.arr 48)
  have hF := boxed hf.tool w
  have hx1 := hx.below hb
  have HWF := Lib.hid hw
  have HL1 := Lib.hid (sh_ten (n := f.id.toNat) (by have := hw.id1; omega))
  have HXL := Lib.hid hx.len
  obtain ⟨L, hL⟩ : ∃ L, [f.mo, f.fu, f.di] = L := ⟨_, rfl⟩
  have HLL := Lib.hid hL
  have hLb : ∀ x ∈ L, 0 ≤ x ∧ x ≤ 9223372036854775807 := fun x hxm => by
    rw [← hL] at hxm
    simp at hxm
    rcases hxm with rfl | rfl | rfl
    · exact ⟨h0.1, hw.mo.2⟩
    · exact ⟨h0.2.1, hw.fu.2⟩
    · exact ⟨h0.2.2, hw.di.2⟩
  have HLB := Lib.hid hLb
  have HSL : Hid (∀ k, (shs (L.take k)).length ≤ 30) := Lib.hid (fun k => by
    have := shs_len (L.take k) (fun x hxm => (hLb x (List.mem_of_mem_take hxm)).2)
    have h3 : (L.take k).length ≤ 3 := by rw [List.length_take, ← hL]; simp; omega
    omega)
  have HHA := Lib.hid ha
  clear hw h0 hLb ha
  show Calls Tryz.prog _ #[.slice A n c, .agg f.arr] w _
  go_enter Tryz.func111, Tryz.ntmps111
  go_upto_region 1 with (fail)
  generalize w.alloc (.cells f.arr 48) = w1 at *
  have q1 := hF.c1
  obtain ⟨g, hg⟩ : ∃ g, w.heap.size = g := ⟨_, rfl⟩
  rw [hg] at hF q1 ⊢
  clear hg
  go_wp2_with fail
  refine (PutUint_any f.id hx1 (by omega) HWF.out.id0 HWF.out.id1).mono ?_
  rintro e w2 ⟨v2, rfl, hO2, hb2⟩
  replace hO2 := hO2.less hb.size
  have hF2 := hF.below hb2
  have hb3 := below_step hb hb2
  have q1 := hF2.c37
  have q2 := hF2.c38
  have q3 := hF2.c39
  clear hF hb hb2 hx1
  have hbl := below_alloc (Below.refl w2.heap.size w2) (.cells #[.int .i64 f.mo, .int .i64 f.fu, .int .i64 f.di] 3)
  have hO3 := hO2.below hbl
  have hF3 := hF2.below hbl
  have hb4 := below_step hb3 hbl
  have hcl : ∀ j x, L[j]? = some x → (w2.alloc (.cells #[.int .i64 f.mo, .int .i64 f.fu, .int .i64 f.di] 3)).cell? ((⟨w2.heap.size, 0, none⟩ : Addr).add j) = some (.int .i64 x) := fun j x hj => by
    rw [add_plain, World.cell?_alloc_new (w := w2) _ _ j]
    rw [← hL] at hj
    rcases j with _ | _ | _ | j
    · simpa using hj
    · simpa using hj
    · simpa using hj
    · simp at hj
  go_wp2_with fail
  generalize w2.alloc (.cells #[.int .i64 f.mo, .int .i64 f.fu, .int .i64 f.di] 3) = w3 at *
  obtain ⟨ad, had⟩ : ∃ ad : Addr, ⟨w2.heap.size, 0, none⟩ = ad := ⟨_, rfl⟩
  rw [had] at hcl ⊢
  clear had hbl hO2 hF2 hb3 q1 q2 q3 hL
  go_loopg [0, 22] 3 (fun gk v0 v22 w' => ∃ k : Nat, v22 = .int .i64 (k : Int) ∧ OB 5 w' w.heap.size v0 (xs ++ sh f.id.toNat ++ shs (L.take k)) ∧ Below w3.heap.size w3 w' ∧ Hid (k + gk = 3))
  case atStart => exact ⟨0, rfl, by simpa [shs] using hO3, Below.refl _ _, rfl⟩
  case round =>
    clear hO3
    obtain ⟨k, rfl, hO, hbr, HG⟩ := hrel
    by_cases hk : k < 3
    · obtain ⟨x, HX⟩ : ∃ x, Hid (L[k]? = some x) := ⟨_, Lib.hid (List.getElem?_eq_getElem (by rw [← HLL.out]; exact hk))⟩
      have hk2 : (k : Int) < 3 := by omega
      have hcell : wr.cell? (ad.add k) = some (.int .i64 x) := pw_cell_below hbr (hcl k x HX.out)
      have hx0 := (HLB.out x (List.mem_of_getElem? HX.out)).1
      have HX1 := Lib.hid (HLB.out x (List.mem_of_getElem? HX.out)).2
      have hwr := u64_nn hx0 HX1.out
      go_wp2_with fail
      refine (PutUint_own hO (by rw [List.length_append, List.length_append, HXL.out]; have := HL1.out; have := HSL.out k; omega) x hx0 (by have := HX1.out; omega)).mono ?_
      rintro e w5 ⟨v5, rfl, hO5, hb5⟩
      go_wp2_with fail
      go_roundg (gk - 1)
      case measure => have := HG.out; omega
      case rel =>
        refine ⟨k + 1, by simp, ?_, below_step hbr hb5, Lib.hid (by have := HG.out; omega)⟩
        rw [shs_snoc HX.out, ← List.append_assoc]
        exact hO5.less (Nat.le_trans hb4.size hbr.size)
    · have hk3 : ¬ (k : Int) < 3 := by omega
      have HK : Hid (shs (L.take k) = sh f.mo.toNat ++ sh f.fu.toNat ++ sh f.di.toNat) := Lib.hid (by
        rw [List.take_of_length_le (by rw [← HLL.out]; simp; omega), ← HLL.out]
        simp [shs])
      have hF4 := hF3.below hbr
      have hb5 := below_step hb4 hbr
      obtain ⟨ys, hys⟩ : ∃ ys, xs ++ sh f.id.toNat ++ shs (L.take k) = ys := ⟨_, rfl⟩
      rw [hys] at hO
      have hyl : ys.length ≤ 4194344 := by rw [← hys, List.length_append, List.length_append, HXL.out]; have := HL1.out; have := HSL.out k; omega
      have HYL := Lib.hid hyl
      have HLT : Hid ((ys ++ lst f.args).length ≤ 8388608) := Lib.hid (by
        have h1 := txts_length f.args 4096 (by omega) HHA.out
        have h2 := sh_ten (n := f.args.length) (by have := hf.args.len; omega)
        have h3 := hf.args.len
        have h4 : f.args.length * (10 + 4096) ≤ 8 * (10 + 4096) := Nat.mul_le_mul_right _ (by omega)
        rw [List.length_append]
        unfold lst
        rw [List.length_append]
        omega)
      have HYS := Lib.hid hys
      have c2 : ∀ W v base, OB 5 W base v ys → Below w.heap.size w W → Calls Tryz.prog 113 #[v, .slice f.A f.n f.c] W (Laid W (ys ++ lst f.args)) := fun W v base h hbb => PutList_own h (by have := HYL.out; omega) (hf.args.below hbb) hn HHA.out
      have c3 : ∀ W v base B m d, OB 5 W base v (ys ++ lst f.args) → RT W B m [f.body] → m ≤ 1 → Calls Tryz.prog 112 #[v, .slice B m d] W (Laid W (ys ++ lst f.args ++ txts [f.body])) := fun W v base B m d h ht hm => PutText_own h HLT.out ht hm (fun s hm => by simp at hm; rw [hm]; exact hs)
      clear hys hyl hb4 hF3 hcl hbr
      have q2 := hF4.c40
      have q3 := hF4.c41
      go_upto_region 7 with (fail)
      go_region_held3 (fun w' => Below w.heap.size w w' ∧ f.at_ 48 w' g ∧ w'.cell? ⟨g, 1, none⟩ = some (.int .u64 f.id) ∧ w'.cell? ⟨g, 2, none⟩ = some (.int .i64 f.v) ∧ w'.cell? ⟨g, 3, none⟩ = some (.int .i64 f.s) ∧ w'.cell? ⟨g, 36, none⟩ = some (.int .i64 f.st) ∧ w'.cell? ⟨g, 40, none⟩ = some (.slice f.A f.n f.c) ∧ w'.cell? ⟨g, 41, none⟩ = some (.string f.body))
        (first
          | assumption
          | (refine keepF hb5 hF4 ?_; exact below_drew (Below.refl _ _))
          | (refine keepF hb5 hF4 ?_; exact Below.refl _ _)
          | (go_split_ands; refine keepF ?_ ?_ hb6 <;> assumption)
          | (go_split_ands; refine keepF ?_ ?_ hb7 <;> assumption)
          | (refine keepF hb5 hF4 ?_; exact below_drew (below_alloc (Below.refl _ _) _))
          | (go_split_ands; refine keepF ?_ ?_ (below_alloc (Below.refl _ _) _) <;> assumption))
        (first
          | (go_at_call 113; go_split_ands; (with_reducible refine (c2 _ _ _ (by first | exact hO.below (below_drew (Below.refl _ _)) | exact hO.below (below_drew (below_alloc (Below.refl _ _) _))) (by assumption)).mono ?_); rintro e w6 ⟨v6, rfl, hO6, hb6⟩)
          | (go_at_call 112; go_split_ands; (with_reducible refine (c3 _ _ _ _ _ _ (by first | assumption | exact OB.alloc_ (by assumption) _) (by first | exact rt_lit _ _ | exact (rt_lit_d _ _).below hb6) (by omega)).mono ?_); rintro e w7 ⟨v7, rfl, hO7, hb7⟩))
      all_goals
        have hO8 : OB 5 w7 w.heap.size v7 (ys ++ lst f.args ++ txts [f.body]) := hO7.less (by
          have h1 := hb5.size
          have h3 := hb6.size
          simp at h3 ⊢
          omega)
        go_split_ands
        have hb8 : Below w.heap.size w w7 := by assumption
        have HE : Hid (ys ++ lst f.args ++ txts [f.body] = xs ++ (sh f.id.toNat ++ sh f.mo.toNat ++ sh f.fu.toNat ++ sh f.di.toNat ++ lst f.args ++ txt f.body)) := Lib.hid (by
          rw [← HYS.out, HK.out]; simp [txts])
        rw [HE.out] at hO8
        clear hO6 hO7 hb6 hb7 hO hF4 hb5 c2 c3 hk
        go_wp2_with fail
        go_ret
        exact ⟨_, rfl, hO8, hb8⟩
end
end Go.Proofs.YtpjpgcjhdbiepaaGreat
end
/-! What the bound on the bulk gives. -/
section
namespace Go.Proofs.YtpjpgcjhdbiepaaGreat
open Go.ChangeShapes Go.WideShapes Go.RowKit Go.Kit Go.Deep Go.Proofs.YtpjpgcjhdbiepaaGreatW.PrintWords
section
variable {H : Type}
theorem bulk_one (d : DataW H) : 1 ≤ Rows.uptoBulk d := by
  cases d with
  | lit l => cases l <;> simp [Rows.uptoBulk]
  | nil => simp [Rows.uptoBulk]
  | ptr d => simp [Rows.uptoBulk]
  | slice elems spare => simp [Rows.uptoBulk]
  | agg parts => simp [Rows.uptoBulk]
  | iface t d => simp [Rows.uptoBulk]
  | map entries => simp [Rows.uptoBulk]
  | held h => simp [Rows.uptoBulk]
theorem bulk_part {d : DataW H} {l : List (DataW H)} (h : d ∈ l) : Rows.uptoBulk d ≤ Rows.uptoBulkAll l := by
  induction l with
  | nil => cases h
  | cons x r ih =>
    simp only [Rows.uptoBulkAll]
    cases List.mem_cons.1 h with
    | inl e => subst e; omega
    | inr e => have := ih e; omega
theorem bulk_sum (D : Nat → DataW H) (g : Nat → Nat) : ∀ l : List Nat, (∀ i ∈ l, g i ≤ Rows.uptoBulk (D i)) → (l.map g).sum ≤ Rows.uptoBulkAll (l.map D)
  | [], _ => by simp
  | i :: l, h => by
    have h1 := h i List.mem_cons_self
    have h2 := bulk_sum D g l (fun j hj => h j (List.mem_cons_of_mem _ hj))
    simp only [List.map_cons, List.sum_cons, Rows.uptoBulkAll]
    omega
theorem bulk_slice (elems spare : List (DataW H)) : Rows.uptoBulkAll elems + 1 ≤ Rows.uptoBulk (.slice elems spare) := by
  simp only [Rows.uptoBulk]
  omega
theorem bulk_text (b : List UInt8) : Rows.uptoBulk (DataW.lit (H := H) (.string b)) = b.length + 1 := by simp [Rows.uptoBulk]
theorem bulk_agg {d : DataW H} {l : List (DataW H)} (h : d ∈ l) : Rows.uptoBulk d + 1 ≤ Rows.uptoBulk (.agg l) := by
  have := bulk_part h
  simp only [Rows.uptoBulk]
  omega
theorem bulk_ints (L : List (DataW H)) : L.length ≤ Rows.uptoBulkAll L := by
  induction L with
  | nil => simp
  | cons x r ih => have := bulk_one x; simp only [Rows.uptoBulkAll, List.length_cons]; omega
end
section
variable {H : Type} {enc : TypeId × Value → H} {P : Program} {W : World} {base : Nat} {r : Reach}
end
end Go.Proofs.YtpjpgcjhdbiepaaGreat
end
/-! A row of texts opened, with its bulk. -/
section
namespace Go.Proofs.YtpjpgcjhdbiepaaGreat
open Go.ChangeShapes Go.WideShapes Go.RowKit Go.Kit Go.Deep Go.Proofs.YtpjpgcjhdbiepaaGreatW.PrintWords
section
variable {H : Type} {enc : TypeId × Value → H} {P : Program} {W : World}
theorem read_texts_bulk {t e : TypeId} {n : Nat} {cs : List Value} {y : DataW H × List MemPlace} (ht : P.underlying t = some (.slice e)) (he : P.underlying e = some .string) (hc : P.cellsOf e = 1)
    (h : DataW.trod enc P W 0 (fun _ => true) true n t cs = some y) : ∃ A len cap xs, cs = [.slice A len cap] ∧ RT W A len xs ∧ tw xs + 1 ≤ Rows.uptoBulk y.1 ∧ len ≤ cap := by
  rcases Deep.open_strs ht he hc h with h0 | ⟨a, len, cap, m, Sx, rfl, _, hl, hm, hmm, rfl, hx⟩
  · exact ⟨none, 0, 0, [], h0.1, RT.nil W, by rw [h0.2]; simp [tw, Rows.uptoBulk], by omega⟩
  · simp only [if_true] at hmm
    refine ⟨_, len, cap, (List.range len).map Sx, rfl, ⟨by simp, by unfold maxLen at hm; omega, fun _ => ⟨a, rfl, fun j hj => ?_⟩⟩, ?_, hl⟩
    · rw [(hx j (by omega)).1]
      simp [List.getD_eq_getElem?_getD, hj]
    · refine Nat.le_trans (Nat.add_le_add_right ?_ 1) (bulk_slice _ _)
      have h1 := bulk_sum (H := H) (fun i => .lit (.string (Sx i).data.toList)) (fun i => (Sx i).size + 1) (List.range len) (fun i _ => by
        rw [bulk_text, Array.length_toList]; exact Nat.le_refl _)
      unfold tw
      rw [List.map_map]
      exact h1
end
end Go.Proofs.YtpjpgcjhdbiepaaGreat
end
/-! The contracts of frame.body and frame.Check. -/
section
namespace Go.Proofs.YtpjpgcjhdbiepaaGreat
open Go.RowKit Go.Kit Go.Proofs.YtpjpgcjhdbiepaaGreatW.PrintWords
section
variable {f : Fr} {w : World} {A : Option Addr} {n c : Nat} {xs : List Int}
/-- What is asked of a frame that is laid down. -/
structure LayOk (f : Fr) : Prop where
  hello : f.k = 1 → 0 ≤ f.v ∧ 0 ≤ f.s
  req : f.k = 2 → (0 ≤ f.mo ∧ 0 ≤ f.fu ∧ 0 ≤ f.di) ∧ f.n ≤ 8 ∧ ∀ s ∈ f.args, s.size ≤ 4096
  resp : f.k = 3 → 0 ≤ f.st
  body : f.body.size ≤ 2097152
theorem lay_any (k : Int) (hk : f.k = k) (h1 : 1 ≤ k) (h6 : k ≤ 6) (hf : f.ok w) (hw : f.wf) (hL : LayOk f) {base : Nat} {v : Value} (hO : OB 5 w base v xs) (hb : base ≤ w.heap.size) (hl : xs.length ≤ 4194304) :
    Calls Tryz.prog (layN k) #[v, f.val] w fun e w' => ∃ v', e = .returned v' ∧ OB 5 w' base v' (xs ++ layF f) ∧ Below w.heap.size w w' := by
  obtain ⟨A, c, hv, hr⟩ := hO.reads
  have lay : ∀ {g : Nat} {ys : List Int}, layF f = ys → Calls Tryz.prog g #[v, f.val] w (Laid w (xs ++ ys)) → Calls Tryz.prog g #[v, f.val] w fun e w' => ∃ v', e = .returned v' ∧ OB 5 w' base v' (xs ++ layF f) ∧ Below w.heap.size w w' := fun hy h => h.mono fun e w' ⟨v', he, hO', hb'⟩ => ⟨v', he, by rw [hy]; exact hO'.less hb, hb'⟩
  rcases (by omega : k = 1 ∨ k = 2 ∨ k = 3 ∨ k = 4 ∨ k = 5 ∨ k = 6) with rfl | rfl | rfl | rfl | rfl | rfl
  · exact lay (by unfold layF; rw [hk, if_pos rfl]) (by rw [hv]; exact hello_lay hf hw (hL.hello hk).1 (hL.hello hk).2 hr hl)
  · exact lay (by unfold layF; rw [hk, if_neg (by decide), if_pos rfl]) (by rw [hv]; exact request_lay hf hw (hL.req hk).1 hL.body (hL.req hk).2.1 (hL.req hk).2.2 hr hl)
  · exact lay (by unfold layF; rw [hk, if_neg (by decide), if_neg (by decide), if_pos rfl]) (by rw [hv]; exact response_lay hf hw (hL.resp hk) hL.body hr hl)
  · exact lay (by unfold layF; rw [hk, if_neg (by decide), if_neg (by decide), if_neg (by decide), if_pos rfl]) (by rw [hv]; exact cancel_lay hf hw hr (by omega))
  · refine (nothing_lay (f := f) hf.tool v (hO.less (Nat.zero_le _))).mono fun e w' ⟨he, hb'⟩ => ⟨v, he, ?_, hb'⟩
    have hy : layF f = [] := by unfold layF; rw [hk, if_neg (by decide), if_neg (by decide), if_neg (by decide), if_neg (by decide), if_neg (by decide)]
    rw [hy, List.append_nil]
    exact hO.below hb'
  · exact lay (by unfold layF; rw [hk, if_neg (by decide), if_neg (by decide), if_neg (by decide), if_neg (by decide), if_pos rfl]) (by rw [hv]; exact note_lay hf hL.body hr (by omega))
/-! The kinds' functions are entered. -/
theorem lay_enters (k : Int) (h1 : 1 ≤ k) (h6 : k ≤ 6) (args : Array Value) (W : World) : (callFunc (layN k) args).run Tryz.prog W = .ok (.enter (layN k) args) W := by
  rcases (by omega : k = 1 ∨ k = 2 ∨ k = 3 ∨ k = 4 ∨ k = 5 ∨ k = 6) with rfl | rfl | rfl | rfl | rfl | rfl <;> (simp only [layN]; go_simp)
theorem read_enters (k : Int) (h1 : 1 ≤ k) (h6 : k ≤ 6) (args : Array Value) (W : World) : (callFunc (readN k) args).run Tryz.prog W = .ok (.enter (readN k) args) W := by
  rcases (by omega : k = 1 ∨ k = 2 ∨ k = 3 ∨ k = 4 ∨ k = 5 ∨ k = 6) with rfl | rfl | rfl | rfl | rfl | rfl <;> (simp only [readN]; go_simp)
theorem only_enters (k : Int) (h1 : 1 ≤ k) (h6 : k ≤ 6) (args : Array Value) (W : World) : (callFunc (onlyN k) args).run Tryz.prog W = .ok (.enter (onlyN k) args) W := by
  rcases (by omega : k = 1 ∨ k = 2 ∨ k = 3 ∨ k = 4 ∨ k = 5 ∨ k = 6) with rfl | rfl | rfl | rfl | rfl | rfl <;> (simp only [onlyN]; go_simp)
theorem may_enters (k : Int) (h1 : 1 ≤ k) (h6 : k ≤ 6) (args : Array Value) (W : World) : (callFunc (mayN k) args).run Tryz.prog W = .ok (.enter (mayN k) args) W := by
  rcases (by omega : k = 1 ∨ k = 2 ∨ k = 3 ∨ k = 4 ∨ k = 5 ∨ k = 6) with rfl | rfl | rfl | rfl | rfl | rfl <;> (simp only [mayN]; go_simp)
/-! Loads of one cell, as equations. -/
theorem load_int {W : World} {a : Addr} {v : Value} (h : W.cell? a = some v) : (Instr.loadAt 3 (.pointer (some a))).run Tryz.prog W = .ok v W := by go_simp
theorem load_str {W : World} {a : Addr} {v : Value} (h : W.cell? a = some v) : (Instr.loadAt 9 (.pointer (some a))).run Tryz.prog W = .ok v W := by go_simp
theorem load_lay {W : World} {a : Addr} {v : Value} (h : W.cell? a = some v) : (Instr.loadAt 138 (.pointer (some a))).run Tryz.prog W = .ok v W := by go_simp
theorem load_read {W : World} {a : Addr} {v : Value} (h : W.cell? a = some v) : (Instr.loadAt 139 (.pointer (some a))).run Tryz.prog W = .ok v W := by go_simp
theorem load_only {W : World} {a : Addr} {v : Value} (h : W.cell? a = some v) : (Instr.loadAt 107 (.pointer (some a))).run Tryz.prog W = .ok v W := by go_simp
theorem load_may {W : World} {a : Addr} {v : Value} (h : W.cell? a = some v) : (Instr.loadAt 140 (.pointer (some a))).run Tryz.prog W = .ok v W := by go_simp
theorem keepB {w W W1 : World} {g gk : Nat} {f : Fr} {KK : Array Value} {t : TypeId} (hb : Below w.heap.size w W) (hF : f.at_ 48 W g) (hK : W.heap[gk]? = some (.cells KK t (0, 0))) (hk : Below W.heap.size W W1) :
    Below w.heap.size w W1 ∧ f.at_ 48 W1 g ∧ W1.heap[gk]? = some (.cells KK t (0, 0)) := ⟨below_step hb hk, hF.below hk, (hk.block _ (lt_of_block hK)).trans hK⟩
attribute [-go_sem] Instr.loadAt
set_option maxHeartbeats 8000000 in
set_option maxRecDepth 100000 in
theorem body_any (h1 : 1 ≤ f.k) (h6 : f.k ≤ 6) (hf : f.ok w) (hw : f.wf) (hL : LayOk f) : Calls Tryz.prog 59 #[f.val] w (Laid w (bodyF f)) := by
  have hb := below_alloc (Below.refl _ w) (.cells f.arr 48)
  have hF := boxed hf.tool w
  have hwk := u64_nn (x := f.k) (by omega) (by omega)
  have hlk := sh_ten (n := f.k.toNat) (by omega)
  have HLK := Lib.hid hlk
  have H1 := Lib.hid h1
  have H6 := Lib.hid h6
  have c1 : ∀ W, Calls Tryz.prog 61 #[.slice none 0 0, .int .u64 f.k] W (Laid W ([] ++ sh f.k.toNat)) := fun W => PutUint_any f.k (RB.nil W) (by omega) (by omega) (by omega)
  have cL : ∀ W v base, OB 5 W base v ([] ++ sh f.k.toNat) → Below w.heap.size w W → base ≤ W.heap.size → Calls Tryz.prog (layN f.k) #[v, .agg f.arr] W fun e w' => ∃ v', e = .returned v' ∧ OB 5 w' base v' (bodyF f) ∧ Below W.heap.size W w' := fun W v base hO hbw hba => by
    refine (lay_any f.k rfl H1.out H6.out (hf.below hbw) hw hL hO hba (by rw [List.nil_append]; have := HLK.out; omega)).mono ?_
    rintro e w' ⟨v', he, hO', hb'⟩
    exact ⟨v', he, by simpa [bodyF] using hO', hb'⟩
  have hif : (Tryz.prog.info? 48).map (·.size) = some f.cells.length := by rw [frame_size]; have := Fr.arr_size f hf.tool; simp [Fr.arr] at this; rw [this]
  have hen := lay_enters f.k h1 h6
  clear hlk h1 h6 hw hL hf
  show Calls Tryz.prog _ #[.agg f.arr] w _
  go_enter Tryz.func59, Tryz.ntmps59
  go_upto_region 1 with (fail)
  generalize w.alloc (.cells f.arr 48) = w1 at *
  have e0 := load_int hF.c0
  obtain ⟨g, hg⟩ : ∃ g, w.heap.size = g := ⟨_, rfl⟩
  rw [hg] at hF e0 ⊢
  clear hg
  go_wp2_with fail
  refine (of_any f.k H1.out H6.out _).mono ?_
  rintro e w2 ⟨rfl, hb2⟩
  have hbz := below_alloc (Below.refl w2.heap.size w2) (.cells #[.nilFunc, .nilFunc, .nilFunc, .nilFunc] 142)
  have hblk := heap_alloc_new w2 (.cells #[.nilFunc, .nilFunc, .nilFunc, .nilFunc] 142)
  have h4 : (#[.nilFunc, .nilFunc, .nilFunc, .nilFunc] : Array Value).size = (kV f.k).size := rfl
  have hsz := kind_size (k := f.k)
  have hone := kind_one f.k
  obtain ⟨KK, hKK⟩ : ∃ KK, kV f.k = KK := ⟨_, rfl⟩
  have hk0 : KK[0]? = some (.func (.func (layN f.k)) #[] #[]) := by rw [← hKK]; rfl
  rw [hKK] at h4 hsz hone ⊢
  clear hKK e0
  go_wp2_with (with_reducible show wpList _ _ _ (Oper.mk none _ _ _ _ _ :: _) _ _; refine wpList_store_row rfl 142 (.tmp 3) (.tmp 9) rfl w2.heap.size KK rfl rfl 142 _ hblk hsz h4 hone ?_)
  have hb3 := below_step (below_step hb hb2) hbz
  have hF3 := (hF.below hb2).below hbz
  have hb4 := below_setRow hb3 (Nat.le_trans hb.size hb2.size) KK
  have hF4 := hF3.only (Fr.only_row _ w2.heap.size KK) (fun e => by have := hF.lt; have := hb2.size; omega)
  have hK4 := setRow_heap _ w2.heap.size _ KK _ _ hblk
  clear hb hb2 hbz hblk hb3 hF3 hF h4 hsz hone
  generalize (w2.alloc (.cells #[.nilFunc, .nilFunc, .nilFunc, .nilFunc] 142)).setRow w2.heap.size KK = w5 at *
  generalize w2.heap.size = gk at *
  have hl1 : ∀ W, f.at_ 48 W g → (Instr.loadAt 3 (.pointer (some ⟨g, 0, none⟩))).run Tryz.prog W = .ok (.int .i64 f.k) W := fun W h => load_int h.c0
  have hl2 : ∀ W, f.at_ 48 W g → (Instr.loadAt 48 (.pointer (some ⟨g, 0, none⟩))).run Tryz.prog W = .ok (.agg f.arr) W := fun W h => load_frame f hif W _ h
  have hl3 : ∀ W : World, W.heap[gk]? = some (.cells KK 142 (0, 0)) → (Instr.loadAt 138 (.pointer (some ⟨gk, 0, none⟩))).run Tryz.prog W = .ok (.func (.func (layN f.k)) #[] #[]) W := fun W h => load_lay (by rw [cell_of_row W gk 0 _ _ _ h]; exact hk0)
  clear hk0 hif
  generalize f.arr = FA at *
  go_region_held3 (fun w' => Below w.heap.size w w' ∧ f.at_ 48 w' g ∧ w'.heap[gk]? = some (.cells KK 142 (0, 0)))
    (first
      | assumption
      | (refine keepB hb4 hF4 hK4 ?_; exact below_drew (Below.refl _ _))
      | (refine keepB hb4 hF4 hK4 ?_; exact Below.refl _ _)
      | (go_split_ands; refine keepB ?_ ?_ ?_ hb6 <;> assumption)
      | (go_split_ands; refine keepB ?_ ?_ ?_ hb7 <;> assumption))
    (first
      | (go_at_call 61; (with_reducible refine (c1 _).mono ?_); rintro e w6 ⟨v6, rfl, hO6, hb6⟩)
      | (go_split_ands; (with_reducible refine (cL _ _ _ (by assumption) (by assumption) (by have := hb6.size; omega)).mono ?_); rintro e w7 ⟨v7, rfl, hO7, hb7⟩))
  all_goals
    go_split_ands
    have hb8 : Below w.heap.size w w7 := by assumption
    have hO8 : OB 5 w7 w.heap.size v7 (bodyF f) := hO7.less (by have := hb4.size; exact this)
    clear hO6 hO7 hb6 hb7 c1 cL
    go_wp2_with fail
    go_ret
    exact ⟨_, rfl, hO8, hb8⟩
end
end Go.Proofs.YtpjpgcjhdbiepaaGreat
end
