/- Contracts of functions that the law reaches (texts laid together, part 2): each says of its call what it answers and what it leaves of memory; the conditions stand in each statement. -/
import Derived.Test.YtpjpgcjhdbiepaaMpStreamCuts1
import Derived.Test.YtpjpgcjhdbiepaaWWords
import Derived.WalkKit
import Derived.Lib.Hide
import Derived.Laws.BitsAllLaws
import Derived.Deep.WholeRow
import Derived.Deep.CutBlock
import Derived.Deep.Cut
import Derived.Deep.LoopGhost
import Derived.Laws.CopyOwn
import Derived.Lib.SlBytesConst
import Derived.ChangeKeysEq
import Derived.Laws.StructEq
import Derived.Test.YtpjpgcjhdbiepaaWMore
import Derived.Laws.Bits64b
import Derived.IntWalk
import Derived.Test.YtpjpgcjhdbiepaaProg
import Derived.Test.YtpjpgcjhdbiepaaWGuard
import Derived.Deep.MidRow
import Derived.Deep.RegionHeld3
import Derived.Deep.RegionLaw
import Derived.Deep.DeepMust
import Derived.Laws.Cover3
import Derived.Test.YtpjpgcjhdbiepaaWEqStruct
import Derived.StillTailTactics
import Derived.Recover
import Derived.WalkLawsBesides
import Derived.Deep.RegionWith
import Derived.Laws.CopyRow
set_option linter.unusedVariables false
/-! The contracts of what reads a kind's fields: hello, response, cancel, bye, note. -/
section
namespace Go.Proofs.Ytpjpgcjhdbiepaa
open Go.RowKit Go.Kit Go.Proofs.YtpjpgcjhdbiepaaW.PrintWords
/-- A frame of a kind without fields. -/
def kF (k : Int) : Fr := ⟨k, 0, 0, 0, z32, 0, 0, 0, 0, none, 0, 0, [], ByteArray.empty⟩
/-- A frame's texts lie in a row of the call's own. -/
def OwnA (w : World) (base : Nat) (F : Fr) : Prop := OT 9 w base (.slice F.A F.n F.c) F.args
theorem OwnA.none (w : World) (base : Nat) {F : Fr} (h : F.A = none ∧ F.n = 0 ∧ F.c = 0 ∧ F.args = []) : OwnA w base F := by
  unfold OwnA; rw [h.1, h.2.1, h.2.2.1, h.2.2.2]; exact OT.nil _ _ _
theorem OwnA.below {w w1 : World} {base : Nat} {F : Fr} (h : OwnA w base F) (hb : Below w.heap.size w w1) : OwnA w1 base F := OT.below h hb
theorem OwnA.less {w : World} {base b : Nat} {F : Fr} (h : OwnA w base F) (hle : b ≤ base) : OwnA w b F := OT.less h hle
theorem ot_only {e : TypeId} {w w1 : World} {base : Nat} {v : Value} {xs : List ByteArray} {S : Nat → Prop} (h : OT e w base v xs) (ho : Only w w1 S) (hs : Sep (rf v) S) : OT e w1 base v xs := by
  refine ⟨h.1, ?_⟩
  rcases h.2 with h1 | ⟨g, cap, cur, h1, h2, h3, h4⟩
  · exact .inl h1
  · exact .inr ⟨g, cap, cur, h1, h2, ho.kept h3 (hs g (by rw [h1]; rfl)), h4⟩
theorem own_block_at {A : Option Addr} {n c k : Nat} (h : rf (.slice A n c) k) : ∃ a, A = some a ∧ a.block = k := by
  unfold rf Value.ownBlock at h
  cases A with
  | none => simp at h
  | some a => exact ⟨a, rfl, by simpa using h⟩
theorem OwnA.only {w w1 : World} {base : Nat} {F : Fr} {S : Nat → Prop} (h : OwnA w base F) (ho : Only w w1 S) (hs : ∀ a, F.A = some a → ¬ S a.block) : OwnA w1 base F :=
  ot_only h ho (fun k hk hS => by obtain ⟨a, e, rfl⟩ := own_block_at hk; exact hs a e hS)
theorem OwnA.fresh {w : World} {base : Nat} {F : Fr} (h : OwnA w base F) : ∀ a, F.A = some a → base ≤ a.block ∧ a.block < w.heap.size := fun a e => by
  obtain ⟨A, c, hv, _, _, hA⟩ := OT.open_ h
  injection hv with h1
  exact hA a (h1 ▸ e)
/-- What a kind's reading leaves. -/
def KindPost (w : World) (r g n c : Nat) (A : Option Addr) (D : Rd) (k : Nat) (e : Ending) (w' : World) : Prop :=
  (∃ (D1 : Rd) (F : Fr), e = .returned (.tuple #[]) ∧ Hid (kindS D k = (D1, F.core)) ∧ RS w' r A n c D1 ∧ F.at_ 42 w' g ∧ F.ok w' ∧ OwnA w' w.heap.size F ∧ Only w w' (fun k => k = r ∨ k = g)) ∨
  (∃ (F : Fr), e = .panicked (raisedF 70 (kindS D k).1.wat) ∧ Hid ((kindS D k).1.why = 70) ∧ F.at_ 42 w' g ∧ Only w w' (fun k => k = r ∨ k = g))
theorem notr {r g : Nat} {A : Option Addr} (h : ¬ rdf r A g) : ¬ g = r := fun e => h (.inl e)
theorem sepg {r g : Nat} {A : Option Addr} (h : ¬ rdf r A g) : Sep (rdf r A) (fun k => k = g) := fun k hk e => h (e ▸ hk)
theorem _root_.Go.Kit.Only.orr {w w1 w2 : World} {r g : Nat} (h : Only w w1 (fun k => k = r ∨ k = g)) (h2 : Only w1 w2 (fun k => k = r)) : Only w w2 (fun k => k = r ∨ k = g) := h.same (h2.mono (fun _ e => .inl e))
theorem _root_.Go.Kit.Only.org {w w1 w2 : World} {r g : Nat} (h : Only w w1 (fun k => k = r ∨ k = g)) (h2 : Only w1 w2 (fun k => k = g)) : Only w w2 (fun k => k = r ∨ k = g) := h.same (h2.mono (fun _ e => .inr e))
section
variable {w : World} {r g n c : Nat} {A : Option Addr} {D : Rd}
theorem rt_none (w : World) {F : Fr} (hA : F.A = none) (hn : F.n = 0) (ha : F.args = []) : RT w F.A F.n F.args := by rw [hA, hn, ha]; exact RT.nil w
set_option maxHeartbeats 4000000 in
set_option maxRecDepth 100000 in
theorem cancel_read (h : RS w r A n c D) (hF : (kF 4).at_ 42 w g) (hs : ¬ rdf r A g) : Calls Try.prog 90 #[.pointer (some ⟨r, 0, none⟩), .pointer (some ⟨g, 0, none⟩)] w (KindPost w r g n c A D 4) := by
  go_enter Try.func90, Try.ntmps90
  go_wp2_with fail
  refine (Uint_any h).mono ?_
  rintro e w2 ⟨D1, v, rfl, HU, hR, ho⟩
  have hF2 := hF.only ho (notr hs)
  have q1 := hF2.c1
  have f1 := hF2.fz 1
  have ho2 := (Only.refl w (fun k => k = r ∨ k = g)).orr ho
  have hF3 := hF2.set1 (v : Int)
  have hR3 := hR.only (Fr.only_at w2 g 1 (.int .u64 (v : Int))) (sepg hs)
  have ho3 := ho2.org (Fr.only_at w2 g 1 (.int .u64 (v : Int)))
  have HK : Hid (kindS D 4 = (D1, ({ kF 4 with id := (v : Int) } : Fr).core)) := Lib.hid (by
    show cancelS D = _
    unfold cancelS; rw [HU.out]; rfl)
  clear hF hF2 hR ho ho2 HU
  go_wp2_with fail
  exact bodyPost_end (v := .tuple #[]) (by simp [results, Try.results90, go_sem]) rfl (.inl ⟨D1, _, rfl, HK, hR3, hF3, ⟨rfl, rt_none _ rfl rfl rfl⟩, OwnA.none _ _ ⟨rfl, rfl, rfl, rfl⟩, ho3⟩)
set_option maxHeartbeats 4000000 in
set_option maxRecDepth 100000 in
theorem note_read (h : RS w r A n c D) (hF : (kF 6).at_ 42 w g) (hs : ¬ rdf r A g) : Calls Try.prog 97 #[.pointer (some ⟨r, 0, none⟩), .pointer (some ⟨g, 0, none⟩)] w (KindPost w r g n c A D 6) := by
  go_enter Try.func97, Try.ntmps97
  go_wp2_with fail
  refine (Text_any h 2097152 (by omega)).mono ?_
  rintro e w2 ⟨D1, v, rfl, HU, hR, ho⟩
  have hF2 := hF.only ho (notr hs)
  have q1 := hF2.c41
  have f1 := hF2.fz 41
  have ho2 := (Only.refl w (fun k => k = r ∨ k = g)).orr ho
  have hF3 := hF2.set41 v
  have hR3 := hR.only (Fr.only_at w2 g 41 (.string v)) (sepg hs)
  have ho3 := ho2.org (Fr.only_at w2 g 41 (.string v))
  have HK : Hid (kindS D 6 = (D1, ({ kF 6 with body := v } : Fr).core)) := Lib.hid (by
    show noteS D = _
    unfold noteS; rw [HU.out]; rfl)
  clear hF hF2 hR ho ho2 HU
  go_wp2_with fail
  exact bodyPost_end (v := .tuple #[]) (by simp [results, Try.results97, go_sem]) rfl (.inl ⟨D1, _, rfl, HK, hR3, hF3, ⟨rfl, rt_none _ rfl rfl rfl⟩, OwnA.none _ _ ⟨rfl, rfl, rfl, rfl⟩, ho3⟩)
set_option maxHeartbeats 4000000 in
set_option maxRecDepth 100000 in
theorem bye_read (h : RS w r A n c D) (hF : (kF 5).at_ 42 w g) : Calls Try.prog 94 #[.pointer (some ⟨r, 0, none⟩), .pointer (some ⟨g, 0, none⟩)] w (KindPost w r g n c A D 5) := by
  go_enter Try.func94, Try.ntmps94
  go_wp2_with fail
  exact bodyPost_end (v := .tuple #[]) (by simp [results, Try.results94, go_sem]) rfl (.inl ⟨D, kF 5, rfl, Lib.hid rfl, h, hF, ⟨rfl, rt_none _ rfl rfl rfl⟩, OwnA.none _ _ ⟨rfl, rfl, rfl, rfl⟩, Only.refl _ _⟩)
set_option maxHeartbeats 4000000 in
set_option maxRecDepth 100000 in
theorem response_read (h : RS w r A n c D) (hF : (kF 3).at_ 42 w g) (hs : ¬ rdf r A g) : Calls Try.prog 86 #[.pointer (some ⟨r, 0, none⟩), .pointer (some ⟨g, 0, none⟩)] w (KindPost w r g n c A D 3) := by
  go_enter Try.func86, Try.ntmps86
  go_wp2_with fail
  refine (Uint_any h).mono ?_
  rintro e w2 ⟨D1, v, rfl, HU, hR, ho⟩
  have hF2 := hF.only ho (notr hs)
  have q1 := hF2.c1
  have f1 := hF2.fz 1
  have ho2 := (Only.refl w (fun k => k = r ∨ k = g)).orr ho
  have hF3 := hF2.set1 (v : Int)
  have hR3 := hR.only (Fr.only_at w2 g 1 (.int .u64 (v : Int))) (sepg hs)
  have ho3 := ho2.org (Fr.only_at w2 g 1 (.int .u64 (v : Int)))
  clear hF hF2 hR ho ho2
  go_wp2_with fail
  generalize w2.setCell ⟨g, 1, none⟩ (.int .u64 (v : Int)) = w3 at *
  clear q1 f1
  refine (part_any hR3 3 (by omega)).mono ?_
  rintro e w4 ⟨D2, st, HC, hR4, ho4, (⟨HV, rfl⟩ | ⟨HV, rfl⟩)⟩
  · have hF4 := hF3.only ho4 (notr hs)
    have ho5 := ho3.orr ho4
    have q1 := hF4.c36
    have f1 := hF4.fz 36
    have hF5 := hF4.set36 (st : Int)
    have hR5 := hR4.only (Fr.only_at w4 g 36 (.int .i64 (st : Int))) (sepg hs)
    have ho6 := ho5.org (Fr.only_at w4 g 36 (.int .i64 (st : Int)))
    clear hR3 hF3 ho3 hR4 ho4 hF4 ho5
    go_wp2_with fail
    generalize w4.setCell ⟨g, 36, none⟩ (.int .i64 (st : Int)) = w5 at *
    clear q1 f1
    refine (Text_any hR5 2097152 (by omega)).mono ?_
    rintro e w6 ⟨D3, s, rfl, HT, hR6, ho7⟩
    have hF6 := hF5.only ho7 (notr hs)
    have q1 := hF6.c41
    have f1 := hF6.fz 41
    have ho8 := ho6.orr ho7
    have hF7 := hF6.set41 s
    have hR7 := hR6.only (Fr.only_at w6 g 41 (.string s)) (sepg hs)
    have ho9 := ho8.org (Fr.only_at w6 g 41 (.string s))
    have HK : Hid (kindS D 3 = (D3, ({ kF 3 with id := (v : Int), st := (st : Int), body := s } : Fr).core)) := Lib.hid (by
      show responseS D = _
      unfold responseS; rw [HU.out]; dsimp only; rw [someS_some HC.out HV.out]; dsimp only; rw [HT.out]; rfl)
    clear hF5 hF6 hR5 hR6 ho6 ho7 ho8
    go_wp2_with fail
    exact bodyPost_end (v := .tuple #[]) (by simp [results, Try.results86, go_sem]) rfl (.inl ⟨D3, _, rfl, HK, hR7, hF7, ⟨rfl, rt_none _ rfl rfl rfl⟩, OwnA.none _ _ ⟨rfl, rfl, rfl, rfl⟩, ho9⟩)
  · have ho5 := ho3.orr ho4
    have HK : Hid ((kindS D 3).1 = D1.fail 70 D1.at_) := Lib.hid (by
      have hbad : (D1.fail 70 D1.at_).why ≠ 0 := by show (70 : Int) ≠ 0; decide
      show (responseS D).1 = _
      unfold responseS; rw [HU.out]; dsimp only
      have h0 := HV.out.2
      subst h0
      rw [someS_none HC.out HV.out.1]; dsimp only; rw [textS_bad hbad])
    have hF4 := hF3.only ho4 (notr hs)
    clear hR3 hF3 ho3 hR4 ho4
    refine ⟨rfl, .inr ⟨_, ?_, ?_, hF4, ho5⟩⟩
    · rw [HK.out]; rfl
    · exact Lib.hid (by rw [HK.out]; rfl)
end
end Go.Proofs.Ytpjpgcjhdbiepaa
end
/-! The contracts of what reads a kind's fields: hello, request. -/
section
namespace Go.Proofs.Ytpjpgcjhdbiepaa
open Go.RowKit Go.Kit Go.Proofs.YtpjpgcjhdbiepaaW.PrintWords
/-- A call of a region that draws its order, by a contract. -/
theorem at_call {P : Program} {ops : Array Oper} {o : Oper} {a : Act} {w : World} {K : Act → World → Prop} {Q : Exit → Act → World → Prop} {E : Prop} {f : FuncId} {args : Array Value} {R : Value → World → Prop} (hw : Region.wanted o (yielded ops a.tmps) = true)
    (he : (execOp a.eval o).run P w = .ok (.enter f args) w) (hc : Calls P f args w fun e w' => ∃ v, e = .returned v ∧ R v w') (hK : ∀ v w', R v w' → K (a.put o.dst v) w') : if Region.wanted o (yielded ops a.tmps) = true then Oper.wp P o a w K Q else E := by
  rw [if_pos hw]
  unfold Oper.wp
  rw [he, Oper.upon_enter]
  refine hc.mono ?_
  rintro e w' ⟨v, rfl, hR⟩
  exact hK v w' hR
/-- The tool copied out of what was read. -/
theorem at_copy_tool {ops : Array Oper} {o : Oper} {a : Act} {W : World} {K : Act → World → Prop} {Q : Exit → Act → World → Prop} {E : Prop} (x y : Operand) (hgd : o.guard = none)
    (ho : o.op = .call { callee := .builtin .copy, args := #[x, y], argTypes := #[23, 23] }) {g base : Nat} {v : Value} {ts : List Int} {F : Fr} (hd : a.eval x = .slice (some ⟨g, 4, none⟩) 32 32) (hs : a.eval y = v)
    (hO : OB 5 W base v ts) (hl : ts.length = 32 ∨ ts = []) (hF : F.at_ 42 W g)
    (hK : ∀ w' k, ({ F with tool := if ts.length = 32 then ts else F.tool } : Fr).at_ 42 w' g → Only W w' (fun k => k = g) → K (a.put o.dst (goInt k)) w') : if Region.wanted o (yielded ops a.tmps) = true then Oper.wp Try.prog o a W K Q else E := by
  refine at_list (by simp [Region.wanted, hgd]) (fun Q2 hQ => ?_)
  obtain ⟨A, c, hv, hr⟩ := hO.reads
  rcases hl with hl | hl
  · obtain ⟨ad, rfl, hc⟩ := hr.cells (by omega)
    have h32 : (nums .u8 ts).length = 32 := by rw [nums_length, hl]
    refine wpList_copy_own hgd x y 23 23 ho 5 Try.underlying23 u8_size g 4 32 32 ad ts.length c hd (hs.trans hv) F.arr 42 hF.blk (nums .u8 ts) (by rw [h32, hl]; rfl) hc (by rw [h32, Fr.arr_size F hF.tool]; omega) (nums_one _ _) ?_
    unfold wpList
    refine hQ _ _ (hK _ _ ?_ (Fr.only_row _ _ _))
    rw [if_pos hl]
    exact hF.tooled ts hl
  · subst hl
    refine wpList_copy_nothing hgd x y 23 23 ho 5 Try.underlying23 u8_size (some ⟨g, 4, none⟩) A 32 32 0 c hd (hs.trans hv) rfl ?_
    unfold wpList
    exact hQ _ _ (hK _ 0 hF (Only.refl _ _))
section
variable {w : World} {r g n c : Nat} {A : Option Addr} {D : Rd}
theorem rawS_len {D D1 : Rd} {ts : List Int} (hok : D.ok) (h : rawS D 32 = (D1, ts)) : ts.length = 32 ∨ ts = [] := by
  unfold rawS at h
  split at h
  · cases h; exact .inr rfl
  split at h
  · cases h; exact .inr rfl
  split at h
  · cases h; exact .inr rfl
  · have := hok.2.1
    cases h
    left
    rw [List.length_take, List.length_drop]
    omega
set_option maxHeartbeats 8000000 in
set_option maxRecDepth 100000 in
theorem hello_read (h : RS w r A n c D) (hF : (kF 1).at_ 42 w g) (hs : ¬ rdf r A g) : Calls Try.prog 72 #[.pointer (some ⟨r, 0, none⟩), .pointer (some ⟨g, 0, none⟩)] w (KindPost w r g n c A D 1) := by
  go_enter Try.func72, Try.ntmps72
  go_wp2_with fail
  refine (part_any h 1 (by omega)).mono ?_
  rintro e w2 ⟨D1, v, HC, hR, ho, (⟨HV, rfl⟩ | ⟨HV, rfl⟩)⟩
  · have hF2 := hF.only ho (notr hs)
    have q1 := hF2.c2
    have f1 := hF2.fz 2
    have ho2 := (Only.refl w (fun k => k = r ∨ k = g)).orr ho
    have hF3 := hF2.set2 (v : Int)
    have hR3 := hR.only (Fr.only_at w2 g 2 (.int .i64 (v : Int))) (sepg hs)
    have ho3 := ho2.org (Fr.only_at w2 g 2 (.int .i64 (v : Int)))
    clear hF hF2 hR ho ho2
    go_wp2_with fail
    generalize w2.setCell ⟨g, 2, none⟩ (.int .i64 (v : Int)) = w3 at *
    clear q1 f1
    refine (part_any hR3 64 (by omega)).mono ?_
    rintro e w4 ⟨D2, s, HC2, hR4, ho4, (⟨HV2, rfl⟩ | ⟨HV2, rfl⟩)⟩
    · have hF4 := hF3.only ho4 (notr hs)
      have q1 := hF4.c3
      have f1 := hF4.fz 3
      have ho5 := ho3.orr ho4
      have hF5 := hF4.set3 (s : Int)
      have hR5 := hR4.only (Fr.only_at w4 g 3 (.int .i64 (s : Int))) (sepg hs)
      have ho6 := ho5.org (Fr.only_at w4 g 3 (.int .i64 (s : Int)))
      clear hF3 hF4 hR3 hR4 ho3 ho4 ho5
      go_wp2_with fail
      generalize w4.setCell ⟨g, 3, none⟩ (.int .i64 (s : Int)) = w5 at *
      clear q1 f1
      have hb5 : Below w5.heap.size w5 w5.drew := below_drew (Below.refl _ _)
      have hF6 := hF5.below hb5
      have hR6 := hR5.below hb5
      have ho7 := ho6.below hb5
      clear hF5 hR5 ho6 hb5
      have hc : Calls Try.prog 52 #[.pointer (some ⟨r, 0, none⟩), .int .i64 32] w5.drew fun e w' => ∃ v, e = .returned v ∧ ∃ D3 ts, Hid (rawS D2 32 = (D3, ts)) ∧ OB 5 w' w5.drew.heap.size v ts ∧ RS w' r A n c D3 ∧ Only w5.drew w' (fun k => k = r) :=
        (Raw_any hR6 32 (by omega)).mono (fun e w7 ⟨D3, v7, ts, he, h7⟩ => ⟨v7, he, D3, ts, h7⟩)
      have hok := hR6.ok
      go_region_law (first
        | (refine at_call ?_ ?_ hc ?_; kernel_rfl; go_simp; rintro v7 w7 ⟨D3, ts, HT, hO7, hR7, ho8⟩; have hF7 := hF6.only ho8 (notr hs); have ho9 := ho7.orr ho8; have hts := rawS_len hok HT.out; clear hF6 hR6 ho7 ho8)
        | (refine at_copy_tool (.tmp 17) (.tmp 19) rfl rfl rfl rfl hO7 hts hF7 ?_; intro w8 k8 hF8 ho8))
      have hR8 := hR7.only ho8 (sepg hs)
      have ho10 := ho9.org ho8
      have HK : Hid (kindS D 1 = (D3, ({ kF 1 with v := (v : Int), s := (s : Int), tool := if ts.length = 32 then ts else z32 } : Fr).core)) := Lib.hid (by
        show helloS D = _
        unfold helloS; rw [someS_some HC.out HV.out]; dsimp only; rw [someS_some HC2.out HV2.out]; dsimp only; rw [HT.out]; rfl)
      clear hc hO7 hR7 hF7 ho9 ho8 hts hok
      go_wp2_with fail
      exact bodyPost_end (v := .tuple #[]) (by simp [results, Try.results72, go_sem]) rfl (.inl ⟨D3, _, rfl, HK, hR8, hF8, ⟨hF8.tool, rt_none _ rfl rfl rfl⟩, OwnA.none _ _ ⟨rfl, rfl, rfl, rfl⟩, ho10⟩)
    · have ho5 := ho3.orr ho4
      have hF4 := hF3.only ho4 (notr hs)
      have HK : Hid ((kindS D 1).1 = D1.fail 70 D1.at_) := Lib.hid (by
        have hbad : (D1.fail 70 D1.at_).why ≠ 0 := by show (70 : Int) ≠ 0; decide
        show (helloS D).1 = _
        have h0 := HV2.out.2
        subst h0
        unfold helloS; rw [someS_some HC.out HV.out]; dsimp only; rw [someS_none HC2.out HV2.out.1]; dsimp only; rw [rawS_bad hbad])
      clear hF3 hR3 ho3 hR4 ho4
      refine ⟨rfl, .inr ⟨_, ?_, ?_, hF4, ho5⟩⟩
      · rw [HK.out]; rfl
      · exact Lib.hid (by rw [HK.out]; rfl)
  · have ho5 := (Only.refl w (fun k => k = r ∨ k = g)).orr ho
    have hF4 := hF.only ho (notr hs)
    have HK : Hid ((kindS D 1).1 = D.fail 70 D.at_) := Lib.hid (by
      have hbad : (D.fail 70 D.at_).why ≠ 0 := by show (70 : Int) ≠ 0; decide
      show (helloS D).1 = _
      have h0 := HV.out.2
      subst h0
      unfold helloS; rw [someS_none HC.out HV.out.1]; dsimp only; rw [someS_bad hbad]; dsimp only; rw [rawS_bad hbad])
    clear hF hR ho
    refine ⟨rfl, .inr ⟨_, ?_, ?_, hF4, ho5⟩⟩
    · rw [HK.out]; rfl
    · exact Lib.hid (by rw [HK.out]; rfl)
set_option maxHeartbeats 8000000 in
set_option maxRecDepth 100000 in
theorem request_read (h : RS w r A n c D) (hn : n ≤ 4398046511104) (hF : (kF 2).at_ 42 w g) (hs : ¬ rdf r A g) : Calls Try.prog 78 #[.pointer (some ⟨r, 0, none⟩), .pointer (some ⟨g, 0, none⟩)] w (KindPost w r g n c A D 2) := by
  go_enter Try.func78, Try.ntmps78
  have hoz := Only.refl w (fun k => k = r ∨ k = g)
  go_wp2_with fail
  refine (Uint_any h).mono ?_
  rintro e w2 ⟨D1, v1, rfl, H1, hR1a, ho1a⟩
  have hF1a := hF.only ho1a (notr hs)
  have q1 := hF1a.c1
  have f1 := hF1a.fz 1
  have ho1b := hoz.orr ho1a
  have hF1 := hF1a.set1 (v1 : Int)
  have hR1 := hR1a.only (Fr.only_at w2 g 1 (.int .u64 (v1 : Int))) (sepg hs)
  have ho1 := ho1b.org (Fr.only_at w2 g 1 (.int .u64 (v1 : Int)))
  clear h hF hoz hF1a hR1a ho1a ho1b
  go_wp2_with fail
  generalize w2.setCell ⟨g, 1, none⟩ (.int .u64 (v1 : Int)) = w3 at *
  clear q1 f1
  refine (Count_any hR1 2147483648 (by omega)).mono ?_
  rintro e w4 ⟨D2, v2, rfl, H2, hR2a, ho2a⟩
  have hF2a := hF1.only ho2a (notr hs)
  have q2 := hF2a.c37
  have f2 := hF2a.fz 37
  have ho2b := ho1.orr ho2a
  have hF2 := hF2a.set37 (v2 : Int)
  have hR2 := hR2a.only (Fr.only_at w4 g 37 (.int .i64 (v2 : Int))) (sepg hs)
  have ho2 := ho2b.org (Fr.only_at w4 g 37 (.int .i64 (v2 : Int)))
  clear hR1 hF1 ho1 hF2a hR2a ho2a ho2b
  go_wp2_with fail
  generalize w4.setCell ⟨g, 37, none⟩ (.int .i64 (v2 : Int)) = w5 at *
  clear q2 f2
  refine (Count_any hR2 2147483648 (by omega)).mono ?_
  rintro e w6 ⟨D3, v3, rfl, H3, hR3a, ho3a⟩
  have hF3a := hF2.only ho3a (notr hs)
  have q3 := hF3a.c38
  have f3 := hF3a.fz 38
  have ho3b := ho2.orr ho3a
  have hF3 := hF3a.set38 (v3 : Int)
  have hR3 := hR3a.only (Fr.only_at w6 g 38 (.int .i64 (v3 : Int))) (sepg hs)
  have ho3 := ho3b.org (Fr.only_at w6 g 38 (.int .i64 (v3 : Int)))
  clear hR2 hF2 ho2 hF3a hR3a ho3a ho3b
  go_wp2_with fail
  generalize w6.setCell ⟨g, 38, none⟩ (.int .i64 (v3 : Int)) = w7 at *
  clear q3 f3
  refine (Count_any hR3 2147483648 (by omega)).mono ?_
  rintro e w8 ⟨D4, v4, rfl, H4, hR4a, ho4a⟩
  have hF4a := hF3.only ho4a (notr hs)
  have q4 := hF4a.c39
  have f4 := hF4a.fz 39
  have ho4b := ho3.orr ho4a
  have hF4 := hF4a.set39 (v4 : Int)
  have hR4 := hR4a.only (Fr.only_at w8 g 39 (.int .i64 (v4 : Int))) (sepg hs)
  have ho4 := ho4b.org (Fr.only_at w8 g 39 (.int .i64 (v4 : Int)))
  clear hR3 hF3 ho3 hF4a hR4a ho4a ho4b
  go_wp2_with fail
  generalize w8.setCell ⟨g, 39, none⟩ (.int .i64 (v4 : Int)) = w9 at *
  clear q4 f4
  refine (List_any hR4 hn 8 4096 (by omega) (by omega)).mono ?_
  rintro e w10 ⟨D5, v5, l5, rfl, H5, hO5, hR5a, ho5a⟩
  obtain ⟨A5, c5, rfl, hT5, hc5, hA5⟩ := hO5.open_
  have hF5a := hF4.only ho5a (notr hs)
  have q5 := hF5a.c40
  have f5 := hF5a.fz 40
  have ho5b := ho4.orr ho5a
  have hF5 := hF5a.set40 A5 l5.length c5 l5
  have hR5 := hR5a.only (Fr.only_at w10 g 40 (.slice A5 l5.length c5)) (sepg hs)
  have ho5 := ho5b.org (Fr.only_at w10 g 40 (.slice A5 l5.length c5))
  have hb5 := ho4.size
  have hT5b := hT5.apart (Fr.only_at w10 g 40 (.slice A5 l5.length c5)) (fun a e hg => by have := (hA5 a e).1; have := hF4.lt; omega)
  replace hA5 : ∀ a, A5 = some a → w.heap.size ≤ a.block ∧ ¬ a.block = r ∧ ¬ a.block = g := fun a e => by
    have h1 := (hA5 a e).1
    have h2 := hF4.lt
    have h3 := lt_of_block hR4.rk
    exact ⟨by omega, by omega, by omega⟩
  have hO5b := ot_only hO5 (Fr.only_at w10 g 40 (.slice A5 l5.length c5)) (fun k hk e => by obtain ⟨a, e2, rfl⟩ := own_block_at hk; exact (hA5 a e2).2.2 e)
  replace hO5b := hO5b.less (Nat.le_trans hb5 (Nat.le_refl _))
  clear hO5 hT5
  clear hR4 hF4 ho4 hF5a hR5a ho5a ho5b
  go_wp2_with fail
  generalize w10.setCell ⟨g, 40, none⟩ (.slice A5 l5.length c5) = w11 at *
  clear q5 f5
  refine (Text_any hR5 2097152 (by omega)).mono ?_
  rintro e w12 ⟨D6, v6, rfl, H6, hR6a, ho6a⟩
  have hF6a := hF5.only ho6a (notr hs)
  have q6 := hF6a.c41
  have f6 := hF6a.fz 41
  have ho6b := ho5.orr ho6a
  have hF6 := hF6a.set41 v6
  have hR6 := hR6a.only (Fr.only_at w12 g 41 (.string v6)) (sepg hs)
  have ho6 := ho6b.org (Fr.only_at w12 g 41 (.string v6))
  have hT6 := (hT5b.apart ho6a (fun a e => (hA5 a e).2.1)).apart (Fr.only_at w12 g 41 (.string v6)) (fun a e => (hA5 a e).2.2)
  have hO6 := ot_only (ot_only hO5b ho6a (fun k hk e => by obtain ⟨a, e2, rfl⟩ := own_block_at hk; exact (hA5 a e2).2.1 e)) (Fr.only_at w12 g 41 (.string v6)) (fun k hk e => by obtain ⟨a, e2, rfl⟩ := own_block_at hk; exact (hA5 a e2).2.2 e)
  clear hR5 hF5 ho5 hF6a hR6a ho6a ho6b
  have HK : Hid (kindS D 2 = (D6, ({ kF 2 with id := (v1 : Int), mo := (v2 : Int), fu := (v3 : Int), di := (v4 : Int), A := A5, n := l5.length, c := c5, args := l5, body := v6 } : Fr).core)) := Lib.hid (by
    show requestS D = _
    unfold requestS; rw [H1.out]; dsimp only; rw [H2.out]; dsimp only; rw [H3.out]; dsimp only; rw [H4.out]; dsimp only; rw [H5.out]; dsimp only; rw [H6.out]; rfl)
  go_wp2_with fail
  exact bodyPost_end (v := .tuple #[]) (by simp [results, Try.results78, go_sem]) rfl (.inl ⟨D6, _, rfl, HK, hR6, hF6, ⟨rfl, hT6⟩, hO6, ho6⟩)
end
end Go.Proofs.Ytpjpgcjhdbiepaa
end
/-! The contracts of frame's Same and the document's Same. (frsame.py) -/
section
namespace Go.Proofs.Ytpjpgcjhdbiepaa
open Go.RowKit Go.Kit Go.Proofs.YtpjpgcjhdbiepaaW.PrintWords

theorem event_eq {P : Program} {ops : Array Oper} {rest : List Oper} {o : Oper} {a : Act} {Q : Exit → Act → World → Prop} {W : World} (hgd : o.guard = none) (t u : TypeId) (x y : Operand) (ho : o.op = .binOp .eql t x y u)
    (X Y : Array Value) (b : Bool) (hx : a.eval x = .agg X) (hy : a.eval y = .agg Y) (hm : P.eqGuardType P.depth t = false) (he : (Op.equalIn 10000 t (.agg X) (.agg Y)).run P W = .ok b W)
    (h : wpList P ops Q rest (a.put o.dst (.bool b)) W) : wpList P ops Q (o :: rest) a W := by
  refine Kd.event_run hgd (w1 := W) (v := .bool b) ?_ h
  unfold execOp
  simp only [ho, hx, hy]
  simp [run_eqGuard_agg W .eql t x y X Y hm, run_eql_struct W t X Y, he]
theorem lim_eq3 (a b c x y z : Int) (W : World) : (Op.equalIn 10000 39 (.agg #[.int .i64 a, .int .i64 b, .int .i64 c]) (.agg #[.int .i64 x, .int .i64 y, .int .i64 z])).run Try.prog W = .ok (a == x && (b == y && c == z)) W := by
  cases h0 : a == x <;> cases h1 : b == y <;> cases h2 : c == z <;> go_simp
theorem lim_eq (f g : Fr) : ∀ W, (Op.equalIn 10000 39 (.agg f.lim.toArray) (.agg g.lim.toArray)).run Try.prog W = .ok (f.mo == g.mo && (f.fu == g.fu && f.di == g.di)) W := fun W => lim_eq3 _ _ _ _ _ _ W
theorem tool_eq (x y : List Int) (hx : x.length = 32) (hy : y.length = 32) : ∀ W, (Op.equalIn 10000 37 (.agg (nums .u8 x).toArray) (.agg (nums .u8 y).toArray)).run Try.prog W = .ok (decide (x = y)) W := by
  intro W
  obtain ⟨i0, hi, hz0, hz1, hz2⟩ := info_parts u8_info
  exact run_equalIn_nums (P := Try.prog) (w := W) 9998 x y Try.underlying37 hi hz1 Try.underlying5 hx hy
theorem tool_size (f : Fr) (h : f.tool.length = 32) : (Try.prog.info? 37).map (·.size) = some (nums .u8 f.tool).length := by
  rw [show (nums .u8 f.tool).length = 32 from by simp [nums, h]]; kernel_rfl
set_option maxHeartbeats 8000000 in
set_option maxRecDepth 100000 in
theorem rSame_any (f g : Fr) (w : World) (hf : f.ok w) (hg : g.ok w) :
    Calls Try.prog 28 #[f.val, g.val] w fun e w' => ∃ t, e = .returned (.bool t) ∧ Hid (t = f.same g) ∧ Below w.heap.size w w' := by
  have hT := tool_eq f.tool g.tool hf.tool hg.tool
  have hL := lim_eq f g
  have hs4 := tool_size f hf.tool
  have ht4 := tool_size g hg.tool
  have hq4 : Try.prog.eqGuardType Try.prog.depth 37 = false := by kernel_rfl
  have hq37 : Try.prog.eqGuardType Try.prog.depth 39 = false := by kernel_rfl
  have hsz : (Try.prog.info? 39).map (·.size) = some 3 := by kernel_rfl
  show Calls Try.prog _ #[.agg f.arr, .agg g.arr] w _
  go_enter Try.func28, Try.ntmps28
  have hF : f.at_ 42 ((w.alloc (.cells f.arr 42)).alloc (.cells g.arr 42)) w.heap.size := Fr.at_.below ⟨heap_alloc_new w _, hf.tool⟩ (below_alloc (Below.refl _ _) _)
  have hG : g.at_ 42 ((w.alloc (.cells f.arr 42)).alloc (.cells g.arr 42)) (w.heap.size + 1) := ⟨by simpa using heap_alloc_new (w.alloc (.cells f.arr 42)) (.cells g.arr 42), hg.tool⟩
  have hb := below_alloc (below_alloc (Below.refl _ w) (.cells f.arr 42)) (.cells g.arr 42)
  go_upto_region 1 with (fail)
  generalize (w.alloc (.cells f.arr 42)).alloc (.cells g.arr 42) = w2 at *
  generalize w.heap.size + 1 = g2 at *
  have rL := hF.r4
  have rM := hG.r4
  have rX := hF.r37
  have rY := hG.r37
  have hs37 : (Try.prog.info? 39).map (·.size) = some f.lim.length := hsz
  have ht37 : (Try.prog.info? 39).map (·.size) = some g.lim.length := hsz
  generalize nums .u8 f.tool = L at hT rL hs4
  generalize nums .u8 g.tool = M at hT rM ht4
  generalize f.lim = X at hL rX hs37
  generalize g.lim = Y at hL rY ht37
  have hf2 := hf.args.below hb
  have hg2 := hg.args.below hb
  have ac0 := hF.c0
  have bc0 := hG.c0
  have ac1 := hF.c1
  have bc1 := hG.c1
  have ac2 := hF.c2
  have bc2 := hG.c2
  have ac3 := hF.c3
  have bc3 := hG.c3
  have ac36 := hF.c36
  have bc36 := hG.c36
  have ac40 := hF.c40
  have bc40 := hG.c40
  have ac41 := hF.c41
  have bc41 := hG.c41
  cases h0 : f.k == g.k with
  | false =>
    have HS : Hid (false = f.same g) := Lib.hid (by simp only [Fr.same, h0, Bool.false_and])
    go_wp2_with fail
    go_ret
    exact ⟨_, rfl, HS, hb⟩
  | true =>
  cases h1 : f.id == g.id with
  | false =>
    have HS : Hid (false = f.same g) := Lib.hid (by simp only [Fr.same, h0, h1, Bool.true_and, Bool.false_and])
    go_wp2_with fail
    go_ret
    exact ⟨_, rfl, HS, hb⟩
  | true =>
  cases h2 : f.v == g.v with
  | false =>
    have HS : Hid (false = f.same g) := Lib.hid (by simp only [Fr.same, h0, h1, h2, Bool.true_and, Bool.false_and])
    go_wp2_with fail
    go_ret
    exact ⟨_, rfl, HS, hb⟩
  | true =>
  cases h3 : f.s == g.s with
  | false =>
    have HS : Hid (false = f.same g) := Lib.hid (by simp only [Fr.same, h0, h1, h2, h3, Bool.true_and, Bool.false_and])
    go_wp2_with fail
    go_ret
    exact ⟨_, rfl, HS, hb⟩
  | true =>
  cases h4 : decide (f.tool = g.tool) with
  | false =>
    have HS : Hid (false = f.same g) := Lib.hid (by simp only [Fr.same, h0, h1, h2, h3, h4, Bool.true_and, Bool.false_and])
    rw [h4] at hT
    go_wp2_with (first | (with_reducible show wpList _ _ _ (Oper.mk (some 33) _ _ _ _ _ :: _) _ _; refine gate_guard rfl ?_; refine wpList_load_mid rfl 37 (.tmp 32) rfl w.heap.size 4 rfl L _ rL Try.underlying37 rfl hs4 ?_) | (with_reducible show wpList _ _ _ (Oper.mk (some 35) _ _ _ _ _ :: _) _ _; refine gate_guard rfl ?_; refine wpList_load_mid rfl 37 (.tmp 34) rfl g2 4 rfl M _ rM Try.underlying37 rfl ht4 ?_) | (with_reducible show wpList _ _ _ (Oper.mk (some 36) _ _ _ _ _ :: _) _ _; refine gate_guard rfl ?_; refine event_eq rfl 37 37 (.tmp 33) (.tmp 35) rfl L.toArray M.toArray _ rfl rfl hq4 (hT _) ?_))
    go_ret
    exact ⟨_, rfl, HS, hb⟩
  | true =>
  rw [h4] at hT
  cases h5 : f.st == g.st with
  | false =>
    have HS : Hid (false = f.same g) := Lib.hid (by simp only [Fr.same, h0, h1, h2, h3, h4, h5, Bool.true_and, Bool.false_and])
    go_wp2_with (first | (with_reducible show wpList _ _ _ (Oper.mk (some 33) _ _ _ _ _ :: _) _ _; refine gate_guard rfl ?_; refine wpList_load_mid rfl 37 (.tmp 32) rfl w.heap.size 4 rfl L _ rL Try.underlying37 rfl hs4 ?_) | (with_reducible show wpList _ _ _ (Oper.mk (some 35) _ _ _ _ _ :: _) _ _; refine gate_guard rfl ?_; refine wpList_load_mid rfl 37 (.tmp 34) rfl g2 4 rfl M _ rM Try.underlying37 rfl ht4 ?_) | (with_reducible show wpList _ _ _ (Oper.mk (some 36) _ _ _ _ _ :: _) _ _; refine gate_guard rfl ?_; refine event_eq rfl 37 37 (.tmp 33) (.tmp 35) rfl L.toArray M.toArray _ rfl rfl hq4 (hT _) ?_))
    go_ret
    exact ⟨_, rfl, HS, hb⟩
  | true =>
  cases h6 : (f.mo == g.mo && (f.fu == g.fu && f.di == g.di)) with
  | false =>
    have HS : Hid (false = f.same g) := Lib.hid (by simp only [Fr.same, h0, h1, h2, h3, h4, h5, h6, Bool.true_and, Bool.false_and])
    rw [h6] at hL
    go_wp2_with (first | (with_reducible show wpList _ _ _ (Oper.mk (some 33) _ _ _ _ _ :: _) _ _; refine gate_guard rfl ?_; refine wpList_load_mid rfl 37 (.tmp 32) rfl w.heap.size 4 rfl L _ rL Try.underlying37 rfl hs4 ?_) | (with_reducible show wpList _ _ _ (Oper.mk (some 35) _ _ _ _ _ :: _) _ _; refine gate_guard rfl ?_; refine wpList_load_mid rfl 37 (.tmp 34) rfl g2 4 rfl M _ rM Try.underlying37 rfl ht4 ?_) | (with_reducible show wpList _ _ _ (Oper.mk (some 36) _ _ _ _ _ :: _) _ _; refine gate_guard rfl ?_; refine event_eq rfl 37 37 (.tmp 33) (.tmp 35) rfl L.toArray M.toArray _ rfl rfl hq4 (hT _) ?_) | (with_reducible show wpList _ _ _ (Oper.mk (some 47) _ _ _ _ _ :: _) _ _; refine gate_guard rfl ?_; refine wpList_load_mid rfl 39 (.tmp 46) rfl w.heap.size 37 rfl X _ rX Try.underlying39 rfl hs37 ?_) | (with_reducible show wpList _ _ _ (Oper.mk (some 49) _ _ _ _ _ :: _) _ _; refine gate_guard rfl ?_; refine wpList_load_mid rfl 39 (.tmp 48) rfl g2 37 rfl Y _ rY Try.underlying39 rfl ht37 ?_) | (with_reducible show wpList _ _ _ (Oper.mk (some 50) _ _ _ _ _ :: _) _ _; refine gate_guard rfl ?_; refine event_eq rfl 39 39 (.tmp 47) (.tmp 49) rfl X.toArray Y.toArray _ rfl rfl hq37 (hL _) ?_))
    go_ret
    exact ⟨_, rfl, HS, hb⟩
  | true =>
  rw [h6] at hL
  go_wp2_with (first | (with_reducible show wpList _ _ _ (Oper.mk (some 33) _ _ _ _ _ :: _) _ _; refine gate_guard rfl ?_; refine wpList_load_mid rfl 37 (.tmp 32) rfl w.heap.size 4 rfl L _ rL Try.underlying37 rfl hs4 ?_) | (with_reducible show wpList _ _ _ (Oper.mk (some 35) _ _ _ _ _ :: _) _ _; refine gate_guard rfl ?_; refine wpList_load_mid rfl 37 (.tmp 34) rfl g2 4 rfl M _ rM Try.underlying37 rfl ht4 ?_) | (with_reducible show wpList _ _ _ (Oper.mk (some 36) _ _ _ _ _ :: _) _ _; refine gate_guard rfl ?_; refine event_eq rfl 37 37 (.tmp 33) (.tmp 35) rfl L.toArray M.toArray _ rfl rfl hq4 (hT _) ?_) | (with_reducible show wpList _ _ _ (Oper.mk (some 47) _ _ _ _ _ :: _) _ _; refine gate_guard rfl ?_; refine wpList_load_mid rfl 39 (.tmp 46) rfl w.heap.size 37 rfl X _ rX Try.underlying39 rfl hs37 ?_) | (with_reducible show wpList _ _ _ (Oper.mk (some 49) _ _ _ _ _ :: _) _ _; refine gate_guard rfl ?_; refine wpList_load_mid rfl 39 (.tmp 48) rfl g2 37 rfl Y _ rY Try.underlying39 rfl ht37 ?_) | (with_reducible show wpList _ _ _ (Oper.mk (some 50) _ _ _ _ _ :: _) _ _; refine gate_guard rfl ?_; refine event_eq rfl 39 39 (.tmp 47) (.tmp 49) rfl X.toArray Y.toArray _ rfl rfl hq37 (hL _) ?_))
  refine (RSame_any f.A g.A f.n g.n f.c g.c f.args g.args w2 hf2 hg2).mono ?_
  rintro e w3 ⟨t7, rfl, h7, hb7⟩
  have a41 := (hF.below hb7).c41
  have b41 := (hG.below hb7).c41
  replace hb := below_step hb hb7
  cases t7
  · have HS : Hid (false = f.same g) := Lib.hid (by simp only [Fr.same, h0, h1, h2, h3, h4, h5, h6, ← h7.out, Bool.true_and, Bool.false_and])
    go_wp2_with fail
    go_ret
    exact ⟨_, rfl, HS, hb⟩
  · have HS : Hid ((f.body.toList == g.body.toList) = f.same g) := Lib.hid (by simp only [Fr.same, h0, h1, h2, h3, h4, h5, h6, ← h7.out, Bool.true_and])
    go_wp2_with fail
    go_ret
    exact ⟨_, rfl, HS, hb⟩
end Go.Proofs.Ytpjpgcjhdbiepaa
end
/-! The contracts of frame's makers. -/
section
namespace Go.Proofs.Ytpjpgcjhdbiepaa
open Go.RowKit Go.Kit Go.Proofs.YtpjpgcjhdbiepaaW.PrintWords
def zero32 : List Int := List.replicate 32 0
def byeF : Fr := ⟨5, 0, 0, 0, zero32, 0, 0, 0, 0, none, 0, 0, [], ByteArray.empty⟩
theorem frame_size : (Try.prog.info? 42).map (·.size) = some 42 := by kernel_rfl
theorem arr_one (f : Fr) : f.arr.all (·.oneCell') = true := by
  simp only [Fr.arr, Fr.cells, Fr.lim, List.all_toArray, List.all_append, Bool.and_eq_true, List.all_eq_true]
  refine ⟨?_, ?_, ?_, ?_, ?_⟩ <;> intro x hx
  · simp at hx; rcases hx with rfl | rfl | rfl | rfl <;> rfl
  · simp only [nums, List.mem_map] at hx; obtain ⟨q, _, rfl⟩ := hx; rfl
  all_goals simp at hx; rcases hx with rfl | rfl | rfl <;> rfl
theorem size_of (f : Fr) (h : f.tool.length = 32) : (Try.prog.info? 42).map (·.size) = some f.arr.size := by rw [frame_size, Fr.arr_size f h]
/-- What is built of some fields. -/
theorem built_of {w : World} {parts : Array (Nat × Value)} {cs : Array Value} (h : Try.prog.built 42 parts.toList = some cs) : (Instr.build 42 parts).run Try.prog w = .ok (.agg cs) w := run_build w _ _ _ h
attribute [-go_sem] Instr.build
attribute [-go_sem] Instr.loadAt
attribute [-go_sem] Instr.storeAt
end Go.Proofs.Ytpjpgcjhdbiepaa
end
/-! The kinds: their makers, of, and the fields that each has. (mk_frs.py) -/
section
namespace Go.Proofs.Ytpjpgcjhdbiepaa
open Go.RowKit Go.Kit Go.Proofs.YtpjpgcjhdbiepaaW.PrintWords
attribute [-go_sem] Instr.build
def fnV (f : Nat) : Value := .func (.func f) #[] #[]
def layN (k : Int) : Nat := if k = 1 then 70 else if k = 2 then 75 else if k = 3 then 85 else if k = 4 then 89 else if k = 5 then 93 else 96
def readN (k : Int) : Nat := if k = 1 then 72 else if k = 2 then 78 else if k = 3 then 86 else if k = 4 then 90 else if k = 5 then 94 else 97
def onlyN (k : Int) : Nat := if k = 1 then 73 else if k = 2 then 81 else if k = 3 then 87 else if k = 4 then 91 else if k = 5 then 95 else 98
def mayN (k : Int) : Nat := if k = 1 then 74 else if k = 2 then 82 else if k = 3 then 88 else if k = 4 then 92 else if k = 5 then 92 else 92
/-- A kind's row. -/
def kV (k : Int) : Array Value := #[fnV (layN k), fnV (readN k), fnV (onlyN k), fnV (mayN k)]
theorem kind_size4 : (Try.prog.info? 103).map (·.size) = some 4 := by kernel_rfl
theorem kind_size {k : Int} : (Try.prog.info? 103).map (·.size) = some (kV k).size := kind_size4
theorem hello_row : kV 1 = #[fnV 70, fnV 72, fnV 73, fnV 74] := by simp [kV, layN, readN, onlyN, mayN]
set_option maxRecDepth 100000 in
theorem hello_kind (k : Int) (hk : k = 1) (w : World) : Calls Try.prog 63 #[] w fun e w' => e = .returned (.agg (kV k)) ∧ Below w.heap.size w w' := by
  subst hk
  rw [hello_row]
  obtain ⟨KK, hKK⟩ : ∃ KK : Array Value, #[.func (.func 70) #[] #[], .func (.func 72) #[] #[], .func (.func 73) #[] #[], .func (.func 74) #[] #[]] = KK := ⟨_, rfl⟩
  have hsz : (Try.prog.info? 103).map (·.size) = some KK.size := by rw [← hKK]; exact kind_size4
  have hone : KK.all (·.oneCell') = true := by rw [← hKK]; simp [Value.oneCell']
  have h4 : (#[.nilFunc, .nilFunc, .nilFunc, .nilFunc] : Array Value).size = KK.size := by rw [← hKK]; rfl
  have hbl : ∀ W : World, (Instr.build 103 #[(0, .func (.func 70) #[] #[]), (1, .func (.func 72) #[] #[]), (2, .func (.func 73) #[] #[]), (3, .func (.func 74) #[] #[])]).run Try.prog W = .ok (.agg KK) W := fun W => by rw [← hKK]; kernel_rfl
  show Calls Try.prog _ _ _ fun e w' => e = .returned (.agg #[.func (.func 70) #[] #[], .func (.func 72) #[] #[], .func (.func 73) #[] #[], .func (.func 74) #[] #[]]) ∧ _
  rw [hKK]
  clear hKK
  go_enter Try.func63, Try.ntmps63
  go_upto_region 1 with (fail)
  have hblk := heap_alloc_new w (.cells #[.nilFunc, .nilFunc, .nilFunc, .nilFunc] 103)
  have hbel := below_alloc (Below.refl w.heap.size w) (.cells #[.nilFunc, .nilFunc, .nilFunc, .nilFunc] 103)
  generalize w.alloc (.cells #[.nilFunc, .nilFunc, .nilFunc, .nilFunc] 103) = w1 at *
  go_wp2_with (with_reducible show wpList _ _ _ (Oper.mk none _ _ _ _ _ :: _) _ _; refine wpList_store_row rfl 103 (.tmp 0) (.tmp 1) rfl w.heap.size KK rfl rfl 103 _ hblk hsz h4 hone ?_)
  exact bodyPost_ret (v := .agg KK) (results_cell_row rfl _ _ w.heap.size 103 KK (0, 0) _ rfl (setRow_heap _ _ _ _ _ _ hblk) Try.underlying103 rfl hsz) rfl ⟨rfl, below_setRow hbel (Nat.le_refl _) _⟩
theorem request_row : kV 2 = #[fnV 75, fnV 78, fnV 81, fnV 82] := by simp [kV, layN, readN, onlyN, mayN]
set_option maxRecDepth 100000 in
theorem request_kind (k : Int) (hk : k = 2) (w : World) : Calls Try.prog 64 #[] w fun e w' => e = .returned (.agg (kV k)) ∧ Below w.heap.size w w' := by
  subst hk
  rw [request_row]
  obtain ⟨KK, hKK⟩ : ∃ KK : Array Value, #[.func (.func 75) #[] #[], .func (.func 78) #[] #[], .func (.func 81) #[] #[], .func (.func 82) #[] #[]] = KK := ⟨_, rfl⟩
  have hsz : (Try.prog.info? 103).map (·.size) = some KK.size := by rw [← hKK]; exact kind_size4
  have hone : KK.all (·.oneCell') = true := by rw [← hKK]; simp [Value.oneCell']
  have h4 : (#[.nilFunc, .nilFunc, .nilFunc, .nilFunc] : Array Value).size = KK.size := by rw [← hKK]; rfl
  have hbl : ∀ W : World, (Instr.build 103 #[(0, .func (.func 75) #[] #[]), (1, .func (.func 78) #[] #[]), (2, .func (.func 81) #[] #[]), (3, .func (.func 82) #[] #[])]).run Try.prog W = .ok (.agg KK) W := fun W => by rw [← hKK]; kernel_rfl
  show Calls Try.prog _ _ _ fun e w' => e = .returned (.agg #[.func (.func 75) #[] #[], .func (.func 78) #[] #[], .func (.func 81) #[] #[], .func (.func 82) #[] #[]]) ∧ _
  rw [hKK]
  clear hKK
  go_enter Try.func64, Try.ntmps64
  go_upto_region 1 with (fail)
  have hblk := heap_alloc_new w (.cells #[.nilFunc, .nilFunc, .nilFunc, .nilFunc] 103)
  have hbel := below_alloc (Below.refl w.heap.size w) (.cells #[.nilFunc, .nilFunc, .nilFunc, .nilFunc] 103)
  generalize w.alloc (.cells #[.nilFunc, .nilFunc, .nilFunc, .nilFunc] 103) = w1 at *
  go_wp2_with (with_reducible show wpList _ _ _ (Oper.mk none _ _ _ _ _ :: _) _ _; refine wpList_store_row rfl 103 (.tmp 0) (.tmp 1) rfl w.heap.size KK rfl rfl 103 _ hblk hsz h4 hone ?_)
  exact bodyPost_ret (v := .agg KK) (results_cell_row rfl _ _ w.heap.size 103 KK (0, 0) _ rfl (setRow_heap _ _ _ _ _ _ hblk) Try.underlying103 rfl hsz) rfl ⟨rfl, below_setRow hbel (Nat.le_refl _) _⟩
theorem response_row : kV 3 = #[fnV 85, fnV 86, fnV 87, fnV 88] := by simp [kV, layN, readN, onlyN, mayN]
set_option maxRecDepth 100000 in
theorem response_kind (k : Int) (hk : k = 3) (w : World) : Calls Try.prog 65 #[] w fun e w' => e = .returned (.agg (kV k)) ∧ Below w.heap.size w w' := by
  subst hk
  rw [response_row]
  obtain ⟨KK, hKK⟩ : ∃ KK : Array Value, #[.func (.func 85) #[] #[], .func (.func 86) #[] #[], .func (.func 87) #[] #[], .func (.func 88) #[] #[]] = KK := ⟨_, rfl⟩
  have hsz : (Try.prog.info? 103).map (·.size) = some KK.size := by rw [← hKK]; exact kind_size4
  have hone : KK.all (·.oneCell') = true := by rw [← hKK]; simp [Value.oneCell']
  have h4 : (#[.nilFunc, .nilFunc, .nilFunc, .nilFunc] : Array Value).size = KK.size := by rw [← hKK]; rfl
  have hbl : ∀ W : World, (Instr.build 103 #[(0, .func (.func 85) #[] #[]), (1, .func (.func 86) #[] #[]), (2, .func (.func 87) #[] #[]), (3, .func (.func 88) #[] #[])]).run Try.prog W = .ok (.agg KK) W := fun W => by rw [← hKK]; kernel_rfl
  show Calls Try.prog _ _ _ fun e w' => e = .returned (.agg #[.func (.func 85) #[] #[], .func (.func 86) #[] #[], .func (.func 87) #[] #[], .func (.func 88) #[] #[]]) ∧ _
  rw [hKK]
  clear hKK
  go_enter Try.func65, Try.ntmps65
  go_upto_region 1 with (fail)
  have hblk := heap_alloc_new w (.cells #[.nilFunc, .nilFunc, .nilFunc, .nilFunc] 103)
  have hbel := below_alloc (Below.refl w.heap.size w) (.cells #[.nilFunc, .nilFunc, .nilFunc, .nilFunc] 103)
  generalize w.alloc (.cells #[.nilFunc, .nilFunc, .nilFunc, .nilFunc] 103) = w1 at *
  go_wp2_with (with_reducible show wpList _ _ _ (Oper.mk none _ _ _ _ _ :: _) _ _; refine wpList_store_row rfl 103 (.tmp 0) (.tmp 1) rfl w.heap.size KK rfl rfl 103 _ hblk hsz h4 hone ?_)
  exact bodyPost_ret (v := .agg KK) (results_cell_row rfl _ _ w.heap.size 103 KK (0, 0) _ rfl (setRow_heap _ _ _ _ _ _ hblk) Try.underlying103 rfl hsz) rfl ⟨rfl, below_setRow hbel (Nat.le_refl _) _⟩
theorem cancel_row : kV 4 = #[fnV 89, fnV 90, fnV 91, fnV 92] := by simp [kV, layN, readN, onlyN, mayN]
set_option maxRecDepth 100000 in
theorem cancel_kind (k : Int) (hk : k = 4) (w : World) : Calls Try.prog 66 #[] w fun e w' => e = .returned (.agg (kV k)) ∧ Below w.heap.size w w' := by
  subst hk
  rw [cancel_row]
  obtain ⟨KK, hKK⟩ : ∃ KK : Array Value, #[.func (.func 89) #[] #[], .func (.func 90) #[] #[], .func (.func 91) #[] #[], .func (.func 92) #[] #[]] = KK := ⟨_, rfl⟩
  have hsz : (Try.prog.info? 103).map (·.size) = some KK.size := by rw [← hKK]; exact kind_size4
  have hone : KK.all (·.oneCell') = true := by rw [← hKK]; simp [Value.oneCell']
  have h4 : (#[.nilFunc, .nilFunc, .nilFunc, .nilFunc] : Array Value).size = KK.size := by rw [← hKK]; rfl
  have hbl : ∀ W : World, (Instr.build 103 #[(0, .func (.func 89) #[] #[]), (1, .func (.func 90) #[] #[]), (2, .func (.func 91) #[] #[]), (3, .func (.func 92) #[] #[])]).run Try.prog W = .ok (.agg KK) W := fun W => by rw [← hKK]; kernel_rfl
  show Calls Try.prog _ _ _ fun e w' => e = .returned (.agg #[.func (.func 89) #[] #[], .func (.func 90) #[] #[], .func (.func 91) #[] #[], .func (.func 92) #[] #[]]) ∧ _
  rw [hKK]
  clear hKK
  go_enter Try.func66, Try.ntmps66
  go_upto_region 1 with (fail)
  have hblk := heap_alloc_new w (.cells #[.nilFunc, .nilFunc, .nilFunc, .nilFunc] 103)
  have hbel := below_alloc (Below.refl w.heap.size w) (.cells #[.nilFunc, .nilFunc, .nilFunc, .nilFunc] 103)
  generalize w.alloc (.cells #[.nilFunc, .nilFunc, .nilFunc, .nilFunc] 103) = w1 at *
  go_wp2_with (with_reducible show wpList _ _ _ (Oper.mk none _ _ _ _ _ :: _) _ _; refine wpList_store_row rfl 103 (.tmp 0) (.tmp 1) rfl w.heap.size KK rfl rfl 103 _ hblk hsz h4 hone ?_)
  exact bodyPost_ret (v := .agg KK) (results_cell_row rfl _ _ w.heap.size 103 KK (0, 0) _ rfl (setRow_heap _ _ _ _ _ _ hblk) Try.underlying103 rfl hsz) rfl ⟨rfl, below_setRow hbel (Nat.le_refl _) _⟩
theorem bye_row : kV 5 = #[fnV 93, fnV 94, fnV 95, fnV 92] := by simp [kV, layN, readN, onlyN, mayN]
set_option maxRecDepth 100000 in
theorem bye_kind (k : Int) (hk : k = 5) (w : World) : Calls Try.prog 67 #[] w fun e w' => e = .returned (.agg (kV k)) ∧ Below w.heap.size w w' := by
  subst hk
  rw [bye_row]
  obtain ⟨KK, hKK⟩ : ∃ KK : Array Value, #[.func (.func 93) #[] #[], .func (.func 94) #[] #[], .func (.func 95) #[] #[], .func (.func 92) #[] #[]] = KK := ⟨_, rfl⟩
  have hsz : (Try.prog.info? 103).map (·.size) = some KK.size := by rw [← hKK]; exact kind_size4
  have hone : KK.all (·.oneCell') = true := by rw [← hKK]; simp [Value.oneCell']
  have h4 : (#[.nilFunc, .nilFunc, .nilFunc, .nilFunc] : Array Value).size = KK.size := by rw [← hKK]; rfl
  have hbl : ∀ W : World, (Instr.build 103 #[(0, .func (.func 93) #[] #[]), (1, .func (.func 94) #[] #[]), (2, .func (.func 95) #[] #[]), (3, .func (.func 92) #[] #[])]).run Try.prog W = .ok (.agg KK) W := fun W => by rw [← hKK]; kernel_rfl
  show Calls Try.prog _ _ _ fun e w' => e = .returned (.agg #[.func (.func 93) #[] #[], .func (.func 94) #[] #[], .func (.func 95) #[] #[], .func (.func 92) #[] #[]]) ∧ _
  rw [hKK]
  clear hKK
  go_enter Try.func67, Try.ntmps67
  go_upto_region 1 with (fail)
  have hblk := heap_alloc_new w (.cells #[.nilFunc, .nilFunc, .nilFunc, .nilFunc] 103)
  have hbel := below_alloc (Below.refl w.heap.size w) (.cells #[.nilFunc, .nilFunc, .nilFunc, .nilFunc] 103)
  generalize w.alloc (.cells #[.nilFunc, .nilFunc, .nilFunc, .nilFunc] 103) = w1 at *
  go_wp2_with (with_reducible show wpList _ _ _ (Oper.mk none _ _ _ _ _ :: _) _ _; refine wpList_store_row rfl 103 (.tmp 0) (.tmp 1) rfl w.heap.size KK rfl rfl 103 _ hblk hsz h4 hone ?_)
  exact bodyPost_ret (v := .agg KK) (results_cell_row rfl _ _ w.heap.size 103 KK (0, 0) _ rfl (setRow_heap _ _ _ _ _ _ hblk) Try.underlying103 rfl hsz) rfl ⟨rfl, below_setRow hbel (Nat.le_refl _) _⟩
theorem note_row : kV 6 = #[fnV 96, fnV 97, fnV 98, fnV 92] := by simp [kV, layN, readN, onlyN, mayN]
set_option maxRecDepth 100000 in
theorem note_kind (k : Int) (hk : k = 6) (w : World) : Calls Try.prog 68 #[] w fun e w' => e = .returned (.agg (kV k)) ∧ Below w.heap.size w w' := by
  subst hk
  rw [note_row]
  obtain ⟨KK, hKK⟩ : ∃ KK : Array Value, #[.func (.func 96) #[] #[], .func (.func 97) #[] #[], .func (.func 98) #[] #[], .func (.func 92) #[] #[]] = KK := ⟨_, rfl⟩
  have hsz : (Try.prog.info? 103).map (·.size) = some KK.size := by rw [← hKK]; exact kind_size4
  have hone : KK.all (·.oneCell') = true := by rw [← hKK]; simp [Value.oneCell']
  have h4 : (#[.nilFunc, .nilFunc, .nilFunc, .nilFunc] : Array Value).size = KK.size := by rw [← hKK]; rfl
  have hbl : ∀ W : World, (Instr.build 103 #[(0, .func (.func 96) #[] #[]), (1, .func (.func 97) #[] #[]), (2, .func (.func 98) #[] #[]), (3, .func (.func 92) #[] #[])]).run Try.prog W = .ok (.agg KK) W := fun W => by rw [← hKK]; kernel_rfl
  show Calls Try.prog _ _ _ fun e w' => e = .returned (.agg #[.func (.func 96) #[] #[], .func (.func 97) #[] #[], .func (.func 98) #[] #[], .func (.func 92) #[] #[]]) ∧ _
  rw [hKK]
  clear hKK
  go_enter Try.func68, Try.ntmps68
  go_upto_region 1 with (fail)
  have hblk := heap_alloc_new w (.cells #[.nilFunc, .nilFunc, .nilFunc, .nilFunc] 103)
  have hbel := below_alloc (Below.refl w.heap.size w) (.cells #[.nilFunc, .nilFunc, .nilFunc, .nilFunc] 103)
  generalize w.alloc (.cells #[.nilFunc, .nilFunc, .nilFunc, .nilFunc] 103) = w1 at *
  go_wp2_with (with_reducible show wpList _ _ _ (Oper.mk none _ _ _ _ _ :: _) _ _; refine wpList_store_row rfl 103 (.tmp 0) (.tmp 1) rfl w.heap.size KK rfl rfl 103 _ hblk hsz h4 hone ?_)
  exact bodyPost_ret (v := .agg KK) (results_cell_row rfl _ _ w.heap.size 103 KK (0, 0) _ rfl (setRow_heap _ _ _ _ _ _ hblk) Try.underlying103 rfl hsz) rfl ⟨rfl, below_setRow hbel (Nat.le_refl _) _⟩
end Go.Proofs.Ytpjpgcjhdbiepaa
end
/-! The contract of frame.of. (mk_frt.py) -/
section
namespace Go.Proofs.Ytpjpgcjhdbiepaa
open Go.RowKit Go.Kit Go.Proofs.YtpjpgcjhdbiepaaW.PrintWords
theorem results_cell_row_tmp {P : Program} {fn : Func} {p u : Tmp} {ty : TypeId} (h : fn.results = #[.cell p ty, .tmp u]) (tmps : Array Value) (w : World) (g : Nat) (t : TypeId) (cs : Array Value) (fr : Nat × Nat) (d : TypeDesc)
    (hp : tmps.getD p undef = .pointer (some ⟨g, 0, none⟩)) (hg : w.heap[g]? = some (.cells cs t fr))
    (hu : P.underlying ty = some d) (hd : (match d with | .struct _ | .array _ _ => true | _ => false) = true) (hi : (P.info? ty).map (·.size) = some cs.size) (v : Value) (hv : tmps.getD u undef = v) :
    (results fn tmps).run P w = .ok (.tuple #[.agg cs, v]) w := by
  subst hv
  have hp' : tmps[p]?.getD undef = .pointer (some ⟨g, 0, none⟩) := by simpa using hp
  simp [results, h, hp', asAddr, run_loadVar_row w g t ty cs fr d hg hu hd hi]
theorem results_cell_row2 {P : Program} {fn : Func} {p q : Tmp} {ty ty2 : TypeId} (h : fn.results = #[.cell p ty, .cell q ty2]) (tmps : Array Value) (w : World) (g g2 : Nat) (t t2 : TypeId) (cs cs2 : Array Value) (fr fr2 : Nat × Nat) (d d2 : TypeDesc)
    (hp : tmps.getD p undef = .pointer (some ⟨g, 0, none⟩)) (hg : w.heap[g]? = some (.cells cs t fr))
    (hu : P.underlying ty = some d) (hd : (match d with | .struct _ | .array _ _ => true | _ => false) = true) (hi : (P.info? ty).map (·.size) = some cs.size)
    (hp2 : tmps.getD q undef = .pointer (some ⟨g2, 0, none⟩)) (hg2 : w.heap[g2]? = some (.cells cs2 t2 fr2))
    (hu2 : P.underlying ty2 = some d2) (hd2 : (match d2 with | .struct _ | .array _ _ => true | _ => false) = true) (hi2 : (P.info? ty2).map (·.size) = some cs2.size) :
    (results fn tmps).run P w = .ok (.tuple #[.agg cs, .agg cs2]) w := by
  have hp' : tmps[p]?.getD undef = .pointer (some ⟨g, 0, none⟩) := by simpa using hp
  have hp2' : tmps[q]?.getD undef = .pointer (some ⟨g2, 0, none⟩) := by simpa using hp2
  simp [results, h, hp', hp2', asAddr, run_loadVar_row w g t ty cs fr d hg hu hd hi, run_loadVar_row w g2 t2 ty2 cs2 fr2 d2 hg2 hu2 hd2 hi2]
theorem kind_one (k : Int) : (kV k).all (·.oneCell') = true := by unfold kV fnV; simp [Value.oneCell']
attribute [-go_sem] Instr.storeAt
set_option maxHeartbeats 1000000 in
set_option maxRecDepth 100000 in
theorem of_hello (k : Int) (hk : k = 1) (w : World) : Calls Try.prog 54 #[.int .i64 k] w fun e w' => e = .returned (.tuple #[.agg (kV k), .bool true]) ∧ Below w.heap.size w w' := by
  have hc := fun W => hello_kind k hk W
  have hsz := kind_size (k := k)
  have hone := kind_one k
  have h4 : (#[.nilFunc, .nilFunc, .nilFunc, .nilFunc] : Array Value).size = (kV k).size := rfl
  generalize kV k = KK at *
  subst hk
  go_enter Try.func54, Try.ntmps54
  have hblk : ((w.alloc (.cells #[.nilFunc, .nilFunc, .nilFunc, .nilFunc] 103)).alloc (.cells #[.func (.func 63) #[] #[], .func (.func 64) #[] #[], .func (.func 65) #[] #[], .func (.func 66) #[] #[], .func (.func 67) #[] #[], .func (.func 68) #[] #[]] 116)).heap[w.heap.size]? = some (.cells #[.nilFunc, .nilFunc, .nilFunc, .nilFunc] 103 (0, 0)) := (heap_alloc_old _ _ (by simp)).trans (heap_alloc_new w _)
  have hbel := below_alloc (below_alloc (Below.refl _ w) (.cells #[.nilFunc, .nilFunc, .nilFunc, .nilFunc] 103)) (.cells #[.func (.func 63) #[] #[], .func (.func 64) #[] #[], .func (.func 65) #[] #[], .func (.func 66) #[] #[], .func (.func 67) #[] #[], .func (.func 68) #[] #[]] 116)
  go_wp2_with fail
  refine (hc _).mono ?_
  rintro e w2 ⟨rfl, hb2⟩
  have hblk2 := (hb2.block _ (lt_of_block hblk)).trans hblk
  have hb3 := below_step hbel hb2
  clear hblk hbel hb2 hc
  go_wp2_with (with_reducible show wpList _ _ _ (Oper.mk none _ _ _ _ _ :: _) _ _; refine wpList_store_row rfl 103 (.tmp 2) (.tmp 20) rfl w.heap.size KK rfl rfl 103 _ hblk2 hsz h4 hone ?_)
  exact bodyPost_ret (v := .tuple #[.agg KK, .bool true]) (results_cell_row_tmp rfl _ _ w.heap.size 103 KK (0, 0) _ rfl (setRow_heap _ _ _ _ _ _ hblk2) Try.underlying103 rfl hsz _ rfl) rfl ⟨rfl, below_setRow hb3 (Nat.le_refl _) _⟩
set_option maxHeartbeats 1000000 in
set_option maxRecDepth 100000 in
theorem of_request (k : Int) (hk : k = 2) (w : World) : Calls Try.prog 54 #[.int .i64 k] w fun e w' => e = .returned (.tuple #[.agg (kV k), .bool true]) ∧ Below w.heap.size w w' := by
  have hc := fun W => request_kind k hk W
  have hsz := kind_size (k := k)
  have hone := kind_one k
  have h4 : (#[.nilFunc, .nilFunc, .nilFunc, .nilFunc] : Array Value).size = (kV k).size := rfl
  generalize kV k = KK at *
  subst hk
  go_enter Try.func54, Try.ntmps54
  have hblk : ((w.alloc (.cells #[.nilFunc, .nilFunc, .nilFunc, .nilFunc] 103)).alloc (.cells #[.func (.func 63) #[] #[], .func (.func 64) #[] #[], .func (.func 65) #[] #[], .func (.func 66) #[] #[], .func (.func 67) #[] #[], .func (.func 68) #[] #[]] 116)).heap[w.heap.size]? = some (.cells #[.nilFunc, .nilFunc, .nilFunc, .nilFunc] 103 (0, 0)) := (heap_alloc_old _ _ (by simp)).trans (heap_alloc_new w _)
  have hbel := below_alloc (below_alloc (Below.refl _ w) (.cells #[.nilFunc, .nilFunc, .nilFunc, .nilFunc] 103)) (.cells #[.func (.func 63) #[] #[], .func (.func 64) #[] #[], .func (.func 65) #[] #[], .func (.func 66) #[] #[], .func (.func 67) #[] #[], .func (.func 68) #[] #[]] 116)
  go_wp2_with fail
  refine (hc _).mono ?_
  rintro e w2 ⟨rfl, hb2⟩
  have hblk2 := (hb2.block _ (lt_of_block hblk)).trans hblk
  have hb3 := below_step hbel hb2
  clear hblk hbel hb2 hc
  go_wp2_with (with_reducible show wpList _ _ _ (Oper.mk none _ _ _ _ _ :: _) _ _; refine wpList_store_row rfl 103 (.tmp 2) (.tmp 20) rfl w.heap.size KK rfl rfl 103 _ hblk2 hsz h4 hone ?_)
  exact bodyPost_ret (v := .tuple #[.agg KK, .bool true]) (results_cell_row_tmp rfl _ _ w.heap.size 103 KK (0, 0) _ rfl (setRow_heap _ _ _ _ _ _ hblk2) Try.underlying103 rfl hsz _ rfl) rfl ⟨rfl, below_setRow hb3 (Nat.le_refl _) _⟩
set_option maxHeartbeats 1000000 in
set_option maxRecDepth 100000 in
theorem of_response (k : Int) (hk : k = 3) (w : World) : Calls Try.prog 54 #[.int .i64 k] w fun e w' => e = .returned (.tuple #[.agg (kV k), .bool true]) ∧ Below w.heap.size w w' := by
  have hc := fun W => response_kind k hk W
  have hsz := kind_size (k := k)
  have hone := kind_one k
  have h4 : (#[.nilFunc, .nilFunc, .nilFunc, .nilFunc] : Array Value).size = (kV k).size := rfl
  generalize kV k = KK at *
  subst hk
  go_enter Try.func54, Try.ntmps54
  have hblk : ((w.alloc (.cells #[.nilFunc, .nilFunc, .nilFunc, .nilFunc] 103)).alloc (.cells #[.func (.func 63) #[] #[], .func (.func 64) #[] #[], .func (.func 65) #[] #[], .func (.func 66) #[] #[], .func (.func 67) #[] #[], .func (.func 68) #[] #[]] 116)).heap[w.heap.size]? = some (.cells #[.nilFunc, .nilFunc, .nilFunc, .nilFunc] 103 (0, 0)) := (heap_alloc_old _ _ (by simp)).trans (heap_alloc_new w _)
  have hbel := below_alloc (below_alloc (Below.refl _ w) (.cells #[.nilFunc, .nilFunc, .nilFunc, .nilFunc] 103)) (.cells #[.func (.func 63) #[] #[], .func (.func 64) #[] #[], .func (.func 65) #[] #[], .func (.func 66) #[] #[], .func (.func 67) #[] #[], .func (.func 68) #[] #[]] 116)
  go_wp2_with fail
  refine (hc _).mono ?_
  rintro e w2 ⟨rfl, hb2⟩
  have hblk2 := (hb2.block _ (lt_of_block hblk)).trans hblk
  have hb3 := below_step hbel hb2
  clear hblk hbel hb2 hc
  go_wp2_with (with_reducible show wpList _ _ _ (Oper.mk none _ _ _ _ _ :: _) _ _; refine wpList_store_row rfl 103 (.tmp 2) (.tmp 20) rfl w.heap.size KK rfl rfl 103 _ hblk2 hsz h4 hone ?_)
  exact bodyPost_ret (v := .tuple #[.agg KK, .bool true]) (results_cell_row_tmp rfl _ _ w.heap.size 103 KK (0, 0) _ rfl (setRow_heap _ _ _ _ _ _ hblk2) Try.underlying103 rfl hsz _ rfl) rfl ⟨rfl, below_setRow hb3 (Nat.le_refl _) _⟩
set_option maxHeartbeats 1000000 in
set_option maxRecDepth 100000 in
theorem of_cancel (k : Int) (hk : k = 4) (w : World) : Calls Try.prog 54 #[.int .i64 k] w fun e w' => e = .returned (.tuple #[.agg (kV k), .bool true]) ∧ Below w.heap.size w w' := by
  have hc := fun W => cancel_kind k hk W
  have hsz := kind_size (k := k)
  have hone := kind_one k
  have h4 : (#[.nilFunc, .nilFunc, .nilFunc, .nilFunc] : Array Value).size = (kV k).size := rfl
  generalize kV k = KK at *
  subst hk
  go_enter Try.func54, Try.ntmps54
  have hblk : ((w.alloc (.cells #[.nilFunc, .nilFunc, .nilFunc, .nilFunc] 103)).alloc (.cells #[.func (.func 63) #[] #[], .func (.func 64) #[] #[], .func (.func 65) #[] #[], .func (.func 66) #[] #[], .func (.func 67) #[] #[], .func (.func 68) #[] #[]] 116)).heap[w.heap.size]? = some (.cells #[.nilFunc, .nilFunc, .nilFunc, .nilFunc] 103 (0, 0)) := (heap_alloc_old _ _ (by simp)).trans (heap_alloc_new w _)
  have hbel := below_alloc (below_alloc (Below.refl _ w) (.cells #[.nilFunc, .nilFunc, .nilFunc, .nilFunc] 103)) (.cells #[.func (.func 63) #[] #[], .func (.func 64) #[] #[], .func (.func 65) #[] #[], .func (.func 66) #[] #[], .func (.func 67) #[] #[], .func (.func 68) #[] #[]] 116)
  go_wp2_with fail
  refine (hc _).mono ?_
  rintro e w2 ⟨rfl, hb2⟩
  have hblk2 := (hb2.block _ (lt_of_block hblk)).trans hblk
  have hb3 := below_step hbel hb2
  clear hblk hbel hb2 hc
  go_wp2_with (with_reducible show wpList _ _ _ (Oper.mk none _ _ _ _ _ :: _) _ _; refine wpList_store_row rfl 103 (.tmp 2) (.tmp 20) rfl w.heap.size KK rfl rfl 103 _ hblk2 hsz h4 hone ?_)
  exact bodyPost_ret (v := .tuple #[.agg KK, .bool true]) (results_cell_row_tmp rfl _ _ w.heap.size 103 KK (0, 0) _ rfl (setRow_heap _ _ _ _ _ _ hblk2) Try.underlying103 rfl hsz _ rfl) rfl ⟨rfl, below_setRow hb3 (Nat.le_refl _) _⟩
set_option maxHeartbeats 1000000 in
set_option maxRecDepth 100000 in
theorem of_bye (k : Int) (hk : k = 5) (w : World) : Calls Try.prog 54 #[.int .i64 k] w fun e w' => e = .returned (.tuple #[.agg (kV k), .bool true]) ∧ Below w.heap.size w w' := by
  have hc := fun W => bye_kind k hk W
  have hsz := kind_size (k := k)
  have hone := kind_one k
  have h4 : (#[.nilFunc, .nilFunc, .nilFunc, .nilFunc] : Array Value).size = (kV k).size := rfl
  generalize kV k = KK at *
  subst hk
  go_enter Try.func54, Try.ntmps54
  have hblk : ((w.alloc (.cells #[.nilFunc, .nilFunc, .nilFunc, .nilFunc] 103)).alloc (.cells #[.func (.func 63) #[] #[], .func (.func 64) #[] #[], .func (.func 65) #[] #[], .func (.func 66) #[] #[], .func (.func 67) #[] #[], .func (.func 68) #[] #[]] 116)).heap[w.heap.size]? = some (.cells #[.nilFunc, .nilFunc, .nilFunc, .nilFunc] 103 (0, 0)) := (heap_alloc_old _ _ (by simp)).trans (heap_alloc_new w _)
  have hbel := below_alloc (below_alloc (Below.refl _ w) (.cells #[.nilFunc, .nilFunc, .nilFunc, .nilFunc] 103)) (.cells #[.func (.func 63) #[] #[], .func (.func 64) #[] #[], .func (.func 65) #[] #[], .func (.func 66) #[] #[], .func (.func 67) #[] #[], .func (.func 68) #[] #[]] 116)
  go_wp2_with fail
  refine (hc _).mono ?_
  rintro e w2 ⟨rfl, hb2⟩
  have hblk2 := (hb2.block _ (lt_of_block hblk)).trans hblk
  have hb3 := below_step hbel hb2
  clear hblk hbel hb2 hc
  go_wp2_with (with_reducible show wpList _ _ _ (Oper.mk none _ _ _ _ _ :: _) _ _; refine wpList_store_row rfl 103 (.tmp 2) (.tmp 20) rfl w.heap.size KK rfl rfl 103 _ hblk2 hsz h4 hone ?_)
  exact bodyPost_ret (v := .tuple #[.agg KK, .bool true]) (results_cell_row_tmp rfl _ _ w.heap.size 103 KK (0, 0) _ rfl (setRow_heap _ _ _ _ _ _ hblk2) Try.underlying103 rfl hsz _ rfl) rfl ⟨rfl, below_setRow hb3 (Nat.le_refl _) _⟩
set_option maxHeartbeats 1000000 in
set_option maxRecDepth 100000 in
theorem of_note (k : Int) (hk : k = 6) (w : World) : Calls Try.prog 54 #[.int .i64 k] w fun e w' => e = .returned (.tuple #[.agg (kV k), .bool true]) ∧ Below w.heap.size w w' := by
  have hc := fun W => note_kind k hk W
  have hsz := kind_size (k := k)
  have hone := kind_one k
  have h4 : (#[.nilFunc, .nilFunc, .nilFunc, .nilFunc] : Array Value).size = (kV k).size := rfl
  generalize kV k = KK at *
  subst hk
  go_enter Try.func54, Try.ntmps54
  have hblk : ((w.alloc (.cells #[.nilFunc, .nilFunc, .nilFunc, .nilFunc] 103)).alloc (.cells #[.func (.func 63) #[] #[], .func (.func 64) #[] #[], .func (.func 65) #[] #[], .func (.func 66) #[] #[], .func (.func 67) #[] #[], .func (.func 68) #[] #[]] 116)).heap[w.heap.size]? = some (.cells #[.nilFunc, .nilFunc, .nilFunc, .nilFunc] 103 (0, 0)) := (heap_alloc_old _ _ (by simp)).trans (heap_alloc_new w _)
  have hbel := below_alloc (below_alloc (Below.refl _ w) (.cells #[.nilFunc, .nilFunc, .nilFunc, .nilFunc] 103)) (.cells #[.func (.func 63) #[] #[], .func (.func 64) #[] #[], .func (.func 65) #[] #[], .func (.func 66) #[] #[], .func (.func 67) #[] #[], .func (.func 68) #[] #[]] 116)
  go_wp2_with fail
  refine (hc _).mono ?_
  rintro e w2 ⟨rfl, hb2⟩
  have hblk2 := (hb2.block _ (lt_of_block hblk)).trans hblk
  have hb3 := below_step hbel hb2
  clear hblk hbel hb2 hc
  go_wp2_with (with_reducible show wpList _ _ _ (Oper.mk none _ _ _ _ _ :: _) _ _; refine wpList_store_row rfl 103 (.tmp 2) (.tmp 20) rfl w.heap.size KK rfl rfl 103 _ hblk2 hsz h4 hone ?_)
  exact bodyPost_ret (v := .tuple #[.agg KK, .bool true]) (results_cell_row_tmp rfl _ _ w.heap.size 103 KK (0, 0) _ rfl (setRow_heap _ _ _ _ _ _ hblk2) Try.underlying103 rfl hsz _ rfl) rfl ⟨rfl, below_setRow hb3 (Nat.le_refl _) _⟩
theorem of_any (k : Int) (h1 : 1 ≤ k) (h6 : k ≤ 6) (w : World) : Calls Try.prog 54 #[.int .i64 k] w fun e w' => e = .returned (.tuple #[.agg (kV k), .bool true]) ∧ Below w.heap.size w w' := by
  rcases (by omega : k = 1 ∨ k = 2 ∨ k = 3 ∨ k = 4 ∨ k = 5 ∨ k = 6) with h | h | h | h | h | h
  · exact of_hello k h w
  · exact of_request k h w
  · exact of_response k h w
  · exact of_cancel k h w
  · exact of_bye k h w
  · exact of_note k h w
set_option maxHeartbeats 1000000 in
set_option maxRecDepth 100000 in
theorem of_bad (k : Int) (hk : k < 1 ∨ 6 < k) (w : World) : Calls Try.prog 54 #[.int .i64 k] w fun e w' => e = .returned (.tuple #[.agg #[.nilFunc, .nilFunc, .nilFunc, .nilFunc], .bool false]) ∧ Below w.heap.size w w' := by
  have hsz : (Try.prog.info? 103).map (·.size) = some (#[.nilFunc, .nilFunc, .nilFunc, .nilFunc] : Array Value).size := kind_size4
  have hbl : ∀ W : World, (Instr.build 103 #[]).run Try.prog W = .ok (.agg #[.nilFunc, .nilFunc, .nilFunc, .nilFunc]) W := fun W => by kernel_rfl
  have hbel := below_alloc (below_alloc (Below.refl _ w) (.cells #[.nilFunc, .nilFunc, .nilFunc, .nilFunc] 103)) (.cells #[.func (.func 63) #[] #[], .func (.func 64) #[] #[], .func (.func 65) #[] #[], .func (.func 66) #[] #[], .func (.func 67) #[] #[], .func (.func 68) #[] #[]] 116)
  have hblk : ((w.alloc (.cells #[.nilFunc, .nilFunc, .nilFunc, .nilFunc] 103)).alloc (.cells #[.func (.func 63) #[] #[], .func (.func 64) #[] #[], .func (.func 65) #[] #[], .func (.func 66) #[] #[], .func (.func 67) #[] #[], .func (.func 68) #[] #[]] 116)).heap[w.heap.size]? = some (.cells #[.nilFunc, .nilFunc, .nilFunc, .nilFunc] 103 (0, 0)) := (heap_alloc_old _ _ (by simp)).trans (heap_alloc_new w _)
  by_cases h1 : k < 1
  all_goals
    have h6 : ¬ k < 1 → k > 6 := fun h => by omega
    try have h6 := h6 h1
    clear hk
    go_enter Try.func54, Try.ntmps54
    go_upto_region 3 with (fail)
    generalize ((w.alloc (.cells #[.nilFunc, .nilFunc, .nilFunc, .nilFunc] 103)).alloc (.cells #[.func (.func 63) #[] #[], .func (.func 64) #[] #[], .func (.func 65) #[] #[], .func (.func 66) #[] #[], .func (.func 67) #[] #[], .func (.func 68) #[] #[]] 116)) = w1 at *
    go_wp2_with (with_reducible show wpList _ _ _ (Oper.mk none _ _ _ _ _ :: _) _ _; refine wpList_store_row rfl 103 (.tmp 2) (.tmp 14) rfl w.heap.size #[.nilFunc, .nilFunc, .nilFunc, .nilFunc] rfl rfl 103 _ hblk hsz rfl (by simp [Value.oneCell']) ?_)
    exact bodyPost_ret (v := .tuple #[.agg #[.nilFunc, .nilFunc, .nilFunc, .nilFunc], .bool false]) (results_cell_row_tmp rfl _ _ w.heap.size 103 #[.nilFunc, .nilFunc, .nilFunc, .nilFunc] (0, 0) _ rfl (setRow_heap _ _ _ _ _ _ hblk) Try.underlying103 rfl hsz _ rfl) rfl ⟨rfl, below_setRow hbel (Nat.le_refl _) _⟩
end Go.Proofs.Ytpjpgcjhdbiepaa
end
/-! The walk of FrameSame. -/
section
namespace Go.Proofs.Ytpjpgcjhdbiepaa
open Go.RowKit Go.Kit Go.Proofs.YtpjpgcjhdbiepaaW.PrintWords
theorem sameT_self (l : List ByteArray) : sameT l l = true := decide_eq_true rfl
theorem same_self (f : Fr) : f.same f = true := by simp [Fr.same, sameT_self]
theorem beq_sym (a b : Int) : (a == b) = (b == a) := by rw [Bool.eq_iff_iff, beq_iff_eq, beq_iff_eq]; exact eq_comm
theorem same_sym (f g : Fr) : f.same g = g.same f := by
  have h1 : decide (f.tool = g.tool) = decide (g.tool = f.tool) := by rw [decide_eq_decide]; exact eq_comm
  have h2 : sameT f.args g.args = sameT g.args f.args := by unfold sameT; rw [decide_eq_decide]; exact eq_comm
  have h3 : (f.body.toList == g.body.toList) = (g.body.toList == f.body.toList) := by rw [Bool.eq_iff_iff, beq_iff_eq, beq_iff_eq]; exact eq_comm
  unfold Fr.same
  rw [h1, h2, h3, beq_sym f.k, beq_sym f.id, beq_sym f.v, beq_sym f.s, beq_sym f.st, beq_sym f.mo, beq_sym f.fu, beq_sym f.di]
theorem rSame_is (f g : Fr) (s : Bool) (h : f.same g = s) (w : World) (hf : f.ok w) (hg : g.ok w) :
    Calls Try.prog 28 #[f.val, g.val] w fun e w' => e = .returned (.bool s) ∧ Below w.heap.size w w' :=
  (rSame_any f g w hf hg).mono fun e w' ⟨t, he, ht, hb⟩ => ⟨by rw [he, ht.out, h], hb⟩
theorem load_frame (f : Fr) (hi : (Try.prog.info? 42).map (·.size) = some f.cells.length) (W : World) (ga : Nat) (h : f.at_ 42 W ga) :
    (Instr.loadAt 42 (.pointer (some ⟨ga, 0, none⟩))).run Try.prog W = .ok (.agg f.arr) W :=
  run_loadAt_mid W ga 0 42 f.cells _ (h.range 0 _ (fun j v h => by rw [Nat.zero_add]; exact h)) Try.underlying42 rfl hi
attribute [-go_sem] Instr.loadAt
end Go.Proofs.Ytpjpgcjhdbiepaa
end
/-! The contracts of what the kinds' only and may do. (mk_fru.py) -/
section
namespace Go.Proofs.Ytpjpgcjhdbiepaa
open Go.RowKit Go.Kit Go.Proofs.YtpjpgcjhdbiepaaW.PrintWords
attribute [-go_sem] Instr.build
def only1 (f : Fr) : Fr := ⟨0, 0, f.v, f.s, f.tool, 0, 0, 0, 0, none, 0, 0, [], ByteArray.empty⟩
def only2 (f : Fr) : Fr := ⟨0, f.id, 0, 0, z32, 0, f.mo, f.fu, f.di, f.A, f.n, f.c, f.args, f.body⟩
def only3 (f : Fr) : Fr := ⟨0, f.id, 0, 0, z32, f.st, 0, 0, 0, none, 0, 0, [], f.body⟩
def only4 (f : Fr) : Fr := ⟨0, f.id, 0, 0, z32, 0, 0, 0, 0, none, 0, 0, [], ByteArray.empty⟩
def only6 (f : Fr) : Fr := ⟨0, 0, 0, 0, z32, 0, 0, 0, 0, none, 0, 0, [], f.body⟩
def onlyG (k : Int) (f : Fr) : Fr := if k = 1 then only1 f else if k = 2 then only2 f else if k = 3 then only3 f else if k = 4 then only4 f else if k = 5 then noF else only6 f
theorem tool_at {W : World} {g : Nat} {f : Fr} (h : f.at_ 42 W g) : (Instr.loadAt 37 (.pointer (some ⟨g, 4, none⟩))).run Try.prog W = .ok (.agg (nums .u8 f.tool).toArray) W :=
  run_loadAt_mid W g 4 37 (nums .u8 f.tool) _ h.r4 Try.underlying37 rfl (tool_size f h.tool)
theorem lim_at {W : World} {g : Nat} {f : Fr} (h : f.at_ 42 W g) : (Instr.loadAt 39 (.pointer (some ⟨g, 37, none⟩))).run Try.prog W = .ok (.agg f.lim.toArray) W :=
  run_loadAt_mid W g 37 39 f.lim _ h.r37 Try.underlying39 rfl (by kernel_rfl)
end Go.Proofs.Ytpjpgcjhdbiepaa
end
/-! The contracts of slices.ContainsFunc over long texts, and of the kinds' may. -/
section
namespace Go.Proofs.Ytpjpgcjhdbiepaa
open Go.RowKit Go.Kit Go.Proofs.YtpjpgcjhdbiepaaW.PrintWords
section
variable {f : Fr} {w : World}
theorem boxed (hf : f.tool.length = 32) (w : World) : f.at_ 42 (w.alloc (.cells f.arr 42)) w.heap.size := ⟨heap_alloc_new w _, hf⟩
theorem body_empty (s : ByteArray) : s.toList.isEmpty = decide (s.size = 0) := by
  rw [Bool.eq_iff_iff, List.isEmpty_iff, decide_eq_true_iff]
  constructor
  · intro h
    have h2 : s.toList = ByteArray.empty.toList := by rw [h]; simp
    rw [bs_inj h2]; rfl
  · intro h
    have : s = ByteArray.empty := by
      cases s with | mk d => 
        have : d = #[] := Array.eq_empty_of_size_eq_zero h
        rw [this]; rfl
    rw [this]; simp
end
end Go.Proofs.Ytpjpgcjhdbiepaa
end
/-! wire.Size; the document's Int, Bool, Text, Texts, List; the law's lay and told. -/
section
namespace Go.Proofs.Ytpjpgcjhdbiepaa
open Go.RowKit Go.Kit Go.Proofs.YtpjpgcjhdbiepaaW.PrintWords
section
variable {w : World}
set_option maxHeartbeats 1000000 in
theorem rText_any (s : ByteArray) (hs : s.size ≤ 140737488355000) : Calls Try.prog 32 #[.string s] w fun e w' => ∃ v, e = .returned v ∧ OB 5 w' w.heap.size v (txt s) ∧ Below w.heap.size w w' := by
  have HS := Lib.hid hs
  go_enter Try.func32, Try.ntmps32
  go_wp2_with fail
  refine (rUint_any s.size w (by omega)).mono ?_
  rintro e w1 ⟨v, rfl, hO, hb⟩
  have hln : (sh s.size).length + s.size ≤ 140737488355328 := by
    have h3 := sh_ten (n := s.size) (by omega)
    omega
  go_wp2_with (at_builtin; refine push_text (w0 := w) w.heap.size rfl (.tmp 6) (.tmp 7) 23 9 s rfl Try.underlying23 Try.underlying9 u8_info rfl rfl hO hb hb.size hln ?_)
  intro v2 w2 hO2 hb4 _
  go_wp2_with fail
  go_ret
  exact ⟨_, rfl, hO2, hb4⟩
end
set_option maxHeartbeats 2000000 in
set_option maxRecDepth 100000 in
theorem rTexts_any {w : World} {B : Option Addr} {m c : Nat} {l : List ByteArray} (hT : RT w B m l) (K : Nat) (hK : K ≤ 140737488355000) (hs : ∀ s ∈ l, s.size ≤ K) (hl : m * (10 + K) ≤ 140737488355328) :
    Calls Try.prog 40 #[.slice B m c] w fun e w' => ∃ v', e = .returned v' ∧ OB 5 w' w.heap.size v' (txts l) ∧ Below w.heap.size w w' := by
  have hmm := hT.max
  have HLn := Lib.hid hT.len
  have HS := Lib.hid hs
  have HL : Hid (∀ i, i < m → (txts (l.take i)).length + 10 + K ≤ 140737488355328) := Lib.hid (fun i hi => by
    have h1 := txts_length (l.take i) K (by omega) (fun s h => hs s (List.mem_of_mem_take h))
    have h2 : (l.take i).length ≤ i := List.length_take_le _ _
    have h3 := Nat.mul_le_mul_right (10 + K) (show (l.take i).length + 1 ≤ m by omega)
    rw [Nat.add_mul] at h3
    omega)
  clear hs hl
  go_enter Try.func40, Try.ntmps40
  go_wp2_with fail
  go_loopg [3, 4] m (fun gk v0 v1 w' => ∃ (i : Nat), v1 = .int .i64 (i : Int) ∧ OB 5 w' w.heap.size v0 (txts (l.take i)) ∧ Below w.heap.size w w' ∧ Hid (i ≤ m ∧ gk = m - i))
  case atStart => exact ⟨0, rfl, by simpa [txts] using OB.nil _ _ _, Below.refl _ _, by omega, rfl⟩
  case round =>
    obtain ⟨i, rfl, hO, hb1, HG⟩ := hrel
    have hsz := hb1.size
    by_cases hi : i < m
    · have hi2 : (i : Int) < (m : Int) := by omega
      obtain ⟨ad, s, rfl, hc, HX⟩ := (hT.below hb1).at_ i hi
      have HSZ : Hid (s.size ≤ K) := Lib.hid (HS.out s (List.mem_of_getElem? HX.out))
      have HLi := Lib.hid (HL.out i hi)
      go_wp2_with fail
      refine (rText_any s (by have := HSZ.out; omega)).mono ?_
      rintro e w1 ⟨v1, rfl, hO1, hb2⟩
      replace hO := hO.below hb2
      have hb3 : Below w.heap.size w w1 := below_step hb1 hb2
      have hs3 := hb3.size
      obtain ⟨A1, c1, rfl, hR1, _⟩ := hO1.reads'
      have hln : (txts (l.take i)).length + (txt s).length ≤ 140737488355328 := by
        have h1 := HLi.out
        have h2 := HSZ.out
        have h3 := txt_length (s := s) (by omega)
        omega
      go_wp2_with (at_builtin; refine push_row (w0 := w) w.heap.size rfl (.tmp 11) (.tmp 16) 23 (txt s) A1 _ c1 rfl Try.underlying23 u8_info rfl rfl hO hR1 hb3 hs3 hln ?_)
      intro v2 w2 hO2 hb4 _ _
      have hO3 : OB 5 w2 w.heap.size v2 (txts (l.take (i + 1))) := by
        rw [txts_snoc HX.out]; exact hO2
      clear hO2 hO1 hO hln
      go_wp2_with fail
      go_roundg (gk - 1)
      case measure => have := HG.out.2; omega
      case rel => exact ⟨i + 1, by simp, hO3, hb4, by omega, by have := HG.out.2; omega⟩
    · have hn : i = m := by have := HG.out; omega
      subst hn
      rw [all_of (by rw [HLn.out]; exact Nat.le_refl _)] at hO
      go_wp2_with fail
      go_ret
      exact ⟨_, rfl, hO, hb1⟩
set_option maxHeartbeats 1000000 in
theorem rList_any {w : World} {B : Option Addr} {m c : Nat} {l : List ByteArray} (hT : RT w B m l) (K : Nat) (hK : K ≤ 140737488355000) (hs : ∀ s ∈ l, s.size ≤ K) (hl : 16 + m * (10 + K) ≤ 140737488355328) :
    Calls Try.prog 31 #[.slice B m c] w fun e w' => ∃ v', e = .returned v' ∧ OB 5 w' w.heap.size v' (lst l) ∧ Below w.heap.size w w' := by
  have HS := Lib.hid hs
  have HM := Lib.hid hT.len
  have hmx := hT.max
  have HLL : Hid ((txts l).length ≤ m * (10 + K)) := Lib.hid (by have := txts_length l K (by omega) hs; rw [hT.len] at this; exact this)
  clear hs
  go_enter Try.func31, Try.ntmps31
  go_wp2_with fail
  refine (rUint_any m w (by omega)).mono ?_
  rintro e w1 ⟨v, rfl, hO, hb⟩
  have hT1 := hT.below hb
  have HSH := Lib.hid (sh_ten (n := m) (by omega))
  go_wp2_with fail
  refine (rTexts_any hT1 K hK HS.out (by omega)).mono ?_
  rintro e w2 ⟨v2, rfl, hO2, hb2⟩
  replace hO := hO.below hb2
  have hb3 : Below w.heap.size w w2 := below_step hb hb2
  have hs3 := hb3.size
  obtain ⟨A1, c1, rfl, hR1, _⟩ := hO2.reads'
  have hln : (sh m).length + (txts l).length ≤ 140737488355328 := by
    have h1 := HLL.out
    have h2 := HSH.out
    omega
  go_wp2_with (at_builtin; refine push_row (w0 := w) w.heap.size rfl (.tmp 6) (.tmp 8) 23 (txts l) A1 _ c1 rfl Try.underlying23 u8_info rfl rfl hO hR1 hb3 hs3 hln ?_)
  intro v3 w3 hO3 hb4 _ _
  have hO4 : OB 5 w3 w.heap.size v3 (lst l) := by unfold lst; rw [HM.out]; exact hO3
  go_wp2_with fail
  go_ret
  exact ⟨_, rfl, hO4, hb4⟩
end Go.Proofs.Ytpjpgcjhdbiepaa
end
/-! The contracts of what lays down a kind's fields. -/
section
namespace Go.Kit
open Go.RowKit Go.Proofs.YtpjpgcjhdbiepaaW.PrintWords
/-- Its numbers fit, its tool is bytes. -/
structure Fr.wf (f : Fr) : Prop where
  id0 : 0 ≤ f.id
  id1 : f.id ≤ 18446744073709551615
  k : -9223372036854775808 ≤ f.k ∧ f.k ≤ 9223372036854775807
  v : -9223372036854775808 ≤ f.v ∧ f.v ≤ 9223372036854775807
  s : -9223372036854775808 ≤ f.s ∧ f.s ≤ 9223372036854775807
  st : -9223372036854775808 ≤ f.st ∧ f.st ≤ 9223372036854775807
  mo : -9223372036854775808 ≤ f.mo ∧ f.mo ≤ 9223372036854775807
  fu : -9223372036854775808 ≤ f.fu ∧ f.fu ≤ 9223372036854775807
  di : -9223372036854775808 ≤ f.di ∧ f.di ≤ 9223372036854775807
  byt : Byt f.tool
theorem u64_nn {x : Int} (h0 : 0 ≤ x) (h1 : x ≤ 9223372036854775807) : IntKind.u64.wrap x = x := IntWalk.u64_in _ ⟨by omega, by omega⟩
end Go.Kit
namespace Go.Proofs.Ytpjpgcjhdbiepaa
open Go.RowKit Go.Kit Go.Proofs.YtpjpgcjhdbiepaaW.PrintWords
section
variable {f : Fr} {w : World} {A : Option Addr} {n c : Nat} {xs : List Int}
/-- What laying leaves. -/
def Laid (w : World) (ys : List Int) (e : Ending) (w' : World) : Prop := ∃ v, e = .returned v ∧ OB 5 w' w.heap.size v ys ∧ Below w.heap.size w w'
end
end Go.Proofs.Ytpjpgcjhdbiepaa
end
/-! The contracts of frame.body and frame.Check. -/
section
namespace Go.Proofs.Ytpjpgcjhdbiepaa
open Go.RowKit Go.Kit Go.Proofs.YtpjpgcjhdbiepaaW.PrintWords
section
variable {f : Fr} {w : World} {A : Option Addr} {n c : Nat} {xs : List Int}
/-- What is asked of a frame that is laid down. -/
structure LayOk (f : Fr) : Prop where
  hello : f.k = 1 → 0 ≤ f.v ∧ 0 ≤ f.s
  req : f.k = 2 → (0 ≤ f.mo ∧ 0 ≤ f.fu ∧ 0 ≤ f.di) ∧ f.n ≤ 8 ∧ ∀ s ∈ f.args, s.size ≤ 4096
  resp : f.k = 3 → 0 ≤ f.st
  body : f.body.size ≤ 2097152
/-! The kinds' functions are entered. -/
theorem read_enters (k : Int) (h1 : 1 ≤ k) (h6 : k ≤ 6) (args : Array Value) (W : World) : (callFunc (readN k) args).run Try.prog W = .ok (.enter (readN k) args) W := by
  rcases (by omega : k = 1 ∨ k = 2 ∨ k = 3 ∨ k = 4 ∨ k = 5 ∨ k = 6) with rfl | rfl | rfl | rfl | rfl | rfl <;> (simp only [readN]; go_simp)
/-! Loads of one cell, as equations. -/
theorem load_int {W : World} {a : Addr} {v : Value} (h : W.cell? a = some v) : (Instr.loadAt 3 (.pointer (some a))).run Try.prog W = .ok v W := by go_simp
theorem load_str {W : World} {a : Addr} {v : Value} (h : W.cell? a = some v) : (Instr.loadAt 9 (.pointer (some a))).run Try.prog W = .ok v W := by go_simp
theorem load_read {W : World} {a : Addr} {v : Value} (h : W.cell? a = some v) : (Instr.loadAt 100 (.pointer (some a))).run Try.prog W = .ok v W := by go_simp
attribute [-go_sem] Instr.loadAt
end
end Go.Proofs.Ytpjpgcjhdbiepaa
end
/-! The deferred function of frame.read; reading a kind's fields. -/
section
namespace Go.Proofs.Ytpjpgcjhdbiepaa
open Go.RowKit Go.Kit Go.Proofs.YtpjpgcjhdbiepaaW.PrintWords
theorem finS_bad {D : Rd} (h : D.why ≠ 0) (f : Fr) (head : Nat) : finS D f head = (D.why, D.wat) := by
  unfold finS; rw [endS_bad h, if_neg (fun e => h e.1)]
theorem count_le {D D1 : Rd} {most : Int} {v : Nat} (hm : 0 ≤ most) (h : countS D most = (D1, v)) : (v : Int) ≤ most := by
  unfold countS at h
  split at h
  · cases h; omega
  split at h
  · cases h; omega
  split at h
  · cases h; omega
  split at h
  · cases h; omega
  · cases h; omega
theorem kind_read {w : World} {r g n c : Nat} {A : Option Addr} {D : Rd} (k : Nat) (h1 : 1 ≤ k) (h6 : k ≤ 6) (h : RS w r A n c D) (hn : n ≤ 4398046511104) (hF : (kF (k : Int)).at_ 42 w g) (hs : ¬ rdf r A g) :
    Calls Try.prog (readN (k : Int)) #[.pointer (some ⟨r, 0, none⟩), .pointer (some ⟨g, 0, none⟩)] w (KindPost w r g n c A D k) := by
  rcases (by omega : k = 1 ∨ k = 2 ∨ k = 3 ∨ k = 4 ∨ k = 5 ∨ k = 6) with rfl | rfl | rfl | rfl | rfl | rfl
  · exact hello_read h hF hs
  · exact request_read h hn hF hs
  · exact response_read h hF hs
  · exact cancel_read h hF hs
  · exact bye_read h hF
  · exact note_read h hF hs
/-- A fault's two numbers as a row. -/
def fv (a b : Int) : Array Value := #[.int .i64 a, .int .i64 b]
theorem fv_size (a b : Int) : (Try.prog.info? 30).map (·.size) = some (fv a b).size := fault_size a b
theorem fv_one (a b : Int) : (fv a b).all (·.oneCell') = true := by simp [fv, Value.oneCell']
theorem load_fault {W : World} {g : Nat} {a b : Int} {t : TypeId} (h : W.heap[g]? = some (.cells (fv a b) t (0, 0))) : (Instr.loadAt 30 (.pointer (some ⟨g, 0, none⟩))).run Try.prog W = .ok (.agg (fv a b)) W :=
  run_loadAt_mid W g 0 30 (fv a b).toList _ (fun j v hj => by rw [Nat.zero_add, cell_of_row W g j _ _ _ h]; simpa using hj) Try.underlying30 rfl (by rw [Array.length_toList]; exact fv_size a b)
set_option maxRecDepth 100000 in
theorem catch_idle (p : Addr) (w : World) :
    CallsD Try.prog 51 #[.pointer (some p)] .returning w fun e u' w' => e = .returned (.tuple #[]) ∧ u' = .returning ∧ w' = w := by
  refine callsD_of_wpS Try.func51 rfl fun c₀ cs hu => ?_
  apply wpS_seq
  apply wpS_region
  simp [wpOpsS, go_sem, recoverD, hu, Try.ntmps51, Exit.thenS]
  refine wpS_of_wp ?_
  go_wp2_with fail
  cases c₀
  simp_all [bodyPostS, results, Try.results51]
theorem assert_fault (W : World) (v : Value) : (Instr.typeAssert (.iface 30 v) 20 30 true).run Try.prog W = .ok (.tuple #[v, .bool true]) W := by kernel_rfl
attribute [-go_sem] Instr.loadAt
set_option maxHeartbeats 4000000 in
set_option maxRecDepth 100000 in
theorem catch_raised (g : Nat) (a b : Int) (Z : Array Value) (older : List PanicEntry) (w : World) (hk : w.heap[g]? = some (.cells Z 30 (0, 0))) (hz : Z.size = 2) :
    CallsD Try.prog 51 #[.pointer (some ⟨g, 0, none⟩)] (.panicking ({ v := .iface 30 (.agg (fv a b)), recovered := false } :: older)) w fun e u' w' =>
      e = .returned (.tuple #[]) ∧ u' = .panicking ({ v := .iface 30 (.agg (fv a b)), recovered := true } :: older) ∧ w'.heap[g]? = some (.cells (fv a b) 30 (0, 0)) ∧ Only w w' (fun k => k = g) := by
  have hn := heap_alloc_new w (.cells #[.int .i64 0, .int .i64 0] 30)
  have hb1 := below_setRow (below_alloc (Below.refl w.heap.size w) (.cells #[.int .i64 0, .int .i64 0] 30)) (Nat.le_refl _) (fv a b)
  have hn2 := setRow_heap _ w.heap.size _ (fv a b) _ _ hn
  have hk2 := (hb1.block g (lt_of_block hk)).trans hk
  have hl := load_fault hn2
  have hta := assert_fault w (.agg (fv a b))
  have hs := fv_size a b
  have ho := fv_one a b
  have hz2 : Z.size = (fv a b).size := hz
  have h0 : (#[.int .i64 0, .int .i64 0] : Array Value).size = (fv a b).size := rfl
  generalize fv a b = FV at *
  refine callsD_of_wpS Try.func51 rfl fun c₀ cs hu => ?_
  apply wpS_seq
  apply wpS_region
  simp [wpOpsS, go_sem, recoverD, hu, Try.ntmps51, Exit.thenS, Array.replicate_succ, Array.replicate_zero]
  refine wpS_of_wp ?_
  go_wp2_with first
    | ((with_reducible show wpList _ _ _ (Oper.mk none _ _ _ _ _ :: _) _ _); refine wpList_store_row rfl 30 (.tmp 2) (.tmp 9) rfl w.heap.size FV rfl rfl 30 _ hn hs h0 ho ?_)
    | ((with_reducible show wpList _ _ _ (Oper.mk none _ _ _ _ _ :: _) _ _); refine wpList_store_row rfl 30 (.tmp 0) (.tmp 10) rfl g FV rfl rfl 30 _ hk2 hs hz2 ho ?_)
  refine ⟨rfl, _, rfl, .tuple #[], by simp [results, Try.results51], rfl, rfl, setRow_heap _ g _ FV _ _ hk2, ((Only.refl w _).below hb1).same (Fr.only_row _ g FV)⟩
end Go.Proofs.Ytpjpgcjhdbiepaa
end
/-! The contract of frame.read. (mk_frzi.py) -/
section
namespace Go.Proofs.Ytpjpgcjhdbiepaa
open Go.RowKit Go.Kit Go.Proofs.YtpjpgcjhdbiepaaW.PrintWords
theorem count_zero {D D1 : Rd} {m : Int} {v : Nat} (h : countS D m = (D1, v)) (hw : D1.why ≠ 0) : v = 0 := by
  unfold countS at h
  split at h
  · cases h; rfl
  split at h
  · cases h; rfl
  split at h
  · cases h; rfl
  split at h
  · cases h; rfl
  · next h0 _ _ _ => cases h; exact absurd (Classical.not_not.mp h0) hw
theorem raw_head {xs : List Int} {head n : Nat} {D1 : Rd} {t : List Int} (hl : xs.length = n) (hh : head ≤ n) (h : rawS (Rd.new xs) (head : Int) = (D1, t)) : D1 = (Rd.new xs).to head := by
  unfold rawS at h
  rw [if_neg (by simp [Rd.new]), if_neg (by omega), if_neg (by show ¬ ((xs.length : Int) - ((0 : Nat) : Int)) < _; omega)] at h
  have h2 := congrArg Prod.fst h
  have h3 : (Rd.new xs).at_ + (head : Int).toNat = head := by show 0 + _ = _; omega
  dsimp only at h2
  rw [h3] at h2
  exact h2.symm
/-- What frame.read leaves. -/
def ReadPost (w : World) (xs : List Int) (head : Nat) (e : Ending) (w' : World) : Prop :=
  ∃ (F : Fr) (x y : Int), e = .returned (.tuple #[.agg F.arr, .agg (fv x y)]) ∧ F.tool.length = 32 ∧ Hid ((readF xs head).2 = (x, y) ∧ (x = 0 → F.core = (readF xs head).1 ∧ y = 0)) ∧ (x = 0 → F.ok w' ∧ OwnA w' w.heap.size F) ∧ Below w.heap.size w w'
theorem read_bad {xs : List Int} {head : Nat} {D : Rd} {f : Fr} (h : fieldsS ((Rd.new xs).to head) = (D, f)) (hw : D.why ≠ 0) : (readF xs head).2 = (D.why, D.wat) := by
  rw [readF_of h, finS_bad hw, if_pos hw]
theorem endS_inv {D : Rd} (h : D.why = 0 → D.wat = 0) : (endS D).why = 0 → (endS D).wat = 0 := by
  unfold endS
  split
  · intro e; exact absurd e (by show (6 : Int) ≠ 0; decide)
  · exact h
theorem read_fin {xs : List Int} {head : Nat} {D : Rd} {f : Fr} {x y : Int} (h : fieldsS ((Rd.new xs).to head) = (D, f)) (hi : D.why = 0 → D.wat = 0) (hf : finS D f head = (x, y)) :
    (readF xs head).2 = (x, y) ∧ (x = 0 → f = (readF xs head).1 ∧ y = 0) := by
  rw [readF_of h, hf]
  by_cases hx : x = 0
  · have hy : y = 0 := by
      unfold finS at hf
      split at hf
      · cases hf; exact absurd hx (by decide)
      · cases hf; exact endS_inv hi hx
    subst hx; subst hy
    rw [if_neg (by simp)]
    exact ⟨rfl, fun _ => ⟨rfl, rfl⟩⟩
  · rw [if_pos hx]
    exact ⟨rfl, fun e => absurd e hx⟩
theorem fields_kind {D0 D1 : Rd} {v : Nat} (h : countS D0 6 = (D1, v)) (hw : ¬ (D1.why = 0 ∧ v = 0)) : fieldsS D0 = kindS D1 v := by
  unfold fieldsS; rw [someS_some h hw]
theorem fields_none {D0 D1 : Rd} {v : Nat} (h : countS D0 6 = (D1, v)) (hw : D1.why = 0 ∧ v = 0) : (fieldsS D0).1 = D0.fail 70 D0.at_ := by
  obtain ⟨h1, rfl⟩ := hw
  unfold fieldsS
  rw [someS_none h h1]
  exact kindS_bad (by show (70 : Int) ≠ 0; decide) _
theorem pair_of {α β : Type} (p : α × β) : p = (p.1, p.2) := rfl
section
variable {W : World} {g g2 : Nat} {tmps : Array Value} {F : Fr} {x y : Int} {R : Ending → World → Prop}
theorem door_out (hp : tmps.getD 4 undef = .pointer (some ⟨g, 0, none⟩)) (hq : tmps.getD 5 undef = .pointer (some ⟨g2, 0, none⟩)) (hF : F.at_ 42 W g) (hX : W.heap[g2]? = some (.cells (fv x y) 30 (0, 0)))
    (hR : R (.returned (.tuple #[.agg F.arr, .agg (fv x y)])) W) : Leaves Try.prog Try.f44 tmps R [] .returning W :=
  ⟨_, results_cell_row2 (P := Try.prog) (fn := Try.f44) (p := 4) (q := 5) rfl tmps W g g2 42 30 F.arr (fv x y) (0, 0) (0, 0) _ _ hp hF.blk Try.underlying42 rfl (by rw [Fr.arr_size F hF.tool]; kernel_rfl) hq hX Try.underlying30 rfl (fv_size x y), hR⟩
theorem door_idle (hp : tmps.getD 4 undef = .pointer (some ⟨g, 0, none⟩)) (hq : tmps.getD 5 undef = .pointer (some ⟨g2, 0, none⟩)) (hF : F.at_ 42 W g) (hX : W.heap[g2]? = some (.cells (fv x y) 30 (0, 0)))
    (hR : R (.returned (.tuple #[.agg F.arr, .agg (fv x y)])) W) : Leaves Try.prog Try.f44 tmps R [{ target := .fn (.func 51) #[.pointer (some ⟨g2, 0, none⟩)], args := #[] }] .returning W := by
  refine leaves_cons (f := 51) (args := #[.pointer (some ⟨g2, 0, none⟩)]) (by simp) (by simp [go_sem]) ?_
  refine (catch_idle _ _).mono ?_
  rintro e u' w' ⟨rfl, rfl, rfl⟩
  exact door_out hp hq hF hX hR
theorem door_raised {Z : Array Value} (hp : tmps.getD 4 undef = .pointer (some ⟨g, 0, none⟩)) (hq : tmps.getD 5 undef = .pointer (some ⟨g2, 0, none⟩)) (hF : F.at_ 42 W g) (hX : W.heap[g2]? = some (.cells Z 30 (0, 0))) (hZ : Z.size = 2) (hgg : g ≠ g2)
    (hR : ∀ W', Only W W' (fun k => k = g2) → R (.returned (.tuple #[.agg F.arr, .agg (fv x y)])) W') : Leaves Try.prog Try.f44 tmps R [{ target := .fn (.func 51) #[.pointer (some ⟨g2, 0, none⟩)], args := #[] }] (.panicking (raisedF x y)) W := by
  refine leaves_cons (f := 51) (args := #[.pointer (some ⟨g2, 0, none⟩)]) (by simp) (by simp [go_sem]) ?_
  refine (catch_raised g2 x y Z [] W hX hZ).mono ?_
  rintro e u' w' ⟨rfl, rfl, hk, ho⟩
  have hs : settle (.panicking [{ v := .iface 30 (.agg (fv x y)), recovered := true }]) = .returning := by simp [settle]
  show Leaves _ _ _ _ _ (settle (.panicking [{ v := .iface 30 (.agg (fv x y)), recovered := true }])) _
  rw [hs]
  exact door_out hp hq (hF.only ho hgg) hk (hR w' ho)
end
theorem storeAt_all {P : Program} (W : World) (g : Nat) (ty t : TypeId) (cells cur : Array Value) (hg : W.heap[g]? = some (.cells cur t (0, 0))) (hfit : cur.size = cells.size) (hi : (P.info? ty).map (·.size) = some cells.size) (h1 : cells.all (·.oneCell') = true) :
    (Instr.storeAt ty (.pointer (some ⟨g, 0, none⟩)) (.agg cells)).run P W = .ok () (W.setRow g cells) := by
  have hst := run_storeCells_at (P := P) g 0 t cells.toList 0 cur W hg (by simp [hfit]) (fun v hv => (Array.all_eq_true_iff_forall_mem.1 h1) v (by simpa using hv))
  have he : (cur.toList.take 0 ++ cells.toList ++ cur.toList.drop (0 + cells.toList.length)).toArray = cells := by
    rw [List.drop_eq_nil_of_le (by simp [hfit])]; simp
  simp only [Instr.storeAt, Instr.sureAddr, Sem.run_bind, Sem.run_pure, Result.andThen_ok]
  cases hq : P.info? ty with
  | none => simp [hq] at hi
  | some i =>
    have hs : cells.size = i.size := by simp [hq] at hi; omega
    simp only [Nat.add_zero] at hst
    rw [he] at hst
    simp [storeVar, sizeOf, typeInfo, hq, Value.cells, hs, hst]
theorem same_frame {W : World} {g : Nat} {F : Fr} (h : F.at_ 42 W g) : (Instr.storeAt 42 (.pointer (some ⟨g, 0, none⟩)) (.agg F.arr)).run Try.prog W = .ok () W := by
  have e := storeAt_all (P := Try.prog) W g 42 42 F.arr F.arr h.blk rfl (by rw [Fr.arr_size F h.tool]; kernel_rfl) (arr_one F)
  rw [e, setRow_self W g F.arr _ _ h.blk]
theorem same_fault {W : World} {g : Nat} {x y : Int} (h : W.heap[g]? = some (.cells (fv x y) 30 (0, 0))) : (Instr.storeAt 30 (.pointer (some ⟨g, 0, none⟩)) (.agg (fv x y))).run Try.prog W = .ok () W := by
  have e := storeAt_all (P := Try.prog) W g 30 30 (fv x y) (fv x y) h rfl (fv_size x y) (fv_one x y)
  rw [e, setRow_self W g (fv x y) _ _ h]
theorem put_int (x : Int) (W : World) (a : Addr) (u : Value) (hc : W.cell? a = some u) (hf : W.frozen? a = false) : (Instr.storeAt 3 (.pointer (some a)) (.int .i64 x)).run Try.prog W = .ok () (W.setCell a (.int .i64 x)) := by go_simp
attribute [-go_sem] Instr.loadAt Instr.storeAt
section
variable {A : Option Addr} {n cap : Nat} {xs : List Int} {w : World}
set_option maxHeartbeats 8000000 in
set_option maxRecDepth 100000 in
theorem read_any (hx : RB w A n xs) (hl : n ≤ 4194304) (head : Nat) (hh : head ≤ n) : Calls Try.prog 44 #[.slice A n cap, .int .i64 (head : Int)] w (ReadPost w xs head) := by
  have HXL := Lib.hid hx.len
  have hb0 := below_alloc (below_alloc (Below.refl _ w) (.cells #[.int .i64 0, .int .u64 0, .int .i64 0, .int .i64 0, .int .u8 0, .int .u8 0, .int .u8 0, .int .u8 0, .int .u8 0, .int .u8 0, .int .u8 0, .int .u8 0, .int .u8 0, .int .u8 0, .int .u8 0, .int .u8 0, .int .u8 0, .int .u8 0, .int .u8 0, .int .u8 0, .int .u8 0, .int .u8 0, .int .u8 0, .int .u8 0, .int .u8 0, .int .u8 0, .int .u8 0, .int .u8 0, .int .u8 0, .int .u8 0, .int .u8 0, .int .u8 0, .int .u8 0, .int .u8 0, .int .u8 0, .int .u8 0, .int .i64 0, .int .i64 0, .int .i64 0, .int .i64 0, .slice none 0 0, .string ⟨#[]⟩] 42)) (.cells #[.int .i64 0, .int .i64 0] 30)
  have hg0 : ((w.alloc (.cells #[.int .i64 0, .int .u64 0, .int .i64 0, .int .i64 0, .int .u8 0, .int .u8 0, .int .u8 0, .int .u8 0, .int .u8 0, .int .u8 0, .int .u8 0, .int .u8 0, .int .u8 0, .int .u8 0, .int .u8 0, .int .u8 0, .int .u8 0, .int .u8 0, .int .u8 0, .int .u8 0, .int .u8 0, .int .u8 0, .int .u8 0, .int .u8 0, .int .u8 0, .int .u8 0, .int .u8 0, .int .u8 0, .int .u8 0, .int .u8 0, .int .u8 0, .int .u8 0, .int .u8 0, .int .u8 0, .int .u8 0, .int .u8 0, .int .i64 0, .int .i64 0, .int .i64 0, .int .i64 0, .slice none 0 0, .string ⟨#[]⟩] 42)).alloc (.cells #[.int .i64 0, .int .i64 0] 30)).heap[w.heap.size]? = some (.cells (kF 0).arr 42 (0, 0)) := (heap_alloc_old _ _ (by simp)).trans (heap_alloc_new w _)
  have hf0 : ((w.alloc (.cells #[.int .i64 0, .int .u64 0, .int .i64 0, .int .i64 0, .int .u8 0, .int .u8 0, .int .u8 0, .int .u8 0, .int .u8 0, .int .u8 0, .int .u8 0, .int .u8 0, .int .u8 0, .int .u8 0, .int .u8 0, .int .u8 0, .int .u8 0, .int .u8 0, .int .u8 0, .int .u8 0, .int .u8 0, .int .u8 0, .int .u8 0, .int .u8 0, .int .u8 0, .int .u8 0, .int .u8 0, .int .u8 0, .int .u8 0, .int .u8 0, .int .u8 0, .int .u8 0, .int .u8 0, .int .u8 0, .int .u8 0, .int .u8 0, .int .i64 0, .int .i64 0, .int .i64 0, .int .i64 0, .slice none 0 0, .string ⟨#[]⟩] 42)).alloc (.cells #[.int .i64 0, .int .i64 0] 30)).heap[w.heap.size + 1]? = some (.cells (fv 0 0) 30 (0, 0)) := by
    have := heap_alloc_new (w.alloc (.cells #[.int .i64 0, .int .u64 0, .int .i64 0, .int .i64 0, .int .u8 0, .int .u8 0, .int .u8 0, .int .u8 0, .int .u8 0, .int .u8 0, .int .u8 0, .int .u8 0, .int .u8 0, .int .u8 0, .int .u8 0, .int .u8 0, .int .u8 0, .int .u8 0, .int .u8 0, .int .u8 0, .int .u8 0, .int .u8 0, .int .u8 0, .int .u8 0, .int .u8 0, .int .u8 0, .int .u8 0, .int .u8 0, .int .u8 0, .int .u8 0, .int .u8 0, .int .u8 0, .int .u8 0, .int .u8 0, .int .u8 0, .int .u8 0, .int .i64 0, .int .i64 0, .int .i64 0, .int .i64 0, .slice none 0 0, .string ⟨#[]⟩] 42)) (.cells #[.int .i64 0, .int .i64 0] 30)
    simpa [fv] using this
  have hF0 : (kF 0).at_ 42 ((w.alloc (.cells #[.int .i64 0, .int .u64 0, .int .i64 0, .int .i64 0, .int .u8 0, .int .u8 0, .int .u8 0, .int .u8 0, .int .u8 0, .int .u8 0, .int .u8 0, .int .u8 0, .int .u8 0, .int .u8 0, .int .u8 0, .int .u8 0, .int .u8 0, .int .u8 0, .int .u8 0, .int .u8 0, .int .u8 0, .int .u8 0, .int .u8 0, .int .u8 0, .int .u8 0, .int .u8 0, .int .u8 0, .int .u8 0, .int .u8 0, .int .u8 0, .int .u8 0, .int .u8 0, .int .u8 0, .int .u8 0, .int .u8 0, .int .u8 0, .int .i64 0, .int .i64 0, .int .i64 0, .int .i64 0, .slice none 0 0, .string ⟨#[]⟩] 42)).alloc (.cells #[.int .i64 0, .int .i64 0] 30)) w.heap.size := ⟨hg0, rfl⟩
  have hmf : ∀ (fn : Fn) (first cap : Array Value) (w : World), (Instr.makeFunc fn first cap).run Try.prog w = .ok (.func fn first cap) w := fun _ _ _ _ => rfl
  clear hg0
  go_enter_defers Try.func44, Try.ntmps44
  go_upto_region 1 with (fail)
  generalize hw1 : (w.alloc (.cells #[.int .i64 0, .int .u64 0, .int .i64 0, .int .i64 0, .int .u8 0, .int .u8 0, .int .u8 0, .int .u8 0, .int .u8 0, .int .u8 0, .int .u8 0, .int .u8 0, .int .u8 0, .int .u8 0, .int .u8 0, .int .u8 0, .int .u8 0, .int .u8 0, .int .u8 0, .int .u8 0, .int .u8 0, .int .u8 0, .int .u8 0, .int .u8 0, .int .u8 0, .int .u8 0, .int .u8 0, .int .u8 0, .int .u8 0, .int .u8 0, .int .u8 0, .int .u8 0, .int .u8 0, .int .u8 0, .int .u8 0, .int .u8 0, .int .i64 0, .int .i64 0, .int .i64 0, .int .i64 0, .slice none 0 0, .string ⟨#[]⟩] 42)).alloc (.cells #[.int .i64 0, .int .i64 0] 30) = w1 at *
  go_upto_region 2 with (fail)
  clear hw1
  obtain ⟨g, hg⟩ : ∃ g, w.heap.size = g := ⟨_, rfl⟩
  obtain ⟨g2, hg2⟩ : ∃ g2, w.heap.size + 1 = g2 := ⟨_, rfl⟩
  have HG := Lib.hid hg
  have HG2 := Lib.hid hg2
  have hgg : g ≠ g2 := by omega
  rw [hg] at hF0
  rw [hg2] at hf0
  rw [hg2, hg]
  have hxb := hx.below hb0
  clear hg hg2 hx
  go_wp2_with fail
  refine (NewReader_any A n cap xs _ hxb (by omega)).mono ?_
  rintro e w2 ⟨r, A', c, rfl, hR, hnew, hb1⟩
  have hF1 := hF0.below hb1
  have hX1 := (hb1.block _ (lt_of_block hf0)).trans hf0
  have hbw := below_step hb0 hb1
  have hs : ¬ rdf r A' g := fun e => by have := hnew _ e; have := hF0.lt; omega
  have hs2 : ¬ rdf r A' g2 := fun e => by have := hnew _ e; have := lt_of_block hf0; omega
  have hr2 : ¬ g2 = r := fun e => hs2 (.inl e)
  have HRW : Hid (w.heap.size ≤ r) := Lib.hid (Nat.le_trans hb0.size (hnew r (.inl rfl)))
  clear hb0 hb1 hf0 hF0 hnew hxb
  go_wp2_with fail
  refine (Raw_any hR (head : Int) (by omega)).mono ?_
  rintro e w3 ⟨D0, v0, t0, rfl, HR, hO, hR1, ho⟩
  have HD0 := Lib.hid (raw_head HXL.out hh HR.out)
  have hF2 := hF1.only ho (notr hs)
  have hX2 := ho.kept hX1 hr2
  have hbx := Below.only hbw ho hbw.size (fun k e => e ▸ HRW.out)
  clear hR HR hO ho hF1 hX1 hbw hh
  go_wp2_with fail
  refine (part_any hR1 6 (by omega)).mono ?_
  rintro e w4 ⟨D1, v, HC, hR2, ho2, (⟨HV, rfl⟩ | ⟨HV, rfl⟩)⟩
  · have hF3 := hF2.only ho2 (notr hs)
    have hX3 := ho2.kept hX2 hr2
    have hby := Below.only hbx ho2 hbx.size (fun k e => e ▸ HRW.out)
    have q0 := put_int (v : Int) w4 _ _ hF3.c0 (hF3.fz 0)
    have hF4 := hF3.set0 (v : Int)
    have ho3 := Fr.only_at w4 g 0 (.int .i64 (v : Int))
    have hR4 := hR2.only ho3 (sepg hs)
    have hX4 := ho3.kept hX3 (fun e => hgg e.symm)
    have hbz := Below.only hby ho3 hby.size (fun k e => by have := HG.out; omega)
    replace hF4 : (kF (v : Int)).at_ 42 (w4.setCell ⟨g, 0, none⟩ (.int .i64 (v : Int))) g := hF4
    clear hR1 hF2 hX2 hbx ho2 hF3 hX3 hby ho3 hR2
    go_upto_region 5 with (fail)
    clear q0
    generalize w4.setCell ⟨g, 0, none⟩ (.int .i64 (v : Int)) = w5 at *
    have e0 := load_int hF4.c0
    by_cases hw : D1.why = 0
    · have hv1 : 1 ≤ v := by have := HV.out; omega
      have hv6 : v ≤ 6 := by have := count_le (by omega) HC.out; omega
      have hen := read_enters (v : Int) (by omega) (by omega)
      have HKF := fields_kind HC.out HV.out
      clear hw
      go_wp2_with fail
      refine (of_any (v : Int) (by omega) (by omega) _).mono ?_
      rintro e w6 ⟨rfl, hb6⟩
      have hbK := below_alloc (Below.refl w6.heap.size w6) (.cells #[.nilFunc, .nilFunc, .nilFunc, .nilFunc] 103)
      have hblk := heap_alloc_new w6 (.cells #[.nilFunc, .nilFunc, .nilFunc, .nilFunc] 103)
      have h4 : (#[.nilFunc, .nilFunc, .nilFunc, .nilFunc] : Array Value).size = (kV (v : Int)).size := rfl
      have hsz := kind_size (k := (v : Int))
      have hone := kind_one (v : Int)
      obtain ⟨KK, hKK⟩ : ∃ KK, kV (v : Int) = KK := ⟨_, rfl⟩
      have hk1 : KK[1]? = some (.func (.func (readN (v : Int))) #[] #[]) := by rw [← hKK]; rfl
      rw [hKK] at h4 hsz hone ⊢
      clear hKK e0
      go_upto_region 6 with ((with_reducible show wpList _ _ _ (Oper.mk none _ _ _ _ _ :: _) _ _); refine wpList_store_row rfl 103 (.tmp 7) (.tmp 22) rfl w6.heap.size KK rfl rfl 103 _ hblk hsz h4 hone ?_)
      have hb7 := below_setRow (below_step hb6 hbK) hb6.size KK
      have hK := setRow_heap _ w6.heap.size _ KK _ _ hblk
      have hF5 := hF4.below hb7
      have hR5 := hR4.below hb7
      have hX5 := (hb7.block _ (lt_of_block hX4)).trans hX4
      have hbq := below_step hbz hb7
      clear hF4 hR4 hX4 hbz hb7 hbK hblk h4 hsz hone hb6
      generalize (w6.alloc (.cells #[.nilFunc, .nilFunc, .nilFunc, .nilFunc] 103)).setRow w6.heap.size KK = w7 at *
      generalize w6.heap.size = gk at *
      have e1 := load_read (by rw [cell_of_row w7 gk 1 _ _ _ hK]; exact hk1)
      clear hK hk1
      go_wp2_with fail
      refine (kind_read v hv1 hv6 hR5 (by omega) hF5 hs).mono ?_
      rintro e w8 (⟨D2, F, rfl, HK, hR6, hF6, hok, hfr, ho6⟩ | ⟨F, rfl, HK, hF6, ho6⟩)
      · have hX6 := ho6.kept hX5 (fun e => e.elim hr2 (fun e => hgg e.symm))
        have hbr := Below.only hbq ho6 hbq.size (fun k e => e.elim (fun e => e ▸ HRW.out) (fun e => by have := HG.out; omega))
        have HKF2 : Hid (fieldsS ((Rd.new xs).to head) = (D2, F.core)) := Lib.hid (by rw [← HD0.out, HKF, HK.out])
        have hoa := hfr.less hbq.size
        have HFA : Hid (∀ a, F.A = some a → ¬ a.block = r ∧ ¬ a.block = g2) := Lib.hid (fun a e => by have := hfr.fresh a e; have := lt_of_block hR5.rk; have := lt_of_block hX5; omega)
        clear hbq ho6 hX5 hR5 hF5 HK HKF hfr e1 hen
        go_wp2_with fail
        refine (End_any hR6).mono ?_
        rintro e w9 ⟨rfl, hR7, ho7⟩
        have hF7 := hF6.only ho7 (notr hs)
        have hX7 := ho7.kept hX6 hr2
        have hbs := Below.only hbr ho7 hbr.size (fun k e => e ▸ HRW.out)
        obtain ⟨D3, hD3⟩ : ∃ D3, endS D2 = D3 := ⟨_, rfl⟩
        have hfin : finS D2 F.core head = if D3.why = 0 ∧ F.k = 3 ∧ F.st ≠ 1 ∧ F.body.size ≠ 0 then (70, (head : Int)) else (D3.why, D3.wat) := by unfold finS; rw [hD3]; rfl
        have HINV := Lib.hid hR6.inv
        have HIV3 : Hid (D3.why = 0 → D3.wat = 0) := Lib.hid (by rw [← hD3]; exact endS_inv HINV.out)
        rw [hD3] at hR7 ⊢
        clear hD3
        have hR8 := hR7
        clear hR8 hR6 hR7
        obtain ⟨x, hx⟩ : ∃ x, D3.why = x := ⟨_, rfl⟩
        obtain ⟨y, hy⟩ : ∃ y, D3.wat = y := ⟨_, rfl⟩
        rw [hx, hy] at hfin HIV3
        rw [hx, hy]
        have HFIN := Lib.hid hfin
        clear hx hy hfin
        have hsz2 := fv_size x y
        go_upto_region 9 with ((with_reducible show wpList _ _ _ (Oper.mk none _ _ _ _ _ :: _) _ _); refine wpList_store_row rfl 30 (.tmp 5) (.tmp 30) rfl g2 (fv x y) rfl rfl 30 _ hX7 hsz2 rfl (fv_one x y) ?_)
        have hX8 := setRow_heap _ g2 _ (fv x y) _ _ hX7
        have hF8 := hF7.only (Fr.only_row w9 g2 (fv x y)) hgg
        have hbt := below_setRow (cs := fv x y) hbs (g := g2) (by have := HG2.out; omega)
        have hok8 : F.ok (w9.setRow g2 (fv x y)) := ⟨hok.tool, (hok.args.apart ho7 (fun a e => (HFA.out a e).1)).apart (Fr.only_row w9 g2 (fv x y)) (fun a e => (HFA.out a e).2)⟩
        have hoa8 := (hoa.only ho7 (fun a e => (HFA.out a e).1)).only (Fr.only_row w9 g2 (fv x y)) (fun a e => (HFA.out a e).2)
        clear hF7 hbs hok hX7 ho7 hsz2 hoa
        generalize w9.setRow g2 (fv x y) = w10 at *
        have eX : (Instr.loadAt 30 (.pointer (some ⟨g2, 0, none⟩))).run Try.prog w10 = .ok (.agg #[.int .i64 x, .int .i64 y]) w10 := load_fault hX8
        have hif : (Try.prog.info? 42).map (·.size) = some F.cells.length := by have := Fr.arr_size F hF8.tool; rw [frame_size]; simp [Fr.arr] at this; rw [this]
        have hdr := below_drew (Below.refl w10.heap.size w10)
        have hFd := hF8.below hdr
        have hXd := (hdr.block _ (lt_of_block hX8)).trans hX8
        have eF := load_frame F hif w10.drew g hFd
        have eXd : (Instr.loadAt 30 (.pointer (some ⟨g2, 0, none⟩))).run Try.prog w10.drew = .ok (.agg #[.int .i64 x, .int .i64 y]) w10.drew := load_fault hXd
        have sF := same_frame hFd
        have sX : (Instr.storeAt 30 (.pointer (some ⟨g2, 0, none⟩)) (.agg #[.int .i64 x, .int .i64 y])).run Try.prog w10.drew = .ok () w10.drew := same_fault hXd
        have eK := load_int hF8.c0
        have eS := load_int hF8.c36
        have eB := load_str hF8.c41
        have hz : ∀ W : World, (Instr.build 30 #[]).run Try.prog W = .ok (.agg #[.int .i64 0, .int .i64 0]) W := fun W => by kernel_rfl
        have hbe := body_empty F.body
        have hqg : Try.prog.eqGuardType Try.prog.depth 30 = false := by kernel_rfl
        have hDone : ∀ (HP : finS D2 F.core head = (x, y)) , ReadPost w xs head (.returned (.tuple #[.agg F.arr, .agg (fv x y)])) w10.drew := fun HP => ⟨F, x, y, rfl, hF8.tool, Lib.hid (read_fin HKF2.out HINV.out HP), fun _ => ⟨hok8.below hdr, hoa8.below hdr⟩, below_step hbt hdr⟩
        have HDone := Lib.hid hDone
        clear hDone hif
        by_cases h0 : x = 0
        · have heq := run_fault x y true (by rw [h0, HIV3.out h0]; rfl)
          by_cases hk : F.k = 3
          · have bk : (F.k == 3) = true := by rw [beq_iff_eq]; exact hk
            by_cases hst : F.st = 1
            · have bs : (F.st != 1) = false := by simp [hst]
              have HP : Hid (finS D2 F.core head = (x, y)) := Lib.hid (by rw [HFIN.out, if_neg (fun e => e.2.2.1 hst)])
              clear hbe hk hst h0
              go_wp2_with fail
              go_region_law (fail)
              all_goals ((try go_wp2_with fail); exact door_idle (by rfl) (by rfl) hFd hXd (HDone.out HP.out))
            · have bs : (F.st != 1) = true := by simp [hst]
              by_cases hb0 : F.body.size = 0
              · have b0 : F.body.toList.isEmpty = true := by rw [hbe]; exact decide_eq_true hb0
                have HP : Hid (finS D2 F.core head = (x, y)) := Lib.hid (by rw [HFIN.out, if_neg (fun e => e.2.2.2 hb0)])
                clear hbe hk hst h0 hb0
                go_wp2_with fail
                go_region_law (fail)
                all_goals ((try go_wp2_with fail); exact door_idle (by rfl) (by rfl) hFd hXd (HDone.out HP.out))
              · have b0 : F.body.toList.isEmpty = false := by rw [hbe]; exact decide_eq_false hb0
                have HP : Hid (finS D2 F.core head = (70, (head : Int))) := Lib.hid (by rw [HFIN.out, if_pos ⟨h0, hk, hst, hb0⟩])
                clear hbe hk hst h0 hb0
                have hb2 : ∀ (x y : Int) (W : World), (Instr.build 30 #[(0, .int .i64 x), (1, .int .i64 y)]).run Try.prog W = .ok (.agg #[.int .i64 x, .int .i64 y]) W := fun x y W => by kernel_rfl
                have hszq := fv_size 70 (head : Int)
                clear sF sX eF eXd hFd hXd hdr
                go_upto_region 11 with ((with_reducible show wpList _ _ _ (Oper.mk none _ _ _ _ _ :: _) _ _); refine wpList_store_row rfl 30 (.tmp 5) (.tmp 50) rfl g2 (fv 70 (head : Int)) rfl rfl 30 _ hX8 hszq rfl (fv_one _ _) ?_)
                have hX9 := setRow_heap _ g2 _ (fv 70 (head : Int)) _ _ hX8
                have hF9 := hF8.only (Fr.only_row w10 g2 (fv 70 (head : Int))) hgg
                have hbu := below_setRow (cs := fv 70 (head : Int)) hbt (g := g2) (by have := HG2.out; omega)
                have hDone : ReadPost w xs head (.returned (.tuple #[.agg F.arr, .agg (fv 70 (head : Int))])) (w10.setRow g2 (fv 70 (head : Int))).drew := ⟨F, 70, (head : Int), rfl, hF9.tool, Lib.hid (read_fin HKF2.out HINV.out HP.out), fun e => absurd e (by decide), below_step hbu (below_drew (Below.refl _ _))⟩
                have HDone2 := Lib.hid hDone
                clear hF8 hbt hX8 hDone eX eK eS eB
                generalize w10.setRow g2 (fv 70 (head : Int)) = w11 at *
                have hdr := below_drew (Below.refl w11.heap.size w11)
                have hFd := hF9.below hdr
                have hXd := (hdr.block _ (lt_of_block hX9)).trans hX9
                have eXd := load_fault hXd
                have hif : (Try.prog.info? 42).map (·.size) = some F.cells.length := by have := Fr.arr_size F hF9.tool; rw [frame_size]; simp [Fr.arr] at this; rw [this]
                have eF := load_frame F hif w11.drew g hFd
                have sF := same_frame hFd
                have sX := same_fault hXd
                clear hif
                go_wp2_with fail
                go_region_law (fail)
                all_goals ((try go_wp2_with fail); exact door_idle (by rfl) (by rfl) hFd hXd HDone2.out)
          · have bk : (F.k == 3) = false := by rw [beq_eq_false_iff_ne]; exact hk
            have HP : Hid (finS D2 F.core head = (x, y)) := Lib.hid (by rw [HFIN.out, if_neg (fun e => hk e.2.1)])
            clear hbe hk h0
            go_wp2_with fail
            go_region_law (fail)
            all_goals ((try go_wp2_with fail); exact door_idle (by rfl) (by rfl) hFd hXd (HDone.out HP.out))
        · have heq := run_fault x y false (by rw [Bool.and_eq_false_iff]; left; rw [beq_eq_false_iff_ne]; exact h0)
          have HP : Hid (finS D2 F.core head = (x, y)) := Lib.hid (by rw [HFIN.out, if_neg (fun e => h0 e.1)])
          clear hbe h0
          go_wp2_with fail
          go_region_law (fail)
          all_goals ((try go_wp2_with fail); exact door_idle (by rfl) (by rfl) hFd hXd (HDone.out HP.out))
      · have hX6 := ho6.kept hX5 (fun e => e.elim hr2 (fun e => hgg e.symm))
        have hbr := Below.only hbq ho6 hbq.size (fun k e => e.elim (fun e => e ▸ HRW.out) (fun e => by have := HG.out; omega))
        have HB : Hid ((readF xs head).2 = ((70 : Int), (kindS D1 v).1.wat)) := Lib.hid (by
          have e2 : fieldsS ((Rd.new xs).to head) = ((kindS D1 v).1, (kindS D1 v).2) := by rw [← HD0.out, HKF]
          rw [read_bad e2 (by rw [HK.out]; decide), HK.out])
        refine door_raised (Z := fv 0 0) rfl rfl hF6 hX6 rfl hgg (fun W' ho' => ?_)
        exact ⟨F, 70, _, rfl, hF6.tool, Lib.hid ⟨HB.out, fun e => absurd e (by decide)⟩, fun e => absurd e (by decide), Below.only hbr ho' hbr.size (fun k e => by have := HG2.out; omega)⟩
    · have hv0 := count_zero HC.out hw
      subst hv0
      have HKF := fields_kind HC.out HV.out
      have HWB := Lib.hid hw
      go_wp2_with fail
      refine (of_bad (0 : Int) (by omega) _).mono ?_
      rintro e w6 ⟨rfl, hb6⟩
      have hbK := below_alloc (Below.refl w6.heap.size w6) (.cells #[.nilFunc, .nilFunc, .nilFunc, .nilFunc] 103)
      have hblk := heap_alloc_new w6 (.cells #[.nilFunc, .nilFunc, .nilFunc, .nilFunc] 103)
      have hsz : (Try.prog.info? 103).map (·.size) = some (#[.nilFunc, .nilFunc, .nilFunc, .nilFunc] : Array Value).size := kind_size4
      clear e0 hw
      go_upto_region 6 with ((with_reducible show wpList _ _ _ (Oper.mk none _ _ _ _ _ :: _) _ _); refine wpList_store_row rfl 103 (.tmp 7) (.tmp 22) rfl w6.heap.size #[.nilFunc, .nilFunc, .nilFunc, .nilFunc] rfl rfl 103 _ hblk hsz rfl (by simp [Value.oneCell']) ?_)
      have hb7 := below_setRow (below_step hb6 hbK) hb6.size #[.nilFunc, .nilFunc, .nilFunc, .nilFunc]
      have hF6 := hF4.below hb7
      have hR6 := hR4.below hb7
      have hX6 := (hb7.block _ (lt_of_block hX4)).trans hX4
      have hbr := below_step hbz hb7
      obtain ⟨F, hF⟩ : ∃ F, kF ((0 : Nat) : Int) = F := ⟨_, rfl⟩
      have HKF2 : Hid (fieldsS ((Rd.new xs).to head) = (D1, F.core)) := Lib.hid (by rw [← HD0.out, HKF, ← hF, pair_of (kindS D1 0), kindS_bad HWB.out]; rfl)
      have hok : F.ok ((w6.alloc (.cells #[.nilFunc, .nilFunc, .nilFunc, .nilFunc] 103)).setRow w6.heap.size #[.nilFunc, .nilFunc, .nilFunc, .nilFunc]) := by rw [← hF]; exact ⟨rfl, rt_none _ rfl rfl rfl⟩
      have hoa : OwnA ((w6.alloc (.cells #[.nilFunc, .nilFunc, .nilFunc, .nilFunc] 103)).setRow w6.heap.size #[.nilFunc, .nilFunc, .nilFunc, .nilFunc]) w.heap.size F := by rw [← hF]; exact OwnA.none _ _ ⟨rfl, rfl, rfl, rfl⟩
      have HFA : Hid (∀ a, F.A = some a → ¬ a.block = r ∧ ¬ a.block = g2) := Lib.hid (fun a e => by rw [← hF] at e; cases e)
      rw [hF] at hF6
      clear hF4 hR4 hX4 hbz hb7 hbK hblk hsz hb6 hF HKF
      generalize (w6.alloc (.cells #[.nilFunc, .nilFunc, .nilFunc, .nilFunc] 103)).setRow w6.heap.size #[.nilFunc, .nilFunc, .nilFunc, .nilFunc] = w8 at *
      obtain ⟨D2, hD2⟩ : ∃ D2, D1 = D2 := ⟨_, rfl⟩
      rw [hD2] at HKF2 hR6
      go_wp2_with fail
      refine (End_any hR6).mono ?_
      rintro e w9 ⟨rfl, hR7, ho7⟩
      have hF7 := hF6.only ho7 (notr hs)
      have hX7 := ho7.kept hX6 hr2
      have hbs := Below.only hbr ho7 hbr.size (fun k e => e ▸ HRW.out)
      obtain ⟨D3, hD3⟩ : ∃ D3, endS D2 = D3 := ⟨_, rfl⟩
      have hfin : finS D2 F.core head = if D3.why = 0 ∧ F.k = 3 ∧ F.st ≠ 1 ∧ F.body.size ≠ 0 then (70, (head : Int)) else (D3.why, D3.wat) := by unfold finS; rw [hD3]; rfl
      have HINV := Lib.hid hR6.inv
      have HIV3 : Hid (D3.why = 0 → D3.wat = 0) := Lib.hid (by rw [← hD3]; exact endS_inv HINV.out)
      rw [hD3] at hR7 ⊢
      clear hD3
      have hR8 := hR7
      clear hR8 hR6 hR7
      obtain ⟨x, hx⟩ : ∃ x, D3.why = x := ⟨_, rfl⟩
      obtain ⟨y, hy⟩ : ∃ y, D3.wat = y := ⟨_, rfl⟩
      rw [hx, hy] at hfin HIV3
      rw [hx, hy]
      have HFIN := Lib.hid hfin
      clear hx hy hfin
      have hsz2 := fv_size x y
      go_upto_region 9 with ((with_reducible show wpList _ _ _ (Oper.mk none _ _ _ _ _ :: _) _ _); refine wpList_store_row rfl 30 (.tmp 5) (.tmp 30) rfl g2 (fv x y) rfl rfl 30 _ hX7 hsz2 rfl (fv_one x y) ?_)
      have hX8 := setRow_heap _ g2 _ (fv x y) _ _ hX7
      have hF8 := hF7.only (Fr.only_row w9 g2 (fv x y)) hgg
      have hbt := below_setRow (cs := fv x y) hbs (g := g2) (by have := HG2.out; omega)
      have hok8 : F.ok (w9.setRow g2 (fv x y)) := ⟨hok.tool, (hok.args.apart ho7 (fun a e => (HFA.out a e).1)).apart (Fr.only_row w9 g2 (fv x y)) (fun a e => (HFA.out a e).2)⟩
      have hoa8 := (hoa.only ho7 (fun a e => (HFA.out a e).1)).only (Fr.only_row w9 g2 (fv x y)) (fun a e => (HFA.out a e).2)
      clear hF7 hbs hok hX7 ho7 hsz2 hoa
      generalize w9.setRow g2 (fv x y) = w10 at *
      have eX : (Instr.loadAt 30 (.pointer (some ⟨g2, 0, none⟩))).run Try.prog w10 = .ok (.agg #[.int .i64 x, .int .i64 y]) w10 := load_fault hX8
      have hif : (Try.prog.info? 42).map (·.size) = some F.cells.length := by have := Fr.arr_size F hF8.tool; rw [frame_size]; simp [Fr.arr] at this; rw [this]
      have hdr := below_drew (Below.refl w10.heap.size w10)
      have hFd := hF8.below hdr
      have hXd := (hdr.block _ (lt_of_block hX8)).trans hX8
      have eF := load_frame F hif w10.drew g hFd
      have eXd : (Instr.loadAt 30 (.pointer (some ⟨g2, 0, none⟩))).run Try.prog w10.drew = .ok (.agg #[.int .i64 x, .int .i64 y]) w10.drew := load_fault hXd
      have sF := same_frame hFd
      have sX : (Instr.storeAt 30 (.pointer (some ⟨g2, 0, none⟩)) (.agg #[.int .i64 x, .int .i64 y])).run Try.prog w10.drew = .ok () w10.drew := same_fault hXd
      have eK := load_int hF8.c0
      have eS := load_int hF8.c36
      have eB := load_str hF8.c41
      have hz : ∀ W : World, (Instr.build 30 #[]).run Try.prog W = .ok (.agg #[.int .i64 0, .int .i64 0]) W := fun W => by kernel_rfl
      have hbe := body_empty F.body
      have hqg : Try.prog.eqGuardType Try.prog.depth 30 = false := by kernel_rfl
      have hDone : ∀ (HP : finS D2 F.core head = (x, y)) , ReadPost w xs head (.returned (.tuple #[.agg F.arr, .agg (fv x y)])) w10.drew := fun HP => ⟨F, x, y, rfl, hF8.tool, Lib.hid (read_fin HKF2.out HINV.out HP), fun _ => ⟨hok8.below hdr, hoa8.below hdr⟩, below_step hbt hdr⟩
      have HDone := Lib.hid hDone
      clear hDone hif
      by_cases h0 : x = 0
      · have heq := run_fault x y true (by rw [h0, HIV3.out h0]; rfl)
        by_cases hk : F.k = 3
        · have bk : (F.k == 3) = true := by rw [beq_iff_eq]; exact hk
          by_cases hst : F.st = 1
          · have bs : (F.st != 1) = false := by simp [hst]
            have HP : Hid (finS D2 F.core head = (x, y)) := Lib.hid (by rw [HFIN.out, if_neg (fun e => e.2.2.1 hst)])
            clear hbe hk hst h0
            go_wp2_with fail
            go_region_law (fail)
            all_goals ((try go_wp2_with fail); exact door_idle (by rfl) (by rfl) hFd hXd (HDone.out HP.out))
          · have bs : (F.st != 1) = true := by simp [hst]
            by_cases hb0 : F.body.size = 0
            · have b0 : F.body.toList.isEmpty = true := by rw [hbe]; exact decide_eq_true hb0
              have HP : Hid (finS D2 F.core head = (x, y)) := Lib.hid (by rw [HFIN.out, if_neg (fun e => e.2.2.2 hb0)])
              clear hbe hk hst h0 hb0
              go_wp2_with fail
              go_region_law (fail)
              all_goals ((try go_wp2_with fail); exact door_idle (by rfl) (by rfl) hFd hXd (HDone.out HP.out))
            · have b0 : F.body.toList.isEmpty = false := by rw [hbe]; exact decide_eq_false hb0
              have HP : Hid (finS D2 F.core head = (70, (head : Int))) := Lib.hid (by rw [HFIN.out, if_pos ⟨h0, hk, hst, hb0⟩])
              clear hbe hk hst h0 hb0
              have hb2 : ∀ (x y : Int) (W : World), (Instr.build 30 #[(0, .int .i64 x), (1, .int .i64 y)]).run Try.prog W = .ok (.agg #[.int .i64 x, .int .i64 y]) W := fun x y W => by kernel_rfl
              have hszq := fv_size 70 (head : Int)
              clear sF sX eF eXd hFd hXd hdr
              go_upto_region 11 with ((with_reducible show wpList _ _ _ (Oper.mk none _ _ _ _ _ :: _) _ _); refine wpList_store_row rfl 30 (.tmp 5) (.tmp 50) rfl g2 (fv 70 (head : Int)) rfl rfl 30 _ hX8 hszq rfl (fv_one _ _) ?_)
              have hX9 := setRow_heap _ g2 _ (fv 70 (head : Int)) _ _ hX8
              have hF9 := hF8.only (Fr.only_row w10 g2 (fv 70 (head : Int))) hgg
              have hbu := below_setRow (cs := fv 70 (head : Int)) hbt (g := g2) (by have := HG2.out; omega)
              have hDone : ReadPost w xs head (.returned (.tuple #[.agg F.arr, .agg (fv 70 (head : Int))])) (w10.setRow g2 (fv 70 (head : Int))).drew := ⟨F, 70, (head : Int), rfl, hF9.tool, Lib.hid (read_fin HKF2.out HINV.out HP.out), fun e => absurd e (by decide), below_step hbu (below_drew (Below.refl _ _))⟩
              have HDone2 := Lib.hid hDone
              clear hF8 hbt hX8 hDone eX eK eS eB
              generalize w10.setRow g2 (fv 70 (head : Int)) = w11 at *
              have hdr := below_drew (Below.refl w11.heap.size w11)
              have hFd := hF9.below hdr
              have hXd := (hdr.block _ (lt_of_block hX9)).trans hX9
              have eXd := load_fault hXd
              have hif : (Try.prog.info? 42).map (·.size) = some F.cells.length := by have := Fr.arr_size F hF9.tool; rw [frame_size]; simp [Fr.arr] at this; rw [this]
              have eF := load_frame F hif w11.drew g hFd
              have sF := same_frame hFd
              have sX := same_fault hXd
              clear hif
              go_wp2_with fail
              go_region_law (fail)
              all_goals ((try go_wp2_with fail); exact door_idle (by rfl) (by rfl) hFd hXd HDone2.out)
        · have bk : (F.k == 3) = false := by rw [beq_eq_false_iff_ne]; exact hk
          have HP : Hid (finS D2 F.core head = (x, y)) := Lib.hid (by rw [HFIN.out, if_neg (fun e => hk e.2.1)])
          clear hbe hk h0
          go_wp2_with fail
          go_region_law (fail)
          all_goals ((try go_wp2_with fail); exact door_idle (by rfl) (by rfl) hFd hXd (HDone.out HP.out))
      · have heq := run_fault x y false (by rw [Bool.and_eq_false_iff]; left; rw [beq_eq_false_iff_ne]; exact h0)
        have HP : Hid (finS D2 F.core head = (x, y)) := Lib.hid (by rw [HFIN.out, if_neg (fun e => h0 e.1)])
        clear hbe h0
        go_wp2_with fail
        go_region_law (fail)
        all_goals ((try go_wp2_with fail); exact door_idle (by rfl) (by rfl) hFd hXd (HDone.out HP.out))
  · have hF3 := hF2.only ho2 (notr hs)
    have hX3 := ho2.kept hX2 hr2
    have hby := Below.only hbx ho2 hbx.size (fun k e => e ▸ HRW.out)
    have HB : Hid ((readF xs head).2 = ((70 : Int), (D0.at_ : Int))) := Lib.hid (by
      have e2 : fieldsS ((Rd.new xs).to head) = (D0.fail 70 D0.at_, (fieldsS D0).2) := by rw [← HD0.out, ← fields_none HC.out HV.out]
      exact read_bad e2 (by show (70 : Int) ≠ 0; decide))
    refine door_raised (Z := fv 0 0) rfl rfl hF3 hX3 rfl hgg (fun W' ho' => ?_)
    exact ⟨kF 0, 70, _, rfl, hF3.tool, Lib.hid ⟨HB.out, fun e => absurd e (by decide)⟩, fun e => absurd e (by decide), Below.only hby ho' hby.size (fun k e => by have := HG2.out; omega)⟩
end
end Go.Proofs.Ytpjpgcjhdbiepaa
end
/-! ! The plain law of the check sums: 32 bits, one step, the product, moves. -/
section
namespace CrcM
abbrev W := BitVec 32
def poly : W := 0x82f63b78#32
/-- One step: the product with the first power. -/
def M (c : W) : W := if c.getLsbD 0 then (c >>> 1) ^^^ poly else c >>> 1
def Mn : Nat → W → W
  | 0, c => c
  | n + 1, c => Mn n (M c)
theorem xlc (a b c : W) : a ^^^ (b ^^^ c) = b ^^^ (a ^^^ c) := by rw [← BitVec.xor_assoc, BitVec.xor_comm a b, BitVec.xor_assoc]
theorem xself (a b : W) : a ^^^ (a ^^^ b) = b := by rw [← BitVec.xor_assoc]; simp
def one : W := 1#32 <<< 31

theorem M_xor (a b : W) : M (a ^^^ b) = M a ^^^ M b := by
  unfold M
  rw [BitVec.getLsbD_xor, BitVec.ushiftRight_xor_distrib]
  cases a.getLsbD 0 <;> cases b.getLsbD 0 <;> simp [BitVec.xor_assoc, BitVec.xor_comm, xlc, xself]
theorem M_zero : M 0#32 = 0#32 := by decide
theorem Mn_xor (n : Nat) : ∀ a b : W, Mn n (a ^^^ b) = Mn n a ^^^ Mn n b := by
  induction n with
  | zero => intro a b; rfl
  | succ n ih => intro a b; simp only [Mn, M_xor, ih]
theorem Mn_add (m n : Nat) : ∀ c, Mn (m + n) c = Mn n (Mn m c) := by
  induction m with
  | zero => intro c; simp [Mn]
  | succ m ih => intro c; rw [Nat.succ_add]; simp only [Mn, ih]
/-- The product, the highest bit the power 0: n bits of a are still to come. -/
def tl : Nat → W → W → W → W
  | 0, _, _, p => p
  | n + 1, a, b, p => tl n a (M b) (if a.getLsbD n then p ^^^ b else p)
def times (a b : W) : W := tl 32 a b 0#32

theorem tl_left (n : Nat) : ∀ a a' b p p' : W, tl n (a ^^^ a') b (p ^^^ p') = tl n a b p ^^^ tl n a' b p' := by
  induction n with
  | zero => intros; rfl
  | succ n ih =>
    intro a a' b p p'
    simp only [tl]
    rw [← ih, BitVec.getLsbD_xor]
    congr 1
    cases a.getLsbD n <;> cases a'.getLsbD n <;> simp [BitVec.xor_assoc, BitVec.xor_comm, xlc, xself]
theorem tl_right (n : Nat) : ∀ a b b' p p' : W, tl n a (b ^^^ b') (p ^^^ p') = tl n a b p ^^^ tl n a b' p' := by
  induction n with
  | zero => intros; rfl
  | succ n ih =>
    intro a b b' p p'
    simp only [tl]
    rw [← ih, M_xor]
    congr 1
    cases a.getLsbD n <;> simp [BitVec.xor_assoc, BitVec.xor_comm, xlc]
theorem tl_M (n : Nat) : ∀ a b p : W, tl n a (M b) (M p) = M (tl n a b p) := by
  induction n with
  | zero => intros; rfl
  | succ n ih =>
    intro a b p
    simp only [tl]
    rw [← ih]
    congr 1
    cases a.getLsbD n <;> simp [M_xor]
theorem times_left (a a' b : W) : times (a ^^^ a') b = times a b ^^^ times a' b := by
  unfold times; rw [← tl_left]; simp
theorem times_right (a b b' : W) : times a (b ^^^ b') = times a b ^^^ times a b' := by
  unfold times; rw [← tl_right]; simp
theorem times_M (a b : W) : times a (M b) = M (times a b) := by
  unfold times; rw [← tl_M, M_zero]
theorem times_Mn (n : Nat) : ∀ a b : W, times a (Mn n b) = Mn n (times a b) := by
  induction n with
  | zero => intros; rfl
  | succ n ih => intro a b; simp only [Mn]; rw [ih, times_M]

theorem bit_one (k n : Nat) (hn : n < 32) : (1#32 <<< k).getLsbD n = decide (n = k) := by
  rw [BitVec.getLsbD_shiftLeft]
  by_cases h : n < k
  · simp [h]; omega
  · by_cases e : n = k
    · subst e; simp [hn]
    · simp [h, e, hn, BitVec.getLsbD_one]; omega
theorem tl_high (n : Nat) : ∀ (k : Nat) (b p : W), n ≤ 32 → n ≤ k → tl n (1#32 <<< k) b p = p := by
  induction n with
  | zero => intros; rfl
  | succ n ih =>
    intro k b p hn hk
    simp only [tl]
    rw [bit_one k n (by omega), ih k _ _ (by omega) (by omega)]
    simp; omega
theorem tl_bit (n : Nat) : ∀ (k : Nat) (b p : W), n ≤ 32 → k < n → tl n (1#32 <<< k) b p = p ^^^ Mn (n - 1 - k) b := by
  induction n with
  | zero => intro k b p _ h; omega
  | succ n ih =>
    intro k b p hn hk
    simp only [tl]
    rw [bit_one k n (by omega)]
    by_cases e : n = k
    · subst e
      rw [tl_high n n _ _ (by omega) (by omega)]
      simp [Mn]
    · rw [ih k _ _ (by omega) (by omega)]
      rw [show n + 1 - 1 - k = n - 1 - k + 1 from by omega]
      simp [e, Mn]
theorem times_bit (k : Nat) (hk : k < 32) (b : W) : times (1#32 <<< k) b = Mn (31 - k) b := by
  unfold times; rw [tl_bit 32 k b _ (by omega) hk]; simp

/-- Whatever holds of 0 and the bits, and of sums, holds of all. -/
theorem by_bits (P : W → Prop) (h0 : P 0#32) (hx : ∀ a b, P a → P b → P (a ^^^ b)) (hb : ∀ k, k < 32 → P (1#32 <<< k)) (a : W) : P a := by
  have key : ∀ n, n ≤ 32 → P (BitVec.ofNat 32 (a.toNat % 2 ^ n)) := by
    intro n
    induction n with
    | zero => intro _; simpa [Nat.mod_one] using h0
    | succ n ih =>
      intro hn
      have e : BitVec.ofNat 32 (a.toNat % 2 ^ (n + 1)) = BitVec.ofNat 32 (a.toNat % 2 ^ n) ^^^ (if a.getLsbD n then 1#32 <<< n else 0#32) := by
        apply BitVec.eq_of_getLsbD_eq
        intro i hi
        rw [BitVec.getLsbD_xor, BitVec.getLsbD_ofNat, BitVec.getLsbD_ofNat, Nat.testBit_mod_two_pow, Nat.testBit_mod_two_pow]
        by_cases h : a.getLsbD n = true
        · rw [if_pos h, bit_one n i hi]
          by_cases e : i = n
          · subst e; simp [hi, BitVec.getLsbD] at *; simp [h]
          · have : (i < n + 1) = (i < n) := by simp; omega
            simp [e, this]
        · rw [if_neg h]
          by_cases e : i = n
          · subst e; simp [BitVec.getLsbD] at *; simp [h]
          · have : (i < n + 1) = (i < n) := by simp; omega
            simp [this]
      rw [e]
      refine hx _ _ (ih (by omega)) ?_
      split
      · exact hb n (by omega)
      · exact h0
  have := key 32 (by omega)
  rw [Nat.mod_eq_of_lt a.isLt] at this
  simpa using this

theorem times_zero_left (b : W) : times 0#32 b = 0#32 := by
  have := times_left 0#32 0#32 b; simpa using this
theorem times_zero_right (a : W) : times a 0#32 = 0#32 := by
  have := times_right a 0#32 0#32; simpa using this
theorem bit_pow (k : Nat) (hk : k < 32) : (1#32 <<< k : W) = Mn (31 - k) one := by
  have h : ∀ j : Fin 32, (1#32 <<< j.val : W) = Mn (31 - j.val) one := by decide +kernel
  exact h ⟨k, hk⟩
theorem times_one (a : W) : times a one = a := by
  refine by_bits (fun a => times a one = a) (times_zero_left _) ?_ ?_ a
  · intro a b ha hb; rw [times_left, ha, hb]
  · intro k hk; rw [times_bit k hk, bit_pow k hk]
theorem one_times (b : W) : times one b = b := by
  have := times_bit 31 (by omega) b; simpa [one, Mn] using this
theorem times_comm (a b : W) : times a b = times b a := by
  refine by_bits (fun a => times a b = times b a) (by rw [times_zero_left, times_zero_right]) ?_ ?_ a
  · intro a a' ha hb; rw [times_left, times_right, ha, hb]
  · intro k hk; rw [times_bit k hk, bit_pow k hk, times_Mn, times_one]
theorem Mn_times (n : Nat) (a b : W) : times (Mn n a) b = Mn n (times a b) := by rw [times_comm, times_Mn, times_comm]
theorem pow_times (n : Nat) (c : W) : times (Mn n one) c = Mn n c := by rw [Mn_times, one_times]

/-- M is one to one. -/
theorem M_zero_of (c : W) (h : M c = 0#32) : c = 0#32 := by
  unfold M at h
  by_cases h0 : c.getLsbD 0 = true
  · rw [if_pos h0] at h
    have : ((c >>> 1) ^^^ poly).getLsbD 31 = true := by
      rw [BitVec.getLsbD_xor, BitVec.getLsbD_ushiftRight, BitVec.getLsbD_of_ge _ _ (by omega)]; decide
    rw [h] at this; simp at this
  · rw [if_neg h0] at h
    apply BitVec.eq_of_getLsbD_eq
    intro i hi
    cases i with
    | zero => simpa using h0
    | succ i =>
      have : (c >>> 1).getLsbD i = (0#32).getLsbD i := by rw [h]
      rw [BitVec.getLsbD_ushiftRight] at this
      rw [Nat.add_comm 1 i] at this
      simpa using this
theorem Mn_zero_of (n : Nat) : ∀ c, Mn n c = 0#32 → c = 0#32 := by
  induction n with
  | zero => intro c h; exact h
  | succ n ih => intro c h; exact M_zero_of c (ih _ h)

/-! Bytes -/
def byt (x : Int) : W := BitVec.ofInt 32 x
def over (c : W) (l : List Int) : W := l.foldl (fun c x => Mn 8 (c ^^^ byt x)) c
theorem over_append (c : W) (l r : List Int) : over c (l ++ r) = over (over c l) r := by unfold over; rw [List.foldl_append]
theorem over_nil (c : W) : over c [] = c := rfl
theorem over_cons (c : W) (x : Int) (l : List Int) : over c (x :: l) = over (Mn 8 (c ^^^ byt x)) l := rfl
theorem over_snoc (c : W) (x : Int) (l : List Int) : over c (l ++ [x]) = Mn 8 (over c l ^^^ byt x) := by rw [over_append]; rfl
/-- What stands in the sum beforehand is moved on over the bytes. -/
theorem over_xor (l : List Int) : ∀ c d : W, over (c ^^^ d) l = over c l ^^^ Mn (8 * l.length) d := by
  induction l with
  | nil => intro c d; rfl
  | cons x l ih =>
    intro c d
    rw [over_cons, over_cons, show c ^^^ d ^^^ byt x = (c ^^^ byt x) ^^^ d from by rw [BitVec.xor_assoc, BitVec.xor_assoc, BitVec.xor_comm d], Mn_xor, ih, ← Mn_add]
    rw [show 8 + 8 * l.length = 8 * (x :: l).length from by simp; omega]
theorem M_shl (c : W) (h : c.getLsbD 31 = false) : M (c <<< 1) = c := by
  unfold M
  rw [if_neg (by simp)]
  apply BitVec.eq_of_getLsbD_eq
  intro i hi
  rw [BitVec.getLsbD_ushiftRight, BitVec.getLsbD_shiftLeft]
  by_cases e : i = 31
  · subst e; rw [h]; simp
  · simp; intro; omega
theorem Mn_shl (n : Nat) : ∀ c : W, (∀ i, 32 - n ≤ i → c.getLsbD i = false) → n ≤ 32 → Mn n (c <<< n) = c := by
  induction n with
  | zero => intro c _ _; simp [Mn]
  | succ n ih =>
    intro c h hn
    rw [Mn, BitVec.shiftLeft_add, M_shl, ih c (fun i hi => h i (by omega)) (by omega)]
    rw [BitVec.getLsbD_shiftLeft]
    by_cases e : 31 < n
    · simp [e]
    · simp [e, h (31 - n) (by omega)]
/-- A byte's step by the table. -/
theorem Mn8_split (y : W) : Mn 8 y = (y >>> 8) ^^^ Mn 8 (y &&& 255#32) := by
  have e : y = (y &&& 255#32) ^^^ ((y >>> 8) <<< 8) := by
    apply BitVec.eq_of_getLsbD_eq
    intro i hi
    rw [BitVec.getLsbD_xor, BitVec.getLsbD_and, BitVec.getLsbD_shiftLeft, BitVec.getLsbD_ushiftRight]
    have h255 : (255#32 : W).getLsbD i = decide (i < 8) := by
      have : ∀ j : Fin 32, (255#32 : W).getLsbD j.val = decide (j.val < 8) := by decide
      exact this ⟨i, hi⟩
    rw [h255]
    by_cases h : i < 8
    · simp [h]
    · simp [h, hi]; rw [show 8 + (i - 8) = i from by omega, BitVec.getLsbD_eq_getElem hi]
  have h8 : Mn 8 ((y >>> 8) <<< 8) = y >>> 8 := Mn_shl 8 _ (fun i hi => by rw [BitVec.getLsbD_ushiftRight]; exact BitVec.getLsbD_of_ge _ _ (by omega)) (by omega)
  have h := congrArg (Mn 8) e
  rw [Mn_xor, h8, BitVec.xor_comm] at h
  exact h
/-! The moves, bit by bit of the length -/
theorem pow_mul (a b : Nat) : times (Mn a one) (Mn b one) = Mn (b + a) one := by rw [pow_times, Mn_add]
/-! A byte turned -/
/-! Joined -/
/-! Four bytes -/
def b4 (d : W) : List Int := [((d &&& 255#32).toNat : Int), (((d >>> 8) &&& 255#32).toNat : Int), (((d >>> 16) &&& 255#32).toNat : Int), (((d >>> 24) &&& 255#32).toNat : Int)]
theorem byt_toNat (d : W) : byt ((d.toNat : Nat) : Int) = d := by unfold byt; rw [BitVec.ofInt_natCast]; simp
theorem b4_over (c d : W) : over c (b4 d) = Mn 32 (c ^^^ d) := by
  have h0 : over 0#32 (b4 d) = Mn 32 d := by
    have e1 := Mn8_split d
    have e2 := Mn8_split (d >>> 8)
    have e3 := Mn8_split (d >>> 16)
    have e4 := Mn8_split (d >>> 24)
    rw [← BitVec.shiftRight_add] at e2 e3 e4
    simp only [Nat.reduceAdd] at e2 e3 e4
    have z : d >>> 32 = 0#32 := by
      apply BitVec.eq_of_getLsbD_eq; intro i hi
      rw [BitVec.getLsbD_ushiftRight, BitVec.getLsbD_of_ge _ _ (by omega)]; simp
    unfold b4
    rw [over_cons, over_cons, over_cons, over_cons, over_nil, byt_toNat, byt_toNat, byt_toNat, byt_toNat]
    rw [show Mn 32 d = Mn 8 (Mn 8 (Mn 8 (Mn 8 d))) from by rw [← Mn_add, ← Mn_add, ← Mn_add]]
    rw [e1, Mn_xor 8 (d >>> 8), e2]
    rw [Mn_xor 8 (d >>> 16 ^^^ _), Mn_xor 8 (d >>> 16), e3]
    rw [Mn_xor 8 (d >>> 24 ^^^ _ ^^^ _), Mn_xor 8 (d >>> 24 ^^^ _), Mn_xor 8 (d >>> 24), e4, z]
    simp [Mn_xor, BitVec.xor_comm, xlc]
  have := over_xor (b4 d) 0#32 c
  rw [show 0#32 ^^^ c = c from by simp, h0] at this
  rw [this, Mn_xor, BitVec.xor_comm]; rfl

/-! Bits turned, all among thirty-two neighbours -/
/-- The lowest i bits. -/
def low (i : Nat) (b : W) : W := BitVec.ofNat 32 (b.toNat % 2 ^ i)
/-- Sealed bytes: their inner number, the sum with them, is one and the same. -/
theorem sealed (c : W) (p : List Int) : over c (p ++ b4 (~~~ (over c p))) = Mn 32 (BitVec.allOnes 32) := by
  rw [over_append, b4_over]; congr 1
  apply BitVec.eq_of_getLsbD_eq; intro i hi
  rw [BitVec.getLsbD_xor, BitVec.getLsbD_not, BitVec.getLsbD_allOnes]; cases (over c p).getLsbD i <;> simp [hi]
/-- Whatever is opened has that inner number: so nothing that was turned is. -/
theorem told (c : W) (b : W) (k : Nat) (p q : List Int) (hq : over c q = over c (p ++ b4 (~~~ (over c p))) ^^^ Mn k (Mn 32 b)) (r : List Int) (hr : q = r ++ b4 (~~~ (over c r))) : b = 0#32 := by
  rw [hr, sealed, sealed] at hq
  have h : Mn k (Mn 32 b) = 0#32 := by
    have e := congrArg (fun z => Mn 32 (BitVec.allOnes 32) ^^^ z) hq
    simp only [xself, BitVec.xor_self] at e
    exact e.symm
  exact Mn_zero_of 32 b (Mn_zero_of k _ h)
end CrcM
end
/-! The contracts of package crc's own functions: step, the table, over, More, Sum. -/
section
namespace Go.Proofs.Ytpjpgcjhdbiepaa
open Go.RowKit Go.Kit CrcM Go.Proofs.YtpjpgcjhdbiepaaW.PrintWords

theorem u32_lt (c : W) : (c.toNat : Int) < 4294967296 := by have := c.isLt; omega
theorem and_one (c : W) : bits .and .u32 (c.toNat : Int) 1 = if c.getLsbD 0 then 1 else 0 := by
  have := u32_and_nat c.toNat 1 (by have := c.isLt; omega) (by omega)
  rw [show ((1 : Nat) : Int) = 1 from rfl] at this
  rw [this, Nat.and_one_is_mod, BitVec.getLsbD, Nat.testBit_zero]
  by_cases h : c.toNat % 2 = 1 <;> simp [h]; omega
theorem shr_one (c : W) : ((c.toNat : Nat) : Int) / (2 : Int) = ((c >>> 1).toNat : Int) := by
  rw [BitVec.toNat_ushiftRight, Nat.shiftRight_eq_div_pow]; omega
theorem shr_eight (c : W) : ((c.toNat : Nat) : Int) / (256 : Int) = ((c >>> 8).toNat : Int) := by
  rw [BitVec.toNat_ushiftRight, Nat.shiftRight_eq_div_pow]; omega
theorem xor_w (c d : W) : bits .xor .u32 (c.toNat : Int) (d.toNat : Int) = ((c ^^^ d).toNat : Int) := by
  rw [u32_xor_nat _ _ (by have := c.isLt; omega) (by have := d.isLt; omega), BitVec.toNat_xor]
theorem step_yes (c : W) (h : c.getLsbD 0 = true) : bits .xor .u32 (((c.toNat : Nat) : Int) / (2 : Int)) 2197175160 = ((M c).toNat : Int) := by
  rw [shr_one, show (2197175160 : Int) = (poly.toNat : Int) from rfl, xor_w, M, if_pos h]
theorem step_no (c : W) (h : c.getLsbD 0 = false) : ((c.toNat : Nat) : Int) / (2 : Int) = ((M c).toNat : Int) := by
  rw [shr_one, M, if_neg (by rw [h]; simp)]
theorem Mn_less (k : Nat) (hk : k < 8) (d : W) : Mn (8 - k) d = Mn (8 - (k + 1)) (M d) := by
  rw [show 8 - k = (8 - (k + 1)) + 1 from by omega]; rfl

set_option maxHeartbeats 400000 in
theorem step_any (c : W) (n : Int) (hn : n = (c.toNat : Int)) (w : World) :
    Calls Try.prog 99 #[.int .u32 n] w fun e w' => e = .returned (.int .u32 ((Mn 8 c).toNat : Int)) ∧ w' = w := by
  subst hn
  go_enter Try.func99, Try.ntmps99
  go_wp2
  go_loop [0, 3] (fun v0 v3 => ∃ (d : W) (k : Nat), k ≤ 8 ∧ v0 = .int .u32 (d.toNat : Int) ∧ v3 = .int .i64 (k : Int) ∧ Hid (Mn 8 c = Mn (8 - k) d)) (fun _ i => 8 - (intOf i).toNat)
  case atStart => exact ⟨c, 0, by omega, rfl, rfl, rfl⟩
  case round =>
    obtain ⟨d, k, hk, rfl, rfl, HD⟩ := hrel
    have h1 := and_one d
    by_cases hlt : k < 8
    · have HE : Hid (Mn 8 c = Mn (8 - (k + 1)) (M d)) := (HD.out).trans (Mn_less k hlt d)
      cases hb : d.getLsbD 0
      · rw [hb] at h1
        have HS := Lib.hid (step_no d hb)
        clear hb
        go_wp2
        go_round
        case rel => exact ⟨M d, k + 1, by omega, by rw [← HS.out], by simp, HE⟩
        case measure => simp [intOf]; omega
      · rw [hb] at h1
        have HS := Lib.hid (step_yes d hb)
        clear hb
        go_wp2
        go_round
        case rel => exact ⟨M d, k + 1, by omega, by rw [← HS.out], by simp, HE⟩
        case measure => simp [intOf]; omega
    · have HE : Hid (Mn 8 c = d) := by rw [HD.out, show 8 - k = 0 from by omega]; rfl
      go_wp2
      go_ret
      exact ⟨by rw [HE.out]; rfl, rfl⟩

/-! The table -/
def tabV (j : Nat) : Value := .int .u32 ((Mn 8 (BitVec.ofNat 32 j)).toNat : Int)
def tabC (i : Nat) : Array Value := Array.ofFn (n := 256) fun j => if j.val < i then tabV j.val else .int .u32 0
theorem tabC_zero : tabC 0 = Array.replicate 256 (.int .u32 0) := by
  apply Array.ext
  · simp [tabC]
  · intro i h1 h2; simp [tabC]
theorem tabC_size (i : Nat) : (tabC i).size = 256 := by simp [tabC]
theorem tabC_set (i : Nat) : (tabC i).setIfInBounds i (tabV i) = tabC (i + 1) := by
  apply Array.ext
  · simp [tabC]
  · intro j h1 h2
    have hj : j < (tabC i).size := by simpa using h1
    rw [Array.getElem_setIfInBounds hj]
    by_cases e : i = j
    · subst e; simp [tabC]
    · simp only [if_neg e, tabC, Array.getElem_ofFn]
      have : (j < i + 1) = (j < i) := by simp; omega
      simp [this]
theorem tabC_one (i : Nat) : (tabC i).all (·.oneCell') = true := by
  rw [Array.all_eq_true]
  intro j h
  simp only [tabC, Array.getElem_ofFn]
  split <;> rfl
theorem tabC_get (j : Nat) (hj : j < 256) : (tabC 256)[j]? = some (tabV j) := by
  rw [Array.getElem?_eq_getElem (by rw [tabC_size]; exact hj)]
  simp [tabC]
theorem info_tab : (Try.prog.info? 118).map (fun i => (i.zero, i.size)) = some (some (.agg (Array.replicate 256 (.int .u32 0))), 256) := by kernel_rfl

set_option maxHeartbeats 400000 in
set_option maxRecDepth 100000 in
theorem table_any (w : World) :
    Calls Try.prog 69 #[] w fun e w' => e = .returned (.agg (tabC 256)) ∧ Below w.heap.size w w' := by
  have hz58 := (zero_of_info info_tab).1
  have hi58 := (zero_of_info info_tab).2
  have HI := Lib.hid hi58
  clear hi58
  rw [← tabC_zero] at hz58
  go_enter Try.func69, Try.ntmps69
  go_wp2
  clear hz58
  go_loopg [3] 256 (fun g v3 wx => ∃ i : Nat, i + g = 256 ∧ v3 = .int .i64 i ∧ wx = (w.alloc (.cells (tabC 0) 118)).alloc (.cells (tabC i) 118))
  case atStart => exact ⟨0, by omega, rfl, rfl⟩
  case round =>
    obtain ⟨i, hig, rfl, rfl⟩ := hrel
    cases gk with
    | zero =>
      obtain rfl : i = 256 := by omega
      have hh1 : ((w.alloc (.cells (tabC 0) 118)).alloc (.cells (tabC 256) 118)).heap[w.heap.size + 1]? = some (.cells (tabC 256) 118 (0, 0)) := by
        have := heap_alloc_new (w.alloc (.cells (tabC 0) 118)) (.cells (tabC 256) 118)
        rwa [World.size_alloc] at this
      have hh0 : ((w.alloc (.cells (tabC 0) 118)).alloc (.cells (tabC 256) 118)).heap[w.heap.size]? = some (.cells (tabC 0) 118 (0, 0)) := by
        exact (heap_alloc_old _ _ (by simp)).trans (heap_alloc_new w _)
      have Hh1 := Lib.hid hh1
      have Hh0 := Lib.hid hh0
      have Hb : Below w.heap.size w ((w.alloc (.cells (tabC 0) 118)).alloc (.cells (tabC 256) 118)) := ((Below.refl _ _).alloc (Nat.le_refl _) _).alloc (by simp) _
      clear hh0 hh1
      generalize ((w.alloc (.cells (tabC 0) 118)).alloc (.cells (tabC 256) 118)) = W at *
      clear hig
      have Hs : Hid ((Try.prog.info? 118).map (·.size) = some (tabC 256).size) := by rw [tabC_size]; exact HI.out
      have Hs0 : Hid ((tabC 0).size = (tabC 256).size) := by rw [tabC_size, tabC_size]; rfl
      go_upto_region 7 with (fail)
      apply wp_region_lit
      refine wpList_load_row rfl 118 (.tmp 1) rfl (w.heap.size + 1) rfl 118 (tabC 256) (0, 0) (.array 256 77) Hh1.out Try.underlying118 rfl Hs.out ?_
      refine wpList_store_row rfl 118 (.tmp 0) (.tmp 12) rfl w.heap.size (tabC 256) rfl rfl 118 (tabC 0) Hh0.out Hs.out Hs0.out (tabC_one _) ?_
      have HR : Hid ((W.setRow w.heap.size (tabC 256)).heap[w.heap.size]? = some (.cells (tabC 256) 118 (0, 0))) := setRow_heap _ _ _ _ _ _ Hh0.out
      have Hb2 : Below w.heap.size w (W.setRow w.heap.size (tabC 256)) := below_setRow Hb (Nat.le_refl _) _
      generalize W.setRow w.heap.size (tabC 256) = W2 at *
      go_wp2_with fail
      refine bodyPost_ret (v := .agg (tabC 256)) (results_cell_row rfl _ W2 w.heap.size 118 (tabC 256) (0, 0) (.array 256 77) rfl HR.out Try.underlying118 rfl Hs.out) rfl ⟨rfl, Hb2⟩
    | succ g =>
      have hi : i < 256 := by omega
      have HG := Lib.hid hig
      clear hig
      have hn : (i : Int) = ((BitVec.ofNat 32 i).toNat : Int) := by simp; omega
      have HN := Lib.hid hn
      clear hn
      go_wp2_with fail
      refine (step_any (BitVec.ofNat 32 i) _ HN.out _).mono ?_
      rintro e w' ⟨rfl, rfl⟩
      have hv : Value.int .u32 ((Mn 8 (BitVec.ofNat 32 i)).toNat : Int) = tabV i := rfl
      have HV := Lib.hid hv
      clear hv
      generalize ((Mn 8 (BitVec.ofNat 32 i)).toNat : Int) = x at *
      have hts := tabC_size i
      go_wp2_with fail
      go_roundg g
      case measure => omega
      case rel => exact ⟨i + 1, by have := HG.out; omega, by simp, by rw [HV.out, tabC_set]⟩
end Go.Proofs.Ytpjpgcjhdbiepaa
end
/-! The contracts of over, More and Sum. -/
section
namespace Go.Proofs.Ytpjpgcjhdbiepaa
open Go.RowKit Go.Kit CrcM Go.Proofs.YtpjpgcjhdbiepaaW.PrintWords

theorem byte_of (c : W) (x : Int) (h0 : 0 ≤ x) (h1 : x < 256) :
    bits .xor .u8 ((c.toNat : Int) % 256) x = ((((c ^^^ byt x) &&& 255#32).toNat : Nat) : Int) := by
  obtain ⟨n, rfl⟩ := Int.eq_ofNat_of_zero_le h0
  have e : ((c.toNat : Int) % 256) = ((c.toNat % 256 : Nat) : Int) := by omega
  rw [e, u8_xor_nat _ _ (Nat.mod_lt _ (by omega)) (by omega)]
  congr 1
  have h255 : ((c ^^^ byt (n : Int)) &&& 255#32).toNat = (c.toNat ^^^ n) % 256 := by
    rw [BitVec.toNat_and, BitVec.toNat_xor, byt, BitVec.ofInt_natCast, BitVec.toNat_ofNat, Nat.mod_eq_of_lt (show n < 2 ^ 32 by omega)]
    exact Nat.and_two_pow_sub_one_eq_mod _ 8
  rw [h255]
  rw [show (256 : Nat) = 2 ^ 8 from rfl, Nat.xor_mod_two_pow, Nat.mod_eq_of_lt (show n < 2 ^ 8 by omega)]
/-- One byte, by the table. -/
theorem over_step (c : W) (x : Int) (h0 : 0 ≤ x) (h1 : x < 256) :
    bits .xor .u32 (((c.toNat : Nat) : Int) / (256 : Int)) ((Mn 8 (BitVec.ofNat 32 ((c ^^^ byt x) &&& 255#32).toNat)).toNat : Int) = ((Mn 8 (c ^^^ byt x)).toNat : Int) := by
  rw [shr_eight, xor_w]
  congr 2
  rw [Mn8_split (c ^^^ byt x)]
  congr 1
  · apply BitVec.eq_of_getLsbD_eq
    intro i hi
    obtain ⟨n, rfl⟩ := Int.eq_ofNat_of_zero_le h0
    rw [BitVec.getLsbD_ushiftRight, BitVec.getLsbD_ushiftRight, BitVec.getLsbD_xor, byt, BitVec.ofInt_natCast, BitVec.getLsbD_ofNat, Nat.testBit_lt_two_pow (show n < 2 ^ (8 + i) from Nat.lt_of_lt_of_le (show n < 2 ^ 8 by omega) (Nat.pow_le_pow_right (by omega) (by omega)))]
    simp
  · simp
theorem low_lt (y : W) : (y &&& 255#32).toNat < 256 := by
  rw [BitVec.toNat_and]
  exact Nat.lt_of_le_of_lt Nat.and_le_right (by decide)
/-- What one round of the table asks, and gives: q the place, z what stands there. -/
theorem over_round (c : W) (x : Int) (h0 : 0 ≤ x) (h1 : x < 256) : ∃ (q : Nat) (z : Int), q < 256 ∧ (tabC 256)[q]? = some (.int .u32 z) ∧
    bits .xor .u8 ((c.toNat : Int) % 256) x = (q : Int) ∧ bits .xor .u32 (((c.toNat : Nat) : Int) / (256 : Int)) z = ((Mn 8 (c ^^^ byt x)).toNat : Int) :=
  ⟨_, _, low_lt _, tabC_get _ (low_lt (c ^^^ byt x)), byte_of c x h0 h1, over_step c x h0 h1⟩
set_option maxHeartbeats 1000000 in
set_option maxRecDepth 100000 in
theorem over_any (c : W) (n : Int) (hn : n = (c.toNat : Int)) (A : Option Addr) (len cap : Nat) (L : List (List Int)) (w : World) (hL : RBs w A len L) :
    Calls Try.prog 60 #[.int .u32 n, .slice A len cap] w fun e w' => e = .returned (.int .u32 ((over c L.flatten).toNat : Int)) ∧ Below w.heap.size w w' := by
  subst hn
  have hlenL := hL.len
  have HL := Lib.hid hlenL
  clear hlenL
  have hmaxL := hL.max
  have hz58 := (zero_of_info info_tab).1
  have HZ := Lib.hid hz58
  clear hz58
  have HI := Lib.hid (zero_of_info info_tab).2
  go_enter Try.func60, Try.ntmps60
  go_wp2_with fail
  refine (table_any _).mono ?_
  rintro e w1 ⟨rfl, hb1⟩
  have hz58 := HZ.out
  rw [← tabC_zero] at hz58
  have Hs : Hid ((Try.prog.info? 118).map (·.size) = some (tabC 256).size) := by rw [tabC_size]; exact HI.out
  have Hs0 : Hid ((tabC 0).size = (tabC 256).size) := by rw [tabC_size, tabC_size]; rfl
  have Hh : Hid ((w1.alloc (.cells (tabC 0) 118)).heap[w1.heap.size]? = some (.cells (tabC 0) 118 (0, 0))) := heap_alloc_new w1 _
  go_wp2_with (refine wpList_store_row rfl 118 (.tmp 5) (.tmp 10) rfl w1.heap.size (tabC 256) rfl rfl 118 (tabC 0) Hh.out Hs.out Hs0.out (tabC_one _) ?_)
  have HT : Hid (((w1.alloc (.cells (tabC 0) 118)).setRow w1.heap.size (tabC 256)).heap[w1.heap.size]? = some (.cells (tabC 256) 118 (0, 0))) := setRow_heap _ _ _ _ _ _ Hh.out
  have hb2 : Below w.heap.size w ((w1.alloc (.cells (tabC 0) 118)).setRow w1.heap.size (tabC 256)) := below_setRow (below_alloc hb1 _) hb1.size _
  clear Hh Hs Hs0 hz58 HZ HI hb1
  generalize ((w1.alloc (.cells (tabC 0) 118)).setRow w1.heap.size (tabC 256)) = wt at hb2 HT ⊢
  replace hL := hL.below hb2
  go_loop [0, 13] (fun v0 v13 => ∃ (d : W) (k : Nat), k ≤ len ∧ v0 = .int .u32 (d.toNat : Int) ∧ v13 = .int .i64 (k : Int) ∧ Hid (d = over c (L.take k).flatten)) (fun _ i => len - (intOf i).toNat)
  case atStart => exact ⟨c, 0, by omega, rfl, rfl, rfl⟩
  case round =>
    obtain ⟨d, k, hk, rfl, rfl, HD⟩ := hrel
    by_cases hlt : k < len
    · obtain ⟨ad, Ai, ni, ci, xs, rfl, hcell, hr, HX⟩ := hL.at_ k hlt
      have hmx := hr.max
      go_upto_block 2 with (fail)
      go_wp2_with fail
      go_loop [0, 19] (fun v0 v19 => ∃ (d2 : W) (j : Nat), j ≤ ni ∧ v0 = .int .u32 (d2.toNat : Int) ∧ v19 = .int .i64 (j : Int) ∧ Hid (d2 = over d (xs.take j))) (fun _ i => ni - (intOf i).toNat)
      case atStart => exact ⟨d, 0, by omega, rfl, rfl, rfl⟩
      case round =>
        obtain ⟨d2, j, hj, rfl, rfl, HD2⟩ := hrel
        by_cases hlj : j < ni
        · obtain ⟨ad2, x, rfl, hc2, h0, h1, HX2⟩ := hr.at_ j hlj
          obtain ⟨q, z, hq, hz, hby, hxo⟩ := over_round d2 x h0 h1
          have hct : wt.cell? ⟨w1.heap.size, q, none⟩ = some (.int .u32 z) := (cell_of_row wt w1.heap.size q (tabC 256) 118 (0, 0) HT.out).trans hz
          clear hz
          go_wp2
          go_round
          case rel => exact ⟨Mn 8 (d2 ^^^ byt x), j + 1, by omega, by simp, by simp, by rw [snoc HX2.out, over_snoc, ← HD2.out]; rfl⟩
          case measure => simp [intOf]; omega
        · go_wp2
          go_round
          case rel => exact ⟨d2, k + 1, by omega, by simp, by simp, by rw [flat_snoc HX.out, over_append, ← HD.out, HD2.out, all_of (by rw [hr.len]; omega)]; rfl⟩
          case measure => simp [intOf]; omega
    · go_wp2
      go_ret
      exact ⟨by rw [HD.out, all_of (by rw [HL.out]; omega)]; rfl, hb2⟩
end Go.Proofs.Ytpjpgcjhdbiepaa
end
/-! The contracts of More, Sum, and the document's byteOn, More, Sum. -/
section
namespace Go.Proofs.Ytpjpgcjhdbiepaa
open Go.RowKit Go.Kit CrcM Go.Proofs.YtpjpgcjhdbiepaaW.PrintWords

theorem not_w (c : W) : bits .xor .u32 IntKind.u32.max ((c.toNat : Nat) : Int) = ((~~~ c).toNat : Int) := by
  rw [show IntKind.u32.max = ((BitVec.allOnes 32).toNat : Int) from by decide, xor_w]
  congr 2
def more (c : W) (l : List Int) : W := ~~~ (over (~~~ c) l)
set_option maxHeartbeats 400000 in
theorem Sum_any (A : Option Addr) (len cap : Nat) (L : List (List Int)) (w : World) (hL : RBs w A len L) :
    Calls Try.prog 50 #[.slice A len cap] w fun e w' => e = .returned (.int .u32 ((more 0#32 L.flatten).toNat : Int)) ∧ Below w.heap.size w w' := by
  go_enter Try.func50, Try.ntmps50
  go_wp2_with fail
  refine (over_any (~~~ 0#32) _ (by decide) A len cap L w hL).mono ?_
  rintro e w1 ⟨rfl, hb⟩
  have hnot := not_w (over (~~~ 0#32) L.flatten)
  obtain ⟨m, hm⟩ : ∃ m, m = ~~~ over (~~~ 0#32) L.flatten := ⟨_, rfl⟩
  have HM : Hid (m = more 0#32 L.flatten) := hm
  rw [← hm] at hnot
  clear hm
  generalize over (~~~ 0#32) L.flatten = d at *
  go_wp2
  go_ret
  exact ⟨by rw [← HM.out]; rfl, hb⟩
end Go.Proofs.Ytpjpgcjhdbiepaa
end
/-! The contracts of the document's byteOn, More and Sum; of both products. -/
section
namespace Go.Proofs.Ytpjpgcjhdbiepaa
open Go.RowKit Go.Kit CrcM Go.Proofs.YtpjpgcjhdbiepaaW.PrintWords

theorem byte_in (c : W) (x : Int) (h0 : 0 ≤ x) (h1 : x < 256) : bits .xor .u32 ((c.toNat : Nat) : Int) x = ((c ^^^ byt x).toNat : Int) := by
  obtain ⟨n, rfl⟩ := Int.eq_ofNat_of_zero_le h0
  have e : (n : Int) = ((byt (n : Int)).toNat : Int) := by rw [byt, BitVec.ofInt_natCast, BitVec.toNat_ofNat]; omega
  rw [show bits .xor .u32 ((c.toNat : Nat) : Int) (n : Int) = bits .xor .u32 ((c.toNat : Nat) : Int) ((byt (n : Int)).toNat : Int) from by rw [← e], xor_w]
set_option maxHeartbeats 400000 in
theorem byteOn_any (c : W) (n : Int) (hn : n = (c.toNat : Int)) (x : Int) (hx0 : 0 ≤ x) (hx1 : x < 256) (w : World) :
    Calls Try.prog 41 #[.int .u32 n, .int .u8 x] w fun e w' => e = .returned (.int .u32 ((Mn 8 (c ^^^ byt x)).toNat : Int)) ∧ w' = w := by
  subst hn
  have hin := byte_in c x hx0 hx1
  obtain ⟨c2, hc2⟩ : ∃ c2, c2 = c ^^^ byt x := ⟨_, rfl⟩
  rw [← hc2] at hin ⊢
  clear hc2
  go_enter Try.func41, Try.ntmps41
  go_wp2
  clear hin
  go_loop [0, 5] (fun v0 v3 => ∃ (d : W) (k : Nat), k ≤ 8 ∧ v0 = .int .u32 (d.toNat : Int) ∧ v3 = .int .i64 (k : Int) ∧ Hid (Mn 8 c2 = Mn (8 - k) d)) (fun _ i => 8 - (intOf i).toNat)
  case atStart => exact ⟨c2, 0, by omega, rfl, rfl, rfl⟩
  case round =>
    obtain ⟨d, k, hk, rfl, rfl, HD⟩ := hrel
    have h1 := and_one d
    by_cases hlt : k < 8
    · have HE : Hid (Mn 8 c2 = Mn (8 - (k + 1)) (M d)) := (HD.out).trans (Mn_less k hlt d)
      cases hb : d.getLsbD 0
      · rw [hb] at h1
        have HS := Lib.hid (step_no d hb)
        clear hb
        go_wp2
        go_round
        case rel => exact ⟨M d, k + 1, by omega, by rw [← HS.out], by simp, HE⟩
        case measure => simp [intOf]; omega
      · rw [hb] at h1
        have HS := Lib.hid (step_yes d hb)
        clear hb
        go_wp2
        go_round
        case rel => exact ⟨M d, k + 1, by omega, by rw [← HS.out], by simp, HE⟩
        case measure => simp [intOf]; omega
    · have HE : Hid (Mn 8 c2 = d) := by rw [HD.out, show 8 - k = 0 from by omega]; rfl
      go_wp2
      go_ret
      exact ⟨by rw [HE.out]; rfl, rfl⟩

set_option maxHeartbeats 400000 in
theorem rMore_any (c : W) (n : Int) (hn : n = (c.toNat : Int)) (A : Option Addr) (len cap : Nat) (xs : List Int) (w : World) (hx : RB w A len xs) :
    Calls Try.prog 34 #[.int .u32 n, .slice A len cap] w fun e w' => e = .returned (.int .u32 ((more c xs).toNat : Int)) ∧ w' = w := by
  subst hn
  have hnot := not_w c
  obtain ⟨b, hb0⟩ : ∃ b, b = ~~~ c := ⟨_, rfl⟩
  rw [← hb0] at hnot
  have HB := Lib.hid hb0
  clear hb0
  have hmx := hx.max
  go_enter Try.func34, Try.ntmps34
  go_wp2_with fail
  clear hnot
  go_loop [0, 5] (fun v0 v5 => ∃ (d : W) (k : Nat), k ≤ len ∧ v0 = .int .u32 (d.toNat : Int) ∧ v5 = .int .i64 (k : Int) ∧ Hid (d = over b (xs.take k))) (fun _ i => len - (intOf i).toNat)
  case atStart => exact ⟨b, 0, by omega, rfl, rfl, rfl⟩
  case round =>
    obtain ⟨d, k, hk, rfl, rfl, HD⟩ := hrel
    by_cases hlt : k < len
    · obtain ⟨ad, x, rfl, hc, h0, h1, HX⟩ := hx.at_ k hlt
      go_wp2_with ((go_at_call 41); (refine (byteOn_any d _ rfl _ h0 h1 _).mono ?_); (rintro e w' ⟨rfl, rfl⟩))
      go_round
      case rel => exact ⟨Mn 8 (d ^^^ byt x), k + 1, by omega, by simp, by simp, by rw [snoc HX.out, over_snoc, ← HD.out]; rfl⟩
      case measure => simp [intOf]; omega
    · have hnot := not_w d
      obtain ⟨m, hm⟩ : ∃ m, m = ~~~ d := ⟨_, rfl⟩
      rw [← hm] at hnot
      have HM : Hid (m = more c xs) := Lib.hid (by unfold more; rw [← HB.out, hm, HD.out, all_of (by rw [hx.len]; omega)])
      clear hm
      go_wp2_with fail
      go_ret
      exact ⟨by rw [← HM.out]; rfl, rfl⟩

end Go.Proofs.Ytpjpgcjhdbiepaa
end
