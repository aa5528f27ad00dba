/- Contracts of functions that the laws reach (texts laid together, part 3): each says of its call what it answers and what it leaves of memory; the conditions stand in each statement. -/
import Derived.Test.YtelfephmjkipoaaMb2
import Derived.Deep.RegionHeld3
import Derived.Deep.DeepMust
import Derived.Laws.Cover3
import Derived.Test.YtelfephmjkipoaaProg
import Derived.Test.YtelfephmjkipoaaMb1
import Derived.RegionTactic
import Derived.BigRegion
set_option linter.unusedVariables false
/-! wire.Size; the document's Int, Bool, Text, Texts, List; the law's lay and told. -/
section
namespace Go.Proofs.Ytelfephmjkipoaa
open Go.RowKit Go.Kit Go.Proofs.YtelfephmjkipoaaW.PrintWords
section
variable {w : World}
set_option maxHeartbeats 1000000 in
theorem rText_any (s : ByteArray) (hs : s.size ≤ 140737488355000) : Calls Try.prog 53 #[.string s] w fun e w' => ∃ v, e = .returned v ∧ OB 5 w' w.heap.size v (txt s) ∧ Below w.heap.size w w' := by
  have HS := Lib.hid hs
  go_enter Try.func53, Try.ntmps53
  go_wp2_with fail
  refine (rUint_any s.size w (by omega)).mono ?_
  rintro e w1 ⟨v, rfl, hO, hb⟩
  have hln : (sh s.size).length + s.size ≤ 140737488355328 := by
    have h3 := sh_ten (n := s.size) (by omega)
    omega
  go_wp2_with (at_builtin; refine push_text (w0 := w) w.heap.size rfl (.tmp 6) (.tmp 7) 38 9 s rfl Try.underlying38 Try.underlying9 u8_info rfl rfl hO hb hb.size hln ?_)
  intro v2 w2 hO2 hb4 _
  go_wp2_with fail
  go_ret
  exact ⟨_, rfl, hO2, hb4⟩
end
set_option maxHeartbeats 2000000 in
set_option maxRecDepth 100000 in
theorem rTexts_any {w : World} {B : Option Addr} {m c : Nat} {l : List ByteArray} (hT : RT w B m l) (K : Nat) (hK : K ≤ 140737488355000) (hs : ∀ s ∈ l, s.size ≤ K) (hl : m * (10 + K) ≤ 140737488355328) :
    Calls Try.prog 73 #[.slice B m c] w fun e w' => ∃ v', e = .returned v' ∧ OB 5 w' w.heap.size v' (txts l) ∧ Below w.heap.size w w' := by
  have hmm := hT.max
  have HLn := Lib.hid hT.len
  have HS := Lib.hid hs
  have HL : Hid (∀ i, i < m → (txts (l.take i)).length + 10 + K ≤ 140737488355328) := Lib.hid (fun i hi => by
    have h1 := txts_length (l.take i) K (by omega) (fun s h => hs s (List.mem_of_mem_take h))
    have h2 : (l.take i).length ≤ i := List.length_take_le _ _
    have h3 := Nat.mul_le_mul_right (10 + K) (show (l.take i).length + 1 ≤ m by omega)
    rw [Nat.add_mul] at h3
    omega)
  clear hs hl
  go_enter Try.func73, Try.ntmps73
  go_wp2_with fail
  go_loopg [3, 4] m (fun gk v0 v1 w' => ∃ (i : Nat), v1 = .int .i64 (i : Int) ∧ OB 5 w' w.heap.size v0 (txts (l.take i)) ∧ Below w.heap.size w w' ∧ Hid (i ≤ m ∧ gk = m - i))
  case atStart => exact ⟨0, rfl, by simpa [txts] using OB.nil _ _ _, Below.refl _ _, by omega, rfl⟩
  case round =>
    obtain ⟨i, rfl, hO, hb1, HG⟩ := hrel
    have hsz := hb1.size
    by_cases hi : i < m
    · have hi2 : (i : Int) < (m : Int) := by omega
      obtain ⟨ad, s, rfl, hc, HX⟩ := (hT.below hb1).at_ i hi
      have HSZ : Hid (s.size ≤ K) := Lib.hid (HS.out s (List.mem_of_getElem? HX.out))
      have HLi := Lib.hid (HL.out i hi)
      go_wp2_with fail
      refine (rText_any s (by have := HSZ.out; omega)).mono ?_
      rintro e w1 ⟨v1, rfl, hO1, hb2⟩
      replace hO := hO.below hb2
      have hb3 : Below w.heap.size w w1 := below_step hb1 hb2
      have hs3 := hb3.size
      obtain ⟨A1, c1, rfl, hR1, _⟩ := hO1.reads'
      have hln : (txts (l.take i)).length + (txt s).length ≤ 140737488355328 := by
        have h1 := HLi.out
        have h2 := HSZ.out
        have h3 := txt_length (s := s) (by omega)
        omega
      go_wp2_with (at_builtin; refine push_row (w0 := w) w.heap.size rfl (.tmp 11) (.tmp 16) 38 (txt s) A1 _ c1 rfl Try.underlying38 u8_info rfl rfl hO hR1 hb3 hs3 hln ?_)
      intro v2 w2 hO2 hb4 _ _
      have hO3 : OB 5 w2 w.heap.size v2 (txts (l.take (i + 1))) := by
        rw [txts_snoc HX.out]; exact hO2
      clear hO2 hO1 hO hln
      go_wp2_with fail
      go_roundg (gk - 1)
      case measure => have := HG.out.2; omega
      case rel => exact ⟨i + 1, by simp, hO3, hb4, by omega, by have := HG.out.2; omega⟩
    · have hn : i = m := by have := HG.out; omega
      subst hn
      rw [all_of (by rw [HLn.out]; exact Nat.le_refl _)] at hO
      go_wp2_with fail
      go_ret
      exact ⟨_, rfl, hO, hb1⟩
set_option maxHeartbeats 1000000 in
theorem rList_any {w : World} {B : Option Addr} {m c : Nat} {l : List ByteArray} (hT : RT w B m l) (K : Nat) (hK : K ≤ 140737488355000) (hs : ∀ s ∈ l, s.size ≤ K) (hl : 16 + m * (10 + K) ≤ 140737488355328) :
    Calls Try.prog 52 #[.slice B m c] w fun e w' => ∃ v', e = .returned v' ∧ OB 5 w' w.heap.size v' (lst l) ∧ Below w.heap.size w w' := by
  have HS := Lib.hid hs
  have HM := Lib.hid hT.len
  have hmx := hT.max
  have HLL : Hid ((txts l).length ≤ m * (10 + K)) := Lib.hid (by have := txts_length l K (by omega) hs; rw [hT.len] at this; exact this)
  clear hs
  go_enter Try.func52, Try.ntmps52
  go_wp2_with fail
  refine (rUint_any m w (by omega)).mono ?_
  rintro e w1 ⟨v, rfl, hO, hb⟩
  have hT1 := hT.below hb
  have HSH := Lib.hid (sh_ten (n := m) (by omega))
  go_wp2_with fail
  refine (rTexts_any hT1 K hK HS.out (by omega)).mono ?_
  rintro e w2 ⟨v2, rfl, hO2, hb2⟩
  replace hO := hO.below hb2
  have hb3 : Below w.heap.size w w2 := below_step hb hb2
  have hs3 := hb3.size
  obtain ⟨A1, c1, rfl, hR1, _⟩ := hO2.reads'
  have hln : (sh m).length + (txts l).length ≤ 140737488355328 := by
    have h1 := HLL.out
    have h2 := HSH.out
    omega
  go_wp2_with (at_builtin; refine push_row (w0 := w) w.heap.size rfl (.tmp 6) (.tmp 8) 38 (txts l) A1 _ c1 rfl Try.underlying38 u8_info rfl rfl hO hR1 hb3 hs3 hln ?_)
  intro v3 w3 hO3 hb4 _ _
  have hO4 : OB 5 w3 w.heap.size v3 (lst l) := by unfold lst; rw [HM.out]; exact hO3
  go_wp2_with fail
  go_ret
  exact ⟨_, rfl, hO4, hb4⟩
end Go.Proofs.Ytelfephmjkipoaa
end
/-! The contracts of what lays down a kind's fields. -/
section
namespace Go.Kit
open Go.RowKit Go.Proofs.YtelfephmjkipoaaW.PrintWords
/-- Its numbers fit, its tool is bytes. -/
structure Fr.wf (f : Fr) : Prop where
  id0 : 0 ≤ f.id
  id1 : f.id ≤ 18446744073709551615
  k : -9223372036854775808 ≤ f.k ∧ f.k ≤ 9223372036854775807
  v : -9223372036854775808 ≤ f.v ∧ f.v ≤ 9223372036854775807
  s : -9223372036854775808 ≤ f.s ∧ f.s ≤ 9223372036854775807
  st : -9223372036854775808 ≤ f.st ∧ f.st ≤ 9223372036854775807
  mo : -9223372036854775808 ≤ f.mo ∧ f.mo ≤ 9223372036854775807
  fu : -9223372036854775808 ≤ f.fu ∧ f.fu ≤ 9223372036854775807
  di : -9223372036854775808 ≤ f.di ∧ f.di ≤ 9223372036854775807
  byt : Byt f.tool
theorem u64_nn {x : Int} (h0 : 0 ≤ x) (h1 : x ≤ 9223372036854775807) : IntKind.u64.wrap x = x := IntWalk.u64_in _ ⟨by omega, by omega⟩
theorem add_four (g j : Nat) : (⟨g, 4, none⟩ : Addr).add j = ⟨g, 4 + j, none⟩ := by
  unfold Addr.add
  split
  · next h => subst h; rfl
  · rfl
theorem Fr.at_.tool_rb {t : TypeId} {w : World} {g : Nat} {f : Fr} (h : f.at_ t w g) (hb : Byt f.tool) : RB w (some ⟨g, 4, none⟩) 32 f.tool :=
  ⟨⟨h.tool, by omega, fun _ => ⟨_, rfl, fun j hj => by
    have h1 := h.r4 j (.int .u8 (f.tool.getD j 0)) (by
      have hl := h.tool
      simp [nums, List.getElem?_eq_getElem (show j < f.tool.length by omega), List.getD_eq_getElem?_getD])
    rw [Go.Kit.add_four]; exact h1⟩⟩, hb⟩
end Go.Kit
namespace Go.Proofs.Ytelfephmjkipoaa
open Go.RowKit Go.Kit Go.Proofs.YtelfephmjkipoaaW.PrintWords
section
variable {f : Fr} {w : World} {A : Option Addr} {n c : Nat} {xs : List Int}
/-- What laying leaves. -/
def Laid (w : World) (ys : List Int) (e : Ending) (w' : World) : Prop := ∃ v, e = .returned v ∧ OB 5 w' w.heap.size v ys ∧ Below w.heap.size w w'
set_option maxHeartbeats 4000000 in
set_option maxRecDepth 100000 in
theorem nothing_lay (hf : f.tool.length = 32) (v : Value) (hO : OB 5 w 0 v xs) : Calls Try.prog 98 #[v, f.val] w fun e w' => e = .returned v ∧ Below w.heap.size w w' := by
  have hb := below_alloc (Below.refl _ w) (.cells f.arr 29)
  show Calls Try.prog _ #[v, .agg f.arr] w _
  go_enter Try.func98, Try.ntmps98
  go_wp2_with fail
  go_ret
  exact ⟨rfl, hb⟩
set_option maxHeartbeats 4000000 in
set_option maxRecDepth 100000 in
theorem cancel_lay (hf : f.ok w) (hw : f.wf) (hx : RB w A n xs) (hl : n ≤ 8388608) : Calls Try.prog 94 #[.slice A n c, f.val] w (Laid w (xs ++ sh f.id.toNat)) := by
  have hb := below_alloc (Below.refl _ w) (.cells f.arr 29)
  have hF := boxed hf.tool w
  have hx1 := hx.below hb
  show Calls Try.prog _ #[.slice A n c, .agg f.arr] w _
  go_enter Try.func94, Try.ntmps94
  go_upto_region 1 with (fail)
  generalize w.alloc (.cells f.arr 29) = w1 at *
  have q1 := hF.c1
  go_wp2_with fail
  refine (PutUint_any f.id hx1 (by omega) hw.id0 hw.id1).mono ?_
  rintro e w2 ⟨v, rfl, hO, hb2⟩
  have hb3 := below_step hb hb2
  go_wp2_with fail
  go_ret
  exact ⟨_, rfl, hO.less hb.size, hb3⟩
set_option maxHeartbeats 4000000 in
set_option maxRecDepth 100000 in
theorem note_lay (hf : f.ok w) (hs : f.body.size ≤ 2097152) (hx : RB w A n xs) (hl : n ≤ 8388608) : Calls Try.prog 101 #[.slice A n c, f.val] w (Laid w (xs ++ txt f.body)) := by
  have hb := below_alloc (Below.refl _ w) (.cells f.arr 29)
  have hF := boxed hf.tool w
  have hx1 := hx.below hb
  show Calls Try.prog _ #[.slice A n c, .agg f.arr] w _
  go_enter Try.func101, Try.ntmps101
  go_upto_region 1 with (fail)
  generalize w.alloc (.cells f.arr 29) = w1 at *
  have q1 := hF.c41
  have hb2 := below_alloc (Below.refl w1.heap.size w1) (.cells #[.string f.body] 9)
  have hx2 := hx1.below hb2
  have hT : RT (w1.alloc (.cells #[.string f.body] 9)) (some ⟨w1.heap.size, 0, none⟩) 1 [f.body] := ⟨rfl, by omega, fun _ => ⟨_, rfl, fun j hj => by
    obtain rfl : j = 0 := by omega
    exact World.cell?_alloc_new (w := w1) _ _ 0⟩⟩
  have hb3 := below_step hb hb2
  go_wp2_with fail
  refine (PutText_any (c := 1) hx2 hT 2097152 (by omega) (fun s hm => by simp at hm; rw [hm]; exact hs) (by omega)).mono ?_
  rintro e w2 ⟨v, rfl, hO, hb4⟩
  have hb5 := below_step hb3 hb4
  go_wp2_with fail
  go_ret
  refine ⟨_, rfl, ?_, hb5⟩
  have := hO.less hb3.size
  simpa [txts] using this
theorem PutUint_own {W : World} {base : Nat} {v : Value} {ys : List Int} (hO : OB 5 W base v ys) (hl : ys.length ≤ 8388608) (u : Int) (h0 : 0 ≤ u) (h1 : u ≤ 18446744073709551615) :
    Calls Try.prog 36 #[v, .int .u64 u] W (Laid W (ys ++ sh u.toNat)) := by
  obtain ⟨A, c, rfl, hr⟩ := hO.reads
  exact PutUint_any u hr (by omega) h0 h1
theorem PutText_own {W : World} {base : Nat} {v : Value} {ys : List Int} (hO : OB 5 W base v ys) (hl : ys.length ≤ 8388608) {B : Option Addr} {m d : Nat} {l : List ByteArray} (hT : RT W B m l) (hm : m ≤ 1) (hs : ∀ s ∈ l, s.size ≤ 2097152) :
    Calls Try.prog 80 #[v, .slice B m d] W (Laid W (ys ++ txts l)) := by
  obtain ⟨A, c, rfl, hr⟩ := hO.reads
  exact PutText_any hr hT 2097152 (by omega) hs (by omega)
theorem PutList_own {W : World} {base : Nat} {v : Value} {ys : List Int} (hO : OB 5 W base v ys) (hl : ys.length ≤ 8388608) {B : Option Addr} {m d : Nat} {l : List ByteArray} (hT : RT W B m l) (hm : m ≤ 8) (hs : ∀ s ∈ l, s.size ≤ 4096) :
    Calls Try.prog 81 #[v, .slice B m d] W (Laid W (ys ++ lst l)) := by
  obtain ⟨A, c, rfl, hr⟩ := hO.reads
  exact PutList_any hr hT 4096 (by omega) hs (by omega)
theorem keepF {w W W1 : World} {g : Nat} {f : Fr} (hb : Below w.heap.size w W) (hF : f.at_ 29 W g) (hk : Below W.heap.size W W1) : Below w.heap.size w W1 ∧ f.at_ 29 W1 g ∧ W1.cell? ⟨g, 1, none⟩ = some (.int .u64 f.id) ∧ W1.cell? ⟨g, 2, none⟩ = some (.int .i64 f.v) ∧ W1.cell? ⟨g, 3, none⟩ = some (.int .i64 f.s) ∧ W1.cell? ⟨g, 36, none⟩ = some (.int .i64 f.st) ∧ W1.cell? ⟨g, 40, none⟩ = some (.slice f.A f.n f.c) ∧ W1.cell? ⟨g, 41, none⟩ = some (.string f.body) :=
  ⟨below_step hb hk, hF.below hk, (hF.below hk).c1, (hF.below hk).c2, (hF.below hk).c3, (hF.below hk).c36, (hF.below hk).c40, (hF.below hk).c41⟩
set_option maxHeartbeats 4000000 in
set_option maxRecDepth 100000 in
theorem hello_lay (hf : f.ok w) (hw : f.wf) (hv : 0 ≤ f.v) (hs : 0 ≤ f.s) (hx : RB w A n xs) (hl : n ≤ 4194304) : Calls Try.prog 75 #[.slice A n c, f.val] w (Laid w (xs ++ (sh f.v.toNat ++ sh f.s.toNat ++ f.tool))) := by
  have hb := below_alloc (Below.refl _ w) (.cells f.arr 29)
  have hF := boxed hf.tool w
  have hu1 := u64_nn hv hw.v.2
  have hu2 := u64_nn hs hw.s.2
  have HWF := Lib.hid hw
  have hl1 := sh_ten (n := f.v.toNat) (by have := hw.v.2; omega)
  have HL1 := Lib.hid hl1
  have hl2 := sh_ten (n := f.s.toNat) (by have := hw.s.2; omega)
  have HL2 := Lib.hid hl2
  have HXL := Lib.hid hx.len
  have c1 : ∀ W, Below w.heap.size w W → Calls Try.prog 36 #[.slice A n c, .int .u64 f.v] W (Laid W (xs ++ sh f.v.toNat)) := fun W h => PutUint_any f.v (hx.below h) (by omega) hv (by have := HWF.out.v.2; omega)
  have c2 : ∀ W v base, OB 5 W base v (xs ++ sh f.v.toNat) → Calls Try.prog 36 #[v, .int .u64 f.s] W (Laid W (xs ++ sh f.v.toNat ++ sh f.s.toNat)) := fun W v base h => PutUint_own h (by rw [List.length_append, HXL.out]; have := HL1.out; omega) f.s hs (by have := HWF.out.s.2; omega)
  clear hw hl1 hl2
  show Calls Try.prog _ #[.slice A n c, .agg f.arr] w _
  go_enter Try.func75, Try.ntmps75
  go_upto_region 1 with (fail)
  generalize w.alloc (.cells f.arr 29) = w1 at *
  have q1 := hF.c2
  have q2 := hF.c3
  obtain ⟨g, hg⟩ : ∃ g, w.heap.size = g := ⟨_, rfl⟩
  rw [hg] at hF q1 q2 ⊢
  clear hg
  go_region_held3 (fun w' => Below w.heap.size w w' ∧ f.at_ 29 w' g ∧ w'.cell? ⟨g, 1, none⟩ = some (.int .u64 f.id) ∧ w'.cell? ⟨g, 2, none⟩ = some (.int .i64 f.v) ∧ w'.cell? ⟨g, 3, none⟩ = some (.int .i64 f.s) ∧ w'.cell? ⟨g, 36, none⟩ = some (.int .i64 f.st) ∧ w'.cell? ⟨g, 40, none⟩ = some (.slice f.A f.n f.c) ∧ w'.cell? ⟨g, 41, none⟩ = some (.string f.body))
    (first
      | assumption
      | (refine keepF hb hF ?_; exact below_drew (Below.refl _ _))
      | (refine keepF hb hF ?_; exact Below.refl _ _)
      | (go_split_ands; refine keepF ?_ ?_ hb3 <;> assumption)
      | (go_split_ands; refine keepF ?_ ?_ hb4 <;> assumption))
    (first
      | (go_at_call 36; go_split_ands; (with_reducible refine (c1 _ (by assumption)).mono ?_); rintro e w3 ⟨v3, rfl, hO3, hb3⟩)
      | (go_at_call 36; go_split_ands; (with_reducible refine (c2 _ _ _ (by assumption)).mono ?_); rintro e w4 ⟨v4, rfl, hO4, hb4⟩))
  have hb5 : Below w.heap.size w w4 := below_step (below_step (hb.trans (below_drew (Below.refl _ _))) hb3) hb4
  have hF5 : f.at_ 29 w4 g := ((hF.below (below_drew (Below.refl _ _))).below hb3).below hb4
  have hO5 : OB 5 w4 w.heap.size v4 (xs ++ sh f.v.toNat ++ sh f.s.toNat) := hO4.less (Nat.le_trans hb.size hb3.size)
  have hRT := hF5.tool_rb HWF.out.byt
  have hlen : (xs ++ sh f.v.toNat ++ sh f.s.toNat).length + 32 ≤ 140737488355328 := by rw [List.length_append, List.length_append, HXL.out]; have := HL1.out; have := HL2.out; omega
  have HLN := Lib.hid hlen
  clear hb3 hb4 hO3 hO4 hF q1 q2 c1 c2 hlen hF5
  go_wp2_with (at_builtin; refine push_row (w0 := w) w.heap.size rfl (.tmp 14) (.tmp 16) 38 f.tool (some ⟨g, 4, none⟩) 32 32 rfl Try.underlying38 u8_info rfl rfl hO5 hRT hb5 hb5.size HLN.out ?_)
  intro v6 w6 hO6 hb6 _ _
  go_wp2_with fail
  go_ret
  have hO7 : OB 5 w6 w.heap.size v6 (xs ++ (sh f.v.toNat ++ sh f.s.toNat ++ f.tool)) := by simpa only [List.append_assoc] using hO6
  exact ⟨_, rfl, hO7, hb6⟩
theorem OB.alloc_ {e : TypeId} {w : World} {base : Nat} {v : Value} {xs : List Int} (h : OB e w base v xs) (o : Obj) : OB e (w.alloc o) base v xs := h.below (below_alloc (Below.refl _ _) o)
theorem rt_lit (W : World) (s : ByteArray) : RT (W.alloc (.cells #[.string s] 9)) (some ⟨W.heap.size, 0, none⟩) 1 [s] := ⟨rfl, by omega, fun _ => ⟨_, rfl, fun j hj => by
    obtain rfl : j = 0 := by omega
    exact World.cell?_alloc_new (w := W) _ _ 0⟩⟩
theorem rt_lit_d (W : World) (s : ByteArray) : RT (W.alloc (.cells #[.string s] 9)).drew (some ⟨W.heap.size, 0, none⟩) 1 [s] := (rt_lit W s).below (below_drew (Below.refl _ _))
set_option maxHeartbeats 8000000 in
set_option maxRecDepth 100000 in
theorem response_lay (hf : f.ok w) (hw : f.wf) (hv : 0 ≤ f.st) (hs : f.body.size ≤ 2097152) (hx : RB w A n xs) (hl : n ≤ 4194304) : Calls Try.prog 90 #[.slice A n c, f.val] w (Laid w (xs ++ (sh f.id.toNat ++ sh f.st.toNat ++ txt f.body))) := by
  have hb := below_alloc (Below.refl _ w) (.cells f.arr 29)
  have hF := boxed hf.tool w
  have hu2 := u64_nn hv hw.st.2
  have HWF := Lib.hid hw
  have hl1 := sh_ten (n := f.id.toNat) (by have := hw.id1; omega)
  have HL1 := Lib.hid hl1
  have hl2 := sh_ten (n := f.st.toNat) (by have := hw.st.2; omega)
  have HL2 := Lib.hid hl2
  have HXL := Lib.hid hx.len
  have c1 : ∀ W, Below w.heap.size w W → Calls Try.prog 36 #[.slice A n c, .int .u64 f.id] W (Laid W (xs ++ sh f.id.toNat)) := fun W h => PutUint_any f.id (hx.below h) (by omega) HWF.out.id0 HWF.out.id1
  have c2 : ∀ W v base, OB 5 W base v (xs ++ sh f.id.toNat) → Calls Try.prog 36 #[v, .int .u64 f.st] W (Laid W (xs ++ sh f.id.toNat ++ sh f.st.toNat)) := fun W v base h => PutUint_own h (by rw [List.length_append, HXL.out]; have := HL1.out; omega) f.st hv (by have := HWF.out.st.2; omega)
  have c3 : ∀ W v base B m d, OB 5 W base v (xs ++ sh f.id.toNat ++ sh f.st.toNat) → RT W B m [f.body] → m ≤ 1 → Calls Try.prog 80 #[v, .slice B m d] W (Laid W (xs ++ sh f.id.toNat ++ sh f.st.toNat ++ txts [f.body])) := fun W v base B m d h ht hm => PutText_own h (by rw [List.length_append, List.length_append, HXL.out]; have := HL1.out; have := HL2.out; omega) ht hm (fun s hm => by simp at hm; rw [hm]; exact hs)
  clear hw hl1 hl2
  show Calls Try.prog _ #[.slice A n c, .agg f.arr] w _
  go_enter Try.func90, Try.ntmps90
  go_upto_region 1 with (fail)
  generalize w.alloc (.cells f.arr 29) = w1 at *
  have q1 := hF.c1
  have q2 := hF.c36
  have q3 := hF.c41
  obtain ⟨g, hg⟩ : ∃ g, w.heap.size = g := ⟨_, rfl⟩
  rw [hg] at hF q1 q2 q3 ⊢
  clear hg
  go_region_held3 (fun w' => Below w.heap.size w w' ∧ f.at_ 29 w' g ∧ w'.cell? ⟨g, 1, none⟩ = some (.int .u64 f.id) ∧ w'.cell? ⟨g, 2, none⟩ = some (.int .i64 f.v) ∧ w'.cell? ⟨g, 3, none⟩ = some (.int .i64 f.s) ∧ w'.cell? ⟨g, 36, none⟩ = some (.int .i64 f.st) ∧ w'.cell? ⟨g, 40, none⟩ = some (.slice f.A f.n f.c) ∧ w'.cell? ⟨g, 41, none⟩ = some (.string f.body))
    (first
      | assumption
      | (refine keepF hb hF ?_; exact below_drew (Below.refl _ _))
      | (refine keepF hb hF ?_; exact Below.refl _ _)
      | (go_split_ands; refine keepF ?_ ?_ hb3 <;> assumption)
      | (go_split_ands; refine keepF ?_ ?_ hb4 <;> assumption)
      | (go_split_ands; refine keepF ?_ ?_ hb5 <;> assumption)
      | (refine keepF hb hF ?_; exact below_drew (below_alloc (Below.refl _ _) _))
      | (go_split_ands; refine keepF ?_ ?_ (below_alloc (Below.refl _ _) _) <;> assumption))
    (first
      | (go_at_call 36; go_split_ands; (with_reducible refine (c1 _ (by assumption)).mono ?_); rintro e w3 ⟨v3, rfl, hO3, hb3⟩)
      | (go_at_call 36; go_split_ands; (with_reducible refine (c2 _ _ _ (by first | assumption | exact OB.alloc_ (by assumption) _)).mono ?_); rintro e w4 ⟨v4, rfl, hO4, hb4⟩)
      | (go_at_call 80; go_split_ands; (with_reducible refine (c3 _ _ _ _ _ _ (by first | assumption | exact OB.alloc_ (by assumption) _) (by first | exact rt_lit _ _ | exact (rt_lit _ _).below hb4 | exact ((rt_lit_d _ _).below hb3).below hb4) (by omega)).mono ?_); rintro e w5 ⟨v5, rfl, hO5, hb5⟩))
  all_goals
    have hO6 : OB 5 w5 w.heap.size v5 (xs ++ sh f.id.toNat ++ sh f.st.toNat ++ txts [f.body]) := hO5.less (by
      have h1 := hb.size
      have h3 := hb3.size
      have h4 := hb4.size
      simp at h3 h4 ⊢
      omega)
    go_split_ands
    have hb6 : Below w.heap.size w w5 := by assumption
    clear hO3 hO4 hO5 hb3 hb4 hb5 c1 c2 c3
    go_wp2_with fail
    go_ret
    refine ⟨_, rfl, ?_, hb6⟩
    simpa [txts] using hO6
def shs (L : List Int) : List Int := (L.map fun x => sh x.toNat).flatten
theorem shs_snoc {L : List Int} {i : Nat} {x : Int} (h : L[i]? = some x) : shs (L.take (i + 1)) = shs (L.take i) ++ sh x.toNat := by rw [snoc h]; simp [shs]
theorem shs_len (L : List Int) (h : ∀ x ∈ L, x ≤ 9223372036854775807) : (shs L).length ≤ 10 * L.length := by
  induction L with
  | nil => simp [shs]
  | cons x l ih =>
    have h1 := ih (fun y hy => h y (List.mem_cons_of_mem _ hy))
    have h2 := sh_ten (n := x.toNat) (by have := h x List.mem_cons_self; omega)
    simp only [shs, List.map_cons, List.flatten_cons, List.length_append, List.length_cons] at h1 ⊢
    omega
set_option maxHeartbeats 8000000 in
set_option maxRecDepth 100000 in
theorem request_lay (hf : f.ok w) (hw : f.wf) (h0 : 0 ≤ f.mo ∧ 0 ≤ f.fu ∧ 0 ≤ f.di) (hs : f.body.size ≤ 2097152) (hn : f.n ≤ 8) (ha : ∀ s ∈ f.args, s.size ≤ 4096) (hx : RB w A n xs) (hl : n ≤ 4194304) : Calls Try.prog 79 #[.slice A n c, f.val] w (Laid w (xs ++ (sh f.id.toNat ++ sh f.mo.toNat ++ sh f.fu.toNat ++ sh f.di.toNat ++ lst f.args ++ txt f.body))) := by
  have hb := below_alloc (Below.refl _ w) (.cells f.arr 29)
  have hF := boxed hf.tool w
  have hx1 := hx.below hb
  have HWF := Lib.hid hw
  have HL1 := Lib.hid (sh_ten (n := f.id.toNat) (by have := hw.id1; omega))
  have HXL := Lib.hid hx.len
  obtain ⟨L, hL⟩ : ∃ L, [f.mo, f.fu, f.di] = L := ⟨_, rfl⟩
  have HLL := Lib.hid hL
  have hLb : ∀ x ∈ L, 0 ≤ x ∧ x ≤ 9223372036854775807 := fun x hxm => by
    rw [← hL] at hxm
    simp at hxm
    rcases hxm with rfl | rfl | rfl
    · exact ⟨h0.1, hw.mo.2⟩
    · exact ⟨h0.2.1, hw.fu.2⟩
    · exact ⟨h0.2.2, hw.di.2⟩
  have HLB := Lib.hid hLb
  have HSL : Hid (∀ k, (shs (L.take k)).length ≤ 30) := Lib.hid (fun k => by
    have := shs_len (L.take k) (fun x hxm => (hLb x (List.mem_of_mem_take hxm)).2)
    have h3 : (L.take k).length ≤ 3 := by rw [List.length_take, ← hL]; simp; omega
    omega)
  have HHA := Lib.hid ha
  clear hw h0 hLb ha
  show Calls Try.prog _ #[.slice A n c, .agg f.arr] w _
  go_enter Try.func79, Try.ntmps79
  go_upto_region 1 with (fail)
  generalize w.alloc (.cells f.arr 29) = w1 at *
  have q1 := hF.c1
  obtain ⟨g, hg⟩ : ∃ g, w.heap.size = g := ⟨_, rfl⟩
  rw [hg] at hF q1 ⊢
  clear hg
  go_wp2_with fail
  refine (PutUint_any f.id hx1 (by omega) HWF.out.id0 HWF.out.id1).mono ?_
  rintro e w2 ⟨v2, rfl, hO2, hb2⟩
  replace hO2 := hO2.less hb.size
  have hF2 := hF.below hb2
  have hb3 := below_step hb hb2
  have q1 := hF2.c37
  have q2 := hF2.c38
  have q3 := hF2.c39
  clear hF hb hb2 hx1
  have hbl := below_alloc (Below.refl w2.heap.size w2) (.cells #[.int .i64 f.mo, .int .i64 f.fu, .int .i64 f.di] 3)
  have hO3 := hO2.below hbl
  have hF3 := hF2.below hbl
  have hb4 := below_step hb3 hbl
  have hcl : ∀ j x, L[j]? = some x → (w2.alloc (.cells #[.int .i64 f.mo, .int .i64 f.fu, .int .i64 f.di] 3)).cell? ((⟨w2.heap.size, 0, none⟩ : Addr).add j) = some (.int .i64 x) := fun j x hj => by
    rw [add_plain, World.cell?_alloc_new (w := w2) _ _ j]
    rw [← hL] at hj
    rcases j with _ | _ | _ | j
    · simpa using hj
    · simpa using hj
    · simpa using hj
    · simp at hj
  go_wp2_with fail
  generalize w2.alloc (.cells #[.int .i64 f.mo, .int .i64 f.fu, .int .i64 f.di] 3) = w3 at *
  obtain ⟨ad, had⟩ : ∃ ad : Addr, ⟨w2.heap.size, 0, none⟩ = ad := ⟨_, rfl⟩
  rw [had] at hcl ⊢
  clear had hbl hO2 hF2 hb3 q1 q2 q3 hL
  go_loopg [0, 22] 3 (fun gk v0 v22 w' => ∃ k : Nat, v22 = .int .i64 (k : Int) ∧ OB 5 w' w.heap.size v0 (xs ++ sh f.id.toNat ++ shs (L.take k)) ∧ Below w3.heap.size w3 w' ∧ Hid (k + gk = 3))
  case atStart => exact ⟨0, rfl, by simpa [shs] using hO3, Below.refl _ _, rfl⟩
  case round =>
    clear hO3
    obtain ⟨k, rfl, hO, hbr, HG⟩ := hrel
    by_cases hk : k < 3
    · obtain ⟨x, HX⟩ : ∃ x, Hid (L[k]? = some x) := ⟨_, Lib.hid (List.getElem?_eq_getElem (by rw [← HLL.out]; exact hk))⟩
      have hk2 : (k : Int) < 3 := by omega
      have hcell : wr.cell? (ad.add k) = some (.int .i64 x) := pw_cell_below hbr (hcl k x HX.out)
      have hx0 := (HLB.out x (List.mem_of_getElem? HX.out)).1
      have HX1 := Lib.hid (HLB.out x (List.mem_of_getElem? HX.out)).2
      have hwr := u64_nn hx0 HX1.out
      go_wp2_with fail
      refine (PutUint_own hO (by rw [List.length_append, List.length_append, HXL.out]; have := HL1.out; have := HSL.out k; omega) x hx0 (by have := HX1.out; omega)).mono ?_
      rintro e w5 ⟨v5, rfl, hO5, hb5⟩
      go_wp2_with fail
      go_roundg (gk - 1)
      case measure => have := HG.out; omega
      case rel =>
        refine ⟨k + 1, by simp, ?_, below_step hbr hb5, Lib.hid (by have := HG.out; omega)⟩
        rw [shs_snoc HX.out, ← List.append_assoc]
        exact hO5.less (Nat.le_trans hb4.size hbr.size)
    · have hk3 : ¬ (k : Int) < 3 := by omega
      have HK : Hid (shs (L.take k) = sh f.mo.toNat ++ sh f.fu.toNat ++ sh f.di.toNat) := Lib.hid (by
        rw [List.take_of_length_le (by rw [← HLL.out]; simp; omega), ← HLL.out]
        simp [shs])
      have hF4 := hF3.below hbr
      have hb5 := below_step hb4 hbr
      obtain ⟨ys, hys⟩ : ∃ ys, xs ++ sh f.id.toNat ++ shs (L.take k) = ys := ⟨_, rfl⟩
      rw [hys] at hO
      have hyl : ys.length ≤ 4194344 := by rw [← hys, List.length_append, List.length_append, HXL.out]; have := HL1.out; have := HSL.out k; omega
      have HYL := Lib.hid hyl
      have HLT : Hid ((ys ++ lst f.args).length ≤ 8388608) := Lib.hid (by
        have h1 := txts_length f.args 4096 (by omega) HHA.out
        have h2 := sh_ten (n := f.args.length) (by have := hf.args.len; omega)
        have h3 := hf.args.len
        have h4 : f.args.length * (10 + 4096) ≤ 8 * (10 + 4096) := Nat.mul_le_mul_right _ (by omega)
        rw [List.length_append]
        unfold lst
        rw [List.length_append]
        omega)
      have HYS := Lib.hid hys
      have c2 : ∀ W v base, OB 5 W base v ys → Below w.heap.size w W → Calls Try.prog 81 #[v, .slice f.A f.n f.c] W (Laid W (ys ++ lst f.args)) := fun W v base h hbb => PutList_own h (by have := HYL.out; omega) (hf.args.below hbb) hn HHA.out
      have c3 : ∀ W v base B m d, OB 5 W base v (ys ++ lst f.args) → RT W B m [f.body] → m ≤ 1 → Calls Try.prog 80 #[v, .slice B m d] W (Laid W (ys ++ lst f.args ++ txts [f.body])) := fun W v base B m d h ht hm => PutText_own h HLT.out ht hm (fun s hm => by simp at hm; rw [hm]; exact hs)
      clear hys hyl hb4 hF3 hcl hbr
      have q2 := hF4.c40
      have q3 := hF4.c41
      go_upto_region 7 with (fail)
      go_region_held3 (fun w' => Below w.heap.size w w' ∧ f.at_ 29 w' g ∧ w'.cell? ⟨g, 1, none⟩ = some (.int .u64 f.id) ∧ w'.cell? ⟨g, 2, none⟩ = some (.int .i64 f.v) ∧ w'.cell? ⟨g, 3, none⟩ = some (.int .i64 f.s) ∧ w'.cell? ⟨g, 36, none⟩ = some (.int .i64 f.st) ∧ w'.cell? ⟨g, 40, none⟩ = some (.slice f.A f.n f.c) ∧ w'.cell? ⟨g, 41, none⟩ = some (.string f.body))
        (first
          | assumption
          | (refine keepF hb5 hF4 ?_; exact below_drew (Below.refl _ _))
          | (refine keepF hb5 hF4 ?_; exact Below.refl _ _)
          | (go_split_ands; refine keepF ?_ ?_ hb6 <;> assumption)
          | (go_split_ands; refine keepF ?_ ?_ hb7 <;> assumption)
          | (refine keepF hb5 hF4 ?_; exact below_drew (below_alloc (Below.refl _ _) _))
          | (go_split_ands; refine keepF ?_ ?_ (below_alloc (Below.refl _ _) _) <;> assumption))
        (first
          | (go_at_call 81; go_split_ands; (with_reducible refine (c2 _ _ _ (by first | exact hO.below (below_drew (Below.refl _ _)) | exact hO.below (below_drew (below_alloc (Below.refl _ _) _))) (by assumption)).mono ?_); rintro e w6 ⟨v6, rfl, hO6, hb6⟩)
          | (go_at_call 80; go_split_ands; (with_reducible refine (c3 _ _ _ _ _ _ (by first | assumption | exact OB.alloc_ (by assumption) _) (by first | exact rt_lit _ _ | exact (rt_lit_d _ _).below hb6) (by omega)).mono ?_); rintro e w7 ⟨v7, rfl, hO7, hb7⟩))
      all_goals
        have hO8 : OB 5 w7 w.heap.size v7 (ys ++ lst f.args ++ txts [f.body]) := hO7.less (by
          have h1 := hb5.size
          have h3 := hb6.size
          simp at h3 ⊢
          omega)
        go_split_ands
        have hb8 : Below w.heap.size w w7 := by assumption
        have HE : Hid (ys ++ lst f.args ++ txts [f.body] = xs ++ (sh f.id.toNat ++ sh f.mo.toNat ++ sh f.fu.toNat ++ sh f.di.toNat ++ lst f.args ++ txt f.body)) := Lib.hid (by
          rw [← HYS.out, HK.out]; simp [txts])
        rw [HE.out] at hO8
        clear hO6 hO7 hb6 hb7 hO hF4 hb5 c2 c3 hk
        go_wp2_with fail
        go_ret
        exact ⟨_, rfl, hO8, hb8⟩
end
end Go.Proofs.Ytelfephmjkipoaa
end
/-! The contracts of frame.body and frame.Check. -/
section
namespace Go.Proofs.Ytelfephmjkipoaa
open Go.RowKit Go.Kit Go.Proofs.YtelfephmjkipoaaW.PrintWords
section
variable {f : Fr} {w : World} {A : Option Addr} {n c : Nat} {xs : List Int}
/-- What is asked of a frame that is laid down. -/
structure LayOk (f : Fr) : Prop where
  hello : f.k = 1 → 0 ≤ f.v ∧ 0 ≤ f.s
  req : f.k = 2 → (0 ≤ f.mo ∧ 0 ≤ f.fu ∧ 0 ≤ f.di) ∧ f.n ≤ 8 ∧ ∀ s ∈ f.args, s.size ≤ 4096
  resp : f.k = 3 → 0 ≤ f.st
  body : f.body.size ≤ 2097152
theorem lay_any (k : Int) (hk : f.k = k) (h1 : 1 ≤ k) (h6 : k ≤ 6) (hf : f.ok w) (hw : f.wf) (hL : LayOk f) {base : Nat} {v : Value} (hO : OB 5 w base v xs) (hb : base ≤ w.heap.size) (hl : xs.length ≤ 4194304) :
    Calls Try.prog (layN k) #[v, f.val] w fun e w' => ∃ v', e = .returned v' ∧ OB 5 w' base v' (xs ++ layF f) ∧ Below w.heap.size w w' := by
  obtain ⟨A, c, hv, hr⟩ := hO.reads
  have lay : ∀ {g : Nat} {ys : List Int}, layF f = ys → Calls Try.prog g #[v, f.val] w (Laid w (xs ++ ys)) → Calls Try.prog g #[v, f.val] w fun e w' => ∃ v', e = .returned v' ∧ OB 5 w' base v' (xs ++ layF f) ∧ Below w.heap.size w w' := fun hy h => h.mono fun e w' ⟨v', he, hO', hb'⟩ => ⟨v', he, by rw [hy]; exact hO'.less hb, hb'⟩
  rcases (by omega : k = 1 ∨ k = 2 ∨ k = 3 ∨ k = 4 ∨ k = 5 ∨ k = 6) with rfl | rfl | rfl | rfl | rfl | rfl
  · exact lay (by unfold layF; rw [hk, if_pos rfl]) (by rw [hv]; exact hello_lay hf hw (hL.hello hk).1 (hL.hello hk).2 hr hl)
  · exact lay (by unfold layF; rw [hk, if_neg (by decide), if_pos rfl]) (by rw [hv]; exact request_lay hf hw (hL.req hk).1 hL.body (hL.req hk).2.1 (hL.req hk).2.2 hr hl)
  · exact lay (by unfold layF; rw [hk, if_neg (by decide), if_neg (by decide), if_pos rfl]) (by rw [hv]; exact response_lay hf hw (hL.resp hk) hL.body hr hl)
  · exact lay (by unfold layF; rw [hk, if_neg (by decide), if_neg (by decide), if_neg (by decide), if_pos rfl]) (by rw [hv]; exact cancel_lay hf hw hr (by omega))
  · refine (nothing_lay (f := f) hf.tool v (hO.less (Nat.zero_le _))).mono fun e w' ⟨he, hb'⟩ => ⟨v, he, ?_, hb'⟩
    have hy : layF f = [] := by unfold layF; rw [hk, if_neg (by decide), if_neg (by decide), if_neg (by decide), if_neg (by decide), if_neg (by decide)]
    rw [hy, List.append_nil]
    exact hO.below hb'
  · exact lay (by unfold layF; rw [hk, if_neg (by decide), if_neg (by decide), if_neg (by decide), if_neg (by decide), if_pos rfl]) (by rw [hv]; exact note_lay hf hL.body hr (by omega))
/-! The kinds' functions are entered. -/
theorem lay_enters (k : Int) (h1 : 1 ≤ k) (h6 : k ≤ 6) (args : Array Value) (W : World) : (callFunc (layN k) args).run Try.prog W = .ok (.enter (layN k) args) W := by
  rcases (by omega : k = 1 ∨ k = 2 ∨ k = 3 ∨ k = 4 ∨ k = 5 ∨ k = 6) with rfl | rfl | rfl | rfl | rfl | rfl <;> (simp only [layN]; go_simp)
theorem read_enters (k : Int) (h1 : 1 ≤ k) (h6 : k ≤ 6) (args : Array Value) (W : World) : (callFunc (readN k) args).run Try.prog W = .ok (.enter (readN k) args) W := by
  rcases (by omega : k = 1 ∨ k = 2 ∨ k = 3 ∨ k = 4 ∨ k = 5 ∨ k = 6) with rfl | rfl | rfl | rfl | rfl | rfl <;> (simp only [readN]; go_simp)
theorem only_enters (k : Int) (h1 : 1 ≤ k) (h6 : k ≤ 6) (args : Array Value) (W : World) : (callFunc (onlyN k) args).run Try.prog W = .ok (.enter (onlyN k) args) W := by
  rcases (by omega : k = 1 ∨ k = 2 ∨ k = 3 ∨ k = 4 ∨ k = 5 ∨ k = 6) with rfl | rfl | rfl | rfl | rfl | rfl <;> (simp only [onlyN]; go_simp)
theorem may_enters (k : Int) (h1 : 1 ≤ k) (h6 : k ≤ 6) (args : Array Value) (W : World) : (callFunc (mayN k) args).run Try.prog W = .ok (.enter (mayN k) args) W := by
  rcases (by omega : k = 1 ∨ k = 2 ∨ k = 3 ∨ k = 4 ∨ k = 5 ∨ k = 6) with rfl | rfl | rfl | rfl | rfl | rfl <;> (simp only [mayN]; go_simp)
/-! Loads of one cell, as equations. -/
theorem load_int {W : World} {a : Addr} {v : Value} (h : W.cell? a = some v) : (Instr.loadAt 3 (.pointer (some a))).run Try.prog W = .ok v W := by go_simp
theorem load_str {W : World} {a : Addr} {v : Value} (h : W.cell? a = some v) : (Instr.loadAt 9 (.pointer (some a))).run Try.prog W = .ok v W := by go_simp
theorem load_lay {W : World} {a : Addr} {v : Value} (h : W.cell? a = some v) : (Instr.loadAt 71 (.pointer (some a))).run Try.prog W = .ok v W := by go_simp
theorem load_read {W : World} {a : Addr} {v : Value} (h : W.cell? a = some v) : (Instr.loadAt 72 (.pointer (some a))).run Try.prog W = .ok v W := by go_simp
theorem load_only {W : World} {a : Addr} {v : Value} (h : W.cell? a = some v) : (Instr.loadAt 73 (.pointer (some a))).run Try.prog W = .ok v W := by go_simp
theorem load_may {W : World} {a : Addr} {v : Value} (h : W.cell? a = some v) : (Instr.loadAt 37 (.pointer (some a))).run Try.prog W = .ok v W := by go_simp
theorem keepB {w W W1 : World} {g gk : Nat} {f : Fr} {KK : Array Value} {t : TypeId} (hb : Below w.heap.size w W) (hF : f.at_ 29 W g) (hK : W.heap[gk]? = some (.cells KK t (0, 0))) (hk : Below W.heap.size W W1) :
    Below w.heap.size w W1 ∧ f.at_ 29 W1 g ∧ W1.heap[gk]? = some (.cells KK t (0, 0)) := ⟨below_step hb hk, hF.below hk, (hk.block _ (lt_of_block hK)).trans hK⟩
theorem only_row_below {B : Nat} {w0 W : World} (hb : Below B w0 W) (g : Nat) (hg : B ≤ g) (cs : Array Value) : Below B w0 (W.setRow g cs) := below_setRow hb hg cs
attribute [-go_sem] Instr.loadAt
set_option maxHeartbeats 8000000 in
set_option maxRecDepth 100000 in
theorem body_any (h1 : 1 ≤ f.k) (h6 : f.k ≤ 6) (hf : f.ok w) (hw : f.wf) (hL : LayOk f) : Calls Try.prog 34 #[f.val] w (Laid w (bodyF f)) := by
  have hb := below_alloc (Below.refl _ w) (.cells f.arr 29)
  have hF := boxed hf.tool w
  have hwk := u64_nn (x := f.k) (by omega) (by omega)
  have hlk := sh_ten (n := f.k.toNat) (by omega)
  have HLK := Lib.hid hlk
  have H1 := Lib.hid h1
  have H6 := Lib.hid h6
  have c1 : ∀ W, Calls Try.prog 36 #[.slice none 0 0, .int .u64 f.k] W (Laid W ([] ++ sh f.k.toNat)) := fun W => PutUint_any f.k (RB.nil W) (by omega) (by omega) (by omega)
  have cL : ∀ W v base, OB 5 W base v ([] ++ sh f.k.toNat) → Below w.heap.size w W → base ≤ W.heap.size → Calls Try.prog (layN f.k) #[v, .agg f.arr] W fun e w' => ∃ v', e = .returned v' ∧ OB 5 w' base v' (bodyF f) ∧ Below W.heap.size W w' := fun W v base hO hbw hba => by
    refine (lay_any f.k rfl H1.out H6.out (hf.below hbw) hw hL hO hba (by rw [List.nil_append]; have := HLK.out; omega)).mono ?_
    rintro e w' ⟨v', he, hO', hb'⟩
    exact ⟨v', he, by simpa [bodyF] using hO', hb'⟩
  have hif : (Try.prog.info? 29).map (·.size) = some f.cells.length := by rw [frame_size]; have := Fr.arr_size f hf.tool; simp [Fr.arr] at this; rw [this]
  have hen := lay_enters f.k h1 h6
  clear hlk h1 h6 hw hL hf
  show Calls Try.prog _ #[.agg f.arr] w _
  go_enter Try.func34, Try.ntmps34
  go_upto_region 1 with (fail)
  generalize w.alloc (.cells f.arr 29) = w1 at *
  have e0 := load_int hF.c0
  obtain ⟨g, hg⟩ : ∃ g, w.heap.size = g := ⟨_, rfl⟩
  rw [hg] at hF e0 ⊢
  clear hg
  go_wp2_with fail
  refine (of_any f.k H1.out H6.out _).mono ?_
  rintro e w2 ⟨rfl, hb2⟩
  have hbz := below_alloc (Below.refl w2.heap.size w2) (.cells #[.nilFunc, .nilFunc, .nilFunc, .nilFunc] 75)
  have hblk := heap_alloc_new w2 (.cells #[.nilFunc, .nilFunc, .nilFunc, .nilFunc] 75)
  have h4 : (#[.nilFunc, .nilFunc, .nilFunc, .nilFunc] : Array Value).size = (kV f.k).size := rfl
  have hsz := kind_size (k := f.k)
  have hone := kind_one f.k
  obtain ⟨KK, hKK⟩ : ∃ KK, kV f.k = KK := ⟨_, rfl⟩
  have hk0 : KK[0]? = some (.func (.func (layN f.k)) #[] #[]) := by rw [← hKK]; rfl
  rw [hKK] at h4 hsz hone ⊢
  clear hKK e0
  go_wp2_with (with_reducible show wpList _ _ _ (Oper.mk none _ _ _ _ _ :: _) _ _; refine wpList_store_row rfl 75 (.tmp 3) (.tmp 9) rfl w2.heap.size KK rfl rfl 75 _ hblk hsz h4 hone ?_)
  have hb3 := below_step (below_step hb hb2) hbz
  have hF3 := (hF.below hb2).below hbz
  have hb4 := below_setRow hb3 (Nat.le_trans hb.size hb2.size) KK
  have hF4 := hF3.only (Fr.only_row _ w2.heap.size KK) (fun e => by have := hF.lt; have := hb2.size; omega)
  have hK4 := setRow_heap _ w2.heap.size _ KK _ _ hblk
  clear hb hb2 hbz hblk hb3 hF3 hF h4 hsz hone
  generalize (w2.alloc (.cells #[.nilFunc, .nilFunc, .nilFunc, .nilFunc] 75)).setRow w2.heap.size KK = w5 at *
  generalize w2.heap.size = gk at *
  have hl1 : ∀ W, f.at_ 29 W g → (Instr.loadAt 3 (.pointer (some ⟨g, 0, none⟩))).run Try.prog W = .ok (.int .i64 f.k) W := fun W h => load_int h.c0
  have hl2 : ∀ W, f.at_ 29 W g → (Instr.loadAt 29 (.pointer (some ⟨g, 0, none⟩))).run Try.prog W = .ok (.agg f.arr) W := fun W h => load_frame f hif W _ h
  have hl3 : ∀ W : World, W.heap[gk]? = some (.cells KK 75 (0, 0)) → (Instr.loadAt 71 (.pointer (some ⟨gk, 0, none⟩))).run Try.prog W = .ok (.func (.func (layN f.k)) #[] #[]) W := fun W h => load_lay (by rw [cell_of_row W gk 0 _ _ _ h]; exact hk0)
  clear hk0 hif
  generalize f.arr = FA at *
  go_region_held3 (fun w' => Below w.heap.size w w' ∧ f.at_ 29 w' g ∧ w'.heap[gk]? = some (.cells KK 75 (0, 0)))
    (first
      | assumption
      | (refine keepB hb4 hF4 hK4 ?_; exact below_drew (Below.refl _ _))
      | (refine keepB hb4 hF4 hK4 ?_; exact Below.refl _ _)
      | (go_split_ands; refine keepB ?_ ?_ ?_ hb6 <;> assumption)
      | (go_split_ands; refine keepB ?_ ?_ ?_ hb7 <;> assumption))
    (first
      | (go_at_call 36; (with_reducible refine (c1 _).mono ?_); rintro e w6 ⟨v6, rfl, hO6, hb6⟩)
      | (go_split_ands; (with_reducible refine (cL _ _ _ (by assumption) (by assumption) (by have := hb6.size; omega)).mono ?_); rintro e w7 ⟨v7, rfl, hO7, hb7⟩))
  all_goals
    go_split_ands
    have hb8 : Below w.heap.size w w7 := by assumption
    have hO8 : OB 5 w7 w.heap.size v7 (bodyF f) := hO7.less (by have := hb4.size; exact this)
    clear hO6 hO7 hb6 hb7 c1 cL
    go_wp2_with fail
    go_ret
    exact ⟨_, rfl, hO8, hb8⟩
end
end Go.Proofs.Ytelfephmjkipoaa
end
/-! ! The plain law of the check sums: 32 bits, one step, the product, moves. -/
section
namespace CrcM
abbrev W := BitVec 32
def poly : W := 0x82f63b78#32
/-- One step: the product with the first power. -/
def M (c : W) : W := if c.getLsbD 0 then (c >>> 1) ^^^ poly else c >>> 1
def Mn : Nat → W → W
  | 0, c => c
  | n + 1, c => Mn n (M c)
theorem xlc (a b c : W) : a ^^^ (b ^^^ c) = b ^^^ (a ^^^ c) := by rw [← BitVec.xor_assoc, BitVec.xor_comm a b, BitVec.xor_assoc]
theorem xself (a b : W) : a ^^^ (a ^^^ b) = b := by rw [← BitVec.xor_assoc]; simp
def one : W := 1#32 <<< 31

theorem M_xor (a b : W) : M (a ^^^ b) = M a ^^^ M b := by
  unfold M
  rw [BitVec.getLsbD_xor, BitVec.ushiftRight_xor_distrib]
  cases a.getLsbD 0 <;> cases b.getLsbD 0 <;> simp [BitVec.xor_assoc, BitVec.xor_comm, xlc, xself]
theorem M_zero : M 0#32 = 0#32 := by decide
theorem Mn_xor (n : Nat) : ∀ a b : W, Mn n (a ^^^ b) = Mn n a ^^^ Mn n b := by
  induction n with
  | zero => intro a b; rfl
  | succ n ih => intro a b; simp only [Mn, M_xor, ih]
theorem Mn_zero (n : Nat) : Mn n 0#32 = 0#32 := by
  induction n with
  | zero => rfl
  | succ n ih => rw [Mn, M_zero, ih]
theorem Mn_add (m n : Nat) : ∀ c, Mn (m + n) c = Mn n (Mn m c) := by
  induction m with
  | zero => intro c; simp [Mn]
  | succ m ih => intro c; rw [Nat.succ_add]; simp only [Mn, ih]
theorem Mn_succ' (n : Nat) (c : W) : Mn (n + 1) c = M (Mn n c) := by rw [Mn_add n 1]; rfl
theorem Mn_M (n : Nat) (c : W) : Mn n (M c) = M (Mn n c) := by rw [← Mn_succ', Mn]

/-- The product, the highest bit the power 0: n bits of a are still to come. -/
def tl : Nat → W → W → W → W
  | 0, _, _, p => p
  | n + 1, a, b, p => tl n a (M b) (if a.getLsbD n then p ^^^ b else p)
def times (a b : W) : W := tl 32 a b 0#32

theorem tl_left (n : Nat) : ∀ a a' b p p' : W, tl n (a ^^^ a') b (p ^^^ p') = tl n a b p ^^^ tl n a' b p' := by
  induction n with
  | zero => intros; rfl
  | succ n ih =>
    intro a a' b p p'
    simp only [tl]
    rw [← ih, BitVec.getLsbD_xor]
    congr 1
    cases a.getLsbD n <;> cases a'.getLsbD n <;> simp [BitVec.xor_assoc, BitVec.xor_comm, xlc, xself]
theorem tl_right (n : Nat) : ∀ a b b' p p' : W, tl n a (b ^^^ b') (p ^^^ p') = tl n a b p ^^^ tl n a b' p' := by
  induction n with
  | zero => intros; rfl
  | succ n ih =>
    intro a b b' p p'
    simp only [tl]
    rw [← ih, M_xor]
    congr 1
    cases a.getLsbD n <;> simp [BitVec.xor_assoc, BitVec.xor_comm, xlc]
theorem tl_M (n : Nat) : ∀ a b p : W, tl n a (M b) (M p) = M (tl n a b p) := by
  induction n with
  | zero => intros; rfl
  | succ n ih =>
    intro a b p
    simp only [tl]
    rw [← ih]
    congr 1
    cases a.getLsbD n <;> simp [M_xor]
theorem times_left (a a' b : W) : times (a ^^^ a') b = times a b ^^^ times a' b := by
  unfold times; rw [← tl_left]; simp
theorem times_right (a b b' : W) : times a (b ^^^ b') = times a b ^^^ times a b' := by
  unfold times; rw [← tl_right]; simp
theorem times_M (a b : W) : times a (M b) = M (times a b) := by
  unfold times; rw [← tl_M, M_zero]
theorem times_Mn (n : Nat) : ∀ a b : W, times a (Mn n b) = Mn n (times a b) := by
  induction n with
  | zero => intros; rfl
  | succ n ih => intro a b; simp only [Mn]; rw [ih, times_M]

theorem bit_one (k n : Nat) (hn : n < 32) : (1#32 <<< k).getLsbD n = decide (n = k) := by
  rw [BitVec.getLsbD_shiftLeft]
  by_cases h : n < k
  · simp [h]; omega
  · by_cases e : n = k
    · subst e; simp [hn]
    · simp [h, e, hn, BitVec.getLsbD_one]; omega
theorem tl_high (n : Nat) : ∀ (k : Nat) (b p : W), n ≤ 32 → n ≤ k → tl n (1#32 <<< k) b p = p := by
  induction n with
  | zero => intros; rfl
  | succ n ih =>
    intro k b p hn hk
    simp only [tl]
    rw [bit_one k n (by omega), ih k _ _ (by omega) (by omega)]
    simp; omega
theorem tl_bit (n : Nat) : ∀ (k : Nat) (b p : W), n ≤ 32 → k < n → tl n (1#32 <<< k) b p = p ^^^ Mn (n - 1 - k) b := by
  induction n with
  | zero => intro k b p _ h; omega
  | succ n ih =>
    intro k b p hn hk
    simp only [tl]
    rw [bit_one k n (by omega)]
    by_cases e : n = k
    · subst e
      rw [tl_high n n _ _ (by omega) (by omega)]
      simp [Mn]
    · rw [ih k _ _ (by omega) (by omega)]
      rw [show n + 1 - 1 - k = n - 1 - k + 1 from by omega]
      simp [e, Mn]
theorem times_bit (k : Nat) (hk : k < 32) (b : W) : times (1#32 <<< k) b = Mn (31 - k) b := by
  unfold times; rw [tl_bit 32 k b _ (by omega) hk]; simp

/-- Whatever holds of 0 and the bits, and of sums, holds of all. -/
theorem by_bits (P : W → Prop) (h0 : P 0#32) (hx : ∀ a b, P a → P b → P (a ^^^ b)) (hb : ∀ k, k < 32 → P (1#32 <<< k)) (a : W) : P a := by
  have key : ∀ n, n ≤ 32 → P (BitVec.ofNat 32 (a.toNat % 2 ^ n)) := by
    intro n
    induction n with
    | zero => intro _; simpa [Nat.mod_one] using h0
    | succ n ih =>
      intro hn
      have e : BitVec.ofNat 32 (a.toNat % 2 ^ (n + 1)) = BitVec.ofNat 32 (a.toNat % 2 ^ n) ^^^ (if a.getLsbD n then 1#32 <<< n else 0#32) := by
        apply BitVec.eq_of_getLsbD_eq
        intro i hi
        rw [BitVec.getLsbD_xor, BitVec.getLsbD_ofNat, BitVec.getLsbD_ofNat, Nat.testBit_mod_two_pow, Nat.testBit_mod_two_pow]
        by_cases h : a.getLsbD n = true
        · rw [if_pos h, bit_one n i hi]
          by_cases e : i = n
          · subst e; simp [hi, BitVec.getLsbD] at *; simp [h]
          · have : (i < n + 1) = (i < n) := by simp; omega
            simp [e, this]
        · rw [if_neg h]
          by_cases e : i = n
          · subst e; simp [BitVec.getLsbD] at *; simp [h]
          · have : (i < n + 1) = (i < n) := by simp; omega
            simp [this]
      rw [e]
      refine hx _ _ (ih (by omega)) ?_
      split
      · exact hb n (by omega)
      · exact h0
  have := key 32 (by omega)
  rw [Nat.mod_eq_of_lt a.isLt] at this
  simpa using this

theorem times_zero_left (b : W) : times 0#32 b = 0#32 := by
  have := times_left 0#32 0#32 b; simpa using this
theorem times_zero_right (a : W) : times a 0#32 = 0#32 := by
  have := times_right a 0#32 0#32; simpa using this
theorem bit_pow (k : Nat) (hk : k < 32) : (1#32 <<< k : W) = Mn (31 - k) one := by
  have h : ∀ j : Fin 32, (1#32 <<< j.val : W) = Mn (31 - j.val) one := by decide +kernel
  exact h ⟨k, hk⟩
theorem times_one (a : W) : times a one = a := by
  refine by_bits (fun a => times a one = a) (times_zero_left _) ?_ ?_ a
  · intro a b ha hb; rw [times_left, ha, hb]
  · intro k hk; rw [times_bit k hk, bit_pow k hk]
theorem one_times (b : W) : times one b = b := by
  have := times_bit 31 (by omega) b; simpa [one, Mn] using this
theorem times_comm (a b : W) : times a b = times b a := by
  refine by_bits (fun a => times a b = times b a) (by rw [times_zero_left, times_zero_right]) ?_ ?_ a
  · intro a a' ha hb; rw [times_left, times_right, ha, hb]
  · intro k hk; rw [times_bit k hk, bit_pow k hk, times_Mn, times_one]
theorem M_times (a b : W) : times (M a) b = M (times a b) := by rw [times_comm, times_M, times_comm]
theorem Mn_times (n : Nat) (a b : W) : times (Mn n a) b = Mn n (times a b) := by rw [times_comm, times_Mn, times_comm]
theorem times_assoc (a b c : W) : times (times a b) c = times a (times b c) := by
  refine by_bits (fun a => times (times a b) c = times a (times b c)) (by simp only [times_zero_left]) ?_ ?_ a
  · intro a a' ha hb; rw [times_left, times_left, times_left, ha, hb]
  · intro k hk; rw [times_bit k hk, times_bit k hk, Mn_times]
theorem pow_times (n : Nat) (c : W) : times (Mn n one) c = Mn n c := by rw [Mn_times, one_times]

/-- M is one to one. -/
theorem M_zero_of (c : W) (h : M c = 0#32) : c = 0#32 := by
  unfold M at h
  by_cases h0 : c.getLsbD 0 = true
  · rw [if_pos h0] at h
    have : ((c >>> 1) ^^^ poly).getLsbD 31 = true := by
      rw [BitVec.getLsbD_xor, BitVec.getLsbD_ushiftRight, BitVec.getLsbD_of_ge _ _ (by omega)]; decide
    rw [h] at this; simp at this
  · rw [if_neg h0] at h
    apply BitVec.eq_of_getLsbD_eq
    intro i hi
    cases i with
    | zero => simpa using h0
    | succ i =>
      have : (c >>> 1).getLsbD i = (0#32).getLsbD i := by rw [h]
      rw [BitVec.getLsbD_ushiftRight] at this
      rw [Nat.add_comm 1 i] at this
      simpa using this
theorem Mn_zero_of (n : Nat) : ∀ c, Mn n c = 0#32 → c = 0#32 := by
  induction n with
  | zero => intro c h; exact h
  | succ n ih => intro c h; exact M_zero_of c (ih _ h)

/-! Bytes -/
def byt (x : Int) : W := BitVec.ofInt 32 x
def over (c : W) (l : List Int) : W := l.foldl (fun c x => Mn 8 (c ^^^ byt x)) c
theorem over_append (c : W) (l r : List Int) : over c (l ++ r) = over (over c l) r := by unfold over; rw [List.foldl_append]
theorem over_nil (c : W) : over c [] = c := rfl
theorem over_cons (c : W) (x : Int) (l : List Int) : over c (x :: l) = over (Mn 8 (c ^^^ byt x)) l := rfl
theorem over_snoc (c : W) (x : Int) (l : List Int) : over c (l ++ [x]) = Mn 8 (over c l ^^^ byt x) := by rw [over_append]; rfl
/-- What stands in the sum beforehand is moved on over the bytes. -/
theorem over_xor (l : List Int) : ∀ c d : W, over (c ^^^ d) l = over c l ^^^ Mn (8 * l.length) d := by
  induction l with
  | nil => intro c d; rfl
  | cons x l ih =>
    intro c d
    rw [over_cons, over_cons, show c ^^^ d ^^^ byt x = (c ^^^ byt x) ^^^ d from by rw [BitVec.xor_assoc, BitVec.xor_assoc, BitVec.xor_comm d], Mn_xor, ih, ← Mn_add]
    rw [show 8 + 8 * l.length = 8 * (x :: l).length from by simp; omega]
theorem M_shl (c : W) (h : c.getLsbD 31 = false) : M (c <<< 1) = c := by
  unfold M
  rw [if_neg (by simp)]
  apply BitVec.eq_of_getLsbD_eq
  intro i hi
  rw [BitVec.getLsbD_ushiftRight, BitVec.getLsbD_shiftLeft]
  by_cases e : i = 31
  · subst e; rw [h]; simp
  · simp; intro; omega
theorem Mn_shl (n : Nat) : ∀ c : W, (∀ i, 32 - n ≤ i → c.getLsbD i = false) → n ≤ 32 → Mn n (c <<< n) = c := by
  induction n with
  | zero => intro c _ _; simp [Mn]
  | succ n ih =>
    intro c h hn
    rw [Mn, BitVec.shiftLeft_add, M_shl, ih c (fun i hi => h i (by omega)) (by omega)]
    rw [BitVec.getLsbD_shiftLeft]
    by_cases e : 31 < n
    · simp [e]
    · simp [e, h (31 - n) (by omega)]
/-- A byte's step by the table. -/
theorem Mn8_split (y : W) : Mn 8 y = (y >>> 8) ^^^ Mn 8 (y &&& 255#32) := by
  have e : y = (y &&& 255#32) ^^^ ((y >>> 8) <<< 8) := by
    apply BitVec.eq_of_getLsbD_eq
    intro i hi
    rw [BitVec.getLsbD_xor, BitVec.getLsbD_and, BitVec.getLsbD_shiftLeft, BitVec.getLsbD_ushiftRight]
    have h255 : (255#32 : W).getLsbD i = decide (i < 8) := by
      have : ∀ j : Fin 32, (255#32 : W).getLsbD j.val = decide (j.val < 8) := by decide
      exact this ⟨i, hi⟩
    rw [h255]
    by_cases h : i < 8
    · simp [h]
    · simp [h, hi]; rw [show 8 + (i - 8) = i from by omega, BitVec.getLsbD_eq_getElem hi]
  have h8 : Mn 8 ((y >>> 8) <<< 8) = y >>> 8 := Mn_shl 8 _ (fun i hi => by rw [BitVec.getLsbD_ushiftRight]; exact BitVec.getLsbD_of_ge _ _ (by omega)) (by omega)
  have h := congrArg (Mn 8) e
  rw [Mn_xor, h8, BitVec.xor_comm] at h
  exact h
/-! The moves, bit by bit of the length -/
theorem pow_mul (a b : Nat) : times (Mn a one) (Mn b one) = Mn (b + a) one := by rw [pow_times, Mn_add]
theorem half_even (N k : Nat) (h : N / 2 ^ k % 2 = 0) : N % 2 ^ (k + 1) = N % 2 ^ k := by
  rw [Nat.pow_succ, Nat.mod_mul, h]; simp
theorem half_odd (N k : Nat) (h : N / 2 ^ k % 2 = 1) : N % 2 ^ (k + 1) = N % 2 ^ k + 2 ^ k := by
  rw [Nat.pow_succ, Nat.mod_mul, h]; simp
theorem half_half (N k : Nat) : N / 2 ^ k / 2 = N / 2 ^ (k + 1) := by rw [Nat.div_div_eq_div_mul, ← Nat.pow_succ]
theorem half_done (N k : Nat) (h : N / 2 ^ k = 0) : N % 2 ^ k = N := by
  have := Nat.div_add_mod N (2 ^ k); rw [h] at this; simpa using this
theorem eighth : (1#32 <<< 23 : W) = Mn (8 * 2 ^ 0) one := by decide
theorem twice (k : Nat) : times (Mn (8 * 2 ^ k) one) (Mn (8 * 2 ^ k) one) = Mn (8 * 2 ^ (k + 1)) one := by
  rw [pow_mul]; congr 1; rw [Nat.pow_succ]; omega
theorem more_p (N k : Nat) (h : N / 2 ^ k % 2 = 1) : times (Mn (8 * (N % 2 ^ k)) one) (Mn (8 * 2 ^ k) one) = Mn (8 * (N % 2 ^ (k + 1))) one := by
  rw [pow_mul, half_odd N k h]; congr 1; omega
theorem more_c (N k : Nat) (c : W) (h : N / 2 ^ k % 2 = 1) : times (Mn (8 * 2 ^ k) one) (Mn (8 * (N % 2 ^ k)) c) = Mn (8 * (N % 2 ^ (k + 1))) c := by
  rw [pow_times, ← Mn_add, half_odd N k h]; congr 1; omega

/-! A byte turned -/
theorem byt_step (c : W) (x : Int) : Mn 8 (c ^^^ byt x) = Mn 8 c ^^^ Mn 8 (byt x) := Mn_xor 8 c _
theorem over_turn (l1 l2 : List Int) (x y m : Int) (c : W) (h : byt y = byt x ^^^ byt m) : over c (l1 ++ y :: l2) = over c (l1 ++ x :: l2) ^^^ Mn (8 * l2.length) (Mn 8 (byt m)) := by
  rw [over_append, over_append, over_cons, over_cons, h, ← BitVec.xor_assoc, Mn_xor, over_xor]
theorem over_set (l : List Int) (j : Nat) (m y : Int) (c : W) (hj : j < l.length) (h : byt y = byt (l.getD j 0) ^^^ byt m) :
    over c (l.set j y) = over c l ^^^ Mn (8 * (l.length - 1 - j)) (Mn 8 (byt m)) := by
  have e : l = l.take j ++ l[j] :: l.drop (j + 1) := by simp
  have e2 : l.set j y = l.take j ++ y :: l.drop (j + 1) := List.set_eq_take_append_cons_drop.trans (if_pos hj)
  rw [List.getD_eq_getElem?_getD, List.getElem?_eq_getElem hj] at h
  rw [e2, over_turn (l.take j) (l.drop (j + 1)) l[j] y m c h, ← e, List.length_drop, Nat.sub_sub, Nat.add_comm 1 j]

/-! Joined -/
theorem join_law (x y : List Int) (c : W) : over (over c x) y = over c y ^^^ Mn (8 * y.length) (over c x ^^^ c) := by
  rw [← over_xor, BitVec.xor_comm (over c x), xself]

/-! Four bytes -/
def b4 (d : W) : List Int := [((d &&& 255#32).toNat : Int), (((d >>> 8) &&& 255#32).toNat : Int), (((d >>> 16) &&& 255#32).toNat : Int), (((d >>> 24) &&& 255#32).toNat : Int)]
theorem byt_toNat (d : W) : byt ((d.toNat : Nat) : Int) = d := by unfold byt; rw [BitVec.ofInt_natCast]; simp
theorem b4_over (c d : W) : over c (b4 d) = Mn 32 (c ^^^ d) := by
  have h0 : over 0#32 (b4 d) = Mn 32 d := by
    have e1 := Mn8_split d
    have e2 := Mn8_split (d >>> 8)
    have e3 := Mn8_split (d >>> 16)
    have e4 := Mn8_split (d >>> 24)
    rw [← BitVec.shiftRight_add] at e2 e3 e4
    simp only [Nat.reduceAdd] at e2 e3 e4
    have z : d >>> 32 = 0#32 := by
      apply BitVec.eq_of_getLsbD_eq; intro i hi
      rw [BitVec.getLsbD_ushiftRight, BitVec.getLsbD_of_ge _ _ (by omega)]; simp
    unfold b4
    rw [over_cons, over_cons, over_cons, over_cons, over_nil, byt_toNat, byt_toNat, byt_toNat, byt_toNat]
    rw [show Mn 32 d = Mn 8 (Mn 8 (Mn 8 (Mn 8 d))) from by rw [← Mn_add, ← Mn_add, ← Mn_add]]
    rw [e1, Mn_xor 8 (d >>> 8), e2]
    rw [Mn_xor 8 (d >>> 16 ^^^ _), Mn_xor 8 (d >>> 16), e3]
    rw [Mn_xor 8 (d >>> 24 ^^^ _ ^^^ _), Mn_xor 8 (d >>> 24 ^^^ _), Mn_xor 8 (d >>> 24), e4, z]
    simp [Mn_xor, BitVec.xor_comm, xlc]
  have := over_xor (b4 d) 0#32 c
  rw [show 0#32 ^^^ c = c from by simp, h0] at this
  rw [this, Mn_xor, BitVec.xor_comm]; rfl

/-! Bits turned, all among thirty-two neighbours -/
theorem bit_back (b : Nat) (hb : b ≤ 8) : Mn 8 (1#32 <<< b) = Mn (8 - b) 1#32 := by
  have h : ∀ j : Fin 9, Mn 8 (1#32 <<< j.val) = Mn (8 - j.val) 1#32 := by decide +kernel
  exact h ⟨b, by omega⟩
theorem bit_back32 (b : Nat) (hb : b < 32) : Mn 32 (1#32 <<< b) = Mn (32 - b) 1#32 := by
  have h : ∀ j : Fin 32, Mn 32 (1#32 <<< j.val) = Mn (32 - j.val) 1#32 := by decide +kernel
  exact h ⟨b, hb⟩
/-- The lowest i bits. -/
def low (i : Nat) (b : W) : W := BitVec.ofNat 32 (b.toNat % 2 ^ i)
theorem low_zero (b : W) : low 0 b = 0#32 := by simp [low, Nat.mod_one]
theorem low_all (b : W) : low 32 b = b := by unfold low; rw [Nat.mod_eq_of_lt b.isLt]; simp
theorem low_succ (n : Nat) (b : W) : low (n + 1) b = low n b ^^^ (if b.getLsbD n then 1#32 <<< n else 0#32) := by
  unfold low
  apply BitVec.eq_of_getLsbD_eq
  intro i hi
  rw [BitVec.getLsbD_xor, BitVec.getLsbD_ofNat, BitVec.getLsbD_ofNat, Nat.testBit_mod_two_pow, Nat.testBit_mod_two_pow]
  by_cases h : b.getLsbD n = true
  · rw [if_pos h, bit_one n i hi]
    by_cases e : i = n
    · subst e; simp [hi, BitVec.getLsbD] at *; simp [h]
    · have : (i < n + 1) = (i < n) := by simp; omega
      simp [e, this]
  · rw [if_neg h]
    by_cases e : i = n
    · subst e; simp [BitVec.getLsbD] at *; simp [h]
    · have : (i < n + 1) = (i < n) := by simp; omega
      simp [this]
/-- One bit turned, in a text of len bytes: what its inner number becomes. -/
theorem tell_step (l : List Int) (c : W) (at_ i len : Nat) (y : Int) (hl : l.length = len) (hat : at_ + 32 ≤ 8 * len) (hi : i < 32)
    (hx : byt y = byt (l.getD ((at_ + i) / 8) 0) ^^^ (1#32 <<< ((at_ + i) % 8))) :
    over c (l.set ((at_ + i) / 8) y) = over c l ^^^ Mn (8 * len - at_ - 32) (Mn 32 (1#32 <<< i)) := by
  subst hl
  rw [over_set l ((at_ + i) / 8) (((1#32 <<< ((at_ + i) % 8) : W).toNat : Nat) : Int) y c (by omega) (by rw [byt_toNat]; exact hx)]
  rw [byt_toNat, bit_back _ (by omega), bit_back32 i hi, ← Mn_add, ← Mn_add]
  congr 2
  omega
/-- The same, beside the bits that were turned before. -/
theorem tell_more (l l0 : List Int) (c : W) (at_ i len : Nat) (b : W) (y : Int) (hl : l.length = len) (hat : at_ + 32 ≤ 8 * len) (hi : i < 32) (hb : b.getLsbD i = true)
    (hx : byt y = byt (l.getD ((at_ + i) / 8) 0) ^^^ (1#32 <<< ((at_ + i) % 8))) (h : over c l = over c l0 ^^^ Mn (8 * len - at_ - 32) (Mn 32 (low i b))) :
    over c (l.set ((at_ + i) / 8) y) = over c l0 ^^^ Mn (8 * len - at_ - 32) (Mn 32 (low (i + 1) b)) := by
  rw [tell_step l c at_ i len y hl hat hi hx, h, low_succ, if_pos hb, Mn_xor, Mn_xor, BitVec.xor_assoc]
theorem tell_same (i : Nat) (b : W) (hb : b.getLsbD i = false) : low (i + 1) b = low i b := by
  rw [low_succ, if_neg (by simp [hb])]; simp
/-- Sealed bytes: their inner number, the sum with them, is one and the same. -/
theorem sealed (c : W) (p : List Int) : over c (p ++ b4 (~~~ (over c p))) = Mn 32 (BitVec.allOnes 32) := by
  rw [over_append, b4_over]; congr 1
  apply BitVec.eq_of_getLsbD_eq; intro i hi
  rw [BitVec.getLsbD_xor, BitVec.getLsbD_not, BitVec.getLsbD_allOnes]; cases (over c p).getLsbD i <;> simp [hi]
/-- Whatever is opened has that inner number: so nothing that was turned is. -/
theorem told (c : W) (b : W) (k : Nat) (p q : List Int) (hq : over c q = over c (p ++ b4 (~~~ (over c p))) ^^^ Mn k (Mn 32 b)) (r : List Int) (hr : q = r ++ b4 (~~~ (over c r))) : b = 0#32 := by
  rw [hr, sealed, sealed] at hq
  have h : Mn k (Mn 32 b) = 0#32 := by
    have e := congrArg (fun z => Mn 32 (BitVec.allOnes 32) ^^^ z) hq
    simp only [xself, BitVec.xor_self] at e
    exact e.symm
  exact Mn_zero_of 32 b (Mn_zero_of k _ h)
end CrcM
end
/-! The contracts of package crc's own functions: step, the table, over, More, Sum. -/
section
namespace Go.Proofs.Ytelfephmjkipoaa
open Go.RowKit Go.Kit CrcM Go.Proofs.YtelfephmjkipoaaW.PrintWords

theorem u32_lt (c : W) : (c.toNat : Int) < 4294967296 := by have := c.isLt; omega
theorem and_one (c : W) : bits .and .u32 (c.toNat : Int) 1 = if c.getLsbD 0 then 1 else 0 := by
  have := u32_and_nat c.toNat 1 (by have := c.isLt; omega) (by omega)
  rw [show ((1 : Nat) : Int) = 1 from rfl] at this
  rw [this, Nat.and_one_is_mod, BitVec.getLsbD, Nat.testBit_zero]
  by_cases h : c.toNat % 2 = 1 <;> simp [h]; omega
theorem shr_one (c : W) : ((c.toNat : Nat) : Int) / (2 : Int) = ((c >>> 1).toNat : Int) := by
  rw [BitVec.toNat_ushiftRight, Nat.shiftRight_eq_div_pow]; omega
theorem shr_eight (c : W) : ((c.toNat : Nat) : Int) / (256 : Int) = ((c >>> 8).toNat : Int) := by
  rw [BitVec.toNat_ushiftRight, Nat.shiftRight_eq_div_pow]; omega
theorem xor_w (c d : W) : bits .xor .u32 (c.toNat : Int) (d.toNat : Int) = ((c ^^^ d).toNat : Int) := by
  rw [u32_xor_nat _ _ (by have := c.isLt; omega) (by have := d.isLt; omega), BitVec.toNat_xor]
theorem step_yes (c : W) (h : c.getLsbD 0 = true) : bits .xor .u32 (((c.toNat : Nat) : Int) / (2 : Int)) 2197175160 = ((M c).toNat : Int) := by
  rw [shr_one, show (2197175160 : Int) = (poly.toNat : Int) from rfl, xor_w, M, if_pos h]
theorem step_no (c : W) (h : c.getLsbD 0 = false) : ((c.toNat : Nat) : Int) / (2 : Int) = ((M c).toNat : Int) := by
  rw [shr_one, M, if_neg (by rw [h]; simp)]
theorem Mn_less (k : Nat) (hk : k < 8) (d : W) : Mn (8 - k) d = Mn (8 - (k + 1)) (M d) := by
  rw [show 8 - k = (8 - (k + 1)) + 1 from by omega]; rfl

set_option maxHeartbeats 400000 in
theorem step_any (c : W) (n : Int) (hn : n = (c.toNat : Int)) (w : World) :
    Calls Try.prog 112 #[.int .u32 n] w fun e w' => e = .returned (.int .u32 ((Mn 8 c).toNat : Int)) ∧ w' = w := by
  subst hn
  go_enter Try.func112, Try.ntmps112
  go_wp2
  go_loop [0, 3] (fun v0 v3 => ∃ (d : W) (k : Nat), k ≤ 8 ∧ v0 = .int .u32 (d.toNat : Int) ∧ v3 = .int .i64 (k : Int) ∧ Hid (Mn 8 c = Mn (8 - k) d)) (fun _ i => 8 - (intOf i).toNat)
  case atStart => exact ⟨c, 0, by omega, rfl, rfl, rfl⟩
  case round =>
    obtain ⟨d, k, hk, rfl, rfl, HD⟩ := hrel
    have h1 := and_one d
    by_cases hlt : k < 8
    · have HE : Hid (Mn 8 c = Mn (8 - (k + 1)) (M d)) := (HD.out).trans (Mn_less k hlt d)
      cases hb : d.getLsbD 0
      · rw [hb] at h1
        have HS := Lib.hid (step_no d hb)
        clear hb
        go_wp2
        go_round
        case rel => exact ⟨M d, k + 1, by omega, by rw [← HS.out], by simp, HE⟩
        case measure => simp [intOf]; omega
      · rw [hb] at h1
        have HS := Lib.hid (step_yes d hb)
        clear hb
        go_wp2
        go_round
        case rel => exact ⟨M d, k + 1, by omega, by rw [← HS.out], by simp, HE⟩
        case measure => simp [intOf]; omega
    · have HE : Hid (Mn 8 c = d) := by rw [HD.out, show 8 - k = 0 from by omega]; rfl
      go_wp2
      go_ret
      exact ⟨by rw [HE.out]; rfl, rfl⟩

/-! The table -/
def tabV (j : Nat) : Value := .int .u32 ((Mn 8 (BitVec.ofNat 32 j)).toNat : Int)
def tabC (i : Nat) : Array Value := Array.ofFn (n := 256) fun j => if j.val < i then tabV j.val else .int .u32 0
theorem tabC_zero : tabC 0 = Array.replicate 256 (.int .u32 0) := by
  apply Array.ext
  · simp [tabC]
  · intro i h1 h2; simp [tabC]
theorem tabC_size (i : Nat) : (tabC i).size = 256 := by simp [tabC]
theorem tabC_set (i : Nat) : (tabC i).setIfInBounds i (tabV i) = tabC (i + 1) := by
  apply Array.ext
  · simp [tabC]
  · intro j h1 h2
    have hj : j < (tabC i).size := by simpa using h1
    rw [Array.getElem_setIfInBounds hj]
    by_cases e : i = j
    · subst e; simp [tabC]
    · simp only [if_neg e, tabC, Array.getElem_ofFn]
      have : (j < i + 1) = (j < i) := by simp; omega
      simp [this]
theorem tabC_one (i : Nat) : (tabC i).all (·.oneCell') = true := by
  rw [Array.all_eq_true]
  intro j h
  simp only [tabC, Array.getElem_ofFn]
  split <;> rfl
theorem tabC_get (j : Nat) (hj : j < 256) : (tabC 256)[j]? = some (tabV j) := by
  rw [Array.getElem?_eq_getElem (by rw [tabC_size]; exact hj)]
  simp [tabC]
theorem info_tab : (Try.prog.info? 124).map (fun i => (i.zero, i.size)) = some (some (.agg (Array.replicate 256 (.int .u32 0))), 256) := by kernel_rfl

set_option maxHeartbeats 400000 in
set_option maxRecDepth 100000 in
theorem table_any (w : World) :
    Calls Try.prog 108 #[] w fun e w' => e = .returned (.agg (tabC 256)) ∧ Below w.heap.size w w' := by
  have hz58 := (zero_of_info info_tab).1
  have hi58 := (zero_of_info info_tab).2
  have HI := Lib.hid hi58
  clear hi58
  rw [← tabC_zero] at hz58
  go_enter Try.func108, Try.ntmps108
  go_wp2
  clear hz58
  go_loopg [3] 256 (fun g v3 wx => ∃ i : Nat, i + g = 256 ∧ v3 = .int .i64 i ∧ wx = (w.alloc (.cells (tabC 0) 124)).alloc (.cells (tabC i) 124))
  case atStart => exact ⟨0, by omega, rfl, rfl⟩
  case round =>
    obtain ⟨i, hig, rfl, rfl⟩ := hrel
    cases gk with
    | zero =>
      obtain rfl : i = 256 := by omega
      have hh1 : ((w.alloc (.cells (tabC 0) 124)).alloc (.cells (tabC 256) 124)).heap[w.heap.size + 1]? = some (.cells (tabC 256) 124 (0, 0)) := by
        have := heap_alloc_new (w.alloc (.cells (tabC 0) 124)) (.cells (tabC 256) 124)
        rwa [World.size_alloc] at this
      have hh0 : ((w.alloc (.cells (tabC 0) 124)).alloc (.cells (tabC 256) 124)).heap[w.heap.size]? = some (.cells (tabC 0) 124 (0, 0)) := by
        exact (heap_alloc_old _ _ (by simp)).trans (heap_alloc_new w _)
      have Hh1 := Lib.hid hh1
      have Hh0 := Lib.hid hh0
      have Hb : Below w.heap.size w ((w.alloc (.cells (tabC 0) 124)).alloc (.cells (tabC 256) 124)) := ((Below.refl _ _).alloc (Nat.le_refl _) _).alloc (by simp) _
      clear hh0 hh1
      generalize ((w.alloc (.cells (tabC 0) 124)).alloc (.cells (tabC 256) 124)) = W at *
      clear hig
      have Hs : Hid ((Try.prog.info? 124).map (·.size) = some (tabC 256).size) := by rw [tabC_size]; exact HI.out
      have Hs0 : Hid ((tabC 0).size = (tabC 256).size) := by rw [tabC_size, tabC_size]; rfl
      go_upto_region 7 with (fail)
      apply wp_region_lit
      refine wpList_load_row rfl 124 (.tmp 1) rfl (w.heap.size + 1) rfl 124 (tabC 256) (0, 0) (.array 256 62) Hh1.out Try.underlying124 rfl Hs.out ?_
      refine wpList_store_row rfl 124 (.tmp 0) (.tmp 12) rfl w.heap.size (tabC 256) rfl rfl 124 (tabC 0) Hh0.out Hs.out Hs0.out (tabC_one _) ?_
      have HR : Hid ((W.setRow w.heap.size (tabC 256)).heap[w.heap.size]? = some (.cells (tabC 256) 124 (0, 0))) := setRow_heap _ _ _ _ _ _ Hh0.out
      have Hb2 : Below w.heap.size w (W.setRow w.heap.size (tabC 256)) := below_setRow Hb (Nat.le_refl _) _
      generalize W.setRow w.heap.size (tabC 256) = W2 at *
      go_wp2_with fail
      refine bodyPost_ret (v := .agg (tabC 256)) (results_cell_row rfl _ W2 w.heap.size 124 (tabC 256) (0, 0) (.array 256 62) rfl HR.out Try.underlying124 rfl Hs.out) rfl ⟨rfl, Hb2⟩
    | succ g =>
      have hi : i < 256 := by omega
      have HG := Lib.hid hig
      clear hig
      have hn : (i : Int) = ((BitVec.ofNat 32 i).toNat : Int) := by simp; omega
      have HN := Lib.hid hn
      clear hn
      go_wp2_with fail
      refine (step_any (BitVec.ofNat 32 i) _ HN.out _).mono ?_
      rintro e w' ⟨rfl, rfl⟩
      have hv : Value.int .u32 ((Mn 8 (BitVec.ofNat 32 i)).toNat : Int) = tabV i := rfl
      have HV := Lib.hid hv
      clear hv
      generalize ((Mn 8 (BitVec.ofNat 32 i)).toNat : Int) = x at *
      have hts := tabC_size i
      go_wp2_with fail
      go_roundg g
      case measure => omega
      case rel => exact ⟨i + 1, by have := HG.out; omega, by simp, by rw [HV.out, tabC_set]⟩
end Go.Proofs.Ytelfephmjkipoaa
end
/-! The contracts of over, More and Sum. -/
section
namespace Go.Proofs.Ytelfephmjkipoaa
open Go.RowKit Go.Kit CrcM Go.Proofs.YtelfephmjkipoaaW.PrintWords

theorem byte_of (c : W) (x : Int) (h0 : 0 ≤ x) (h1 : x < 256) :
    bits .xor .u8 ((c.toNat : Int) % 256) x = ((((c ^^^ byt x) &&& 255#32).toNat : Nat) : Int) := by
  obtain ⟨n, rfl⟩ := Int.eq_ofNat_of_zero_le h0
  have e : ((c.toNat : Int) % 256) = ((c.toNat % 256 : Nat) : Int) := by omega
  rw [e, u8_xor_nat _ _ (Nat.mod_lt _ (by omega)) (by omega)]
  congr 1
  have h255 : ((c ^^^ byt (n : Int)) &&& 255#32).toNat = (c.toNat ^^^ n) % 256 := by
    rw [BitVec.toNat_and, BitVec.toNat_xor, byt, BitVec.ofInt_natCast, BitVec.toNat_ofNat, Nat.mod_eq_of_lt (show n < 2 ^ 32 by omega)]
    exact Nat.and_two_pow_sub_one_eq_mod _ 8
  rw [h255]
  rw [show (256 : Nat) = 2 ^ 8 from rfl, Nat.xor_mod_two_pow, Nat.mod_eq_of_lt (show n < 2 ^ 8 by omega)]
/-- One byte, by the table. -/
theorem over_step (c : W) (x : Int) (h0 : 0 ≤ x) (h1 : x < 256) :
    bits .xor .u32 (((c.toNat : Nat) : Int) / (256 : Int)) ((Mn 8 (BitVec.ofNat 32 ((c ^^^ byt x) &&& 255#32).toNat)).toNat : Int) = ((Mn 8 (c ^^^ byt x)).toNat : Int) := by
  rw [shr_eight, xor_w]
  congr 2
  rw [Mn8_split (c ^^^ byt x)]
  congr 1
  · apply BitVec.eq_of_getLsbD_eq
    intro i hi
    obtain ⟨n, rfl⟩ := Int.eq_ofNat_of_zero_le h0
    rw [BitVec.getLsbD_ushiftRight, BitVec.getLsbD_ushiftRight, BitVec.getLsbD_xor, byt, BitVec.ofInt_natCast, BitVec.getLsbD_ofNat, Nat.testBit_lt_two_pow (show n < 2 ^ (8 + i) from Nat.lt_of_lt_of_le (show n < 2 ^ 8 by omega) (Nat.pow_le_pow_right (by omega) (by omega)))]
    simp
  · simp
theorem low_lt (y : W) : (y &&& 255#32).toNat < 256 := by
  rw [BitVec.toNat_and]
  exact Nat.lt_of_le_of_lt Nat.and_le_right (by decide)
/-- What one round of the table asks, and gives: q the place, z what stands there. -/
theorem over_round (c : W) (x : Int) (h0 : 0 ≤ x) (h1 : x < 256) : ∃ (q : Nat) (z : Int), q < 256 ∧ (tabC 256)[q]? = some (.int .u32 z) ∧
    bits .xor .u8 ((c.toNat : Int) % 256) x = (q : Int) ∧ bits .xor .u32 (((c.toNat : Nat) : Int) / (256 : Int)) z = ((Mn 8 (c ^^^ byt x)).toNat : Int) :=
  ⟨_, _, low_lt _, tabC_get _ (low_lt (c ^^^ byt x)), byte_of c x h0 h1, over_step c x h0 h1⟩
set_option maxHeartbeats 1000000 in
set_option maxRecDepth 100000 in
theorem over_any (c : W) (n : Int) (hn : n = (c.toNat : Int)) (A : Option Addr) (len cap : Nat) (L : List (List Int)) (w : World) (hL : RBs w A len L) :
    Calls Try.prog 72 #[.int .u32 n, .slice A len cap] w fun e w' => e = .returned (.int .u32 ((over c L.flatten).toNat : Int)) ∧ Below w.heap.size w w' := by
  subst hn
  have hlenL := hL.len
  have HL := Lib.hid hlenL
  clear hlenL
  have hmaxL := hL.max
  have hz58 := (zero_of_info info_tab).1
  have HZ := Lib.hid hz58
  clear hz58
  have HI := Lib.hid (zero_of_info info_tab).2
  go_enter Try.func72, Try.ntmps72
  go_wp2_with fail
  refine (table_any _).mono ?_
  rintro e w1 ⟨rfl, hb1⟩
  have hz58 := HZ.out
  rw [← tabC_zero] at hz58
  have Hs : Hid ((Try.prog.info? 124).map (·.size) = some (tabC 256).size) := by rw [tabC_size]; exact HI.out
  have Hs0 : Hid ((tabC 0).size = (tabC 256).size) := by rw [tabC_size, tabC_size]; rfl
  have Hh : Hid ((w1.alloc (.cells (tabC 0) 124)).heap[w1.heap.size]? = some (.cells (tabC 0) 124 (0, 0))) := heap_alloc_new w1 _
  go_wp2_with (refine wpList_store_row rfl 124 (.tmp 5) (.tmp 10) rfl w1.heap.size (tabC 256) rfl rfl 124 (tabC 0) Hh.out Hs.out Hs0.out (tabC_one _) ?_)
  have HT : Hid (((w1.alloc (.cells (tabC 0) 124)).setRow w1.heap.size (tabC 256)).heap[w1.heap.size]? = some (.cells (tabC 256) 124 (0, 0))) := setRow_heap _ _ _ _ _ _ Hh.out
  have hb2 : Below w.heap.size w ((w1.alloc (.cells (tabC 0) 124)).setRow w1.heap.size (tabC 256)) := below_setRow (below_alloc hb1 _) hb1.size _
  clear Hh Hs Hs0 hz58 HZ HI hb1
  generalize ((w1.alloc (.cells (tabC 0) 124)).setRow w1.heap.size (tabC 256)) = wt at hb2 HT ⊢
  replace hL := hL.below hb2
  go_loop [0, 13] (fun v0 v13 => ∃ (d : W) (k : Nat), k ≤ len ∧ v0 = .int .u32 (d.toNat : Int) ∧ v13 = .int .i64 (k : Int) ∧ Hid (d = over c (L.take k).flatten)) (fun _ i => len - (intOf i).toNat)
  case atStart => exact ⟨c, 0, by omega, rfl, rfl, rfl⟩
  case round =>
    obtain ⟨d, k, hk, rfl, rfl, HD⟩ := hrel
    by_cases hlt : k < len
    · obtain ⟨ad, Ai, ni, ci, xs, rfl, hcell, hr, HX⟩ := hL.at_ k hlt
      have hmx := hr.max
      go_upto_block 2 with (fail)
      go_wp2_with fail
      go_loop [0, 19] (fun v0 v19 => ∃ (d2 : W) (j : Nat), j ≤ ni ∧ v0 = .int .u32 (d2.toNat : Int) ∧ v19 = .int .i64 (j : Int) ∧ Hid (d2 = over d (xs.take j))) (fun _ i => ni - (intOf i).toNat)
      case atStart => exact ⟨d, 0, by omega, rfl, rfl, rfl⟩
      case round =>
        obtain ⟨d2, j, hj, rfl, rfl, HD2⟩ := hrel
        by_cases hlj : j < ni
        · obtain ⟨ad2, x, rfl, hc2, h0, h1, HX2⟩ := hr.at_ j hlj
          obtain ⟨q, z, hq, hz, hby, hxo⟩ := over_round d2 x h0 h1
          have hct : wt.cell? ⟨w1.heap.size, q, none⟩ = some (.int .u32 z) := (cell_of_row wt w1.heap.size q (tabC 256) 124 (0, 0) HT.out).trans hz
          clear hz
          go_wp2
          go_round
          case rel => exact ⟨Mn 8 (d2 ^^^ byt x), j + 1, by omega, by simp, by simp, by rw [snoc HX2.out, over_snoc, ← HD2.out]; rfl⟩
          case measure => simp [intOf]; omega
        · go_wp2
          go_round
          case rel => exact ⟨d2, k + 1, by omega, by simp, by simp, by rw [flat_snoc HX.out, over_append, ← HD.out, HD2.out, all_of (by rw [hr.len]; omega)]; rfl⟩
          case measure => simp [intOf]; omega
    · go_wp2
      go_ret
      exact ⟨by rw [HD.out, all_of (by rw [HL.out]; omega)]; rfl, hb2⟩
end Go.Proofs.Ytelfephmjkipoaa
end
/-! The contracts of More, Sum, and the document's byteOn, More, Sum. -/
section
namespace Go.Proofs.Ytelfephmjkipoaa
open Go.RowKit Go.Kit CrcM Go.Proofs.YtelfephmjkipoaaW.PrintWords

theorem not_w (c : W) : bits .xor .u32 IntKind.u32.max ((c.toNat : Nat) : Int) = ((~~~ c).toNat : Int) := by
  rw [show IntKind.u32.max = ((BitVec.allOnes 32).toNat : Int) from by decide, xor_w]
  congr 2
def more (c : W) (l : List Int) : W := ~~~ (over (~~~ c) l)
set_option maxHeartbeats 400000 in
theorem Sum_any (A : Option Addr) (len cap : Nat) (L : List (List Int)) (w : World) (hL : RBs w A len L) :
    Calls Try.prog 48 #[.slice A len cap] w fun e w' => e = .returned (.int .u32 ((more 0#32 L.flatten).toNat : Int)) ∧ Below w.heap.size w w' := by
  go_enter Try.func48, Try.ntmps48
  go_wp2_with fail
  refine (over_any (~~~ 0#32) _ (by decide) A len cap L w hL).mono ?_
  rintro e w1 ⟨rfl, hb⟩
  have hnot := not_w (over (~~~ 0#32) L.flatten)
  obtain ⟨m, hm⟩ : ∃ m, m = ~~~ over (~~~ 0#32) L.flatten := ⟨_, rfl⟩
  have HM : Hid (m = more 0#32 L.flatten) := hm
  rw [← hm] at hnot
  clear hm
  generalize over (~~~ 0#32) L.flatten = d at *
  go_wp2
  go_ret
  exact ⟨by rw [← HM.out]; rfl, hb⟩
/-- Sum of one text, as a variadic call hands it over. -/
theorem Sum_one {A : Option Addr} {n cap : Nat} {xs : List Int} (t : TypeId) {w : World} (h : RB w A n xs) (ad : Option Addr) (had : ad = some ⟨w.heap.size, 0, none⟩) :
    Calls Try.prog 48 #[.slice ad 1 1] (w.alloc (.cells #[.slice A n cap] t)) fun e w' => ∃ s : W, e = .returned (.int .u32 (s.toNat : Int)) ∧ Hid (s = more 0#32 xs) ∧ Below w.heap.size w w' := by
  subst had
  refine (Sum_any _ 1 1 [xs] _ (RBs.one t h)).mono ?_
  rintro e w1 ⟨rfl, hb1⟩
  exact ⟨_, rfl, Lib.hid (by simp), below_then (below_alloc (Below.refl _ w) _) (by simp) hb1⟩
theorem Sum_two {A B : Option Addr} {n cap m cap2 : Nat} {xs ys : List Int} (t : TypeId) {w : World} (h : RB w A n xs) (k : RB w B m ys) :
    Calls Try.prog 48 #[.slice (some ⟨w.heap.size, 0, none⟩) 2 2] (w.alloc (.cells #[.slice A n cap, .slice B m cap2] t)) fun e w' => ∃ s : W, e = .returned (.int .u32 (s.toNat : Int)) ∧ Hid (s = more 0#32 (xs ++ ys)) ∧ Below w.heap.size w w' := by
  refine (Sum_any _ 2 2 [xs, ys] _ (RBs.two t h k)).mono ?_
  rintro e w1 ⟨rfl, hb1⟩
  exact ⟨_, rfl, Lib.hid (by simp), below_then (below_alloc (Below.refl _ w) _) (by simp) hb1⟩
end Go.Proofs.Ytelfephmjkipoaa
end
/-! The contracts of the document's byteOn, More and Sum; of both products. -/
section
namespace Go.Proofs.Ytelfephmjkipoaa
open Go.RowKit Go.Kit CrcM Go.Proofs.YtelfephmjkipoaaW.PrintWords

theorem byte_in (c : W) (x : Int) (h0 : 0 ≤ x) (h1 : x < 256) : bits .xor .u32 ((c.toNat : Nat) : Int) x = ((c ^^^ byt x).toNat : Int) := by
  obtain ⟨n, rfl⟩ := Int.eq_ofNat_of_zero_le h0
  have e : (n : Int) = ((byt (n : Int)).toNat : Int) := by rw [byt, BitVec.ofInt_natCast, BitVec.toNat_ofNat]; omega
  rw [show bits .xor .u32 ((c.toNat : Nat) : Int) (n : Int) = bits .xor .u32 ((c.toNat : Nat) : Int) ((byt (n : Int)).toNat : Int) from by rw [← e], xor_w]
set_option maxHeartbeats 400000 in
theorem byteOn_any (c : W) (n : Int) (hn : n = (c.toNat : Int)) (x : Int) (hx0 : 0 ≤ x) (hx1 : x < 256) (w : World) :
    Calls Try.prog 74 #[.int .u32 n, .int .u8 x] w fun e w' => e = .returned (.int .u32 ((Mn 8 (c ^^^ byt x)).toNat : Int)) ∧ w' = w := by
  subst hn
  have hin := byte_in c x hx0 hx1
  obtain ⟨c2, hc2⟩ : ∃ c2, c2 = c ^^^ byt x := ⟨_, rfl⟩
  rw [← hc2] at hin ⊢
  clear hc2
  go_enter Try.func74, Try.ntmps74
  go_wp2
  clear hin
  go_loop [0, 5] (fun v0 v3 => ∃ (d : W) (k : Nat), k ≤ 8 ∧ v0 = .int .u32 (d.toNat : Int) ∧ v3 = .int .i64 (k : Int) ∧ Hid (Mn 8 c2 = Mn (8 - k) d)) (fun _ i => 8 - (intOf i).toNat)
  case atStart => exact ⟨c2, 0, by omega, rfl, rfl, rfl⟩
  case round =>
    obtain ⟨d, k, hk, rfl, rfl, HD⟩ := hrel
    have h1 := and_one d
    by_cases hlt : k < 8
    · have HE : Hid (Mn 8 c2 = Mn (8 - (k + 1)) (M d)) := (HD.out).trans (Mn_less k hlt d)
      cases hb : d.getLsbD 0
      · rw [hb] at h1
        have HS := Lib.hid (step_no d hb)
        clear hb
        go_wp2
        go_round
        case rel => exact ⟨M d, k + 1, by omega, by rw [← HS.out], by simp, HE⟩
        case measure => simp [intOf]; omega
      · rw [hb] at h1
        have HS := Lib.hid (step_yes d hb)
        clear hb
        go_wp2
        go_round
        case rel => exact ⟨M d, k + 1, by omega, by rw [← HS.out], by simp, HE⟩
        case measure => simp [intOf]; omega
    · have HE : Hid (Mn 8 c2 = d) := by rw [HD.out, show 8 - k = 0 from by omega]; rfl
      go_wp2
      go_ret
      exact ⟨by rw [HE.out]; rfl, rfl⟩

set_option maxHeartbeats 400000 in
theorem rMore_any (c : W) (n : Int) (hn : n = (c.toNat : Int)) (A : Option Addr) (len cap : Nat) (xs : List Int) (w : World) (hx : RB w A len xs) :
    Calls Try.prog 55 #[.int .u32 n, .slice A len cap] w fun e w' => e = .returned (.int .u32 ((more c xs).toNat : Int)) ∧ w' = w := by
  subst hn
  have hnot := not_w c
  obtain ⟨b, hb0⟩ : ∃ b, b = ~~~ c := ⟨_, rfl⟩
  rw [← hb0] at hnot
  have HB := Lib.hid hb0
  clear hb0
  have hmx := hx.max
  go_enter Try.func55, Try.ntmps55
  go_wp2_with fail
  clear hnot
  go_loop [0, 5] (fun v0 v5 => ∃ (d : W) (k : Nat), k ≤ len ∧ v0 = .int .u32 (d.toNat : Int) ∧ v5 = .int .i64 (k : Int) ∧ Hid (d = over b (xs.take k))) (fun _ i => len - (intOf i).toNat)
  case atStart => exact ⟨b, 0, by omega, rfl, rfl, rfl⟩
  case round =>
    obtain ⟨d, k, hk, rfl, rfl, HD⟩ := hrel
    by_cases hlt : k < len
    · obtain ⟨ad, x, rfl, hc, h0, h1, HX⟩ := hx.at_ k hlt
      go_wp2_with ((go_at_call 74); (refine (byteOn_any d _ rfl _ h0 h1 _).mono ?_); (rintro e w' ⟨rfl, rfl⟩))
      go_round
      case rel => exact ⟨Mn 8 (d ^^^ byt x), k + 1, by omega, by simp, by simp, by rw [snoc HX.out, over_snoc, ← HD.out]; rfl⟩
      case measure => simp [intOf]; omega
    · have hnot := not_w d
      obtain ⟨m, hm⟩ : ∃ m, m = ~~~ d := ⟨_, rfl⟩
      rw [← hm] at hnot
      have HM : Hid (m = more c xs) := Lib.hid (by unfold more; rw [← HB.out, hm, HD.out, all_of (by rw [hx.len]; omega)])
      clear hm
      go_wp2_with fail
      go_ret
      exact ⟨by rw [← HM.out]; rfl, rfl⟩

theorem more_more (c : W) (x y : List Int) : more (more c x) y = more c (x ++ y) := by
  unfold more; rw [over_append]; simp
end Go.Proofs.Ytelfephmjkipoaa
end
/-! The contracts of bytes.Equal, Bytes and Seal, and of the document's Bytes and Seal. -/
section
namespace Go.Proofs.Ytelfephmjkipoaa
open Go.RowKit Go.Kit CrcM Go.Proofs.YtelfephmjkipoaaW.PrintWords

theorem b4_four (c : W) : ∃ x0 x1 x2 x3 : Int, b4 c = [x0, x1, x2, x3] ∧ (c.toNat : Int) % 256 = x0 ∧ (c.toNat : Int) / 256 % 256 = x1 ∧ (c.toNat : Int) / 65536 % 256 = x2 ∧ (c.toNat : Int) / 16777216 = x3 ∧
    (0 ≤ x0 ∧ x0 < 256) ∧ (0 ≤ x1 ∧ x1 < 256) ∧ (0 ≤ x2 ∧ x2 < 256) ∧ 0 ≤ x3 ∧ x3 < 256 := by
  have h255 : ∀ d : W, (d &&& 255#32).toNat = d.toNat % 256 := fun d => by rw [BitVec.toNat_and]; exact Nat.and_two_pow_sub_one_eq_mod _ 8
  refine ⟨_, _, _, _, rfl, ?_, ?_, ?_, ?_, ?_, ?_, ?_, ?_⟩
  all_goals have hlt := c.isLt
  all_goals simp only [h255, BitVec.toNat_ushiftRight, Nat.shiftRight_eq_div_pow]
  all_goals omega
theorem b4_byt (c : W) : Byt (b4 c) := by
  obtain ⟨x0, x1, x2, x3, h, _, _, _, _, h0, h1, h2, h3⟩ := b4_four c
  rw [h]; intro x hx; simp at hx; omega
theorem b4_length (c : W) : (b4 c).length = 4 := rfl
theorem info_b4 : (Try.prog.info? 86).map (fun i => (i.zero, i.size)) = some (some (.agg #[.int .u8 0, .int .u8 0, .int .u8 0, .int .u8 0]), 4) := by kernel_rfl
set_option maxHeartbeats 400000 in
theorem Bytes_any (c : W) (n : Int) (hn : n = (c.toNat : Int)) (w : World) :
    Calls Try.prog 47 #[.int .u32 n] w fun e w' => ∃ x0 x1 x2 x3, e = .returned (.agg #[.int .u8 x0, .int .u8 x1, .int .u8 x2, .int .u8 x3]) ∧ Hid (b4 c = [x0, x1, x2, x3]) ∧ Below w.heap.size w w' := by
  subst hn
  have hlt := u32_lt c
  obtain ⟨x0, x1, x2, x3, h, e0, e1, e2, e3, h0, h1, h2, h3⟩ := b4_four c
  have H := Lib.hid h
  clear h
  have hz := (zero_of_info info_b4).1
  go_enter Try.func47, Try.ntmps47
  go_wp2_with fail
  refine bodyPost_ret (v := .agg #[.int .u8 x0, .int .u8 x1, .int .u8 x2, .int .u8 x3]) (by simp [results, Try.results47, go_sem]) rfl ⟨x0, x1, x2, x3, rfl, H, (Below.refl _ _).alloc (Nat.le_refl _) _⟩
set_option maxHeartbeats 400000 in
theorem rBytes_any (c : W) (n : Int) (hn : n = (c.toNat : Int)) (w : World) :
    Calls Try.prog 54 #[.int .u32 n] w fun e w' => ∃ x0 x1 x2 x3, e = .returned (.agg #[.int .u8 x0, .int .u8 x1, .int .u8 x2, .int .u8 x3]) ∧ Hid (b4 c = [x0, x1, x2, x3]) ∧ Below w.heap.size w w' := by
  subst hn
  have hlt := u32_lt c
  obtain ⟨x0, x1, x2, x3, h, e0, e1, e2, e3, h0, h1, h2, h3⟩ := b4_four c
  have H := Lib.hid h
  clear h
  have hz := (zero_of_info info_b4).1
  go_enter Try.func54, Try.ntmps54
  go_wp2_with fail
  refine bodyPost_ret (v := .agg #[.int .u8 x0, .int .u8 x1, .int .u8 x2, .int .u8 x3]) (by simp [results, Try.results54, go_sem]) rfl ⟨x0, x1, x2, x3, rfl, H, (Below.refl _ _).alloc (Nat.le_refl _) _⟩

/-! Sealed bytes -/
def sealed (xs : List Int) : List Int := xs ++ b4 (more 0#32 xs)
theorem sealed_byt {xs : List Int} (h : Byt xs) : Byt (sealed xs) := h.append (b4_byt _)
theorem sealed_length (xs : List Int) : (sealed xs).length = xs.length + 4 := by unfold sealed; rw [List.length_append, b4_length]
set_option maxHeartbeats 1000000 in
set_option maxRecDepth 100000 in
theorem Seal_any (A : Option Addr) (len cap : Nat) (xs : List Int) (w : World) (hx : RB w A len xs) (hl : len ≤ 140737488355000) :
    Calls Try.prog 35 #[.slice A len cap] w fun e w' => ∃ v, e = .returned v ∧ OB 5 w' w.heap.size v (sealed xs) ∧ Below w.heap.size w w' := by
  obtain ⟨i0, hi, hz0, hz1, hz2⟩ := info_parts u8_info
  have hmk := fun W => run_make_rowN 38 5 i0 _ Try.underlying38 hi hz0 len (len + 4) (by omega) (by rw [hz2]; omega) (by omega) W (len : Int) ((len : Int) + 4) rfl (by simp)
  simp only [hz1, Value.cells, Nat.mul_one, made_u8] at hmk
  clear hi hz0 hz1 hz2
  go_enter Try.func35, Try.ntmps35
  go_wp2_with (refine wpList_copy_bytes (w := w) rfl (.tmp 11) (.tmp 12) 38 5 rfl Try.underlying38 u8_size A len (len + 4) len cap xs w.heap.size rfl rfl (hx.alloc _) (Nat.le_refl _) (heap_alloc_new w _) (by omega) (by omega) (below_alloc (Below.refl _ w) _) (Nat.le_refl _) ?_)
  intro w1 hO hb1
  rw [all_of (by rw [hx.len]; exact Nat.le_refl _)] at hO
  have hx1 := hx.below hb1
  clear hmk
  go_wp2_with fail
  refine (Sum_one _ hx1 _ rfl).mono ?_
  rintro e w2 ⟨s, rfl, HS, hb2⟩
  replace hO := hO.below hb2
  replace hb1 := below_step hb1 hb2
  go_wp2_with fail
  refine (Bytes_any s _ rfl _).mono ?_
  rintro e w3 ⟨x0, x1, x2, x3, rfl, HB, hb3⟩
  replace hO := hO.below hb3
  replace hb1 := below_step hb1 hb3
  have hz := (zero_of_info info_b4).1
  clear hb2 hb3 hx1
  have hfour : Byt [x0, x1, x2, x3] := by rw [← HB.out]; exact b4_byt s
  have HR := RB.lit w3 [x0, x1, x2, x3] hfour (by simp) 86 (0, 0)
  simp only [nums, List.map_cons, List.map_nil, List.length_cons, List.length_nil, Nat.reduceAdd] at HR
  have HO := hO.below (below_alloc (Below.refl _ w3) (.cells #[.int .u8 x0, .int .u8 x1, .int .u8 x2, .int .u8 x3] 86))
  have hbw := below_alloc hb1 (.cells #[.int .u8 x0, .int .u8 x1, .int .u8 x2, .int .u8 x3] 86)
  clear hO hb1
  have hlen := hx.len
  have HL := Lib.hid hlen
  clear hlen
  go_wp2_with (at_builtin; refine print_append_row (w0 := w) w.heap.size rfl (.tmp 18) (.tmp 19) 38 5 .u8 1 rfl Try.underlying38 u8_info (by decide) _ xs [x0, x1, x2, x3] _ 4 4 rfl rfl HO.own HR.rd hbw (by have := hbw.size; simpa using this) (by rw [HL.out]; omega) ?_)
  intro v1 w4 hown hb4 _ _
  have hF : OB 5 w4 w.heap.size v1 (sealed xs) := by
    unfold sealed
    rw [← HS.out, HB.out]
    exact ⟨by simpa using hown, hx.byt.append hfour⟩
  clear HO HR hbw hown
  go_wp2_with fail
  go_ret
  exact ⟨_, rfl, hF, hb4⟩

set_option maxHeartbeats 1000000 in
set_option maxRecDepth 100000 in
theorem rSeal_any (A : Option Addr) (len cap : Nat) (xs : List Int) (w : World) (hx : RB w A len xs) (hl : len ≤ 140737488355000) :
    Calls Try.prog 40 #[.slice A len cap] w fun e w' => ∃ v, e = .returned v ∧ OB 5 w' w.heap.size v (sealed xs) ∧ Below w.heap.size w w' := by
  have HL := Lib.hid hx.len
  go_enter Try.func40, Try.ntmps40
  go_wp2_with (at_builtin; refine print_append_row (w0 := w) w.heap.size rfl (.const (.slice none 0 0)) (.tmp 5) 38 5 .u8 1 rfl Try.underlying38 u8_info (by decide) (.slice none 0 0) [] xs A len cap rfl rfl (own_nil w _ _ _) hx.rd (Below.refl _ _) (Nat.le_refl _) (by simp; omega) ?_)
  intro v1 w1 hown hb1 _ _
  have hO : OB 5 w1 w.heap.size v1 xs := ⟨by simpa using hown, hx.byt⟩
  clear hown
  have hx1 := hx.below hb1
  go_wp2_with fail
  refine (rMore_any 0#32 _ (by decide) A len cap xs _ hx1).mono ?_
  rintro e w2 ⟨rfl, rfl⟩
  obtain ⟨s, hs⟩ : ∃ s, s = more 0#32 xs := ⟨_, rfl⟩
  rw [← hs]
  have HS := Lib.hid hs
  clear hs
  go_wp2_with fail
  refine (rBytes_any s _ rfl _).mono ?_
  rintro e w3 ⟨x0, x1, x2, x3, rfl, HB, hb3⟩
  replace hO := hO.below hb3
  replace hb1 := below_step hb1 hb3
  have hz := (zero_of_info info_b4).1
  clear hb3 hx1
  have hfour : Byt [x0, x1, x2, x3] := by rw [← HB.out]; exact b4_byt s
  obtain ⟨wb, hwb⟩ : ∃ wb, wb = w3.alloc (.cells #[.int .u8 x0, .int .u8 x1, .int .u8 x2, .int .u8 x3] 86) := ⟨_, rfl⟩
  have HR := RB.lit wb [x0, x1, x2, x3] hfour (by simp) 5 (0, 0)
  simp only [nums, List.map_cons, List.map_nil, List.length_cons, List.length_nil, Nat.reduceAdd] at HR
  have HO := (hO.below (below_alloc (Below.refl _ w3) (.cells #[.int .u8 x0, .int .u8 x1, .int .u8 x2, .int .u8 x3] 86)))
  have hbw := below_alloc hb1 (.cells #[.int .u8 x0, .int .u8 x1, .int .u8 x2, .int .u8 x3] 86)
  rw [← hwb] at HO hbw
  replace HO := HO.below (below_alloc (Below.refl _ wb) (.cells #[.int .u8 x0, .int .u8 x1, .int .u8 x2, .int .u8 x3] 5))
  replace hbw := below_alloc hbw (.cells #[.int .u8 x0, .int .u8 x1, .int .u8 x2, .int .u8 x3] 5)
  subst hwb
  simp only [World.size_alloc] at HR
  clear hO hb1
  go_wp2_with (at_builtin; refine print_append_row (w0 := w) w.heap.size rfl (.tmp 10) (.tmp 19) 38 5 .u8 1 rfl Try.underlying38 u8_info (by decide) _ xs [x0, x1, x2, x3] _ 4 4 rfl rfl HO.own HR.rd hbw (by have := hbw.size; simpa using this) (by rw [HL.out]; omega) ?_)
  intro v2 w4 hown hb4 _ _
  have hF : OB 5 w4 w.heap.size v2 (sealed xs) := by
    unfold sealed
    rw [← HS.out, HB.out]
    exact ⟨by simpa using hown, hx.byt.append hfour⟩
  clear HO HR hbw hown
  go_wp2_with fail
  go_ret
  exact ⟨_, rfl, hF, hb4⟩
end Go.Proofs.Ytelfephmjkipoaa
end
/-! The contracts of frame.Check, Encode, Size. -/
section
namespace Go.Kit
open Go.RowKit Go.Proofs.YtelfephmjkipoaaW.PrintWords
end Go.Kit
namespace Go.Proofs.Ytelfephmjkipoaa
open Go.RowKit Go.Kit Go.Proofs.YtelfephmjkipoaaW.PrintWords
/-- The fields of its kind, and the kind. -/
def ownG (f : Fr) : Fr := { onlyG f.k f with k := f.k }
theorem own_core {f : Fr} (h1 : 1 ≤ f.k) (h6 : f.k ≤ 6) : (ownG f).core = onlyF f := by
  unfold ownG onlyG onlyF Fr.core
  rcases (by omega : f.k = 1 ∨ f.k = 2 ∨ f.k = 3 ∨ f.k = 4 ∨ f.k = 5 ∨ f.k = 6) with h | h | h | h | h | h <;> simp [h, only1, only2, only3, only4, only6, noF]
theorem may_iffK {f : Fr} (h1 : 1 ≤ f.k) (h6 : f.k ≤ 6) (hc : f.core = onlyF f) (hn : f.args.length = f.n) : May f ↔ MayK f.k f := by
  constructor
  · intro h
    refine ⟨h.hello, fun _ => ⟨h.mo, h.fu, h.di, by have := h.many; omega, h.each⟩, fun e => ?_⟩
    obtain ⟨a, b, c⟩ := h.resp e
    by_cases hs : f.st = 1
    · exact .inl hs
    · exact .inr ⟨by omega, c hs⟩
  · rintro ⟨ha, hb, hd⟩
    have e1 : f.mo = if f.k = 2 then f.mo else 0 := congrArg Fr.mo hc
    have e2 : f.fu = if f.k = 2 then f.fu else 0 := congrArg Fr.fu hc
    have e3 : f.di = if f.k = 2 then f.di else 0 := congrArg Fr.di hc
    have e4 : f.args = if f.k = 2 then f.args else [] := congrArg Fr.args hc
    by_cases h2 : f.k = 2
    · obtain ⟨b1, b2, b3, b4, b5⟩ := hb h2
      exact ⟨h1, h6, hc, by omega, b1, b2, b3, fun e => by omega, fun e => by omega, b5⟩
    · rw [if_neg h2] at e1 e2 e3 e4
      refine ⟨h1, h6, hc, by rw [e4]; simp, by omega, by omega, by omega, ha, fun e => ?_, fun s hs => by rw [e4] at hs; cases hs⟩
      rcases hd e with h | ⟨h, h3⟩
      · exact ⟨by omega, by omega, fun h4 => absurd h h4⟩
      · exact ⟨by omega, by omega, fun _ => h3⟩
theorem may_lay {f : Fr} (h : May f) (hn : f.args.length = f.n) (hs : f.body.size ≤ 2097152) : LayOk f :=
  ⟨fun e => by have := h.hello e; omega, fun e => ⟨⟨h.mo, h.fu, h.di⟩, by have := h.many; omega, h.each⟩, fun e => by have := (h.resp e).1; omega, hs⟩
theorem chk_no {f : Fr} (h : ¬ May f) : chkF f = 70 := by unfold chkF; rw [if_neg (fun e => h ((may_iff f).1 e))]
theorem chk_long {f : Fr} (h : May f) (hs : 2097152 < f.body.size ∨ 2097152 < (bodyF f).length) : chkF f = 3 := by unfold chkF MF; rw [if_pos ((may_iff f).2 h), if_pos hs]
theorem chk_ok {f : Fr} (h : May f) (hs : ¬ (2097152 < f.body.size ∨ 2097152 < (bodyF f).length)) : chkF f = 0 := by unfold chkF MF; rw [if_pos ((may_iff f).2 h), if_neg hs]
section
variable {f : Fr} {w : World}
theorem keepC {w W W1 : World} {g gk : Nat} {f : Fr} {KK : Array Value} {t : TypeId} (hb : Below w.heap.size w W) (hF : f.at_ 29 W g) (hK : W.heap[gk]? = some (.cells KK t (0, 0))) (hk : Below W.heap.size W W1) :
    Below w.heap.size w W1 ∧ f.at_ 29 W1 g ∧ W1.heap[gk]? = some (.cells KK t (0, 0)) := keepB hb hF hK hk
attribute [-go_sem] Instr.loadAt
set_option maxHeartbeats 16000000 in
set_option maxRecDepth 100000 in
theorem Check_any (hf : f.ok w) (hw : f.wf) (ha : ∀ s ∈ f.args, s.size ≤ 9223372036854775807) : Calls Try.prog 24 #[f.val] w fun e w' => e = .returned (.int .i64 (chkF f)) ∧ Below w.heap.size w w' := by
  have hb := below_alloc (Below.refl _ w) (.cells f.arr 29)
  have hF := boxed hf.tool w
  have hif : (Try.prog.info? 29).map (·.size) = some f.cells.length := by rw [frame_size]; have := Fr.arr_size f hf.tool; simp [Fr.arr] at this; rw [this]
  by_cases h1 : f.k < 1 ∨ 6 < f.k
  · rw [chk_no (f := f) (fun h => by have := h.k1; have := h.k6; omega)]
    have HB := Lib.hid h1
    clear h1 hif
    show Calls Try.prog _ #[.agg f.arr] w _
    go_enter Try.func24, Try.ntmps24
    go_upto_region 1 with (fail)
    generalize w.alloc (.cells f.arr 29) = w1 at *
    have e0 := load_int hF.c0
    go_wp2_with fail
    refine (of_bad f.k HB.out _).mono ?_
    rintro e w2 ⟨rfl, hb2⟩
    have hbz := below_alloc (Below.refl w2.heap.size w2) (.cells #[.nilFunc, .nilFunc, .nilFunc, .nilFunc] 75)
    have hblk := heap_alloc_new w2 (.cells #[.nilFunc, .nilFunc, .nilFunc, .nilFunc] 75)
    have hb3 := below_step (below_step hb hb2) hbz
    have hb4 := below_setRow hb3 (Nat.le_trans hb.size hb2.size) #[.nilFunc, .nilFunc, .nilFunc, .nilFunc]
    have hszz : (Try.prog.info? 75).map (·.size) = some (#[.nilFunc, .nilFunc, .nilFunc, .nilFunc] : Array Value).size := kind_size4
    have hone : (#[.nilFunc, .nilFunc, .nilFunc, .nilFunc] : Array Value).all (·.oneCell') = true := by simp [Value.oneCell']
    go_wp2_with (with_reducible show wpList _ _ _ (Oper.mk none _ _ _ _ _ :: _) _ _; refine wpList_store_row rfl 75 (.tmp 3) (.tmp 10) rfl w2.heap.size #[.nilFunc, .nilFunc, .nilFunc, .nilFunc] rfl rfl 75 _ hblk hszz rfl hone ?_)
    go_ret
    exact ⟨rfl, hb4⟩
  · have h1k : 1 ≤ f.k := by omega
    have h6k : f.k ≤ 6 := by omega
    have H1 := Lib.hid h1k
    have H6 := Lib.hid h6k
    have hO := own_core h1k h6k
    have htO : (ownG f).tool.length = 32 := by
      have e : (ownG f).core.tool = (onlyF f).tool := congrArg Fr.tool hO
      replace e : (ownG f).tool = (onlyF f).tool := e
      rw [e]; unfold onlyF; dsimp only; split
      · exact hf.tool
      · rfl
    have hif2 : (Try.prog.info? 29).map (·.size) = some (ownG f).cells.length := by rw [frame_size]; have := Fr.arr_size (ownG f) htO; simp [Fr.arr] at this; rw [this]
    obtain ⟨s, hs⟩ : ∃ s, (ownG f).same f = s := ⟨_, rfl⟩
    have hsI : s = true ↔ f.core = onlyF f := by rw [← hs, same_iff, hO]; exact eq_comm
    have HSI := Lib.hid hsI
    have hokO : ∀ W, Below w.heap.size w W → (ownG f).ok W := fun W hbw => by
      refine ⟨htO, ?_⟩
      unfold ownG onlyG
      rcases (by omega : f.k = 1 ∨ f.k = 2 ∨ f.k = 3 ∨ f.k = 4 ∨ f.k = 5 ∨ f.k = 6) with h | h | h | h | h | h <;> simp [h, only1, only2, only3, only4, only6, noF]
      · exact RT.nil W
      · exact hf.args.below hbw
      · exact RT.nil W
      · exact RT.nil W
      · exact RT.nil W
      · exact RT.nil W
    have cS : ∀ W, Below w.heap.size w W → Calls Try.prog 12 #[.agg (ownG f).arr, .agg f.arr] W (fun e w' => e = .returned (.bool s) ∧ Below W.heap.size W w') := fun W hbw => Same_is (ownG f) f s hs W (hokO W hbw) (hf.below hbw)
    have cM : ∀ W, Below w.heap.size w W → Calls Try.prog (mayN f.k) #[.agg f.arr] W (SomeBool (MayK f.k f) (fun w' => Below W.heap.size W w')) := fun W hbw => may_any f.k H1.out H6.out (hf.below hbw) ha
    have cO : ∀ W, Calls Try.prog (onlyN f.k) #[.agg f.arr] W (fun e w' => e = .returned (.agg (onlyG f.k f).arr) ∧ Below W.heap.size W w') := fun W => only_any f.k H1.out H6.out f hf.tool W
    have cB : LayOk f → ∀ W, Below w.heap.size w W → Calls Try.prog 34 #[.agg f.arr] W (Laid W (bodyF f)) := fun hL W hbw => body_any H1.out H6.out (hf.below hbw) hw hL
    have htG : (onlyG f.k f).tool.length = 32 := htO
    have hszG := size_of (onlyG f.k f) htG
    have honeG := arr_one (onlyG f.k f)
    have hasG := Fr.arr_size (onlyG f.k f) htG
    have hen := only_enters f.k h1k h6k
    have hen2 := may_enters f.k h1k h6k
    have HLN := Lib.hid hf.args.len
    have htF := hf.tool
    clear hs hO hokO h1k h6k hsI htO h1 hf hw ha
    show Calls Try.prog _ #[.agg f.arr] w _
    go_enter Try.func24, Try.ntmps24
    go_upto_region 1 with (fail)
    generalize w.alloc (.cells f.arr 29) = w1 at *
    have e0 := load_int hF.c0
    obtain ⟨g, hg⟩ : ∃ g, w.heap.size = g := ⟨_, rfl⟩
    rw [hg] at hF e0 ⊢
    clear hg
    go_wp2_with fail
    refine (of_any f.k H1.out H6.out _).mono ?_
    rintro e w2 ⟨rfl, hb2⟩
    have hbz := below_alloc (Below.refl w2.heap.size w2) (.cells #[.nilFunc, .nilFunc, .nilFunc, .nilFunc] 75)
    have hblk := heap_alloc_new w2 (.cells #[.nilFunc, .nilFunc, .nilFunc, .nilFunc] 75)
    have h4 : (#[.nilFunc, .nilFunc, .nilFunc, .nilFunc] : Array Value).size = (kV f.k).size := rfl
    have hsz := kind_size (k := f.k)
    have hone := kind_one f.k
    obtain ⟨KK, hKK⟩ : ∃ KK, kV f.k = KK := ⟨_, rfl⟩
    have hk2 : KK[2]? = some (.func (.func (onlyN f.k)) #[] #[]) := by rw [← hKK]; rfl
    have hk3 : KK[3]? = some (.func (.func (mayN f.k)) #[] #[]) := by rw [← hKK]; rfl
    rw [hKK] at h4 hsz hone ⊢
    have hb3 := below_step (below_step hb hb2) hbz
    have hF3 := (hF.below hb2).below hbz
    have hb4 := below_setRow hb3 (Nat.le_trans hb.size hb2.size) KK
    have hF4 := hF3.only (Fr.only_row _ w2.heap.size KK) (fun e => by have := hF.lt; have := hb2.size; omega)
    have hK4 := setRow_heap _ w2.heap.size _ KK _ _ hblk
    clear hKK e0
    go_upto_region 4 with (with_reducible show wpList _ _ _ (Oper.mk none _ _ _ _ _ :: _) _ _; refine wpList_store_row rfl 75 (.tmp 3) (.tmp 10) rfl w2.heap.size KK rfl rfl 75 _ hblk hsz h4 hone ?_)
    clear hb hb2 hbz hblk hb3 hF3 hF h4 hsz hone
    generalize (w2.alloc (.cells #[.nilFunc, .nilFunc, .nilFunc, .nilFunc] 75)).setRow w2.heap.size KK = w5 at *
    generalize w2.heap.size = gk at *
    have e1 := load_only (a := ⟨gk, 2, none⟩) (by rw [cell_of_row w5 gk 2 _ _ _ hK4]; exact hk2)
    have e2 := load_frame f hif w5 g hF4
    go_wp2_with fail
    refine (cO _).mono ?_
    rintro e w6 ⟨rfl, hb6⟩
    have hb7 := below_step hb4 hb6
    have hF6 := hF4.below hb6
    have hK6 := (hb6.block _ (lt_of_block hK4)).trans hK4
    have hbZ := below_alloc (Below.refl w6.heap.size w6) (.cells #[.int .i64 0, .int .u64 0, .int .i64 0, .int .i64 0, .int .u8 0, .int .u8 0, .int .u8 0, .int .u8 0, .int .u8 0, .int .u8 0, .int .u8 0, .int .u8 0, .int .u8 0, .int .u8 0, .int .u8 0, .int .u8 0, .int .u8 0, .int .u8 0, .int .u8 0, .int .u8 0, .int .u8 0, .int .u8 0, .int .u8 0, .int .u8 0, .int .u8 0, .int .u8 0, .int .u8 0, .int .u8 0, .int .u8 0, .int .u8 0, .int .u8 0, .int .u8 0, .int .u8 0, .int .u8 0, .int .u8 0, .int .u8 0, .int .i64 0, .int .i64 0, .int .i64 0, .int .i64 0, .slice none 0 0, .string ⟨#[]⟩] 29)
    have hblk := heap_alloc_new w6 (.cells #[.int .i64 0, .int .u64 0, .int .i64 0, .int .i64 0, .int .u8 0, .int .u8 0, .int .u8 0, .int .u8 0, .int .u8 0, .int .u8 0, .int .u8 0, .int .u8 0, .int .u8 0, .int .u8 0, .int .u8 0, .int .u8 0, .int .u8 0, .int .u8 0, .int .u8 0, .int .u8 0, .int .u8 0, .int .u8 0, .int .u8 0, .int .u8 0, .int .u8 0, .int .u8 0, .int .u8 0, .int .u8 0, .int .u8 0, .int .u8 0, .int .u8 0, .int .u8 0, .int .u8 0, .int .u8 0, .int .u8 0, .int .u8 0, .int .i64 0, .int .i64 0, .int .i64 0, .int .i64 0, .slice none 0 0, .string ⟨#[]⟩] 29)
    have hF7 := hF6.below hbZ
    have hK7 := (hbZ.block _ (lt_of_block hK6)).trans hK6
    have hb8 := below_step hb7 hbZ
    have h42 : (#[.int .i64 0, .int .u64 0, .int .i64 0, .int .i64 0, .int .u8 0, .int .u8 0, .int .u8 0, .int .u8 0, .int .u8 0, .int .u8 0, .int .u8 0, .int .u8 0, .int .u8 0, .int .u8 0, .int .u8 0, .int .u8 0, .int .u8 0, .int .u8 0, .int .u8 0, .int .u8 0, .int .u8 0, .int .u8 0, .int .u8 0, .int .u8 0, .int .u8 0, .int .u8 0, .int .u8 0, .int .u8 0, .int .u8 0, .int .u8 0, .int .u8 0, .int .u8 0, .int .u8 0, .int .u8 0, .int .u8 0, .int .u8 0, .int .i64 0, .int .i64 0, .int .i64 0, .int .i64 0, .slice none 0 0, .string ⟨#[]⟩] : Array Value).size = (onlyG f.k f).arr.size := by rw [hasG]; rfl
    have hne : ¬ g = w6.heap.size := fun e => by have := hF6.lt; omega
    have hnk : ¬ gk = w6.heap.size := fun e => by have := lt_of_block hK6; omega
    clear e1 e2 hb4 hF4 hK4 hb6 hF6 hK6 hbZ cO
    go_upto_region 5 with (with_reducible show wpList _ _ _ (Oper.mk none _ _ _ _ _ :: _) _ _; refine wpList_store_row rfl 29 (.tmp 5) (.tmp 17) rfl w6.heap.size (onlyG f.k f).arr rfl rfl 29 _ hblk hszG h42 honeG ?_)
    have hb9 := below_setRow hb8 hb7.size (onlyG f.k f).arr
    have hF9 := hF7.only (Fr.only_row _ w6.heap.size (onlyG f.k f).arr) hne
    have hK9 := (Fr.only_row _ w6.heap.size (onlyG f.k f).arr).kept hK7 hnk
    have hG9 : (onlyG f.k f).at_ 29 _ w6.heap.size := ⟨setRow_heap _ w6.heap.size _ (onlyG f.k f).arr _ _ hblk, htG⟩
    have hg9 := hb7.size
    clear hF7 hK7 hb8 hblk hb7 hszG honeG hasG h42
    generalize (w6.alloc (.cells #[.int .i64 0, .int .u64 0, .int .i64 0, .int .i64 0, .int .u8 0, .int .u8 0, .int .u8 0, .int .u8 0, .int .u8 0, .int .u8 0, .int .u8 0, .int .u8 0, .int .u8 0, .int .u8 0, .int .u8 0, .int .u8 0, .int .u8 0, .int .u8 0, .int .u8 0, .int .u8 0, .int .u8 0, .int .u8 0, .int .u8 0, .int .u8 0, .int .u8 0, .int .u8 0, .int .u8 0, .int .u8 0, .int .u8 0, .int .u8 0, .int .u8 0, .int .u8 0, .int .u8 0, .int .u8 0, .int .u8 0, .int .u8 0, .int .i64 0, .int .i64 0, .int .i64 0, .int .i64 0, .slice none 0 0, .string ⟨#[]⟩] 29)).setRow w6.heap.size (onlyG f.k f).arr = w9 at *
    generalize w6.heap.size = g5 at *
    have e0 := load_int hF9.c0
    have r0 := hG9.c0
    have f0 := hG9.fz 0
    have hoz := Fr.only_at w9 g5 0 (.int .i64 f.k)
    have hFa := hF9.only hoz hne
    have hKa := hoz.kept hK9 hnk
    have hGa : (ownG f).at_ 29 _ g5 := hG9.set0 f.k
    have hba := Below.only hb9 hoz hb9.size (fun k e => by rw [e]; exact hg9)
    clear hb9 hF9 hK9 hG9 hoz
    go_upto_region 6 with (fail)
    generalize w9.setCell ⟨g5, 0, none⟩ (.int .i64 f.k) = wa at *
    clear e0 r0 f0 hne hnk hg9
    have e1 := load_frame (ownG f) hif2 wa g5 hGa
    have e2 := load_frame f hif wa g hFa
    go_wp2_with fail
    refine (cS wa hba).mono ?_
    rintro e wb ⟨rfl, hbb⟩
    have hbc := below_step hba hbb
    have hFb := hFa.below hbb
    have hKb := (hbb.block _ (lt_of_block hKa)).trans hKa
    clear e1 e2 hGa hbb hFa hKa hba cS
    cases s with
    | false =>
      have HX : Hid (chkF f = 70) := Lib.hid (chk_no (f := f) (fun h => by have := HSI.out.2 h.only; cases this))
      clear cM cB
      go_wp2_with fail
      go_ret
      exact ⟨by rw [HX.out]; rfl, hbc⟩
    | true =>
      have hco := HSI.out.1 rfl
      have HMK := Lib.hid (may_iffK H1.out H6.out hco HLN.out)
      clear hco
      have e1 := load_may (a := ⟨gk, 3, none⟩) (by rw [cell_of_row wb gk 3 _ _ _ hKb]; exact hk3)
      have e2 := load_frame f hif wb g hFb
      go_wp2_with fail
      refine (cM wb hbc).mono ?_
      rintro e wc ⟨t, rfl, HB, hbd⟩
      have hbe := below_step hbc hbd
      have hFc := hFb.below hbd
      clear e1 e2 hbc hFb hKb hbd cM
      cases t with
      | false =>
        have HX : Hid (chkF f = 70) := Lib.hid (chk_no (f := f) (fun h => by have := HB.out.2 (HMK.out.1 h); cases this))
        clear cB
        go_wp2_with fail
        go_ret
        exact ⟨by rw [HX.out]; rfl, hbe⟩
      | true =>
        have HM : Hid (May f) := Lib.hid (HMK.out.2 (HB.out.1 rfl))
        have e1 := load_str hFc.c41
        by_cases hs : 2097152 < f.body.size
        · have HX : Hid (chkF f = 3) := Lib.hid (chk_long HM.out (.inl hs))
          have hs2 : (2097152 : Int) < (f.body.size : Int) := by omega
          clear hs cB
          go_wp2_with fail
          go_ret
          exact ⟨by rw [HX.out]; rfl, hbe⟩
        · have hs2 : ¬ (2097152 : Int) < (f.body.size : Int) := by omega
          have HS := Lib.hid hs
          have e2 := load_frame f hif wc g hFc
          clear hs
          go_wp2_with fail
          refine (cB (may_lay HM.out HLN.out (by have := HS.out; omega)) wc hbe).mono ?_
          rintro e wd ⟨v, rfl, hOd, hbf⟩
          have hbg := below_step hbe hbf
          obtain ⟨Ad, cd, rfl, hRd⟩ := hOd.reads
          obtain ⟨nd, hnd⟩ : ∃ nd, (bodyF f).length = nd := ⟨_, rfl⟩
          rw [hnd] at hOd hRd ⊢
          by_cases hl : 2097152 < nd
          · have HX : Hid (chkF f = 3) := Lib.hid (chk_long HM.out (.inr (by rw [hnd]; exact hl)))
            have hl2 : (2097152 : Int) < (nd : Int) := by omega
            clear hl hnd
            go_wp2_with fail
            go_ret
            exact ⟨by rw [HX.out]; rfl, hbg⟩
          · have HX : Hid (chkF f = 0) := Lib.hid (chk_ok HM.out (by rw [hnd]; have := HS.out; omega))
            have hl2 : ¬ (2097152 : Int) < (nd : Int) := by omega
            clear hl hnd
            go_wp2_with fail
            go_ret
            exact ⟨by rw [HX.out]; rfl, hbg⟩
theorem chk_facts {f : Fr} (h : chkF f = 0) : May f ∧ f.body.size ≤ 2097152 ∧ (bodyF f).length ≤ 2097152 := by
  unfold chkF MF at h
  split at h
  · next hm =>
    split at h
    · omega
    · exact ⟨(may_iff f).1 hm, by omega, by omega⟩
  · omega
/-- A frame's bytes. -/
def encF (f : Fr) : List Int := if chkF f ≠ 0 then [] else sealed (sh (bodyF f).length ++ bodyF f)
set_option maxHeartbeats 8000000 in
set_option maxRecDepth 100000 in
theorem Encode_any (hf : f.ok w) (hw : f.wf) (ha : ∀ s ∈ f.args, s.size ≤ 9223372036854775807) : Calls Try.prog 20 #[f.val] w fun e w' => ∃ v, e = .returned (.tuple #[v, .int .i64 (chkF f)]) ∧ OB 5 w' w.heap.size v (encF f) ∧ Below w.heap.size w w' := by
  have hb := below_alloc (Below.refl _ w) (.cells f.arr 29)
  have hF := boxed hf.tool w
  have hif : (Try.prog.info? 29).map (·.size) = some f.cells.length := by rw [frame_size]; have := Fr.arr_size f hf.tool; simp [Fr.arr] at this; rw [this]
  have cC : ∀ W, Below w.heap.size w W → Calls Try.prog 24 #[.agg f.arr] W (fun e w' => e = .returned (.int .i64 (chkF f)) ∧ Below W.heap.size W w') := fun W hbw => Check_any (hf.below hbw) hw ha
  have cB : chkF f = 0 → ∀ W, Below w.heap.size w W → Calls Try.prog 34 #[.agg f.arr] W (Laid W (bodyF f)) := fun hc W hbw => by
    obtain ⟨hm, h2, _⟩ := chk_facts hc
    exact body_any hm.k1 hm.k6 (hf.below hbw) hw (may_lay hm hf.args.len h2)
  obtain ⟨c, hc⟩ : ∃ c, chkF f = c := ⟨_, rfl⟩
  have HE : Hid (encF f = if c ≠ 0 then [] else sealed (sh (bodyF f).length ++ bodyF f)) := Lib.hid (by unfold encF; rw [hc])
  have HC := Lib.hid hc
  rw [hc] at cC ⊢
  clear hc hf hw ha
  show Calls Try.prog _ #[.agg f.arr] w _
  go_enter Try.func20, Try.ntmps20
  go_upto_region 1 with (fail)
  generalize w.alloc (.cells f.arr 29) = w1 at *
  obtain ⟨g, hg⟩ : ∃ g, w.heap.size = g := ⟨_, rfl⟩
  rw [hg] at hF ⊢
  clear hg
  have e2 := load_frame f hif w1 g hF
  go_wp2_with fail
  refine (cC w1 hb).mono ?_
  rintro e w2 ⟨rfl, hb2⟩
  have hb3 := below_step hb hb2
  have hF2 := hF.below hb2
  clear e2 hb hb2 hF cC
  by_cases h0 : c = 0
  · subst h0
    have e2 := load_frame f hif w2 g hF2
    have HL := Lib.hid (chk_facts HC.out).2.2
    go_wp2_with fail
    refine (cB HC.out w2 hb3).mono ?_
    rintro e w3 ⟨v3, rfl, hO3, hb4⟩
    have hb5 := below_step hb3 hb4
    obtain ⟨A3, c3, rfl, hR3, _⟩ := hO3.reads'
    obtain ⟨m, hm⟩ : ∃ m, (bodyF f).length = m := ⟨_, rfl⟩
    have hml : m ≤ 2097152 := by rw [← hm]; exact HL.out
    have hwm := u64_nn (x := (m : Int)) (by omega) (by omega)
    rw [hm] at hO3 hR3 HE ⊢
    have HM := Lib.hid hm
    clear e2 hb3 hb4 hF2 cB hm
    go_wp2_with fail
    refine (PutUint_any (A := none) (n := 0) (cap := 0) (xs := []) (w := w3) (m : Int) (RB.nil _) (by omega) (by omega) (by omega)).mono ?_
    rintro e w4 ⟨v4, rfl, hO4, hb6⟩
    have hb7 := below_step hb5 hb6
    have hR4 := hR3.below hb6
    have hO5 := hO4.less hb5.size
    rw [List.nil_append, Int.toNat_natCast] at hO5
    have hls := sh_ten (n := m) (by omega)
    have HLS := Lib.hid hls
    clear hO4 hO3 hR3 hb5 hb6 hls
    go_wp2_with (at_builtin; refine push_row (w0 := w) w.heap.size rfl (.tmp 16) (.tmp 17) 38 (bodyF f) A3 m c3 rfl Try.underlying38 u8_info rfl rfl hO5 hR4 hb7 hb7.size (by have := HLS.out; omega) ?_)
    intro v6 w6 hO6 hb8 _ _
    obtain ⟨A6, c6, rfl, hR6, _⟩ := hO6.reads'
    obtain ⟨m6, hm6⟩ : ∃ q, (sh m ++ bodyF f).length = q := ⟨_, rfl⟩
    rw [hm6] at hO6 hR6 ⊢
    have hm6l : m6 ≤ 2097162 := by rw [← hm6, List.length_append, HM.out]; have := HLS.out; omega
    clear hm6 hR4 hO5 hb7
    go_wp2_with fail
    refine (Seal_any A6 m6 c6 (sh m ++ bodyF f) w6 hR6 (by omega)).mono ?_
    rintro e w7 ⟨v7, rfl, hO7, hb9⟩
    have hb10 := below_step hb8 hb9
    have hO8 : OB 5 w7 w.heap.size v7 (encF f) := by
      rw [HE.out, if_neg (by decide)]
      exact hO7.less hb8.size
    go_wp2_with fail
    go_ret2
    exact ⟨_, rfl, hO8, hb10⟩
  · have h0b : (c != 0) = true := by simpa using h0
    have hO8 : OB 5 w2 w.heap.size (.slice none 0 0) (encF f) := by
      rw [HE.out, if_pos h0]
      exact OB.nil _ _ _
    clear h0
    go_wp2_with fail
    go_ret2
    exact ⟨_, rfl, hO8, hb3⟩
set_option maxHeartbeats 8000000 in
set_option maxRecDepth 100000 in
theorem fSize_any (hf : f.ok w) (hw : f.wf) (ha : ∀ s ∈ f.args, s.size ≤ 9223372036854775807) : Calls Try.prog 22 #[f.val] w fun e w' => e = .returned (.tuple #[.int .i64 ((encF f).length : Int), .int .i64 (chkF f)]) ∧ Below w.heap.size w w' := by
  have hb := below_alloc (Below.refl _ w) (.cells f.arr 29)
  have hF := boxed hf.tool w
  have hif : (Try.prog.info? 29).map (·.size) = some f.cells.length := by rw [frame_size]; have := Fr.arr_size f hf.tool; simp [Fr.arr] at this; rw [this]
  have cC : ∀ W, Below w.heap.size w W → Calls Try.prog 20 #[.agg f.arr] W _ := fun W hbw => Encode_any (hf.below hbw) hw ha
  obtain ⟨c, hc⟩ : ∃ c, chkF f = c := ⟨_, rfl⟩
  obtain ⟨L, hL⟩ : ∃ L, encF f = L := ⟨_, rfl⟩
  rw [hc, hL] at cC ⊢
  clear hc hL hf hw ha
  show Calls Try.prog _ #[.agg f.arr] w _
  go_enter Try.func22, Try.ntmps22
  go_upto_region 1 with (fail)
  generalize w.alloc (.cells f.arr 29) = w1 at *
  obtain ⟨g, hg⟩ : ∃ g, w.heap.size = g := ⟨_, rfl⟩
  rw [hg] at hF ⊢
  clear hg
  have e2 := load_frame f hif w1 g hF
  go_wp2_with fail
  refine (cC w1 hb).mono ?_
  rintro e w2 ⟨v, rfl, hO, hb2⟩
  have hb3 := below_step hb hb2
  obtain ⟨A3, c3, rfl, hR3, _⟩ := hO.reads'
  clear e2 hb hb2 hF cC hO
  go_wp2_with fail
  go_ret2
  exact ⟨rfl, hb3⟩
end
end Go.Proofs.Ytelfephmjkipoaa
end
/-! The contract of the document's only. (mk_frza.py) -/
section
namespace Go.Kit
open Go.RowKit Go.Proofs.YtelfephmjkipoaaW.PrintWords
namespace Fr
theorem lim_splice (T : List Value) (hT : T.length = 32) (a b c d e x y z u v w : Value) (R : List Value) : ([a, b, c, d] ++ (T ++ ([e] ++ ([x, y, z] ++ R)))).take 37 ++ [u, v, w] ++ ([a, b, c, d] ++ (T ++ ([e] ++ ([x, y, z] ++ R)))).drop (37 + 3) = [a, b, c, d] ++ (T ++ ([e] ++ ([u, v, w] ++ R))) := by
  have h0 : ∀ l : List Value, [a, b, c, d] ++ (T ++ ([e] ++ l)) = ([a, b, c, d] ++ (T ++ [e])) ++ l := fun l => by simp
  have h1 : ([a, b, c, d] ++ (T ++ [e])).length = 37 := by simp; omega
  rw [h0, h0, List.take_append_of_le_length (by omega), List.take_of_length_le (by omega)]
  rw [show (37 + 3 : Nat) = ([a, b, c, d] ++ (T ++ [e])).length + 3 by rw [h1]]
  rw [List.drop_append]
  simp [h1]
end Fr
end Go.Kit
namespace Go.Proofs.Ytelfephmjkipoaa
open Go.RowKit Go.Kit Go.Proofs.YtelfephmjkipoaaW.PrintWords
theorem storeAt_part {P : Program} (W : World) (g o : Nat) (ty t : TypeId) (cells cur : Array Value) (hg : W.heap[g]? = some (.cells cur t (0, 0))) (hfit : o + cells.size ≤ cur.size) (hi : (P.info? ty).map (·.size) = some cells.size) (h1 : cells.all (·.oneCell') = true) :
    (Instr.storeAt ty (.pointer (some ⟨g, o, none⟩)) (.agg cells)).run P W = .ok () (W.setRow g (cur.toList.take o ++ cells.toList ++ cur.toList.drop (o + cells.size)).toArray) := by
  have hst := run_storeCells_at (P := P) g o t cells.toList 0 cur W hg (by simpa using hfit) (fun v hv => (Array.all_eq_true_iff_forall_mem.1 h1) v (by simpa using hv))
  simp only [Instr.storeAt, Instr.sureAddr, Sem.run_bind, Sem.run_pure, Result.andThen_ok]
  cases hq : P.info? ty with
  | none => simp [hq] at hi
  | some i =>
    have hs : cells.size = i.size := by simp [hq] at hi; omega
    simp only [Nat.add_zero] at hst
    simp [storeVar, sizeOf, typeInfo, hq, Value.cells, hs, hst]
theorem store_int (x : Int) (W : World) (a : Addr) (u : Value) (hc : W.cell? a = some u) (hf : W.frozen? a = false) : (Instr.storeAt 3 (.pointer (some a)) (.int .i64 x)).run Try.prog W = .ok () (W.setCell a (.int .i64 x)) := by go_simp
theorem store_u64 (x : Int) (W : World) (a : Addr) (u : Value) (hc : W.cell? a = some u) (hf : W.frozen? a = false) : (Instr.storeAt 22 (.pointer (some a)) (.int .u64 x)).run Try.prog W = .ok () (W.setCell a (.int .u64 x)) := by go_simp
theorem store_txts (A : Option Addr) (n c : Nat) (W : World) (a : Addr) (u : Value) (hc : W.cell? a = some u) (hf : W.frozen? a = false) : (Instr.storeAt 27 (.pointer (some a)) (.slice A n c)).run Try.prog W = .ok () (W.setCell a (.slice A n c)) := by go_simp
theorem store_str (s : ByteArray) (W : World) (a : Addr) (u : Value) (hc : W.cell? a = some u) (hf : W.frozen? a = false) : (Instr.storeAt 9 (.pointer (some a)) (.string s)).run Try.prog W = .ok () (W.setCell a (.string s)) := by go_simp
theorem store_tool {W : World} {g : Nat} {f : Fr} (h : f.at_ 29 W g) (ts : List Int) (hl : ts.length = 32) : ∃ W' : World, (Instr.storeAt 24 (.pointer (some ⟨g, 4, none⟩)) (.agg (nums .u8 ts).toArray)).run Try.prog W = .ok () W' ∧ ({ f with tool := ts } : Fr).at_ 29 W' g ∧ Only W W' (fun k => k = g) := by
  have h2 : (nums .u8 ts).toArray.size = 32 := by simp [nums, hl]
  refine ⟨_, storeAt_part W g 4 24 29 _ f.arr h.blk (by rw [h2, Fr.arr_size f h.tool]; omega) ?_ ?_, ?_, Fr.only_row _ _ _⟩
  · rw [h2]; kernel_rfl
  · exact all_oneCell_toArray (nums_one _ _)
  · have := h.tooled ts hl
    simpa [List.append_assoc] using this
theorem store_lim {W : World} {g : Nat} {f : Fr} (h : f.at_ 29 W g) (k : Fr) : ∃ W' : World, (Instr.storeAt 26 (.pointer (some ⟨g, 37, none⟩)) (.agg k.lim.toArray)).run Try.prog W = .ok () W' ∧ ({ f with mo := k.mo, fu := k.fu, di := k.di } : Fr).at_ 29 W' g ∧ Only W W' (fun k => k = g) := by
  refine ⟨_, storeAt_part W g 37 26 29 _ f.arr h.blk (by rw [Fr.arr_size f h.tool]; show 37 + 3 ≤ 42; omega) (by show _ = some 3; kernel_rfl) (by simp [Fr.lim, Value.oneCell']), ?_, Fr.only_row _ _ _⟩
  refine ⟨?_, h.tool⟩
  rw [setRow_heap W g _ _ _ _ h.blk]
  exact congrArg (fun l : List Value => some (Obj.cells l.toArray 29 (0, 0))) (Fr.lim_splice (nums .u8 f.tool) (Fr.len32 h) _ _ _ _ _ _ _ _ _ _ _ _)
theorem kF_built (k : Int) (W : World) : (Instr.build 29 #[(0, .int .i64 k)]).run Try.prog W = .ok (.agg (kF k).arr) W := built_of (by show _ = _; kernel_rfl)
theorem load_u64 {W : World} {a : Addr} {v : Value} (h : W.cell? a = some v) : (Instr.loadAt 22 (.pointer (some a))).run Try.prog W = .ok v W := by go_simp
theorem load_txts {W : World} {a : Addr} {v : Value} (h : W.cell? a = some v) : (Instr.loadAt 27 (.pointer (some a))).run Try.prog W = .ok v W := by go_simp
theorem own_tool {f : Fr} (hf : f.tool.length = 32) : (ownG f).tool.length = 32 := by
  unfold ownG onlyG
  dsimp only
  split
  · exact hf
  split
  · rfl
  split
  · rfl
  split
  · rfl
  split <;> rfl
theorem own_is1 {f : Fr} (h : f.k = 1) : ({ kF f.k with v := f.v, s := f.s, tool := f.tool } : Fr) = ownG f := by unfold ownG onlyG; simp [h, only1, kF]
theorem own_is2 {f : Fr} (h : f.k = 2) : ({ kF f.k with id := f.id, mo := f.mo, fu := f.fu, di := f.di, A := f.A, n := f.n, c := f.c, args := f.args, body := f.body } : Fr) = ownG f := by unfold ownG onlyG; simp [h, only2, kF]
theorem own_is3 {f : Fr} (h : f.k = 3) : ({ kF f.k with id := f.id, st := f.st, body := f.body } : Fr) = ownG f := by unfold ownG onlyG; simp [h, only3, kF]
theorem own_is4 {f : Fr} (h : f.k = 4) : ({ kF f.k with id := f.id } : Fr) = ownG f := by unfold ownG onlyG; simp [h, only4, kF]
theorem own_is6 {f : Fr} (h : f.k = 6) : ({ kF f.k with body := f.body } : Fr) = ownG f := by unfold ownG onlyG; simp [h, only6, kF]
theorem own_is5 {f : Fr} (h : f.k ≠ 1 ∧ f.k ≠ 2 ∧ f.k ≠ 3 ∧ f.k ≠ 4 ∧ f.k ≠ 6) (h5 : f.k = 5) : kF f.k = ownG f := by unfold ownG onlyG; simp [h5, kF, noF]
/-- The document's frame that is being filled in, beside the one that is read. -/
structure Two (w W : World) (g g2 g3 : Nat) (f h : Fr) : Prop where
  bel : Below w.heap.size w W
  f : f.at_ 29 W g
  h : h.at_ 29 W g3
  z : ∃ Z : Array Value, Z.size = 42 ∧ W.heap[g2]? = some (.cells Z 29 (0, 0))
  n1 : ¬ g = g3
  n2 : ¬ g2 = g3
  base : w.heap.size ≤ g3
theorem Two.drew {w W : World} {g g2 g3 : Nat} {f h : Fr} (t : Two w W g g2 g3 f h) : Two w W.drew g g2 g3 f h := by
  have hb : Below W.heap.size W W.drew := below_drew (Below.refl _ _)
  obtain ⟨Z, hz, hk⟩ := t.z
  exact ⟨below_step t.bel hb, t.f.below hb, t.h.below hb, ⟨Z, hz, (hb.block _ (lt_of_block hk)).trans hk⟩, t.n1, t.n2, t.base⟩
theorem Two.step {w W W1 : World} {g g2 g3 : Nat} {f h h1 : Fr} (t : Two w W g g2 g3 f h) (ho : Only W W1 (fun k => k = g3)) (hh : h1.at_ 29 W1 g3) : Two w W1 g g2 g3 f h1 := by
  obtain ⟨Z, hz, hk⟩ := t.z
  exact ⟨Below.only t.bel ho t.bel.size (fun k e => by rw [e]; exact t.base), t.f.only ho t.n1, hh, ⟨Z, hz, ho.kept hk t.n2⟩, t.n1, t.n2, t.base⟩
attribute [-go_sem] Instr.build Instr.loadAt Instr.storeAt
set_option maxHeartbeats 8000000 in
set_option maxRecDepth 100000 in
theorem ronly_any (f : Fr) (hf : f.tool.length = 32) (hk5 : f.k ≠ 1 → f.k ≠ 2 → f.k ≠ 3 → f.k ≠ 4 → f.k ≠ 6 → f.k = 5) (w : World) : Calls Try.prog 51 #[f.val] w fun e w' => e = .returned (.agg (ownG f).arr) ∧ Below w.heap.size w w' := by
  have hszK := size_of (kF f.k) rfl
  have honeK := arr_one (kF f.k)
  have hasK := Fr.arr_size (kF f.k) rfl
  have hbl := kF_built f.k
  have hb := below_alloc (Below.refl w.heap.size w) (.cells f.arr 29)
  have hF := boxed hf w
  show Calls Try.prog _ #[.agg f.arr] w _
  go_enter Try.func51, Try.ntmps51
  go_upto_region 1 with (fail)
  have hbz := below_alloc hb (.cells #[.int .i64 0, .int .u64 0, .int .i64 0, .int .i64 0, .int .u8 0, .int .u8 0, .int .u8 0, .int .u8 0, .int .u8 0, .int .u8 0, .int .u8 0, .int .u8 0, .int .u8 0, .int .u8 0, .int .u8 0, .int .u8 0, .int .u8 0, .int .u8 0, .int .u8 0, .int .u8 0, .int .u8 0, .int .u8 0, .int .u8 0, .int .u8 0, .int .u8 0, .int .u8 0, .int .u8 0, .int .u8 0, .int .u8 0, .int .u8 0, .int .u8 0, .int .u8 0, .int .u8 0, .int .u8 0, .int .u8 0, .int .u8 0, .int .i64 0, .int .i64 0, .int .i64 0, .int .i64 0, .slice none 0 0, .string ⟨#[]⟩] 29)
  have hblz : ((w.alloc (.cells f.arr 29)).alloc (.cells #[.int .i64 0, .int .u64 0, .int .i64 0, .int .i64 0, .int .u8 0, .int .u8 0, .int .u8 0, .int .u8 0, .int .u8 0, .int .u8 0, .int .u8 0, .int .u8 0, .int .u8 0, .int .u8 0, .int .u8 0, .int .u8 0, .int .u8 0, .int .u8 0, .int .u8 0, .int .u8 0, .int .u8 0, .int .u8 0, .int .u8 0, .int .u8 0, .int .u8 0, .int .u8 0, .int .u8 0, .int .u8 0, .int .u8 0, .int .u8 0, .int .u8 0, .int .u8 0, .int .u8 0, .int .u8 0, .int .u8 0, .int .u8 0, .int .i64 0, .int .i64 0, .int .i64 0, .int .i64 0, .slice none 0 0, .string ⟨#[]⟩] 29)).heap[w.heap.size + 1]? = some (.cells #[.int .i64 0, .int .u64 0, .int .i64 0, .int .i64 0, .int .u8 0, .int .u8 0, .int .u8 0, .int .u8 0, .int .u8 0, .int .u8 0, .int .u8 0, .int .u8 0, .int .u8 0, .int .u8 0, .int .u8 0, .int .u8 0, .int .u8 0, .int .u8 0, .int .u8 0, .int .u8 0, .int .u8 0, .int .u8 0, .int .u8 0, .int .u8 0, .int .u8 0, .int .u8 0, .int .u8 0, .int .u8 0, .int .u8 0, .int .u8 0, .int .u8 0, .int .u8 0, .int .u8 0, .int .u8 0, .int .u8 0, .int .u8 0, .int .i64 0, .int .i64 0, .int .i64 0, .int .i64 0, .slice none 0 0, .string ⟨#[]⟩] 29 (0, 0)) := heap_alloc2_new w _ _
  have hF2 := hF.below (below_alloc (Below.refl _ _) (.cells #[.int .i64 0, .int .u64 0, .int .i64 0, .int .i64 0, .int .u8 0, .int .u8 0, .int .u8 0, .int .u8 0, .int .u8 0, .int .u8 0, .int .u8 0, .int .u8 0, .int .u8 0, .int .u8 0, .int .u8 0, .int .u8 0, .int .u8 0, .int .u8 0, .int .u8 0, .int .u8 0, .int .u8 0, .int .u8 0, .int .u8 0, .int .u8 0, .int .u8 0, .int .u8 0, .int .u8 0, .int .u8 0, .int .u8 0, .int .u8 0, .int .u8 0, .int .u8 0, .int .u8 0, .int .u8 0, .int .u8 0, .int .u8 0, .int .i64 0, .int .i64 0, .int .i64 0, .int .i64 0, .slice none 0 0, .string ⟨#[]⟩] 29))
  clear hb hF
  generalize (w.alloc (.cells f.arr 29)).alloc (.cells #[.int .i64 0, .int .u64 0, .int .i64 0, .int .i64 0, .int .u8 0, .int .u8 0, .int .u8 0, .int .u8 0, .int .u8 0, .int .u8 0, .int .u8 0, .int .u8 0, .int .u8 0, .int .u8 0, .int .u8 0, .int .u8 0, .int .u8 0, .int .u8 0, .int .u8 0, .int .u8 0, .int .u8 0, .int .u8 0, .int .u8 0, .int .u8 0, .int .u8 0, .int .u8 0, .int .u8 0, .int .u8 0, .int .u8 0, .int .u8 0, .int .u8 0, .int .u8 0, .int .u8 0, .int .u8 0, .int .u8 0, .int .u8 0, .int .i64 0, .int .i64 0, .int .i64 0, .int .i64 0, .slice none 0 0, .string ⟨#[]⟩] 29) = w1 at *
  obtain ⟨g2, hg2⟩ : ∃ g2, w.heap.size + 1 = g2 := ⟨_, rfl⟩
  have hg2b : w.heap.size ≤ g2 := by omega
  obtain ⟨g, hg⟩ : ∃ g, w.heap.size = g := ⟨_, rfl⟩
  rw [hg2] at hblz ⊢
  rw [hg] at hF2 ⊢
  clear hg hg2
  have hbz3 := below_alloc (Below.refl w1.heap.size w1) (.cells #[.int .i64 0, .int .u64 0, .int .i64 0, .int .i64 0, .int .u8 0, .int .u8 0, .int .u8 0, .int .u8 0, .int .u8 0, .int .u8 0, .int .u8 0, .int .u8 0, .int .u8 0, .int .u8 0, .int .u8 0, .int .u8 0, .int .u8 0, .int .u8 0, .int .u8 0, .int .u8 0, .int .u8 0, .int .u8 0, .int .u8 0, .int .u8 0, .int .u8 0, .int .u8 0, .int .u8 0, .int .u8 0, .int .u8 0, .int .u8 0, .int .u8 0, .int .u8 0, .int .u8 0, .int .u8 0, .int .u8 0, .int .u8 0, .int .i64 0, .int .i64 0, .int .i64 0, .int .i64 0, .slice none 0 0, .string ⟨#[]⟩] 29)
  have hblk := heap_alloc_new w1 (.cells #[.int .i64 0, .int .u64 0, .int .i64 0, .int .i64 0, .int .u8 0, .int .u8 0, .int .u8 0, .int .u8 0, .int .u8 0, .int .u8 0, .int .u8 0, .int .u8 0, .int .u8 0, .int .u8 0, .int .u8 0, .int .u8 0, .int .u8 0, .int .u8 0, .int .u8 0, .int .u8 0, .int .u8 0, .int .u8 0, .int .u8 0, .int .u8 0, .int .u8 0, .int .u8 0, .int .u8 0, .int .u8 0, .int .u8 0, .int .u8 0, .int .u8 0, .int .u8 0, .int .u8 0, .int .u8 0, .int .u8 0, .int .u8 0, .int .i64 0, .int .i64 0, .int .i64 0, .int .i64 0, .slice none 0 0, .string ⟨#[]⟩] 29)
  have h42 : (#[.int .i64 0, .int .u64 0, .int .i64 0, .int .i64 0, .int .u8 0, .int .u8 0, .int .u8 0, .int .u8 0, .int .u8 0, .int .u8 0, .int .u8 0, .int .u8 0, .int .u8 0, .int .u8 0, .int .u8 0, .int .u8 0, .int .u8 0, .int .u8 0, .int .u8 0, .int .u8 0, .int .u8 0, .int .u8 0, .int .u8 0, .int .u8 0, .int .u8 0, .int .u8 0, .int .u8 0, .int .u8 0, .int .u8 0, .int .u8 0, .int .u8 0, .int .u8 0, .int .u8 0, .int .u8 0, .int .u8 0, .int .u8 0, .int .i64 0, .int .i64 0, .int .i64 0, .int .i64 0, .slice none 0 0, .string ⟨#[]⟩] : Array Value).size = (kF f.k).arr.size := by rw [hasK]; rfl
  have e0 := load_int hF2.c0
  go_upto_region 2 with ((with_reducible show wpList _ _ _ (Oper.mk none _ _ _ _ _ :: _) _ _); refine wpList_store_row rfl 29 (.tmp 3) (.tmp 6) rfl w1.heap.size (kF f.k).arr rfl rfl 29 _ hblk hszK h42 honeK ?_)
  have hge := hbz.size
  have hF3 := (hF2.below hbz3).only (Fr.only_row _ w1.heap.size (kF f.k).arr) (fun e => by have := hF2.lt; omega)
  have hZ3 := (Fr.only_row _ w1.heap.size (kF f.k).arr).kept ((hbz3.block _ (lt_of_block hblz)).trans hblz) (fun e => by have := lt_of_block hblz; omega)
  have hK3 : (kF f.k).at_ 29 _ w1.heap.size := ⟨setRow_heap _ w1.heap.size _ (kF f.k).arr _ _ hblk, rfl⟩
  have hb3 := below_setRow (below_step hbz hbz3) hge (kF f.k).arr
  have hn1 : ¬ g = w1.heap.size := fun e => by have := hF2.lt; omega
  have hn2 : ¬ g2 = w1.heap.size := fun e => by have := lt_of_block hblz; omega
  clear hbz hbz3 hblk h42 e0 hF2 hblz hszK honeK hasK hbl
  generalize (w1.alloc (.cells #[.int .i64 0, .int .u64 0, .int .i64 0, .int .i64 0, .int .u8 0, .int .u8 0, .int .u8 0, .int .u8 0, .int .u8 0, .int .u8 0, .int .u8 0, .int .u8 0, .int .u8 0, .int .u8 0, .int .u8 0, .int .u8 0, .int .u8 0, .int .u8 0, .int .u8 0, .int .u8 0, .int .u8 0, .int .u8 0, .int .u8 0, .int .u8 0, .int .u8 0, .int .u8 0, .int .u8 0, .int .u8 0, .int .u8 0, .int .u8 0, .int .u8 0, .int .u8 0, .int .u8 0, .int .u8 0, .int .u8 0, .int .u8 0, .int .i64 0, .int .i64 0, .int .i64 0, .int .i64 0, .slice none 0 0, .string ⟨#[]⟩] 29)).setRow w1.heap.size (kF f.k).arr = w3 at *
  generalize w1.heap.size = g3 at *
  have T : Two w w3 g g2 g3 f (kF f.k) := ⟨hb3, hF3, hK3, ⟨_, rfl, hZ3⟩, hn1, hn2, hge⟩
  clear hb3 hF3 hK3 hZ3 hn1 hn2 hge
  have e0 := load_int T.f.c0
  have hif : (Try.prog.info? 29).map (·.size) = some (ownG f).cells.length := by
    rw [frame_size]
    have hO : (ownG f).tool.length = 32 := own_tool hf
    have := Fr.arr_size (ownG f) hO; simp [Fr.arr] at this; rw [this]
  have hszO := size_of (ownG f) (own_tool hf)
  have honeO := arr_one (ownG f)
  have hasO := Fr.arr_size (ownG f) (own_tool hf)
  by_cases k1 : f.k = 1
  · have b1 : (f.k == 1) = true := by rw [beq_iff_eq]; exact k1
    have S0 := T.drew.f
    have l1 : ∀ W, f.at_ 29 W g → (Instr.loadAt 3 (.pointer (some ⟨g, 2, none⟩))).run Try.prog W = .ok (.int .i64 f.v) W := fun W h => load_int h.c2
    have l2 : ∀ W, f.at_ 29 W g → (Instr.loadAt 3 (.pointer (some ⟨g, 3, none⟩))).run Try.prog W = .ok (.int .i64 f.s) W := fun W h => load_int h.c3
    have l3 : ∀ W, f.at_ 29 W g → (Instr.loadAt 24 (.pointer (some ⟨g, 4, none⟩))).run Try.prog W = .ok (.agg (nums .u8 f.tool).toArray) W := fun W h => tool_at h
    have s1 := store_int f.v
    have q1 := T.h.c2
    have f1 := T.h.fz 2
    have T1 := T.step (Fr.only_at _ g3 2 (.int .i64 f.v)) (T.h.set2 f.v)
    have ST1 := T1.drew.f
    have ST1x := T1.f
    have s2 := store_int f.s
    have q2 := T1.h.c3
    have f2 := T1.h.fz 3
    have T2 := T1.step (Fr.only_at _ g3 3 (.int .i64 f.s)) (T1.h.set3 f.s)
    have ST2 := T2.drew.f
    have ST2x := T2.f
    have T3d := T2.drew
    have ST3d := T3d.f
    obtain ⟨W3, hst3, hA3, ho3⟩ := store_tool T3d.h f.tool hf
    have T3 := T3d.step ho3 hA3
    have ST3 := T3.drew.f
    have ST3x := T3.f
    have HE : Hid (_ = ownG f) := Lib.hid (own_is1 k1)
    have hl := load_frame (ownG f) hif _ g3 (HE.out ▸ T3.h)
    obtain ⟨Z, hZ, hblk⟩ := T3.z
    have hbel := T3.bel
    have hZs : Z.size = (ownG f).arr.size := by rw [hZ, hasO]
    clear hif HE hf T
    go_upto_region 4 with (fail)
    refine wp_region_held_drew (S := fun W => f.at_ 29 W g) (by kernel_rfl) (S0) (fun hHeld => ?_)
    refine wpAnyH_take (i := 0) (v := (.pointer (some ⟨g, 2, none⟩))) (oi := ⟨_, _, _, _, _, _⟩) rfl (by kernel_rfl) (by kernel_rfl) (by kernel_rfl) (fun _ _ _ h => h) (Or.inl ⟨by kernel_rfl, fun W hS => ?_⟩) (by assumption) ?_
    · dsimp only at hS; go_split_ands; go_simp
    simp only [Act.put, List.setIfInBounds_toArray, List.set_cons_zero, List.set_cons_succ]
    refine wpAnyH_take (i := 1) (v := (.int .i64 f.v)) (oi := ⟨_, _, _, _, _, _⟩) rfl (by kernel_rfl) (by kernel_rfl) (by kernel_rfl) (fun _ _ _ h => h) (Or.inl ⟨by kernel_rfl, fun W hS => ?_⟩) (by assumption) ?_
    · dsimp only at hS; go_split_ands; go_simp
    simp only [Act.put, List.setIfInBounds_toArray, List.set_cons_zero, List.set_cons_succ]
    refine wpAnyH_take (i := 2) (v := (.pointer (some ⟨g, 3, none⟩))) (oi := ⟨_, _, _, _, _, _⟩) rfl (by kernel_rfl) (by kernel_rfl) (by kernel_rfl) (fun _ _ _ h => h) (Or.inl ⟨by kernel_rfl, fun W hS => ?_⟩) (by assumption) ?_
    · dsimp only at hS; go_split_ands; go_simp
    simp only [Act.put, List.setIfInBounds_toArray, List.set_cons_zero, List.set_cons_succ]
    refine wpAnyH_take (i := 3) (v := (.int .i64 f.s)) (oi := ⟨_, _, _, _, _, _⟩) rfl (by kernel_rfl) (by kernel_rfl) (by kernel_rfl) (fun _ _ _ h => h) (Or.inl ⟨by kernel_rfl, fun W hS => ?_⟩) (by assumption) ?_
    · dsimp only at hS; go_split_ands; go_simp
    simp only [Act.put, List.setIfInBounds_toArray, List.set_cons_zero, List.set_cons_succ]
    refine wpAnyH_take (i := 4) (v := (.pointer (some ⟨g, 4, none⟩))) (oi := ⟨_, _, _, _, _, _⟩) rfl (by kernel_rfl) (by kernel_rfl) (by kernel_rfl) (fun _ _ _ h => h) (Or.inl ⟨by kernel_rfl, fun W hS => ?_⟩) (by assumption) ?_
    · dsimp only at hS; go_split_ands; go_simp
    simp only [Act.put, List.setIfInBounds_toArray, List.set_cons_zero, List.set_cons_succ]
    refine wpAnyH_take (i := 5) (v := (.agg (nums .u8 f.tool).toArray)) (oi := ⟨_, _, _, _, _, _⟩) rfl (by kernel_rfl) (by kernel_rfl) (by kernel_rfl) (fun _ _ _ h => h) (Or.inl ⟨by kernel_rfl, fun W hS => ?_⟩) (by assumption) ?_
    · dsimp only at hS; go_split_ands; go_simp
    simp only [Act.put, List.setIfInBounds_toArray, List.set_cons_zero, List.set_cons_succ]
    refine wpAnyH_take (i := 6) (v := (.pointer (some ⟨g3, 2, none⟩))) (oi := ⟨_, _, _, _, _, _⟩) rfl (by kernel_rfl) (by kernel_rfl) (by kernel_rfl) (fun _ _ _ h => h) (Or.inl ⟨by kernel_rfl, fun W hS => ?_⟩) (by assumption) ?_
    · dsimp only at hS; go_split_ands; go_simp
    simp only [Act.put, List.setIfInBounds_toArray, List.set_cons_zero, List.set_cons_succ]
    refine wpAnyH_ready (rs := [7]) (by kernel_rfl) (by decide) (AllReadyH.cons (o := ⟨_, _, _, _, _, _⟩) rfl (fun K hK => ?_) AllReadyH.nil)
    rw [if_pos (by kernel_rfl)]
    go_simp
    refine hK.out _ _ (ST1) (fun hHeld => ?_)
    clear hK K
    try simp only [Act.put, List.setIfInBounds_toArray, List.set_cons_zero, List.set_cons_succ]
    refine wpAnyH_take (i := 8) (v := (.pointer (some ⟨g3, 3, none⟩))) (oi := ⟨_, _, _, _, _, _⟩) rfl (by kernel_rfl) (by kernel_rfl) (by kernel_rfl) (fun _ _ _ h => h) (Or.inl ⟨by kernel_rfl, fun W hS => ?_⟩) (by assumption) ?_
    · dsimp only at hS; go_split_ands; go_simp
    simp only [Act.put, List.setIfInBounds_toArray, List.set_cons_zero, List.set_cons_succ]
    refine wpAnyH_ready (rs := [9]) (by kernel_rfl) (by decide) (AllReadyH.cons (o := ⟨_, _, _, _, _, _⟩) rfl (fun K hK => ?_) AllReadyH.nil)
    rw [if_pos (by kernel_rfl)]
    go_simp
    refine hK.out _ _ (ST2) (fun hHeld => ?_)
    clear hK K
    try simp only [Act.put, List.setIfInBounds_toArray, List.set_cons_zero, List.set_cons_succ]
    refine wpAnyH_take (i := 10) (v := (.pointer (some ⟨g3, 4, none⟩))) (oi := ⟨_, _, _, _, _, _⟩) rfl (by kernel_rfl) (by kernel_rfl) (by kernel_rfl) (fun _ _ _ h => h) (Or.inl ⟨by kernel_rfl, fun W hS => ?_⟩) (by assumption) ?_
    · dsimp only at hS; go_split_ands; go_simp
    simp only [Act.put, List.setIfInBounds_toArray, List.set_cons_zero, List.set_cons_succ]
    refine wpAnyH_ready (rs := [11]) (by kernel_rfl) (by decide) (AllReadyH.cons (o := ⟨_, _, _, _, _, _⟩) rfl (fun K hK => ?_) AllReadyH.nil)
    rw [if_pos (by kernel_rfl)]
    go_simp
    refine hK.out _ _ (ST3x) (fun hHeld => ?_)
    clear hK K
    try simp only [Act.put, List.setIfInBounds_toArray, List.set_cons_zero, List.set_cons_succ]
    refine wpAnyH_done (by kernel_rfl) ?_ _
    try simp only [Act.put, List.setIfInBounds_toArray, List.set_cons_zero, List.set_cons_succ]
    go_wp2_with ((with_reducible show wpList _ _ _ (Oper.mk none _ _ _ _ _ :: _) _ _); refine wpList_store_row rfl 29 (.tmp 2) (.tmp 55) rfl g2 (ownG f).arr rfl rfl 29 Z hblk hszO hZs honeO ?_)
    exact bodyPost_ret (v := .agg (ownG f).arr) (results_cell_row rfl _ _ g2 29 (ownG f).arr (0, 0) _ rfl (setRow_heap _ _ _ _ _ _ hblk) Try.underlying29 rfl hszO) rfl ⟨rfl, below_setRow hbel hg2b _⟩
  have b1 : (f.k == 1) = false := by rw [beq_eq_false_iff_ne]; exact k1
  by_cases k2 : f.k = 2
  · have b2 : (f.k == 2) = true := by rw [beq_iff_eq]; exact k2
    have S0 := T.drew.f
    have l1 : ∀ W, f.at_ 29 W g → (Instr.loadAt 22 (.pointer (some ⟨g, 1, none⟩))).run Try.prog W = .ok (.int .u64 f.id) W := fun W h => load_u64 h.c1
    have l2 : ∀ W, f.at_ 29 W g → (Instr.loadAt 26 (.pointer (some ⟨g, 37, none⟩))).run Try.prog W = .ok (.agg f.lim.toArray) W := fun W h => lim_at h
    have l3 : ∀ W, f.at_ 29 W g → (Instr.loadAt 27 (.pointer (some ⟨g, 40, none⟩))).run Try.prog W = .ok (.slice f.A f.n f.c) W := fun W h => load_txts h.c40
    have l4 : ∀ W, f.at_ 29 W g → (Instr.loadAt 9 (.pointer (some ⟨g, 41, none⟩))).run Try.prog W = .ok (.string f.body) W := fun W h => load_str h.c41
    have s1 := store_u64 f.id
    have q1 := T.h.c1
    have f1 := T.h.fz 1
    have T1 := T.step (Fr.only_at _ g3 1 (.int .u64 f.id)) (T.h.set1 f.id)
    have ST1 := T1.drew.f
    have ST1x := T1.f
    have T2d := T1.drew
    have ST2d := T2d.f
    obtain ⟨W2, hst2, hA2, ho2⟩ := store_lim T2d.h f
    have T2 := T2d.step ho2 hA2
    have ST2 := T2.drew.f
    have ST2x := T2.f
    have s3 := store_txts f.A f.n f.c
    have q3 := T2.h.c40
    have f3 := T2.h.fz 40
    have T3 := T2.step (Fr.only_at _ g3 40 (.slice f.A f.n f.c)) (T2.h.set40 f.A f.n f.c f.args)
    have ST3 := T3.drew.f
    have ST3x := T3.f
    have s4 := store_str f.body
    have q4 := T3.h.c41
    have f4 := T3.h.fz 41
    have T4 := T3.step (Fr.only_at _ g3 41 (.string f.body)) (T3.h.set41 f.body)
    have ST4 := T4.drew.f
    have ST4x := T4.f
    have HE : Hid (_ = ownG f) := Lib.hid (own_is2 k2)
    have hl := load_frame (ownG f) hif _ g3 (HE.out ▸ T4.h)
    obtain ⟨Z, hZ, hblk⟩ := T4.z
    have hbel := T4.bel
    have hZs : Z.size = (ownG f).arr.size := by rw [hZ, hasO]
    clear hif HE hf T
    go_upto_region 6 with (fail)
    refine wp_region_held_drew (S := fun W => f.at_ 29 W g) (by kernel_rfl) (S0) (fun hHeld => ?_)
    refine wpAnyH_take (i := 0) (v := (.pointer (some ⟨g, 1, none⟩))) (oi := ⟨_, _, _, _, _, _⟩) rfl (by kernel_rfl) (by kernel_rfl) (by kernel_rfl) (fun _ _ _ h => h) (Or.inl ⟨by kernel_rfl, fun W hS => ?_⟩) (by assumption) ?_
    · dsimp only at hS; go_split_ands; go_simp
    simp only [Act.put, List.setIfInBounds_toArray, List.set_cons_zero, List.set_cons_succ]
    refine wpAnyH_take (i := 1) (v := (.int .u64 f.id)) (oi := ⟨_, _, _, _, _, _⟩) rfl (by kernel_rfl) (by kernel_rfl) (by kernel_rfl) (fun _ _ _ h => h) (Or.inl ⟨by kernel_rfl, fun W hS => ?_⟩) (by assumption) ?_
    · dsimp only at hS; go_split_ands; go_simp
    simp only [Act.put, List.setIfInBounds_toArray, List.set_cons_zero, List.set_cons_succ]
    refine wpAnyH_take (i := 2) (v := (.pointer (some ⟨g, 37, none⟩))) (oi := ⟨_, _, _, _, _, _⟩) rfl (by kernel_rfl) (by kernel_rfl) (by kernel_rfl) (fun _ _ _ h => h) (Or.inl ⟨by kernel_rfl, fun W hS => ?_⟩) (by assumption) ?_
    · dsimp only at hS; go_split_ands; go_simp
    simp only [Act.put, List.setIfInBounds_toArray, List.set_cons_zero, List.set_cons_succ]
    refine wpAnyH_take (i := 3) (v := (.agg f.lim.toArray)) (oi := ⟨_, _, _, _, _, _⟩) rfl (by kernel_rfl) (by kernel_rfl) (by kernel_rfl) (fun _ _ _ h => h) (Or.inl ⟨by kernel_rfl, fun W hS => ?_⟩) (by assumption) ?_
    · dsimp only at hS; go_split_ands; go_simp
    simp only [Act.put, List.setIfInBounds_toArray, List.set_cons_zero, List.set_cons_succ]
    refine wpAnyH_take (i := 4) (v := (.pointer (some ⟨g, 40, none⟩))) (oi := ⟨_, _, _, _, _, _⟩) rfl (by kernel_rfl) (by kernel_rfl) (by kernel_rfl) (fun _ _ _ h => h) (Or.inl ⟨by kernel_rfl, fun W hS => ?_⟩) (by assumption) ?_
    · dsimp only at hS; go_split_ands; go_simp
    simp only [Act.put, List.setIfInBounds_toArray, List.set_cons_zero, List.set_cons_succ]
    refine wpAnyH_take (i := 5) (v := (.slice f.A f.n f.c)) (oi := ⟨_, _, _, _, _, _⟩) rfl (by kernel_rfl) (by kernel_rfl) (by kernel_rfl) (fun _ _ _ h => h) (Or.inl ⟨by kernel_rfl, fun W hS => ?_⟩) (by assumption) ?_
    · dsimp only at hS; go_split_ands; go_simp
    simp only [Act.put, List.setIfInBounds_toArray, List.set_cons_zero, List.set_cons_succ]
    refine wpAnyH_take (i := 6) (v := (.pointer (some ⟨g, 41, none⟩))) (oi := ⟨_, _, _, _, _, _⟩) rfl (by kernel_rfl) (by kernel_rfl) (by kernel_rfl) (fun _ _ _ h => h) (Or.inl ⟨by kernel_rfl, fun W hS => ?_⟩) (by assumption) ?_
    · dsimp only at hS; go_split_ands; go_simp
    simp only [Act.put, List.setIfInBounds_toArray, List.set_cons_zero, List.set_cons_succ]
    refine wpAnyH_take (i := 7) (v := (.string f.body)) (oi := ⟨_, _, _, _, _, _⟩) rfl (by kernel_rfl) (by kernel_rfl) (by kernel_rfl) (fun _ _ _ h => h) (Or.inl ⟨by kernel_rfl, fun W hS => ?_⟩) (by assumption) ?_
    · dsimp only at hS; go_split_ands; go_simp
    simp only [Act.put, List.setIfInBounds_toArray, List.set_cons_zero, List.set_cons_succ]
    refine wpAnyH_take (i := 8) (v := (.pointer (some ⟨g3, 1, none⟩))) (oi := ⟨_, _, _, _, _, _⟩) rfl (by kernel_rfl) (by kernel_rfl) (by kernel_rfl) (fun _ _ _ h => h) (Or.inl ⟨by kernel_rfl, fun W hS => ?_⟩) (by assumption) ?_
    · dsimp only at hS; go_split_ands; go_simp
    simp only [Act.put, List.setIfInBounds_toArray, List.set_cons_zero, List.set_cons_succ]
    refine wpAnyH_ready (rs := [9]) (by kernel_rfl) (by decide) (AllReadyH.cons (o := ⟨_, _, _, _, _, _⟩) rfl (fun K hK => ?_) AllReadyH.nil)
    rw [if_pos (by kernel_rfl)]
    go_simp
    refine hK.out _ _ (ST1) (fun hHeld => ?_)
    clear hK K
    try simp only [Act.put, List.setIfInBounds_toArray, List.set_cons_zero, List.set_cons_succ]
    refine wpAnyH_take (i := 10) (v := (.pointer (some ⟨g3, 37, none⟩))) (oi := ⟨_, _, _, _, _, _⟩) rfl (by kernel_rfl) (by kernel_rfl) (by kernel_rfl) (fun _ _ _ h => h) (Or.inl ⟨by kernel_rfl, fun W hS => ?_⟩) (by assumption) ?_
    · dsimp only at hS; go_split_ands; go_simp
    simp only [Act.put, List.setIfInBounds_toArray, List.set_cons_zero, List.set_cons_succ]
    refine wpAnyH_ready (rs := [11]) (by kernel_rfl) (by decide) (AllReadyH.cons (o := ⟨_, _, _, _, _, _⟩) rfl (fun K hK => ?_) AllReadyH.nil)
    rw [if_pos (by kernel_rfl)]
    go_simp
    refine hK.out _ _ (ST2x) (fun hHeld => ?_)
    clear hK K
    try simp only [Act.put, List.setIfInBounds_toArray, List.set_cons_zero, List.set_cons_succ]
    refine wpAnyH_take (i := 12) (v := (.pointer (some ⟨g3, 40, none⟩))) (oi := ⟨_, _, _, _, _, _⟩) rfl (by kernel_rfl) (by kernel_rfl) (by kernel_rfl) (fun _ _ _ h => h) (Or.inl ⟨by kernel_rfl, fun W hS => ?_⟩) (by assumption) ?_
    · dsimp only at hS; go_split_ands; go_simp
    simp only [Act.put, List.setIfInBounds_toArray, List.set_cons_zero, List.set_cons_succ]
    refine wpAnyH_ready (rs := [13]) (by kernel_rfl) (by decide) (AllReadyH.cons (o := ⟨_, _, _, _, _, _⟩) rfl (fun K hK => ?_) AllReadyH.nil)
    rw [if_pos (by kernel_rfl)]
    go_simp
    refine hK.out _ _ (ST3x) (fun hHeld => ?_)
    clear hK K
    try simp only [Act.put, List.setIfInBounds_toArray, List.set_cons_zero, List.set_cons_succ]
    refine wpAnyH_take (i := 14) (v := (.pointer (some ⟨g3, 41, none⟩))) (oi := ⟨_, _, _, _, _, _⟩) rfl (by kernel_rfl) (by kernel_rfl) (by kernel_rfl) (fun _ _ _ h => h) (Or.inl ⟨by kernel_rfl, fun W hS => ?_⟩) (by assumption) ?_
    · dsimp only at hS; go_split_ands; go_simp
    simp only [Act.put, List.setIfInBounds_toArray, List.set_cons_zero, List.set_cons_succ]
    refine wpAnyH_ready (rs := [15]) (by kernel_rfl) (by decide) (AllReadyH.cons (o := ⟨_, _, _, _, _, _⟩) rfl (fun K hK => ?_) AllReadyH.nil)
    rw [if_pos (by kernel_rfl)]
    go_simp
    refine hK.out _ _ (ST4x) (fun hHeld => ?_)
    clear hK K
    try simp only [Act.put, List.setIfInBounds_toArray, List.set_cons_zero, List.set_cons_succ]
    refine wpAnyH_done (by kernel_rfl) ?_ _
    try simp only [Act.put, List.setIfInBounds_toArray, List.set_cons_zero, List.set_cons_succ]
    go_wp2_with ((with_reducible show wpList _ _ _ (Oper.mk none _ _ _ _ _ :: _) _ _); refine wpList_store_row rfl 29 (.tmp 2) (.tmp 55) rfl g2 (ownG f).arr rfl rfl 29 Z hblk hszO hZs honeO ?_)
    exact bodyPost_ret (v := .agg (ownG f).arr) (results_cell_row rfl _ _ g2 29 (ownG f).arr (0, 0) _ rfl (setRow_heap _ _ _ _ _ _ hblk) Try.underlying29 rfl hszO) rfl ⟨rfl, below_setRow hbel hg2b _⟩
  have b2 : (f.k == 2) = false := by rw [beq_eq_false_iff_ne]; exact k2
  by_cases k3 : f.k = 3
  · have b3 : (f.k == 3) = true := by rw [beq_iff_eq]; exact k3
    have S0 := T.drew.f
    have l1 : ∀ W, f.at_ 29 W g → (Instr.loadAt 22 (.pointer (some ⟨g, 1, none⟩))).run Try.prog W = .ok (.int .u64 f.id) W := fun W h => load_u64 h.c1
    have l2 : ∀ W, f.at_ 29 W g → (Instr.loadAt 3 (.pointer (some ⟨g, 36, none⟩))).run Try.prog W = .ok (.int .i64 f.st) W := fun W h => load_int h.c36
    have l3 : ∀ W, f.at_ 29 W g → (Instr.loadAt 9 (.pointer (some ⟨g, 41, none⟩))).run Try.prog W = .ok (.string f.body) W := fun W h => load_str h.c41
    have s1 := store_u64 f.id
    have q1 := T.h.c1
    have f1 := T.h.fz 1
    have T1 := T.step (Fr.only_at _ g3 1 (.int .u64 f.id)) (T.h.set1 f.id)
    have ST1 := T1.drew.f
    have ST1x := T1.f
    have s2 := store_int f.st
    have q2 := T1.h.c36
    have f2 := T1.h.fz 36
    have T2 := T1.step (Fr.only_at _ g3 36 (.int .i64 f.st)) (T1.h.set36 f.st)
    have ST2 := T2.drew.f
    have ST2x := T2.f
    have s3 := store_str f.body
    have q3 := T2.h.c41
    have f3 := T2.h.fz 41
    have T3 := T2.step (Fr.only_at _ g3 41 (.string f.body)) (T2.h.set41 f.body)
    have ST3 := T3.drew.f
    have ST3x := T3.f
    have T9 := T3.drew
    have ST9 := T9.f
    have HE : Hid (_ = ownG f) := Lib.hid (own_is3 k3)
    have hl := load_frame (ownG f) hif _ g3 (HE.out ▸ T9.h)
    obtain ⟨Z, hZ, hblk⟩ := T9.z
    have hbel := T9.bel
    have hZs : Z.size = (ownG f).arr.size := by rw [hZ, hasO]
    clear hif HE hf T
    go_upto_region 8 with (fail)
    go_region_held3 (fun W => f.at_ 29 W g) (assumption) (fail)
    all_goals
      go_wp2_with ((with_reducible show wpList _ _ _ (Oper.mk none _ _ _ _ _ :: _) _ _); refine wpList_store_row rfl 29 (.tmp 2) (.tmp 55) rfl g2 (ownG f).arr rfl rfl 29 Z hblk hszO hZs honeO ?_)
      exact bodyPost_ret (v := .agg (ownG f).arr) (results_cell_row rfl _ _ g2 29 (ownG f).arr (0, 0) _ rfl (setRow_heap _ _ _ _ _ _ hblk) Try.underlying29 rfl hszO) rfl ⟨rfl, below_setRow hbel hg2b _⟩
  have b3 : (f.k == 3) = false := by rw [beq_eq_false_iff_ne]; exact k3
  by_cases k4 : f.k = 4
  · have b4 : (f.k == 4) = true := by rw [beq_iff_eq]; exact k4
    have l1 := load_u64 T.f.c1
    have s1 := store_u64 f.id
    have q1 := T.h.c1
    have f1 := T.h.fz 1
    have T1 := T.step (Fr.only_at _ g3 1 (.int .u64 f.id)) (T.h.set1 f.id)
    have HE : Hid (_ = ownG f) := Lib.hid (own_is4 k4)
    have hl := load_frame (ownG f) hif _ g3 (HE.out ▸ T1.h)
    obtain ⟨Z, hZ, hblk⟩ := T1.z
    have hbel := T1.bel
    have hZs : Z.size = (ownG f).arr.size := by rw [hZ, hasO]
    clear hif HE hf T
    go_wp2_with ((with_reducible show wpList _ _ _ (Oper.mk none _ _ _ _ _ :: _) _ _); refine wpList_store_row rfl 29 (.tmp 2) (.tmp 55) rfl g2 (ownG f).arr rfl rfl 29 Z hblk hszO hZs honeO ?_)
    exact bodyPost_ret (v := .agg (ownG f).arr) (results_cell_row rfl _ _ g2 29 (ownG f).arr (0, 0) _ rfl (setRow_heap _ _ _ _ _ _ hblk) Try.underlying29 rfl hszO) rfl ⟨rfl, below_setRow hbel hg2b _⟩
  have b4 : (f.k == 4) = false := by rw [beq_eq_false_iff_ne]; exact k4
  by_cases k6 : f.k = 6
  · have b6 : (f.k == 6) = true := by rw [beq_iff_eq]; exact k6
    have l1 := load_str T.f.c41
    have s1 := store_str f.body
    have q1 := T.h.c41
    have f1 := T.h.fz 41
    have T1 := T.step (Fr.only_at _ g3 41 (.string f.body)) (T.h.set41 f.body)
    have HE : Hid (_ = ownG f) := Lib.hid (own_is6 k6)
    have hl := load_frame (ownG f) hif _ g3 (HE.out ▸ T1.h)
    obtain ⟨Z, hZ, hblk⟩ := T1.z
    have hbel := T1.bel
    have hZs : Z.size = (ownG f).arr.size := by rw [hZ, hasO]
    clear hif HE hf T
    go_wp2_with ((with_reducible show wpList _ _ _ (Oper.mk none _ _ _ _ _ :: _) _ _); refine wpList_store_row rfl 29 (.tmp 2) (.tmp 55) rfl g2 (ownG f).arr rfl rfl 29 Z hblk hszO hZs honeO ?_)
    exact bodyPost_ret (v := .agg (ownG f).arr) (results_cell_row rfl _ _ g2 29 (ownG f).arr (0, 0) _ rfl (setRow_heap _ _ _ _ _ _ hblk) Try.underlying29 rfl hszO) rfl ⟨rfl, below_setRow hbel hg2b _⟩
  have b6 : (f.k == 6) = false := by rw [beq_eq_false_iff_ne]; exact k6
  have k5 := And.intro k1 (And.intro k2 (And.intro k3 (And.intro k4 k6)))
  have HE : Hid (_ = ownG f) := Lib.hid (own_is5 k5 (hk5 k1 k2 k3 k4 k6))
  have hl := load_frame (ownG f) hif _ g3 (HE.out ▸ T.h)
  obtain ⟨Z, hZ, hblk⟩ := T.z
  have hbel := T.bel
  have hZs : Z.size = (ownG f).arr.size := by rw [hZ, hasO]
  clear hif HE hf T
  go_wp2_with ((with_reducible show wpList _ _ _ (Oper.mk none _ _ _ _ _ :: _) _ _); refine wpList_store_row rfl 29 (.tmp 2) (.tmp 55) rfl g2 (ownG f).arr rfl rfl 29 Z hblk hszO hZs honeO ?_)
  exact bodyPost_ret (v := .agg (ownG f).arr) (results_cell_row rfl _ _ g2 29 (ownG f).arr (0, 0) _ rfl (setRow_heap _ _ _ _ _ _ hblk) Try.underlying29 rfl hszO) rfl ⟨rfl, below_setRow hbel hg2b _⟩
end Go.Proofs.Ytelfephmjkipoaa
end
