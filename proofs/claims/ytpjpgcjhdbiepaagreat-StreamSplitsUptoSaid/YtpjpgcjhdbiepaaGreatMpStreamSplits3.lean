/- Contracts of functions that the law reaches (texts laid together, part 3): each says of its call what it answers and what it leaves of memory; the conditions stand in each statement. -/
import Derived.Test.YtpjpgcjhdbiepaaGreatMpStreamSplits2
import Derived.Test.YtpjpgcjhdbiepaaGreatWWords
import Derived.WalkKit
import Derived.Lib.Hide
import Derived.Laws.BitsAllLaws
import Derived.Deep.WholeRow
import Derived.Deep.CutBlock
import Derived.Deep.Cut
import Derived.Deep.LoopGhost
import Derived.Laws.CopyOwn
import Derived.Lib.SlBytesConst
import Derived.ChangeKeysEq
import Derived.Laws.StructEq
import Derived.Test.YtpjpgcjhdbiepaaGreatWMore
import Derived.Laws.Bits64b
import Derived.IntWalk
import Derived.Test.YtpjpgcjhdbiepaaGreatProg
import Derived.Test.YtpjpgcjhdbiepaaGreatWGuard
import Derived.Deep.MidRow
import Derived.Deep.RegionHeld3
import Derived.Deep.RegionLaw
import Derived.Deep.DeepMust
import Derived.Laws.Cover3
import Derived.Test.YtpjpgcjhdbiepaaGreatWEqStruct
import Derived.StillTailTactics
import Derived.Recover
import Derived.WalkLawsBesides
import Derived.Deep.RegionWith
import Derived.Laws.CopyRow
set_option linter.unusedVariables false
set_option linter.unusedSimpArgs false
set_option linter.unusedSectionVars false
set_option linter.unnecessarySimpa false
section
namespace Go.Kit
open Go.RowKit Go.Proofs.YtpjpgcjhdbiepaaGreatW.PrintWords
structure Fr.wf (f : Fr) : Prop where
 id0 : 0 ≤ f.id
 id1 : f.id ≤ 18446744073709551615
 k : -9223372036854775808 ≤ f.k ∧ f.k ≤ 9223372036854775807
 v : -9223372036854775808 ≤ f.v ∧ f.v ≤ 9223372036854775807
 s : -9223372036854775808 ≤ f.s ∧ f.s ≤ 9223372036854775807
 st : -9223372036854775808 ≤ f.st ∧ f.st ≤ 9223372036854775807
 mo : -9223372036854775808 ≤ f.mo ∧ f.mo ≤ 9223372036854775807
 fu : -9223372036854775808 ≤ f.fu ∧ f.fu ≤ 9223372036854775807
 di : -9223372036854775808 ≤ f.di ∧ f.di ≤ 9223372036854775807
 byt : Byt f.tool
theorem u64_nn {x : Int} (h0 : 0 ≤ x) (h1 : x ≤ 9223372036854775807) : IntKind.u64.wrap x = x := IntWalk.u64_in _ ⟨by omega, by omega⟩
theorem add_four (g j : Nat) : (⟨g, 4, none⟩ : Addr).add j = ⟨g, 4 + j, none⟩ := by
 unfold Addr.add
 split
 ·next h => subst h; rfl
 ·rfl
theorem Fr.at_.tool_rb {t : TypeId} {w : World} {g : Nat} {f : Fr} (h : f.at_ t w g) (hb : Byt f.tool) : RB w (some ⟨g, 4, none⟩) 32 f.tool :=
 ⟨⟨h.tool, by omega, fun _ => ⟨_, rfl, fun j hj => by
  have h1 := h.r4 j (.int .u8 (f.tool.getD j 0)) (by
   have hl := h.tool
   simp [nums, List.getElem?_eq_getElem (show j < f.tool.length by omega), List.getD_eq_getElem?_getD])
  rw [Go.Kit.add_four]; exact h1⟩⟩, hb⟩
end Go.Kit
namespace Go.Proofs.YtpjpgcjhdbiepaaGreat
open Go.RowKit Go.Kit Go.Proofs.YtpjpgcjhdbiepaaGreatW.PrintWords
section
variable {f : Fr} {w : World} {A : Option Addr} {n c : Nat} {xs : List Int}
def Laid (w : World) (ys : List Int) (e : Ending) (w' : World) : Prop := ∃ v, e = .returned v ∧ OB 5 w' w.heap.size v ys ∧ Below w.heap.size w w'
set_option maxHeartbeats 4000000 in
set_option maxRecDepth 100000 in
theorem nothing_lay (hf : f.tool.length = 32) (v : Value) (hO : OB 5 w 0 v xs) : Calls Tryz.prog 129 #[v, f.val] w fun e w' => e = .returned v ∧ Below w.heap.size w w' := by
 have hb := below_alloc (Below.refl _ w) (.cells f.arr 48)
 show Calls Tryz.prog _ #[v, .agg f.arr] w _
 go_enter Tryz.func129, Tryz.ntmps129
 go_wp2_with fail
 go_ret
 exact ⟨rfl, hb⟩
set_option maxHeartbeats 4000000 in
set_option maxRecDepth 100000 in
theorem cancel_lay (hf : f.ok w) (hw : f.wf) (hx : RB w A n xs) (hl : n ≤ 8388608) : Calls Tryz.prog 125 #[.slice A n c, f.val] w (Laid w (xs ++ sh f.id.toNat)) := by
 have hb := below_alloc (Below.refl _ w) (.cells f.arr 48)
 have hF := boxed hf.tool w
 have hx1 := hx.below hb
 show Calls Tryz.prog _ #[.slice A n c, .agg f.arr] w _
 go_enter Tryz.func125, Tryz.ntmps125
 go_upto_region 1 with (fail)
 generalize w.alloc (.cells f.arr 48) = w1 at *
 have q1 := hF.c1
 go_wp2_with fail
 refine (PutUint_any f.id hx1 (by omega) hw.id0 hw.id1).mono ?_
 rintro e w2 ⟨v, rfl, hO, hb2⟩
 have hb3 := below_step hb hb2
 go_wp2_with fail
 go_ret
 exact ⟨_, rfl, hO.less hb.size, hb3⟩
set_option maxHeartbeats 4000000 in
set_option maxRecDepth 100000 in
theorem note_lay (hf : f.ok w) (hs : f.body.size ≤ 2097152) (hx : RB w A n xs) (hl : n ≤ 8388608) : Calls Tryz.prog 132 #[.slice A n c, f.val] w (Laid w (xs ++ txt f.body)) := by
 have hb := below_alloc (Below.refl _ w) (.cells f.arr 48)
 have hF := boxed hf.tool w
 have hx1 := hx.below hb
 show Calls Tryz.prog _ #[.slice A n c, .agg f.arr] w _
 go_enter Tryz.func132, Tryz.ntmps132
 go_upto_region 1 with (fail)
 generalize w.alloc (.cells f.arr 48) = w1 at *
 have q1 := hF.c41
 have hb2 := below_alloc (Below.refl w1.heap.size w1) (.cells #[.string f.body] 9)
 have hx2 := hx1.below hb2
 have hT : RT (w1.alloc (.cells #[.string f.body] 9)) (some ⟨w1.heap.size, 0, none⟩) 1 [f.body] := ⟨rfl, by omega, fun _ => ⟨_, rfl, fun j hj => by
  obtain rfl : j = 0 := by omega
  exact World.cell?_alloc_new (w := w1) _ _ 0⟩⟩
 have hb3 := below_step hb hb2
 go_wp2_with fail
 refine (PutText_any (c := 1) hx2 hT 2097152 (by omega) (fun s hm => by simp at hm; rw [hm]; exact hs) (by omega)).mono ?_
 rintro e w2 ⟨v, rfl, hO, hb4⟩
 have hb5 := below_step hb3 hb4
 go_wp2_with fail
 go_ret
 refine ⟨_, rfl, ?_, hb5⟩
 have := hO.less hb3.size
 simpa [txts] using this
theorem PutUint_own {W : World} {base : Nat} {v : Value} {ys : List Int} (hO : OB 5 W base v ys) (hl : ys.length ≤ 8388608) (u : Int) (h0 : 0 ≤ u) (h1 : u ≤ 18446744073709551615) :
  Calls Tryz.prog 61 #[v, .int .u64 u] W (Laid W (ys ++ sh u.toNat)) := by
 obtain ⟨A, c, rfl, hr⟩ := hO.reads
 exact PutUint_any u hr (by omega) h0 h1
theorem PutText_own {W : World} {base : Nat} {v : Value} {ys : List Int} (hO : OB 5 W base v ys) (hl : ys.length ≤ 8388608) {B : Option Addr} {m d : Nat} {l : List ByteArray} (hT : RT W B m l) (hm : m ≤ 1) (hs : ∀ s ∈ l, s.size ≤ 2097152) :
  Calls Tryz.prog 112 #[v, .slice B m d] W (Laid W (ys ++ txts l)) := by
 obtain ⟨A, c, rfl, hr⟩ := hO.reads
 exact PutText_any hr hT 2097152 (by omega) hs (by omega)
theorem PutList_own {W : World} {base : Nat} {v : Value} {ys : List Int} (hO : OB 5 W base v ys) (hl : ys.length ≤ 8388608) {B : Option Addr} {m d : Nat} {l : List ByteArray} (hT : RT W B m l) (hm : m ≤ 8) (hs : ∀ s ∈ l, s.size ≤ 4096) :
  Calls Tryz.prog 113 #[v, .slice B m d] W (Laid W (ys ++ lst l)) := by
 obtain ⟨A, c, rfl, hr⟩ := hO.reads
 exact PutList_any hr hT 4096 (by omega) hs (by omega)
theorem keepF {w W W1 : World} {g : Nat} {f : Fr} (hb : Below w.heap.size w W) (hF : f.at_ 48 W g) (hk : Below W.heap.size W W1) : Below w.heap.size w W1 ∧ f.at_ 48 W1 g ∧ W1.cell? ⟨g, 1, none⟩ = some (.int .u64 f.id) ∧ W1.cell? ⟨g, 2, none⟩ = some (.int .i64 f.v) ∧ W1.cell? ⟨g, 3, none⟩ = some (.int .i64 f.s) ∧ W1.cell? ⟨g, 36, none⟩ = some (.int .i64 f.st) ∧ W1.cell? ⟨g, 40, none⟩ = some (.slice f.A f.n f.c) ∧ W1.cell? ⟨g, 41, none⟩ = some (.string f.body) :=
 ⟨below_step hb hk, hF.below hk, (hF.below hk).c1, (hF.below hk).c2, (hF.below hk).c3, (hF.below hk).c36, (hF.below hk).c40, (hF.below hk).c41⟩
set_option maxHeartbeats 4000000 in
set_option maxRecDepth 100000 in
theorem hello_lay (hf : f.ok w) (hw : f.wf) (hv : 0 ≤ f.v) (hs : 0 ≤ f.s) (hx : RB w A n xs) (hl : n ≤ 4194304) : Calls Tryz.prog 107 #[.slice A n c, f.val] w (Laid w (xs ++ (sh f.v.toNat ++ sh f.s.toNat ++ f.tool))) := by
 have hb := below_alloc (Below.refl _ w) (.cells f.arr 48)
 have hF := boxed hf.tool w
 have hu1 := u64_nn hv hw.v.2
 have hu2 := u64_nn hs hw.s.2
 have HWF := Lib.hid hw
 have hl1 := sh_ten (n := f.v.toNat) (by have := hw.v.2; omega)
 have HL1 := Lib.hid hl1
 have hl2 := sh_ten (n := f.s.toNat) (by have := hw.s.2; omega)
 have HL2 := Lib.hid hl2
 have HXL := Lib.hid hx.len
 have c1 : ∀ W, Below w.heap.size w W → Calls Tryz.prog 61 #[.slice A n c, .int .u64 f.v] W (Laid W (xs ++ sh f.v.toNat)) := fun W h => PutUint_any f.v (hx.below h) (by omega) hv (by have := HWF.out.v.2; omega)
 have c2 : ∀ W v base, OB 5 W base v (xs ++ sh f.v.toNat) → Calls Tryz.prog 61 #[v, .int .u64 f.s] W (Laid W (xs ++ sh f.v.toNat ++ sh f.s.toNat)) := fun W v base h => PutUint_own h (by rw [List.length_append, HXL.out]; have := HL1.out; omega) f.s hs (by have := HWF.out.s.2; omega)
 clear hw hl1 hl2
 show Calls Tryz.prog _ #[.slice A n c, .agg f.arr] w _
 go_enter Tryz.func107, Tryz.ntmps107
 go_upto_region 1 with (fail)
 generalize w.alloc (.cells f.arr 48) = w1 at *
 have q1 := hF.c2
 have q2 := hF.c3
 obtain ⟨g, hg⟩ : ∃ g, w.heap.size = g := ⟨_, rfl⟩
 rw [hg] at hF q1 q2 ⊢
 clear hg
 go_region_held3 (fun w' => Below w.heap.size w w' ∧ f.at_ 48 w' g ∧ w'.cell? ⟨g, 1, none⟩ = some (.int .u64 f.id) ∧ w'.cell? ⟨g, 2, none⟩ = some (.int .i64 f.v) ∧ w'.cell? ⟨g, 3, none⟩ = some (.int .i64 f.s) ∧ w'.cell? ⟨g, 36, none⟩ = some (.int .i64 f.st) ∧ w'.cell? ⟨g, 40, none⟩ = some (.slice f.A f.n f.c) ∧ w'.cell? ⟨g, 41, none⟩ = some (.string f.body))
  (first
   | assumption
   | (refine keepF hb hF ?_; exact below_drew (Below.refl _ _))
   | (refine keepF hb hF ?_; exact Below.refl _ _)
   | (go_split_ands; refine keepF ?_ ?_ hb3 <;> assumption)
   | (go_split_ands; refine keepF ?_ ?_ hb4 <;> assumption))
  (first
   | (go_at_call 61; go_split_ands; (with_reducible refine (c1 _ (by assumption)).mono ?_); rintro e w3 ⟨v3, rfl, hO3, hb3⟩)
   | (go_at_call 61; go_split_ands; (with_reducible refine (c2 _ _ _ (by assumption)).mono ?_); rintro e w4 ⟨v4, rfl, hO4, hb4⟩))
 have hb5 : Below w.heap.size w w4 := below_step (below_step (hb.trans (below_drew (Below.refl _ _))) hb3) hb4
 have hF5 : f.at_ 48 w4 g := ((hF.below (below_drew (Below.refl _ _))).below hb3).below hb4
 have hO5 : OB 5 w4 w.heap.size v4 (xs ++ sh f.v.toNat ++ sh f.s.toNat) := hO4.less (Nat.le_trans hb.size hb3.size)
 have hRT := hF5.tool_rb HWF.out.byt
 have hlen : (xs ++ sh f.v.toNat ++ sh f.s.toNat).length + 32 ≤ 140737488355328 := by rw [List.length_append, List.length_append, HXL.out]; have := HL1.out; have := HL2.out; omega
 have HLN := Lib.hid hlen
 clear hb3 hb4 hO3 hO4 hF q1 q2 c1 c2 hlen hF5
 go_wp2_with (at_builtin; refine push_row (w0 := w) w.heap.size rfl (.tmp 14) (.tmp 16) 22 f.tool (some ⟨g, 4, none⟩) 32 32 rfl Tryz.underlying22 u8_info rfl rfl hO5 hRT hb5 hb5.size HLN.out ?_)
 intro v6 w6 hO6 hb6 _ _
 go_wp2_with fail
 go_ret
 have hO7 : OB 5 w6 w.heap.size v6 (xs ++ (sh f.v.toNat ++ sh f.s.toNat ++ f.tool)) := by simpa only [List.append_assoc] using hO6
 exact ⟨_, rfl, hO7, hb6⟩
theorem OB.alloc_ {e : TypeId} {w : World} {base : Nat} {v : Value} {xs : List Int} (h : OB e w base v xs) (o : Obj) : OB e (w.alloc o) base v xs := h.below (below_alloc (Below.refl _ _) o)
theorem rt_lit (W : World) (s : ByteArray) : RT (W.alloc (.cells #[.string s] 9)) (some ⟨W.heap.size, 0, none⟩) 1 [s] := ⟨rfl, by omega, fun _ => ⟨_, rfl, fun j hj => by
  obtain rfl : j = 0 := by omega
  exact World.cell?_alloc_new (w := W) _ _ 0⟩⟩
theorem rt_lit_d (W : World) (s : ByteArray) : RT (W.alloc (.cells #[.string s] 9)).drew (some ⟨W.heap.size, 0, none⟩) 1 [s] := (rt_lit W s).below (below_drew (Below.refl _ _))
set_option maxHeartbeats 8000000 in
set_option maxRecDepth 100000 in
theorem response_lay (hf : f.ok w) (hw : f.wf) (hv : 0 ≤ f.st) (hs : f.body.size ≤ 2097152) (hx : RB w A n xs) (hl : n ≤ 4194304) : Calls Tryz.prog 121 #[.slice A n c, f.val] w (Laid w (xs ++ (sh f.id.toNat ++ sh f.st.toNat ++ txt f.body))) := by
 have hb := below_alloc (Below.refl _ w) (.cells f.arr 48)
 have hF := boxed hf.tool w
 have hu2 := u64_nn hv hw.st.2
 have HWF := Lib.hid hw
 have hl1 := sh_ten (n := f.id.toNat) (by have := hw.id1; omega)
 have HL1 := Lib.hid hl1
 have hl2 := sh_ten (n := f.st.toNat) (by have := hw.st.2; omega)
 have HL2 := Lib.hid hl2
 have HXL := Lib.hid hx.len
 have c1 : ∀ W, Below w.heap.size w W → Calls Tryz.prog 61 #[.slice A n c, .int .u64 f.id] W (Laid W (xs ++ sh f.id.toNat)) := fun W h => PutUint_any f.id (hx.below h) (by omega) HWF.out.id0 HWF.out.id1
 have c2 : ∀ W v base, OB 5 W base v (xs ++ sh f.id.toNat) → Calls Tryz.prog 61 #[v, .int .u64 f.st] W (Laid W (xs ++ sh f.id.toNat ++ sh f.st.toNat)) := fun W v base h => PutUint_own h (by rw [List.length_append, HXL.out]; have := HL1.out; omega) f.st hv (by have := HWF.out.st.2; omega)
 have c3 : ∀ W v base B m d, OB 5 W base v (xs ++ sh f.id.toNat ++ sh f.st.toNat) → RT W B m [f.body] → m ≤ 1 → Calls Tryz.prog 112 #[v, .slice B m d] W (Laid W (xs ++ sh f.id.toNat ++ sh f.st.toNat ++ txts [f.body])) := fun W v base B m d h ht hm => PutText_own h (by rw [List.length_append, List.length_append, HXL.out]; have := HL1.out; have := HL2.out; omega) ht hm (fun s hm => by simp at hm; rw [hm]; exact hs)
 clear hw hl1 hl2
 show Calls Tryz.prog _ #[.slice A n c, .agg f.arr] w _
 go_enter Tryz.func121, Tryz.ntmps121
 go_upto_region 1 with (fail)
 generalize w.alloc (.cells f.arr 48) = w1 at *
 have q1 := hF.c1
 have q2 := hF.c36
 have q3 := hF.c41
 obtain ⟨g, hg⟩ : ∃ g, w.heap.size = g := ⟨_, rfl⟩
 rw [hg] at hF q1 q2 q3 ⊢
 clear hg
 go_region_held3 (fun w' => Below w.heap.size w w' ∧ f.at_ 48 w' g ∧ w'.cell? ⟨g, 1, none⟩ = some (.int .u64 f.id) ∧ w'.cell? ⟨g, 2, none⟩ = some (.int .i64 f.v) ∧ w'.cell? ⟨g, 3, none⟩ = some (.int .i64 f.s) ∧ w'.cell? ⟨g, 36, none⟩ = some (.int .i64 f.st) ∧ w'.cell? ⟨g, 40, none⟩ = some (.slice f.A f.n f.c) ∧ w'.cell? ⟨g, 41, none⟩ = some (.string f.body))
  (first
   | assumption
   | (refine keepF hb hF ?_; exact below_drew (Below.refl _ _))
   | (refine keepF hb hF ?_; exact Below.refl _ _)
   | (go_split_ands; refine keepF ?_ ?_ hb3 <;> assumption)
   | (go_split_ands; refine keepF ?_ ?_ hb4 <;> assumption)
   | (go_split_ands; refine keepF ?_ ?_ hb5 <;> assumption)
   | (refine keepF hb hF ?_; exact below_drew (below_alloc (Below.refl _ _) _))
   | (go_split_ands; refine keepF ?_ ?_ (below_alloc (Below.refl _ _) _) <;> assumption))
  (first
   | (go_at_call 61; go_split_ands; (with_reducible refine (c1 _ (by assumption)).mono ?_); rintro e w3 ⟨v3, rfl, hO3, hb3⟩)
   | (go_at_call 61; go_split_ands; (with_reducible refine (c2 _ _ _ (by first | assumption | exact OB.alloc_ (by assumption) _)).mono ?_); rintro e w4 ⟨v4, rfl, hO4, hb4⟩)
   | (go_at_call 112; go_split_ands; (with_reducible refine (c3 _ _ _ _ _ _ (by first | assumption | exact OB.alloc_ (by assumption) _) (by first | exact rt_lit _ _ | exact (rt_lit _ _).below hb4 | exact ((rt_lit_d _ _).below hb3).below hb4) (by omega)).mono ?_); rintro e w5 ⟨v5, rfl, hO5, hb5⟩))
 all_goals
  have hO6 : OB 5 w5 w.heap.size v5 (xs ++ sh f.id.toNat ++ sh f.st.toNat ++ txts [f.body]) := hO5.less (by
   have h1 := hb.size
   have h3 := hb3.size
   have h4 := hb4.size
   simp at h3 h4 ⊢
   omega)
  go_split_ands
  have hb6 : Below w.heap.size w w5 := by assumption
  clear hO3 hO4 hO5 hb3 hb4 hb5 c1 c2 c3
  go_wp2_with fail
  go_ret
  refine ⟨_, rfl, ?_, hb6⟩
  simpa [txts] using hO6
def shs (L : List Int) : List Int := (L.map fun x => sh x.toNat).flatten
theorem shs_snoc {L : List Int} {i : Nat} {x : Int} (h : L[i]? = some x) : shs (L.take (i + 1)) = shs (L.take i) ++ sh x.toNat := by rw [snoc h]; simp [shs]
theorem shs_len (L : List Int) (h : ∀ x ∈ L, x ≤ 9223372036854775807) : (shs L).length ≤ 10 * L.length := by
 induction L with
 | nil => simp [shs]
 | cons x l ih =>
  have h1 := ih (fun y hy => h y (List.mem_cons_of_mem _ hy))
  have h2 := sh_ten (n := x.toNat) (by have := h x List.mem_cons_self; omega)
  simp only [shs, List.map_cons, List.flatten_cons, List.length_append, List.length_cons] at h1 ⊢
  omega
set_option maxHeartbeats 8000000 in
set_option maxRecDepth 100000 in
theorem request_lay (hf : f.ok w) (hw : f.wf) (h0 : 0 ≤ f.mo ∧ 0 ≤ f.fu ∧ 0 ≤ f.di) (hs : f.body.size ≤ 2097152) (hn : f.n ≤ 8) (ha : ∀ s ∈ f.args, s.size ≤ 4096) (hx : RB w A n xs) (hl : n ≤ 4194304) : Calls Tryz.prog 111 #[.slice A n c, f.val] w (Laid w (xs ++ (sh f.id.toNat ++ sh f.mo.toNat ++ sh f.fu.toNat ++ sh f.di.toNat ++ lst f.args ++ txt f.body))) := by
 have hb := below_alloc (Below.refl _ w) (.cells f.arr 48)
 have hF := boxed hf.tool w
 have hx1 := hx.below hb
 have HWF := Lib.hid hw
 have HL1 := Lib.hid (sh_ten (n := f.id.toNat) (by have := hw.id1; omega))
 have HXL := Lib.hid hx.len
 obtain ⟨L, hL⟩ : ∃ L, [f.mo, f.fu, f.di] = L := ⟨_, rfl⟩
 have HLL := Lib.hid hL
 have hLb : ∀ x ∈ L, 0 ≤ x ∧ x ≤ 9223372036854775807 := fun x hxm => by
  rw [← hL] at hxm
  simp at hxm
  rcases hxm with rfl | rfl | rfl
  ·exact ⟨h0.1, hw.mo.2⟩
  ·exact ⟨h0.2.1, hw.fu.2⟩
  ·exact ⟨h0.2.2, hw.di.2⟩
 have HLB := Lib.hid hLb
 have HSL : Hid (∀ k, (shs (L.take k)).length ≤ 30) := Lib.hid (fun k => by
  have := shs_len (L.take k) (fun x hxm => (hLb x (List.mem_of_mem_take hxm)).2)
  have h3 : (L.take k).length ≤ 3 := by rw [List.length_take, ← hL]; simp; omega
  omega)
 have HHA := Lib.hid ha
 clear hw h0 hLb ha
 show Calls Tryz.prog _ #[.slice A n c, .agg f.arr] w _
 go_enter Tryz.func111, Tryz.ntmps111
 go_upto_region 1 with (fail)
 generalize w.alloc (.cells f.arr 48) = w1 at *
 have q1 := hF.c1
 obtain ⟨g, hg⟩ : ∃ g, w.heap.size = g := ⟨_, rfl⟩
 rw [hg] at hF q1 ⊢
 clear hg
 go_wp2_with fail
 refine (PutUint_any f.id hx1 (by omega) HWF.out.id0 HWF.out.id1).mono ?_
 rintro e w2 ⟨v2, rfl, hO2, hb2⟩
 replace hO2 := hO2.less hb.size
 have hF2 := hF.below hb2
 have hb3 := below_step hb hb2
 have q1 := hF2.c37
 have q2 := hF2.c38
 have q3 := hF2.c39
 clear hF hb hb2 hx1
 have hbl := below_alloc (Below.refl w2.heap.size w2) (.cells #[.int .i64 f.mo, .int .i64 f.fu, .int .i64 f.di] 3)
 have hO3 := hO2.below hbl
 have hF3 := hF2.below hbl
 have hb4 := below_step hb3 hbl
 have hcl : ∀ j x, L[j]? = some x → (w2.alloc (.cells #[.int .i64 f.mo, .int .i64 f.fu, .int .i64 f.di] 3)).cell? ((⟨w2.heap.size, 0, none⟩ : Addr).add j) = some (.int .i64 x) := fun j x hj => by
  rw [add_plain, World.cell?_alloc_new (w := w2) _ _ j]
  rw [← hL] at hj
  rcases j with _ | _ | _ | j
  ·simpa using hj
  ·simpa using hj
  ·simpa using hj
  ·simp at hj
 go_wp2_with fail
 generalize w2.alloc (.cells #[.int .i64 f.mo, .int .i64 f.fu, .int .i64 f.di] 3) = w3 at *
 obtain ⟨ad, had⟩ : ∃ ad : Addr, ⟨w2.heap.size, 0, none⟩ = ad := ⟨_, rfl⟩
 rw [had] at hcl ⊢
 clear had hbl hO2 hF2 hb3 q1 q2 q3 hL
 go_loopg [0, 22] 3 (fun gk v0 v22 w' => ∃ k : Nat, v22 = .int .i64 (k : Int) ∧ OB 5 w' w.heap.size v0 (xs ++ sh f.id.toNat ++ shs (L.take k)) ∧ Below w3.heap.size w3 w' ∧ Hid (k + gk = 3))
 case atStart => exact ⟨0, rfl, by simpa [shs] using hO3, Below.refl _ _, rfl⟩
 case round =>
  clear hO3
  obtain ⟨k, rfl, hO, hbr, HG⟩ := hrel
  by_cases hk : k < 3
  ·obtain ⟨x, HX⟩ : ∃ x, Hid (L[k]? = some x) := ⟨_, Lib.hid (List.getElem?_eq_getElem (by rw [← HLL.out]; exact hk))⟩
   have hk2 : (k : Int) < 3 := by omega
   have hcell : wr.cell? (ad.add k) = some (.int .i64 x) := pw_cell_below hbr (hcl k x HX.out)
   have hx0 := (HLB.out x (List.mem_of_getElem? HX.out)).1
   have HX1 := Lib.hid (HLB.out x (List.mem_of_getElem? HX.out)).2
   have hwr := u64_nn hx0 HX1.out
   go_wp2_with fail
   refine (PutUint_own hO (by rw [List.length_append, List.length_append, HXL.out]; have := HL1.out; have := HSL.out k; omega) x hx0 (by have := HX1.out; omega)).mono ?_
   rintro e w5 ⟨v5, rfl, hO5, hb5⟩
   go_wp2_with fail
   go_roundg (gk - 1)
   case measure => have := HG.out; omega
   case rel =>
    refine ⟨k + 1, by simp, ?_, below_step hbr hb5, Lib.hid (by have := HG.out; omega)⟩
    rw [shs_snoc HX.out, ← List.append_assoc]
    exact hO5.less (Nat.le_trans hb4.size hbr.size)
  ·have hk3 : ¬ (k : Int) < 3 := by omega
   have HK : Hid (shs (L.take k) = sh f.mo.toNat ++ sh f.fu.toNat ++ sh f.di.toNat) := Lib.hid (by
    rw [List.take_of_length_le (by rw [← HLL.out]; simp; omega), ← HLL.out]
    simp [shs])
   have hF4 := hF3.below hbr
   have hb5 := below_step hb4 hbr
   obtain ⟨ys, hys⟩ : ∃ ys, xs ++ sh f.id.toNat ++ shs (L.take k) = ys := ⟨_, rfl⟩
   rw [hys] at hO
   have hyl : ys.length ≤ 4194344 := by rw [← hys, List.length_append, List.length_append, HXL.out]; have := HL1.out; have := HSL.out k; omega
   have HYL := Lib.hid hyl
   have HLT : Hid ((ys ++ lst f.args).length ≤ 8388608) := Lib.hid (by
    have h1 := txts_length f.args 4096 (by omega) HHA.out
    have h2 := sh_ten (n := f.args.length) (by have := hf.args.len; omega)
    have h3 := hf.args.len
    have h4 : f.args.length * (10 + 4096) ≤ 8 * (10 + 4096) := Nat.mul_le_mul_right _ (by omega)
    rw [List.length_append]
    unfold lst
    rw [List.length_append]
    omega)
   have HYS := Lib.hid hys
   have c2 : ∀ W v base, OB 5 W base v ys → Below w.heap.size w W → Calls Tryz.prog 113 #[v, .slice f.A f.n f.c] W (Laid W (ys ++ lst f.args)) := fun W v base h hbb => PutList_own h (by have := HYL.out; omega) (hf.args.below hbb) hn HHA.out
   have c3 : ∀ W v base B m d, OB 5 W base v (ys ++ lst f.args) → RT W B m [f.body] → m ≤ 1 → Calls Tryz.prog 112 #[v, .slice B m d] W (Laid W (ys ++ lst f.args ++ txts [f.body])) := fun W v base B m d h ht hm => PutText_own h HLT.out ht hm (fun s hm => by simp at hm; rw [hm]; exact hs)
   clear hys hyl hb4 hF3 hcl hbr
   have q2 := hF4.c40
   have q3 := hF4.c41
   go_upto_region 7 with (fail)
   go_region_held3 (fun w' => Below w.heap.size w w' ∧ f.at_ 48 w' g ∧ w'.cell? ⟨g, 1, none⟩ = some (.int .u64 f.id) ∧ w'.cell? ⟨g, 2, none⟩ = some (.int .i64 f.v) ∧ w'.cell? ⟨g, 3, none⟩ = some (.int .i64 f.s) ∧ w'.cell? ⟨g, 36, none⟩ = some (.int .i64 f.st) ∧ w'.cell? ⟨g, 40, none⟩ = some (.slice f.A f.n f.c) ∧ w'.cell? ⟨g, 41, none⟩ = some (.string f.body))
    (first
     | assumption
     | (refine keepF hb5 hF4 ?_; exact below_drew (Below.refl _ _))
     | (refine keepF hb5 hF4 ?_; exact Below.refl _ _)
     | (go_split_ands; refine keepF ?_ ?_ hb6 <;> assumption)
     | (go_split_ands; refine keepF ?_ ?_ hb7 <;> assumption)
     | (refine keepF hb5 hF4 ?_; exact below_drew (below_alloc (Below.refl _ _) _))
     | (go_split_ands; refine keepF ?_ ?_ (below_alloc (Below.refl _ _) _) <;> assumption))
    (first
     | (go_at_call 113; go_split_ands; (with_reducible refine (c2 _ _ _ (by first | exact hO.below (below_drew (Below.refl _ _)) | exact hO.below (below_drew (below_alloc (Below.refl _ _) _))) (by assumption)).mono ?_); rintro e w6 ⟨v6, rfl, hO6, hb6⟩)
     | (go_at_call 112; go_split_ands; (with_reducible refine (c3 _ _ _ _ _ _ (by first | assumption | exact OB.alloc_ (by assumption) _) (by first | exact rt_lit _ _ | exact (rt_lit_d _ _).below hb6) (by omega)).mono ?_); rintro e w7 ⟨v7, rfl, hO7, hb7⟩))
   all_goals
    have hO8 : OB 5 w7 w.heap.size v7 (ys ++ lst f.args ++ txts [f.body]) := hO7.less (by
     have h1 := hb5.size
     have h3 := hb6.size
     simp at h3 ⊢
     omega)
    go_split_ands
    have hb8 : Below w.heap.size w w7 := by assumption
    have HE : Hid (ys ++ lst f.args ++ txts [f.body] = xs ++ (sh f.id.toNat ++ sh f.mo.toNat ++ sh f.fu.toNat ++ sh f.di.toNat ++ lst f.args ++ txt f.body)) := Lib.hid (by
     rw [← HYS.out, HK.out]; simp [txts])
    rw [HE.out] at hO8
    clear hO6 hO7 hb6 hb7 hO hF4 hb5 c2 c3 hk
    go_wp2_with fail
    go_ret
    exact ⟨_, rfl, hO8, hb8⟩
end
end Go.Proofs.YtpjpgcjhdbiepaaGreat
end
section
namespace Go.Proofs.YtpjpgcjhdbiepaaGreat
open Go.RowKit Go.Kit Go.Proofs.YtpjpgcjhdbiepaaGreatW.PrintWords
section
variable {f : Fr} {w : World} {A : Option Addr} {n c : Nat} {xs : List Int}
structure LayOk (f : Fr) : Prop where
 hello : f.k = 1 → 0 ≤ f.v ∧ 0 ≤ f.s
 req : f.k = 2 → (0 ≤ f.mo ∧ 0 ≤ f.fu ∧ 0 ≤ f.di) ∧ f.n ≤ 8 ∧ ∀ s ∈ f.args, s.size ≤ 4096
 resp : f.k = 3 → 0 ≤ f.st
 body : f.body.size ≤ 2097152
theorem lay_any (k : Int) (hk : f.k = k) (h1 : 1 ≤ k) (h6 : k ≤ 6) (hf : f.ok w) (hw : f.wf) (hL : LayOk f) {base : Nat} {v : Value} (hO : OB 5 w base v xs) (hb : base ≤ w.heap.size) (hl : xs.length ≤ 4194304) :
  Calls Tryz.prog (layN k) #[v, f.val] w fun e w' => ∃ v', e = .returned v' ∧ OB 5 w' base v' (xs ++ layF f) ∧ Below w.heap.size w w' := by
 obtain ⟨A, c, hv, hr⟩ := hO.reads
 have lay : ∀ {g : Nat} {ys : List Int}, layF f = ys → Calls Tryz.prog g #[v, f.val] w (Laid w (xs ++ ys)) → Calls Tryz.prog g #[v, f.val] w fun e w' => ∃ v', e = .returned v' ∧ OB 5 w' base v' (xs ++ layF f) ∧ Below w.heap.size w w' := fun hy h => h.mono fun e w' ⟨v', he, hO', hb'⟩ => ⟨v', he, by rw [hy]; exact hO'.less hb, hb'⟩
 rcases (by omega : k = 1 ∨ k = 2 ∨ k = 3 ∨ k = 4 ∨ k = 5 ∨ k = 6) with rfl | rfl | rfl | rfl | rfl | rfl
 ·exact lay (by unfold layF; rw [hk, if_pos rfl]) (by rw [hv]; exact hello_lay hf hw (hL.hello hk).1 (hL.hello hk).2 hr hl)
 ·exact lay (by unfold layF; rw [hk, if_neg (by decide), if_pos rfl]) (by rw [hv]; exact request_lay hf hw (hL.req hk).1 hL.body (hL.req hk).2.1 (hL.req hk).2.2 hr hl)
 ·exact lay (by unfold layF; rw [hk, if_neg (by decide), if_neg (by decide), if_pos rfl]) (by rw [hv]; exact response_lay hf hw (hL.resp hk) hL.body hr hl)
 ·exact lay (by unfold layF; rw [hk, if_neg (by decide), if_neg (by decide), if_neg (by decide), if_pos rfl]) (by rw [hv]; exact cancel_lay hf hw hr (by omega))
 ·refine (nothing_lay (f := f) hf.tool v (hO.less (Nat.zero_le _))).mono fun e w' ⟨he, hb'⟩ => ⟨v, he, ?_, hb'⟩
  have hy : layF f = [] := by unfold layF; rw [hk, if_neg (by decide), if_neg (by decide), if_neg (by decide), if_neg (by decide), if_neg (by decide)]
  rw [hy, List.append_nil]
  exact hO.below hb'
 ·exact lay (by unfold layF; rw [hk, if_neg (by decide), if_neg (by decide), if_neg (by decide), if_neg (by decide), if_pos rfl]) (by rw [hv]; exact note_lay hf hL.body hr (by omega))
theorem lay_enters (k : Int) (h1 : 1 ≤ k) (h6 : k ≤ 6) (args : Array Value) (W : World) : (callFunc (layN k) args).run Tryz.prog W = .ok (.enter (layN k) args) W := by
 rcases (by omega : k = 1 ∨ k = 2 ∨ k = 3 ∨ k = 4 ∨ k = 5 ∨ k = 6) with rfl | rfl | rfl | rfl | rfl | rfl <;> (simp only [layN]; go_simp)
theorem read_enters (k : Int) (h1 : 1 ≤ k) (h6 : k ≤ 6) (args : Array Value) (W : World) : (callFunc (readN k) args).run Tryz.prog W = .ok (.enter (readN k) args) W := by
 rcases (by omega : k = 1 ∨ k = 2 ∨ k = 3 ∨ k = 4 ∨ k = 5 ∨ k = 6) with rfl | rfl | rfl | rfl | rfl | rfl <;> (simp only [readN]; go_simp)
theorem only_enters (k : Int) (h1 : 1 ≤ k) (h6 : k ≤ 6) (args : Array Value) (W : World) : (callFunc (onlyN k) args).run Tryz.prog W = .ok (.enter (onlyN k) args) W := by
 rcases (by omega : k = 1 ∨ k = 2 ∨ k = 3 ∨ k = 4 ∨ k = 5 ∨ k = 6) with rfl | rfl | rfl | rfl | rfl | rfl <;> (simp only [onlyN]; go_simp)
theorem may_enters (k : Int) (h1 : 1 ≤ k) (h6 : k ≤ 6) (args : Array Value) (W : World) : (callFunc (mayN k) args).run Tryz.prog W = .ok (.enter (mayN k) args) W := by
 rcases (by omega : k = 1 ∨ k = 2 ∨ k = 3 ∨ k = 4 ∨ k = 5 ∨ k = 6) with rfl | rfl | rfl | rfl | rfl | rfl <;> (simp only [mayN]; go_simp)
theorem load_int {W : World} {a : Addr} {v : Value} (h : W.cell? a = some v) : (Instr.loadAt 3 (.pointer (some a))).run Tryz.prog W = .ok v W := by go_simp
theorem load_str {W : World} {a : Addr} {v : Value} (h : W.cell? a = some v) : (Instr.loadAt 9 (.pointer (some a))).run Tryz.prog W = .ok v W := by go_simp
theorem load_lay {W : World} {a : Addr} {v : Value} (h : W.cell? a = some v) : (Instr.loadAt 138 (.pointer (some a))).run Tryz.prog W = .ok v W := by go_simp
theorem load_read {W : World} {a : Addr} {v : Value} (h : W.cell? a = some v) : (Instr.loadAt 139 (.pointer (some a))).run Tryz.prog W = .ok v W := by go_simp
theorem load_only {W : World} {a : Addr} {v : Value} (h : W.cell? a = some v) : (Instr.loadAt 107 (.pointer (some a))).run Tryz.prog W = .ok v W := by go_simp
theorem load_may {W : World} {a : Addr} {v : Value} (h : W.cell? a = some v) : (Instr.loadAt 140 (.pointer (some a))).run Tryz.prog W = .ok v W := by go_simp
theorem keepB {w W W1 : World} {g gk : Nat} {f : Fr} {KK : Array Value} {t : TypeId} (hb : Below w.heap.size w W) (hF : f.at_ 48 W g) (hK : W.heap[gk]? = some (.cells KK t (0, 0))) (hk : Below W.heap.size W W1) :
  Below w.heap.size w W1 ∧ f.at_ 48 W1 g ∧ W1.heap[gk]? = some (.cells KK t (0, 0)) := ⟨below_step hb hk, hF.below hk, (hk.block _ (lt_of_block hK)).trans hK⟩
attribute [-go_sem] Instr.loadAt
set_option maxHeartbeats 8000000 in
set_option maxRecDepth 100000 in
theorem body_any (h1 : 1 ≤ f.k) (h6 : f.k ≤ 6) (hf : f.ok w) (hw : f.wf) (hL : LayOk f) : Calls Tryz.prog 59 #[f.val] w (Laid w (bodyF f)) := by
 have hb := below_alloc (Below.refl _ w) (.cells f.arr 48)
 have hF := boxed hf.tool w
 have hwk := u64_nn (x := f.k) (by omega) (by omega)
 have hlk := sh_ten (n := f.k.toNat) (by omega)
 have HLK := Lib.hid hlk
 have H1 := Lib.hid h1
 have H6 := Lib.hid h6
 have c1 : ∀ W, Calls Tryz.prog 61 #[.slice none 0 0, .int .u64 f.k] W (Laid W ([] ++ sh f.k.toNat)) := fun W => PutUint_any f.k (RB.nil W) (by omega) (by omega) (by omega)
 have cL : ∀ W v base, OB 5 W base v ([] ++ sh f.k.toNat) → Below w.heap.size w W → base ≤ W.heap.size → Calls Tryz.prog (layN f.k) #[v, .agg f.arr] W fun e w' => ∃ v', e = .returned v' ∧ OB 5 w' base v' (bodyF f) ∧ Below W.heap.size W w' := fun W v base hO hbw hba => by
  refine (lay_any f.k rfl H1.out H6.out (hf.below hbw) hw hL hO hba (by rw [List.nil_append]; have := HLK.out; omega)).mono ?_
  rintro e w' ⟨v', he, hO', hb'⟩
  exact ⟨v', he, by simpa [bodyF] using hO', hb'⟩
 have hif : (Tryz.prog.info? 48).map (·.size) = some f.cells.length := by rw [frame_size]; have := Fr.arr_size f hf.tool; simp [Fr.arr] at this; rw [this]
 have hen := lay_enters f.k h1 h6
 clear hlk h1 h6 hw hL hf
 show Calls Tryz.prog _ #[.agg f.arr] w _
 go_enter Tryz.func59, Tryz.ntmps59
 go_upto_region 1 with (fail)
 generalize w.alloc (.cells f.arr 48) = w1 at *
 have e0 := load_int hF.c0
 obtain ⟨g, hg⟩ : ∃ g, w.heap.size = g := ⟨_, rfl⟩
 rw [hg] at hF e0 ⊢
 clear hg
 go_wp2_with fail
 refine (of_any f.k H1.out H6.out _).mono ?_
 rintro e w2 ⟨rfl, hb2⟩
 have hbz := below_alloc (Below.refl w2.heap.size w2) (.cells #[.nilFunc, .nilFunc, .nilFunc, .nilFunc] 142)
 have hblk := heap_alloc_new w2 (.cells #[.nilFunc, .nilFunc, .nilFunc, .nilFunc] 142)
 have h4 : (#[.nilFunc, .nilFunc, .nilFunc, .nilFunc] : Array Value).size = (kV f.k).size := rfl
 have hsz := kind_size (k := f.k)
 have hone := kind_one f.k
 obtain ⟨KK, hKK⟩ : ∃ KK, kV f.k = KK := ⟨_, rfl⟩
 have hk0 : KK[0]? = some (.func (.func (layN f.k)) #[] #[]) := by rw [← hKK]; rfl
 rw [hKK] at h4 hsz hone ⊢
 clear hKK e0
 go_wp2_with (with_reducible show wpList _ _ _ (Oper.mk none _ _ _ _ _ :: _) _ _; refine wpList_store_row rfl 142 (.tmp 3) (.tmp 9) rfl w2.heap.size KK rfl rfl 142 _ hblk hsz h4 hone ?_)
 have hb3 := below_step (below_step hb hb2) hbz
 have hF3 := (hF.below hb2).below hbz
 have hb4 := below_setRow hb3 (Nat.le_trans hb.size hb2.size) KK
 have hF4 := hF3.only (Fr.only_row _ w2.heap.size KK) (fun e => by have := hF.lt; have := hb2.size; omega)
 have hK4 := setRow_heap _ w2.heap.size _ KK _ _ hblk
 clear hb hb2 hbz hblk hb3 hF3 hF h4 hsz hone
 generalize (w2.alloc (.cells #[.nilFunc, .nilFunc, .nilFunc, .nilFunc] 142)).setRow w2.heap.size KK = w5 at *
 generalize w2.heap.size = gk at *
 have hl1 : ∀ W, f.at_ 48 W g → (Instr.loadAt 3 (.pointer (some ⟨g, 0, none⟩))).run Tryz.prog W = .ok (.int .i64 f.k) W := fun W h => load_int h.c0
 have hl2 : ∀ W, f.at_ 48 W g → (Instr.loadAt 48 (.pointer (some ⟨g, 0, none⟩))).run Tryz.prog W = .ok (.agg f.arr) W := fun W h => load_frame f hif W _ h
 have hl3 : ∀ W : World, W.heap[gk]? = some (.cells KK 142 (0, 0)) → (Instr.loadAt 138 (.pointer (some ⟨gk, 0, none⟩))).run Tryz.prog W = .ok (.func (.func (layN f.k)) #[] #[]) W := fun W h => load_lay (by rw [cell_of_row W gk 0 _ _ _ h]; exact hk0)
 clear hk0 hif
 generalize f.arr = FA at *
 go_region_held3 (fun w' => Below w.heap.size w w' ∧ f.at_ 48 w' g ∧ w'.heap[gk]? = some (.cells KK 142 (0, 0)))
  (first
   | assumption
   | (refine keepB hb4 hF4 hK4 ?_; exact below_drew (Below.refl _ _))
   | (refine keepB hb4 hF4 hK4 ?_; exact Below.refl _ _)
   | (go_split_ands; refine keepB ?_ ?_ ?_ hb6 <;> assumption)
   | (go_split_ands; refine keepB ?_ ?_ ?_ hb7 <;> assumption))
  (first
   | (go_at_call 61; (with_reducible refine (c1 _).mono ?_); rintro e w6 ⟨v6, rfl, hO6, hb6⟩)
   | (go_split_ands; (with_reducible refine (cL _ _ _ (by assumption) (by assumption) (by have := hb6.size; omega)).mono ?_); rintro e w7 ⟨v7, rfl, hO7, hb7⟩))
 all_goals
  go_split_ands
  have hb8 : Below w.heap.size w w7 := by assumption
  have hO8 : OB 5 w7 w.heap.size v7 (bodyF f) := hO7.less (by have := hb4.size; exact this)
  clear hO6 hO7 hb6 hb7 c1 cL
  go_wp2_with fail
  go_ret
  exact ⟨_, rfl, hO8, hb8⟩
end
end Go.Proofs.YtpjpgcjhdbiepaaGreat
end
section
namespace Go.Proofs.YtpjpgcjhdbiepaaGreat
open Go.RowKit Go.Kit Go.Proofs.YtpjpgcjhdbiepaaGreatW.PrintWords
theorem finS_bad {D : Rd} (h : D.why ≠ 0) (f : Fr) (head : Nat) : finS D f head = (D.why, D.wat) := by
 unfold finS; rw [endS_bad h, if_neg (fun e => h e.1)]
theorem count_le {D D1 : Rd} {most : Int} {v : Nat} (hm : 0 ≤ most) (h : countS D most = (D1, v)) : (v : Int) ≤ most := by
 unfold countS at h
 split at h
 ·cases h; omega
 split at h
 ·cases h; omega
 split at h
 ·cases h; omega
 split at h
 ·cases h; omega
 ·cases h; omega
theorem kind_read {w : World} {r g n c : Nat} {A : Option Addr} {D : Rd} (k : Nat) (h1 : 1 ≤ k) (h6 : k ≤ 6) (h : RS w r A n c D) (hn : n ≤ 4398046511104) (hF : (kF (k : Int)).at_ 48 w g) (hs : ¬ rdf r A g) :
  Calls Tryz.prog (readN (k : Int)) #[.pointer (some ⟨r, 0, none⟩), .pointer (some ⟨g, 0, none⟩)] w (KindPost w r g n c A D k) := by
 rcases (by omega : k = 1 ∨ k = 2 ∨ k = 3 ∨ k = 4 ∨ k = 5 ∨ k = 6) with rfl | rfl | rfl | rfl | rfl | rfl
 ·exact hello_read h hF hs
 ·exact request_read h hn hF hs
 ·exact response_read h hF hs
 ·exact cancel_read h hF hs
 ·exact bye_read h hF
 ·exact note_read h hF hs
def fv (a b : Int) : Array Value := #[.int .i64 a, .int .i64 b]
theorem fv_size (a b : Int) : (Tryz.prog.info? 28).map (·.size) = some (fv a b).size := fault_size a b
theorem fv_one (a b : Int) : (fv a b).all (·.oneCell') = true := by simp [fv, Value.oneCell']
theorem load_fault {W : World} {g : Nat} {a b : Int} {t : TypeId} (h : W.heap[g]? = some (.cells (fv a b) t (0, 0))) : (Instr.loadAt 28 (.pointer (some ⟨g, 0, none⟩))).run Tryz.prog W = .ok (.agg (fv a b)) W :=
 run_loadAt_mid W g 0 28 (fv a b).toList _ (fun j v hj => by rw [Nat.zero_add, cell_of_row W g j _ _ _ h]; simpa using hj) Tryz.underlying28 rfl (by rw [Array.length_toList]; exact fv_size a b)
set_option maxRecDepth 100000 in
theorem catch_idle (p : Addr) (w : World) :
  CallsD Tryz.prog 88 #[.pointer (some p)] .returning w fun e u' w' => e = .returned (.tuple #[]) ∧ u' = .returning ∧ w' = w := by
 refine callsD_of_wpS Tryz.func88 rfl fun c₀ cs hu => ?_
 apply wpS_seq
 apply wpS_region
 simp [wpOpsS, go_sem, recoverD, hu, Tryz.ntmps88, Exit.thenS]
 refine wpS_of_wp ?_
 go_wp2_with fail
 cases c₀
 simp_all [bodyPostS, results, Tryz.results88]
theorem assert_fault (W : World) (v : Value) : (Instr.typeAssert (.iface 28 v) 20 28 true).run Tryz.prog W = .ok (.tuple #[v, .bool true]) W := by kernel_rfl
attribute [-go_sem] Instr.loadAt
set_option maxHeartbeats 4000000 in
set_option maxRecDepth 100000 in
theorem catch_raised (g : Nat) (a b : Int) (Z : Array Value) (older : List PanicEntry) (w : World) (hk : w.heap[g]? = some (.cells Z 28 (0, 0))) (hz : Z.size = 2) :
  CallsD Tryz.prog 88 #[.pointer (some ⟨g, 0, none⟩)] (.panicking ({ v := .iface 28 (.agg (fv a b)), recovered := false } :: older)) w fun e u' w' =>
   e = .returned (.tuple #[]) ∧ u' = .panicking ({ v := .iface 28 (.agg (fv a b)), recovered := true } :: older) ∧ w'.heap[g]? = some (.cells (fv a b) 28 (0, 0)) ∧ Only w w' (fun k => k = g) := by
 have hn := heap_alloc_new w (.cells #[.int .i64 0, .int .i64 0] 28)
 have hb1 := below_setRow (below_alloc (Below.refl w.heap.size w) (.cells #[.int .i64 0, .int .i64 0] 28)) (Nat.le_refl _) (fv a b)
 have hn2 := setRow_heap _ w.heap.size _ (fv a b) _ _ hn
 have hk2 := (hb1.block g (lt_of_block hk)).trans hk
 have hl := load_fault hn2
 have hta := assert_fault w (.agg (fv a b))
 have hs := fv_size a b
 have ho := fv_one a b
 have hz2 : Z.size = (fv a b).size := hz
 have h0 : (#[.int .i64 0, .int .i64 0] : Array Value).size = (fv a b).size := rfl
 generalize fv a b = FV at *
 refine callsD_of_wpS Tryz.func88 rfl fun c₀ cs hu => ?_
 apply wpS_seq
 apply wpS_region
 simp [wpOpsS, go_sem, recoverD, hu, Tryz.ntmps88, Exit.thenS, Array.replicate_succ, Array.replicate_zero]
 refine wpS_of_wp ?_
 go_wp2_with first
  | ((with_reducible show wpList _ _ _ (Oper.mk none _ _ _ _ _ :: _) _ _); refine wpList_store_row rfl 28 (.tmp 2) (.tmp 9) rfl w.heap.size FV rfl rfl 28 _ hn hs h0 ho ?_)
  | ((with_reducible show wpList _ _ _ (Oper.mk none _ _ _ _ _ :: _) _ _); refine wpList_store_row rfl 28 (.tmp 0) (.tmp 10) rfl g FV rfl rfl 28 _ hk2 hs hz2 ho ?_)
 refine ⟨rfl, _, rfl, .tuple #[], by simp [results, Tryz.results88], rfl, rfl, setRow_heap _ g _ FV _ _ hk2, ((Only.refl w _).below hb1).same (Fr.only_row _ g FV)⟩
end Go.Proofs.YtpjpgcjhdbiepaaGreat
end
section
namespace Go.Proofs.YtpjpgcjhdbiepaaGreat
open Go.RowKit Go.Kit Go.Proofs.YtpjpgcjhdbiepaaGreatW.PrintWords
theorem count_zero {D D1 : Rd} {m : Int} {v : Nat} (h : countS D m = (D1, v)) (hw : D1.why ≠ 0) : v = 0 := by
 unfold countS at h
 split at h
 ·cases h; rfl
 split at h
 ·cases h; rfl
 split at h
 ·cases h; rfl
 split at h
 ·cases h; rfl
 ·next h0 _ _ _ => cases h; exact absurd (Classical.not_not.mp h0) hw
theorem raw_head {xs : List Int} {head n : Nat} {D1 : Rd} {t : List Int} (hl : xs.length = n) (hh : head ≤ n) (h : rawS (Rd.new xs) (head : Int) = (D1, t)) : D1 = (Rd.new xs).to head := by
 unfold rawS at h
 rw [if_neg (by simp [Rd.new]), if_neg (by omega), if_neg (by show ¬ ((xs.length : Int) - ((0 : Nat) : Int)) < _; omega)] at h
 have h2 := congrArg Prod.fst h
 have h3 : (Rd.new xs).at_ + (head : Int).toNat = head := by show 0 + _ = _; omega
 dsimp only at h2
 rw [h3] at h2
 exact h2.symm
def ReadPost (w : World) (xs : List Int) (head : Nat) (e : Ending) (w' : World) : Prop :=
 ∃ (F : Fr) (x y : Int), e = .returned (.tuple #[.agg F.arr, .agg (fv x y)]) ∧ F.tool.length = 32 ∧ Hid ((readF xs head).2 = (x, y) ∧ (x = 0 → F.core = (readF xs head).1 ∧ y = 0)) ∧ (x = 0 → F.ok w' ∧ OwnA w' w.heap.size F) ∧ Below w.heap.size w w'
theorem read_bad {xs : List Int} {head : Nat} {D : Rd} {f : Fr} (h : fieldsS ((Rd.new xs).to head) = (D, f)) (hw : D.why ≠ 0) : (readF xs head).2 = (D.why, D.wat) := by
 rw [readF_of h, finS_bad hw, if_pos hw]
theorem endS_inv {D : Rd} (h : D.why = 0 → D.wat = 0) : (endS D).why = 0 → (endS D).wat = 0 := by
 unfold endS
 split
 ·intro e; exact absurd e (by show (6 : Int) ≠ 0; decide)
 ·exact h
theorem read_fin {xs : List Int} {head : Nat} {D : Rd} {f : Fr} {x y : Int} (h : fieldsS ((Rd.new xs).to head) = (D, f)) (hi : D.why = 0 → D.wat = 0) (hf : finS D f head = (x, y)) :
  (readF xs head).2 = (x, y) ∧ (x = 0 → f = (readF xs head).1 ∧ y = 0) := by
 rw [readF_of h, hf]
 by_cases hx : x = 0
 ·have hy : y = 0 := by
   unfold finS at hf
   split at hf
   ·cases hf; exact absurd hx (by decide)
   ·cases hf; exact endS_inv hi hx
  subst hx; subst hy
  rw [if_neg (by simp)]
  exact ⟨rfl, fun _ => ⟨rfl, rfl⟩⟩
 ·rw [if_pos hx]
  exact ⟨rfl, fun e => absurd e hx⟩
theorem fields_kind {D0 D1 : Rd} {v : Nat} (h : countS D0 6 = (D1, v)) (hw : ¬ (D1.why = 0 ∧ v = 0)) : fieldsS D0 = kindS D1 v := by
 unfold fieldsS; rw [someS_some h hw]
theorem fields_none {D0 D1 : Rd} {v : Nat} (h : countS D0 6 = (D1, v)) (hw : D1.why = 0 ∧ v = 0) : (fieldsS D0).1 = D0.fail 70 D0.at_ := by
 obtain ⟨h1, rfl⟩ := hw
 unfold fieldsS
 rw [someS_none h h1]
 exact kindS_bad (by show (70 : Int) ≠ 0; decide) _
theorem pair_of {α β : Type} (p : α × β) : p = (p.1, p.2) := rfl
section
variable {W : World} {g g2 : Nat} {tmps : Array Value} {F : Fr} {x y : Int} {R : Ending → World → Prop}
theorem door_out (hp : tmps.getD 4 undef = .pointer (some ⟨g, 0, none⟩)) (hq : tmps.getD 5 undef = .pointer (some ⟨g2, 0, none⟩)) (hF : F.at_ 48 W g) (hX : W.heap[g2]? = some (.cells (fv x y) 28 (0, 0)))
  (hR : R (.returned (.tuple #[.agg F.arr, .agg (fv x y)])) W) : Leaves Tryz.prog Tryz.f70 tmps R [] .returning W :=
 ⟨_, results_cell_row2 (P := Tryz.prog) (fn := Tryz.f70) (p := 4) (q := 5) rfl tmps W g g2 48 28 F.arr (fv x y) (0, 0) (0, 0) _ _ hp hF.blk Tryz.underlying48 rfl (by rw [Fr.arr_size F hF.tool]; kernel_rfl) hq hX Tryz.underlying28 rfl (fv_size x y), hR⟩
theorem door_idle (hp : tmps.getD 4 undef = .pointer (some ⟨g, 0, none⟩)) (hq : tmps.getD 5 undef = .pointer (some ⟨g2, 0, none⟩)) (hF : F.at_ 48 W g) (hX : W.heap[g2]? = some (.cells (fv x y) 28 (0, 0)))
  (hR : R (.returned (.tuple #[.agg F.arr, .agg (fv x y)])) W) : Leaves Tryz.prog Tryz.f70 tmps R [{ target := .fn (.func 88) #[.pointer (some ⟨g2, 0, none⟩)], args := #[] }] .returning W := by
 refine leaves_cons (f := 88) (args := #[.pointer (some ⟨g2, 0, none⟩)]) (by simp) (by simp [go_sem]) ?_
 refine (catch_idle _ _).mono ?_
 rintro e u' w' ⟨rfl, rfl, rfl⟩
 exact door_out hp hq hF hX hR
theorem door_raised {Z : Array Value} (hp : tmps.getD 4 undef = .pointer (some ⟨g, 0, none⟩)) (hq : tmps.getD 5 undef = .pointer (some ⟨g2, 0, none⟩)) (hF : F.at_ 48 W g) (hX : W.heap[g2]? = some (.cells Z 28 (0, 0))) (hZ : Z.size = 2) (hgg : g ≠ g2)
  (hR : ∀ W', Only W W' (fun k => k = g2) → R (.returned (.tuple #[.agg F.arr, .agg (fv x y)])) W') : Leaves Tryz.prog Tryz.f70 tmps R [{ target := .fn (.func 88) #[.pointer (some ⟨g2, 0, none⟩)], args := #[] }] (.panicking (raisedF x y)) W := by
 refine leaves_cons (f := 88) (args := #[.pointer (some ⟨g2, 0, none⟩)]) (by simp) (by simp [go_sem]) ?_
 refine (catch_raised g2 x y Z [] W hX hZ).mono ?_
 rintro e u' w' ⟨rfl, rfl, hk, ho⟩
 have hs : settle (.panicking [{ v := .iface 28 (.agg (fv x y)), recovered := true }]) = .returning := by simp [settle]
 show Leaves _ _ _ _ _ (settle (.panicking [{ v := .iface 28 (.agg (fv x y)), recovered := true }])) _
 rw [hs]
 exact door_out hp hq (hF.only ho hgg) hk (hR w' ho)
end
theorem storeAt_all {P : Program} (W : World) (g : Nat) (ty t : TypeId) (cells cur : Array Value) (hg : W.heap[g]? = some (.cells cur t (0, 0))) (hfit : cur.size = cells.size) (hi : (P.info? ty).map (·.size) = some cells.size) (h1 : cells.all (·.oneCell') = true) :
  (Instr.storeAt ty (.pointer (some ⟨g, 0, none⟩)) (.agg cells)).run P W = .ok () (W.setRow g cells) := by
 have hst := run_storeCells_at (P := P) g 0 t cells.toList 0 cur W hg (by simp [hfit]) (fun v hv => (Array.all_eq_true_iff_forall_mem.1 h1) v (by simpa using hv))
 have he : (cur.toList.take 0 ++ cells.toList ++ cur.toList.drop (0 + cells.toList.length)).toArray = cells := by
  rw [List.drop_eq_nil_of_le (by simp [hfit])]; simp
 simp only [Instr.storeAt, Instr.sureAddr, Sem.run_bind, Sem.run_pure, Result.andThen_ok]
 cases hq : P.info? ty with
 | none => simp [hq] at hi
 | some i =>
  have hs : cells.size = i.size := by simp [hq] at hi; omega
  simp only [Nat.add_zero] at hst
  rw [he] at hst
  simp [storeVar, sizeOf, typeInfo, hq, Value.cells, hs, hst]
theorem same_frame {W : World} {g : Nat} {F : Fr} (h : F.at_ 48 W g) : (Instr.storeAt 48 (.pointer (some ⟨g, 0, none⟩)) (.agg F.arr)).run Tryz.prog W = .ok () W := by
 have e := storeAt_all (P := Tryz.prog) W g 48 48 F.arr F.arr h.blk rfl (by rw [Fr.arr_size F h.tool]; kernel_rfl) (arr_one F)
 rw [e, setRow_self W g F.arr _ _ h.blk]
theorem same_fault {W : World} {g : Nat} {x y : Int} (h : W.heap[g]? = some (.cells (fv x y) 28 (0, 0))) : (Instr.storeAt 28 (.pointer (some ⟨g, 0, none⟩)) (.agg (fv x y))).run Tryz.prog W = .ok () W := by
 have e := storeAt_all (P := Tryz.prog) W g 28 28 (fv x y) (fv x y) h rfl (fv_size x y) (fv_one x y)
 rw [e, setRow_self W g (fv x y) _ _ h]
theorem put_int (x : Int) (W : World) (a : Addr) (u : Value) (hc : W.cell? a = some u) (hf : W.frozen? a = false) : (Instr.storeAt 3 (.pointer (some a)) (.int .i64 x)).run Tryz.prog W = .ok () (W.setCell a (.int .i64 x)) := by go_simp
attribute [-go_sem] Instr.loadAt Instr.storeAt
section
variable {A : Option Addr} {n cap : Nat} {xs : List Int} {w : World}
set_option maxHeartbeats 8000000 in
set_option maxRecDepth 100000 in
theorem read_any (hx : RB w A n xs) (hl : n ≤ 4194304) (head : Nat) (hh : head ≤ n) : Calls Tryz.prog 70 #[.slice A n cap, .int .i64 (head : Int)] w (ReadPost w xs head) := by
 have HXL := Lib.hid hx.len
 have hb0 := below_alloc (below_alloc (Below.refl _ w) (.cells #[.int .i64 0, .int .u64 0, .int .i64 0, .int .i64 0, .int .u8 0, .int .u8 0, .int .u8 0, .int .u8 0, .int .u8 0, .int .u8 0, .int .u8 0, .int .u8 0, .int .u8 0, .int .u8 0, .int .u8 0, .int .u8 0, .int .u8 0, .int .u8 0, .int .u8 0, .int .u8 0, .int .u8 0, .int .u8 0, .int .u8 0, .int .u8 0, .int .u8 0, .int .u8 0, .int .u8 0, .int .u8 0, .int .u8 0, .int .u8 0, .int .u8 0, .int .u8 0, .int .u8 0, .int .u8 0, .int .u8 0, .int .u8 0, .int .i64 0, .int .i64 0, .int .i64 0, .int .i64 0, .slice none 0 0, .string ⟨#[]⟩] 48)) (.cells #[.int .i64 0, .int .i64 0] 28)
 have hg0 : ((w.alloc (.cells #[.int .i64 0, .int .u64 0, .int .i64 0, .int .i64 0, .int .u8 0, .int .u8 0, .int .u8 0, .int .u8 0, .int .u8 0, .int .u8 0, .int .u8 0, .int .u8 0, .int .u8 0, .int .u8 0, .int .u8 0, .int .u8 0, .int .u8 0, .int .u8 0, .int .u8 0, .int .u8 0, .int .u8 0, .int .u8 0, .int .u8 0, .int .u8 0, .int .u8 0, .int .u8 0, .int .u8 0, .int .u8 0, .int .u8 0, .int .u8 0, .int .u8 0, .int .u8 0, .int .u8 0, .int .u8 0, .int .u8 0, .int .u8 0, .int .i64 0, .int .i64 0, .int .i64 0, .int .i64 0, .slice none 0 0, .string ⟨#[]⟩] 48)).alloc (.cells #[.int .i64 0, .int .i64 0] 28)).heap[w.heap.size]? = some (.cells (kF 0).arr 48 (0, 0)) := (heap_alloc_old _ _ (by simp)).trans (heap_alloc_new w _)
 have hf0 : ((w.alloc (.cells #[.int .i64 0, .int .u64 0, .int .i64 0, .int .i64 0, .int .u8 0, .int .u8 0, .int .u8 0, .int .u8 0, .int .u8 0, .int .u8 0, .int .u8 0, .int .u8 0, .int .u8 0, .int .u8 0, .int .u8 0, .int .u8 0, .int .u8 0, .int .u8 0, .int .u8 0, .int .u8 0, .int .u8 0, .int .u8 0, .int .u8 0, .int .u8 0, .int .u8 0, .int .u8 0, .int .u8 0, .int .u8 0, .int .u8 0, .int .u8 0, .int .u8 0, .int .u8 0, .int .u8 0, .int .u8 0, .int .u8 0, .int .u8 0, .int .i64 0, .int .i64 0, .int .i64 0, .int .i64 0, .slice none 0 0, .string ⟨#[]⟩] 48)).alloc (.cells #[.int .i64 0, .int .i64 0] 28)).heap[w.heap.size + 1]? = some (.cells (fv 0 0) 28 (0, 0)) := by
  have := heap_alloc_new (w.alloc (.cells #[.int .i64 0, .int .u64 0, .int .i64 0, .int .i64 0, .int .u8 0, .int .u8 0, .int .u8 0, .int .u8 0, .int .u8 0, .int .u8 0, .int .u8 0, .int .u8 0, .int .u8 0, .int .u8 0, .int .u8 0, .int .u8 0, .int .u8 0, .int .u8 0, .int .u8 0, .int .u8 0, .int .u8 0, .int .u8 0, .int .u8 0, .int .u8 0, .int .u8 0, .int .u8 0, .int .u8 0, .int .u8 0, .int .u8 0, .int .u8 0, .int .u8 0, .int .u8 0, .int .u8 0, .int .u8 0, .int .u8 0, .int .u8 0, .int .i64 0, .int .i64 0, .int .i64 0, .int .i64 0, .slice none 0 0, .string ⟨#[]⟩] 48)) (.cells #[.int .i64 0, .int .i64 0] 28)
  simpa [fv] using this
 have hF0 : (kF 0).at_ 48 ((w.alloc (.cells #[.int .i64 0, .int .u64 0, .int .i64 0, .int .i64 0, .int .u8 0, .int .u8 0, .int .u8 0, .int .u8 0, .int .u8 0, .int .u8 0, .int .u8 0, .int .u8 0, .int .u8 0, .int .u8 0, .int .u8 0, .int .u8 0, .int .u8 0, .int .u8 0, .int .u8 0, .int .u8 0, .int .u8 0, .int .u8 0, .int .u8 0, .int .u8 0, .int .u8 0, .int .u8 0, .int .u8 0, .int .u8 0, .int .u8 0, .int .u8 0, .int .u8 0, .int .u8 0, .int .u8 0, .int .u8 0, .int .u8 0, .int .u8 0, .int .i64 0, .int .i64 0, .int .i64 0, .int .i64 0, .slice none 0 0, .string ⟨#[]⟩] 48)).alloc (.cells #[.int .i64 0, .int .i64 0] 28)) w.heap.size := ⟨hg0, rfl⟩
 have hmf : ∀ (fn : Fn) (first cap : Array Value) (w : World), (Instr.makeFunc fn first cap).run Tryz.prog w = .ok (.func fn first cap) w := fun _ _ _ _ => rfl
 clear hg0
 go_enter_defers Tryz.func70, Tryz.ntmps70
 go_upto_region 1 with (fail)
 generalize hw1 : (w.alloc (.cells #[.int .i64 0, .int .u64 0, .int .i64 0, .int .i64 0, .int .u8 0, .int .u8 0, .int .u8 0, .int .u8 0, .int .u8 0, .int .u8 0, .int .u8 0, .int .u8 0, .int .u8 0, .int .u8 0, .int .u8 0, .int .u8 0, .int .u8 0, .int .u8 0, .int .u8 0, .int .u8 0, .int .u8 0, .int .u8 0, .int .u8 0, .int .u8 0, .int .u8 0, .int .u8 0, .int .u8 0, .int .u8 0, .int .u8 0, .int .u8 0, .int .u8 0, .int .u8 0, .int .u8 0, .int .u8 0, .int .u8 0, .int .u8 0, .int .i64 0, .int .i64 0, .int .i64 0, .int .i64 0, .slice none 0 0, .string ⟨#[]⟩] 48)).alloc (.cells #[.int .i64 0, .int .i64 0] 28) = w1 at *
 go_upto_region 2 with (fail)
 clear hw1
 obtain ⟨g, hg⟩ : ∃ g, w.heap.size = g := ⟨_, rfl⟩
 obtain ⟨g2, hg2⟩ : ∃ g2, w.heap.size + 1 = g2 := ⟨_, rfl⟩
 have HG := Lib.hid hg
 have HG2 := Lib.hid hg2
 have hgg : g ≠ g2 := by omega
 rw [hg] at hF0
 rw [hg2] at hf0
 rw [hg2, hg]
 have hxb := hx.below hb0
 clear hg hg2 hx
 go_wp2_with fail
 refine (NewReader_any A n cap xs _ hxb (by omega)).mono ?_
 rintro e w2 ⟨r, A', c, rfl, hR, hnew, hb1⟩
 have hF1 := hF0.below hb1
 have hX1 := (hb1.block _ (lt_of_block hf0)).trans hf0
 have hbw := below_step hb0 hb1
 have hs : ¬ rdf r A' g := fun e => by have := hnew _ e; have := hF0.lt; omega
 have hs2 : ¬ rdf r A' g2 := fun e => by have := hnew _ e; have := lt_of_block hf0; omega
 have hr2 : ¬ g2 = r := fun e => hs2 (.inl e)
 have HRW : Hid (w.heap.size ≤ r) := Lib.hid (Nat.le_trans hb0.size (hnew r (.inl rfl)))
 clear hb0 hb1 hf0 hF0 hnew hxb
 go_wp2_with fail
 refine (Raw_any hR (head : Int) (by omega)).mono ?_
 rintro e w3 ⟨D0, v0, t0, rfl, HR, hO, hR1, ho⟩
 have HD0 := Lib.hid (raw_head HXL.out hh HR.out)
 have hF2 := hF1.only ho (notr hs)
 have hX2 := ho.kept hX1 hr2
 have hbx := Below.only hbw ho hbw.size (fun k e => e ▸ HRW.out)
 clear hR HR hO ho hF1 hX1 hbw hh
 go_wp2_with fail
 refine (part_any hR1 6 (by omega)).mono ?_
 rintro e w4 ⟨D1, v, HC, hR2, ho2, (⟨HV, rfl⟩ | ⟨HV, rfl⟩)⟩
 ·have hF3 := hF2.only ho2 (notr hs)
  have hX3 := ho2.kept hX2 hr2
  have hby := Below.only hbx ho2 hbx.size (fun k e => e ▸ HRW.out)
  have q0 := put_int (v : Int) w4 _ _ hF3.c0 (hF3.fz 0)
  have hF4 := hF3.set0 (v : Int)
  have ho3 := Fr.only_at w4 g 0 (.int .i64 (v : Int))
  have hR4 := hR2.only ho3 (sepg hs)
  have hX4 := ho3.kept hX3 (fun e => hgg e.symm)
  have hbz := Below.only hby ho3 hby.size (fun k e => by have := HG.out; omega)
  replace hF4 : (kF (v : Int)).at_ 48 (w4.setCell ⟨g, 0, none⟩ (.int .i64 (v : Int))) g := hF4
  clear hR1 hF2 hX2 hbx ho2 hF3 hX3 hby ho3 hR2
  go_upto_region 5 with (fail)
  clear q0
  generalize w4.setCell ⟨g, 0, none⟩ (.int .i64 (v : Int)) = w5 at *
  have e0 := load_int hF4.c0
  by_cases hw : D1.why = 0
  ·have hv1 : 1 ≤ v := by have := HV.out; omega
   have hv6 : v ≤ 6 := by have := count_le (by omega) HC.out; omega
   have hen := read_enters (v : Int) (by omega) (by omega)
   have HKF := fields_kind HC.out HV.out
   clear hw
   go_wp2_with fail
   refine (of_any (v : Int) (by omega) (by omega) _).mono ?_
   rintro e w6 ⟨rfl, hb6⟩
   have hbK := below_alloc (Below.refl w6.heap.size w6) (.cells #[.nilFunc, .nilFunc, .nilFunc, .nilFunc] 142)
   have hblk := heap_alloc_new w6 (.cells #[.nilFunc, .nilFunc, .nilFunc, .nilFunc] 142)
   have h4 : (#[.nilFunc, .nilFunc, .nilFunc, .nilFunc] : Array Value).size = (kV (v : Int)).size := rfl
   have hsz := kind_size (k := (v : Int))
   have hone := kind_one (v : Int)
   obtain ⟨KK, hKK⟩ : ∃ KK, kV (v : Int) = KK := ⟨_, rfl⟩
   have hk1 : KK[1]? = some (.func (.func (readN (v : Int))) #[] #[]) := by rw [← hKK]; rfl
   rw [hKK] at h4 hsz hone ⊢
   clear hKK e0
   go_upto_region 6 with ((with_reducible show wpList _ _ _ (Oper.mk none _ _ _ _ _ :: _) _ _); refine wpList_store_row rfl 142 (.tmp 7) (.tmp 22) rfl w6.heap.size KK rfl rfl 142 _ hblk hsz h4 hone ?_)
   have hb7 := below_setRow (below_step hb6 hbK) hb6.size KK
   have hK := setRow_heap _ w6.heap.size _ KK _ _ hblk
   have hF5 := hF4.below hb7
   have hR5 := hR4.below hb7
   have hX5 := (hb7.block _ (lt_of_block hX4)).trans hX4
   have hbq := below_step hbz hb7
   clear hF4 hR4 hX4 hbz hb7 hbK hblk h4 hsz hone hb6
   generalize (w6.alloc (.cells #[.nilFunc, .nilFunc, .nilFunc, .nilFunc] 142)).setRow w6.heap.size KK = w7 at *
   generalize w6.heap.size = gk at *
   have e1 := load_read (by rw [cell_of_row w7 gk 1 _ _ _ hK]; exact hk1)
   clear hK hk1
   go_wp2_with fail
   refine (kind_read v hv1 hv6 hR5 (by omega) hF5 hs).mono ?_
   rintro e w8 (⟨D2, F, rfl, HK, hR6, hF6, hok, hfr, ho6⟩ | ⟨F, rfl, HK, hF6, ho6⟩)
   ·have hX6 := ho6.kept hX5 (fun e => e.elim hr2 (fun e => hgg e.symm))
    have hbr := Below.only hbq ho6 hbq.size (fun k e => e.elim (fun e => e ▸ HRW.out) (fun e => by have := HG.out; omega))
    have HKF2 : Hid (fieldsS ((Rd.new xs).to head) = (D2, F.core)) := Lib.hid (by rw [← HD0.out, HKF, HK.out])
    have hoa := hfr.less hbq.size
    have HFA : Hid (∀ a, F.A = some a → ¬ a.block = r ∧ ¬ a.block = g2) := Lib.hid (fun a e => by have := hfr.fresh a e; have := lt_of_block hR5.rk; have := lt_of_block hX5; omega)
    clear hbq ho6 hX5 hR5 hF5 HK HKF hfr e1 hen
    go_wp2_with fail
    refine (End_any hR6).mono ?_
    rintro e w9 ⟨rfl, hR7, ho7⟩
    have hF7 := hF6.only ho7 (notr hs)
    have hX7 := ho7.kept hX6 hr2
    have hbs := Below.only hbr ho7 hbr.size (fun k e => e ▸ HRW.out)
    obtain ⟨D3, hD3⟩ : ∃ D3, endS D2 = D3 := ⟨_, rfl⟩
    have hfin : finS D2 F.core head = if D3.why = 0 ∧ F.k = 3 ∧ F.st ≠ 1 ∧ F.body.size ≠ 0 then (70, (head : Int)) else (D3.why, D3.wat) := by unfold finS; rw [hD3]; rfl
    have HINV := Lib.hid hR6.inv
    have HIV3 : Hid (D3.why = 0 → D3.wat = 0) := Lib.hid (by rw [← hD3]; exact endS_inv HINV.out)
    rw [hD3] at hR7 ⊢
    clear hD3
    have hR8 := hR7
    clear hR8 hR6 hR7
    obtain ⟨x, hx⟩ : ∃ x, D3.why = x := ⟨_, rfl⟩
    obtain ⟨y, hy⟩ : ∃ y, D3.wat = y := ⟨_, rfl⟩
    rw [hx, hy] at hfin HIV3
    rw [hx, hy]
    have HFIN := Lib.hid hfin
    clear hx hy hfin
    have hsz2 := fv_size x y
    go_upto_region 9 with ((with_reducible show wpList _ _ _ (Oper.mk none _ _ _ _ _ :: _) _ _); refine wpList_store_row rfl 28 (.tmp 5) (.tmp 30) rfl g2 (fv x y) rfl rfl 28 _ hX7 hsz2 rfl (fv_one x y) ?_)
    have hX8 := setRow_heap _ g2 _ (fv x y) _ _ hX7
    have hF8 := hF7.only (Fr.only_row w9 g2 (fv x y)) hgg
    have hbt := below_setRow (cs := fv x y) hbs (g := g2) (by have := HG2.out; omega)
    have hok8 : F.ok (w9.setRow g2 (fv x y)) := ⟨hok.tool, (hok.args.apart ho7 (fun a e => (HFA.out a e).1)).apart (Fr.only_row w9 g2 (fv x y)) (fun a e => (HFA.out a e).2)⟩
    have hoa8 := (hoa.only ho7 (fun a e => (HFA.out a e).1)).only (Fr.only_row w9 g2 (fv x y)) (fun a e => (HFA.out a e).2)
    clear hF7 hbs hok hX7 ho7 hsz2 hoa
    generalize w9.setRow g2 (fv x y) = w10 at *
    have eX : (Instr.loadAt 28 (.pointer (some ⟨g2, 0, none⟩))).run Tryz.prog w10 = .ok (.agg #[.int .i64 x, .int .i64 y]) w10 := load_fault hX8
    have hif : (Tryz.prog.info? 48).map (·.size) = some F.cells.length := by have := Fr.arr_size F hF8.tool; rw [frame_size]; simp [Fr.arr] at this; rw [this]
    have hdr := below_drew (Below.refl w10.heap.size w10)
    have hFd := hF8.below hdr
    have hXd := (hdr.block _ (lt_of_block hX8)).trans hX8
    have eF := load_frame F hif w10.drew g hFd
    have eXd : (Instr.loadAt 28 (.pointer (some ⟨g2, 0, none⟩))).run Tryz.prog w10.drew = .ok (.agg #[.int .i64 x, .int .i64 y]) w10.drew := load_fault hXd
    have sF := same_frame hFd
    have sX : (Instr.storeAt 28 (.pointer (some ⟨g2, 0, none⟩)) (.agg #[.int .i64 x, .int .i64 y])).run Tryz.prog w10.drew = .ok () w10.drew := same_fault hXd
    have eK := load_int hF8.c0
    have eS := load_int hF8.c36
    have eB := load_str hF8.c41
    have hz : ∀ W : World, (Instr.build 28 #[]).run Tryz.prog W = .ok (.agg #[.int .i64 0, .int .i64 0]) W := fun W => by kernel_rfl
    have hbe := body_empty F.body
    have hqg : Tryz.prog.eqGuardType Tryz.prog.depth 28 = false := by kernel_rfl
    have hDone : ∀ (HP : finS D2 F.core head = (x, y)) , ReadPost w xs head (.returned (.tuple #[.agg F.arr, .agg (fv x y)])) w10.drew := fun HP => ⟨F, x, y, rfl, hF8.tool, Lib.hid (read_fin HKF2.out HINV.out HP), fun _ => ⟨hok8.below hdr, hoa8.below hdr⟩, below_step hbt hdr⟩
    have HDone := Lib.hid hDone
    clear hDone hif
    by_cases h0 : x = 0
    ·have heq := run_fault x y true (by rw [h0, HIV3.out h0]; rfl)
     by_cases hk : F.k = 3
     ·have bk : (F.k == 3) = true := by rw [beq_iff_eq]; exact hk
      by_cases hst : F.st = 1
      ·have bs : (F.st != 1) = false := by simp [hst]
       have HP : Hid (finS D2 F.core head = (x, y)) := Lib.hid (by rw [HFIN.out, if_neg (fun e => e.2.2.1 hst)])
       clear hbe hk hst h0
       go_wp2_with fail
       go_region_law (fail)
       all_goals ((try go_wp2_with fail); exact door_idle (by rfl) (by rfl) hFd hXd (HDone.out HP.out))
      ·have bs : (F.st != 1) = true := by simp [hst]
       by_cases hb0 : F.body.size = 0
       ·have b0 : F.body.toList.isEmpty = true := by rw [hbe]; exact decide_eq_true hb0
        have HP : Hid (finS D2 F.core head = (x, y)) := Lib.hid (by rw [HFIN.out, if_neg (fun e => e.2.2.2 hb0)])
        clear hbe hk hst h0 hb0
        go_wp2_with fail
        go_region_law (fail)
        all_goals ((try go_wp2_with fail); exact door_idle (by rfl) (by rfl) hFd hXd (HDone.out HP.out))
       ·have b0 : F.body.toList.isEmpty = false := by rw [hbe]; exact decide_eq_false hb0
        have HP : Hid (finS D2 F.core head = (70, (head : Int))) := Lib.hid (by rw [HFIN.out, if_pos ⟨h0, hk, hst, hb0⟩])
        clear hbe hk hst h0 hb0
        have hb2 : ∀ (x y : Int) (W : World), (Instr.build 28 #[(0, .int .i64 x), (1, .int .i64 y)]).run Tryz.prog W = .ok (.agg #[.int .i64 x, .int .i64 y]) W := fun x y W => by kernel_rfl
        have hszq := fv_size 70 (head : Int)
        clear sF sX eF eXd hFd hXd hdr
        go_upto_region 11 with ((with_reducible show wpList _ _ _ (Oper.mk none _ _ _ _ _ :: _) _ _); refine wpList_store_row rfl 28 (.tmp 5) (.tmp 50) rfl g2 (fv 70 (head : Int)) rfl rfl 28 _ hX8 hszq rfl (fv_one _ _) ?_)
        have hX9 := setRow_heap _ g2 _ (fv 70 (head : Int)) _ _ hX8
        have hF9 := hF8.only (Fr.only_row w10 g2 (fv 70 (head : Int))) hgg
        have hbu := below_setRow (cs := fv 70 (head : Int)) hbt (g := g2) (by have := HG2.out; omega)
        have hDone : ReadPost w xs head (.returned (.tuple #[.agg F.arr, .agg (fv 70 (head : Int))])) (w10.setRow g2 (fv 70 (head : Int))).drew := ⟨F, 70, (head : Int), rfl, hF9.tool, Lib.hid (read_fin HKF2.out HINV.out HP.out), fun e => absurd e (by decide), below_step hbu (below_drew (Below.refl _ _))⟩
        have HDone2 := Lib.hid hDone
        clear hF8 hbt hX8 hDone eX eK eS eB
        generalize w10.setRow g2 (fv 70 (head : Int)) = w11 at *
        have hdr := below_drew (Below.refl w11.heap.size w11)
        have hFd := hF9.below hdr
        have hXd := (hdr.block _ (lt_of_block hX9)).trans hX9
        have eXd := load_fault hXd
        have hif : (Tryz.prog.info? 48).map (·.size) = some F.cells.length := by have := Fr.arr_size F hF9.tool; rw [frame_size]; simp [Fr.arr] at this; rw [this]
        have eF := load_frame F hif w11.drew g hFd
        have sF := same_frame hFd
        have sX := same_fault hXd
        clear hif
        go_wp2_with fail
        go_region_law (fail)
        all_goals ((try go_wp2_with fail); exact door_idle (by rfl) (by rfl) hFd hXd HDone2.out)
     ·have bk : (F.k == 3) = false := by rw [beq_eq_false_iff_ne]; exact hk
      have HP : Hid (finS D2 F.core head = (x, y)) := Lib.hid (by rw [HFIN.out, if_neg (fun e => hk e.2.1)])
      clear hbe hk h0
      go_wp2_with fail
      go_region_law (fail)
      all_goals ((try go_wp2_with fail); exact door_idle (by rfl) (by rfl) hFd hXd (HDone.out HP.out))
    ·have heq := run_fault x y false (by rw [Bool.and_eq_false_iff]; left; rw [beq_eq_false_iff_ne]; exact h0)
     have HP : Hid (finS D2 F.core head = (x, y)) := Lib.hid (by rw [HFIN.out, if_neg (fun e => h0 e.1)])
     clear hbe h0
     go_wp2_with fail
     go_region_law (fail)
     all_goals ((try go_wp2_with fail); exact door_idle (by rfl) (by rfl) hFd hXd (HDone.out HP.out))
   ·have hX6 := ho6.kept hX5 (fun e => e.elim hr2 (fun e => hgg e.symm))
    have hbr := Below.only hbq ho6 hbq.size (fun k e => e.elim (fun e => e ▸ HRW.out) (fun e => by have := HG.out; omega))
    have HB : Hid ((readF xs head).2 = ((70 : Int), (kindS D1 v).1.wat)) := Lib.hid (by
     have e2 : fieldsS ((Rd.new xs).to head) = ((kindS D1 v).1, (kindS D1 v).2) := by rw [← HD0.out, HKF]
     rw [read_bad e2 (by rw [HK.out]; decide), HK.out])
    refine door_raised (Z := fv 0 0) rfl rfl hF6 hX6 rfl hgg (fun W' ho' => ?_)
    exact ⟨F, 70, _, rfl, hF6.tool, Lib.hid ⟨HB.out, fun e => absurd e (by decide)⟩, fun e => absurd e (by decide), Below.only hbr ho' hbr.size (fun k e => by have := HG2.out; omega)⟩
  ·have hv0 := count_zero HC.out hw
   subst hv0
   have HKF := fields_kind HC.out HV.out
   have HWB := Lib.hid hw
   go_wp2_with fail
   refine (of_bad (0 : Int) (by omega) _).mono ?_
   rintro e w6 ⟨rfl, hb6⟩
   have hbK := below_alloc (Below.refl w6.heap.size w6) (.cells #[.nilFunc, .nilFunc, .nilFunc, .nilFunc] 142)
   have hblk := heap_alloc_new w6 (.cells #[.nilFunc, .nilFunc, .nilFunc, .nilFunc] 142)
   have hsz : (Tryz.prog.info? 142).map (·.size) = some (#[.nilFunc, .nilFunc, .nilFunc, .nilFunc] : Array Value).size := kind_size4
   clear e0 hw
   go_upto_region 6 with ((with_reducible show wpList _ _ _ (Oper.mk none _ _ _ _ _ :: _) _ _); refine wpList_store_row rfl 142 (.tmp 7) (.tmp 22) rfl w6.heap.size #[.nilFunc, .nilFunc, .nilFunc, .nilFunc] rfl rfl 142 _ hblk hsz rfl (by simp [Value.oneCell']) ?_)
   have hb7 := below_setRow (below_step hb6 hbK) hb6.size #[.nilFunc, .nilFunc, .nilFunc, .nilFunc]
   have hF6 := hF4.below hb7
   have hR6 := hR4.below hb7
   have hX6 := (hb7.block _ (lt_of_block hX4)).trans hX4
   have hbr := below_step hbz hb7
   obtain ⟨F, hF⟩ : ∃ F, kF ((0 : Nat) : Int) = F := ⟨_, rfl⟩
   have HKF2 : Hid (fieldsS ((Rd.new xs).to head) = (D1, F.core)) := Lib.hid (by rw [← HD0.out, HKF, ← hF, pair_of (kindS D1 0), kindS_bad HWB.out]; rfl)
   have hok : F.ok ((w6.alloc (.cells #[.nilFunc, .nilFunc, .nilFunc, .nilFunc] 142)).setRow w6.heap.size #[.nilFunc, .nilFunc, .nilFunc, .nilFunc]) := by rw [← hF]; exact ⟨rfl, rt_none _ rfl rfl rfl⟩
   have hoa : OwnA ((w6.alloc (.cells #[.nilFunc, .nilFunc, .nilFunc, .nilFunc] 142)).setRow w6.heap.size #[.nilFunc, .nilFunc, .nilFunc, .nilFunc]) w.heap.size F := by rw [← hF]; exact OwnA.none _ _ ⟨rfl, rfl, rfl, rfl⟩
   have HFA : Hid (∀ a, F.A = some a → ¬ a.block = r ∧ ¬ a.block = g2) := Lib.hid (fun a e => by rw [← hF] at e; cases e)
   rw [hF] at hF6
   clear hF4 hR4 hX4 hbz hb7 hbK hblk hsz hb6 hF HKF
   generalize (w6.alloc (.cells #[.nilFunc, .nilFunc, .nilFunc, .nilFunc] 142)).setRow w6.heap.size #[.nilFunc, .nilFunc, .nilFunc, .nilFunc] = w8 at *
   obtain ⟨D2, hD2⟩ : ∃ D2, D1 = D2 := ⟨_, rfl⟩
   rw [hD2] at HKF2 hR6
   go_wp2_with fail
   refine (End_any hR6).mono ?_
   rintro e w9 ⟨rfl, hR7, ho7⟩
   have hF7 := hF6.only ho7 (notr hs)
   have hX7 := ho7.kept hX6 hr2
   have hbs := Below.only hbr ho7 hbr.size (fun k e => e ▸ HRW.out)
   obtain ⟨D3, hD3⟩ : ∃ D3, endS D2 = D3 := ⟨_, rfl⟩
   have hfin : finS D2 F.core head = if D3.why = 0 ∧ F.k = 3 ∧ F.st ≠ 1 ∧ F.body.size ≠ 0 then (70, (head : Int)) else (D3.why, D3.wat) := by unfold finS; rw [hD3]; rfl
   have HINV := Lib.hid hR6.inv
   have HIV3 : Hid (D3.why = 0 → D3.wat = 0) := Lib.hid (by rw [← hD3]; exact endS_inv HINV.out)
   rw [hD3] at hR7 ⊢
   clear hD3
   have hR8 := hR7
   clear hR8 hR6 hR7
   obtain ⟨x, hx⟩ : ∃ x, D3.why = x := ⟨_, rfl⟩
   obtain ⟨y, hy⟩ : ∃ y, D3.wat = y := ⟨_, rfl⟩
   rw [hx, hy] at hfin HIV3
   rw [hx, hy]
   have HFIN := Lib.hid hfin
   clear hx hy hfin
   have hsz2 := fv_size x y
   go_upto_region 9 with ((with_reducible show wpList _ _ _ (Oper.mk none _ _ _ _ _ :: _) _ _); refine wpList_store_row rfl 28 (.tmp 5) (.tmp 30) rfl g2 (fv x y) rfl rfl 28 _ hX7 hsz2 rfl (fv_one x y) ?_)
   have hX8 := setRow_heap _ g2 _ (fv x y) _ _ hX7
   have hF8 := hF7.only (Fr.only_row w9 g2 (fv x y)) hgg
   have hbt := below_setRow (cs := fv x y) hbs (g := g2) (by have := HG2.out; omega)
   have hok8 : F.ok (w9.setRow g2 (fv x y)) := ⟨hok.tool, (hok.args.apart ho7 (fun a e => (HFA.out a e).1)).apart (Fr.only_row w9 g2 (fv x y)) (fun a e => (HFA.out a e).2)⟩
   have hoa8 := (hoa.only ho7 (fun a e => (HFA.out a e).1)).only (Fr.only_row w9 g2 (fv x y)) (fun a e => (HFA.out a e).2)
   clear hF7 hbs hok hX7 ho7 hsz2 hoa
   generalize w9.setRow g2 (fv x y) = w10 at *
   have eX : (Instr.loadAt 28 (.pointer (some ⟨g2, 0, none⟩))).run Tryz.prog w10 = .ok (.agg #[.int .i64 x, .int .i64 y]) w10 := load_fault hX8
   have hif : (Tryz.prog.info? 48).map (·.size) = some F.cells.length := by have := Fr.arr_size F hF8.tool; rw [frame_size]; simp [Fr.arr] at this; rw [this]
   have hdr := below_drew (Below.refl w10.heap.size w10)
   have hFd := hF8.below hdr
   have hXd := (hdr.block _ (lt_of_block hX8)).trans hX8
   have eF := load_frame F hif w10.drew g hFd
   have eXd : (Instr.loadAt 28 (.pointer (some ⟨g2, 0, none⟩))).run Tryz.prog w10.drew = .ok (.agg #[.int .i64 x, .int .i64 y]) w10.drew := load_fault hXd
   have sF := same_frame hFd
   have sX : (Instr.storeAt 28 (.pointer (some ⟨g2, 0, none⟩)) (.agg #[.int .i64 x, .int .i64 y])).run Tryz.prog w10.drew = .ok () w10.drew := same_fault hXd
   have eK := load_int hF8.c0
   have eS := load_int hF8.c36
   have eB := load_str hF8.c41
   have hz : ∀ W : World, (Instr.build 28 #[]).run Tryz.prog W = .ok (.agg #[.int .i64 0, .int .i64 0]) W := fun W => by kernel_rfl
   have hbe := body_empty F.body
   have hqg : Tryz.prog.eqGuardType Tryz.prog.depth 28 = false := by kernel_rfl
   have hDone : ∀ (HP : finS D2 F.core head = (x, y)) , ReadPost w xs head (.returned (.tuple #[.agg F.arr, .agg (fv x y)])) w10.drew := fun HP => ⟨F, x, y, rfl, hF8.tool, Lib.hid (read_fin HKF2.out HINV.out HP), fun _ => ⟨hok8.below hdr, hoa8.below hdr⟩, below_step hbt hdr⟩
   have HDone := Lib.hid hDone
   clear hDone hif
   by_cases h0 : x = 0
   ·have heq := run_fault x y true (by rw [h0, HIV3.out h0]; rfl)
    by_cases hk : F.k = 3
    ·have bk : (F.k == 3) = true := by rw [beq_iff_eq]; exact hk
     by_cases hst : F.st = 1
     ·have bs : (F.st != 1) = false := by simp [hst]
      have HP : Hid (finS D2 F.core head = (x, y)) := Lib.hid (by rw [HFIN.out, if_neg (fun e => e.2.2.1 hst)])
      clear hbe hk hst h0
      go_wp2_with fail
      go_region_law (fail)
      all_goals ((try go_wp2_with fail); exact door_idle (by rfl) (by rfl) hFd hXd (HDone.out HP.out))
     ·have bs : (F.st != 1) = true := by simp [hst]
      by_cases hb0 : F.body.size = 0
      ·have b0 : F.body.toList.isEmpty = true := by rw [hbe]; exact decide_eq_true hb0
       have HP : Hid (finS D2 F.core head = (x, y)) := Lib.hid (by rw [HFIN.out, if_neg (fun e => e.2.2.2 hb0)])
       clear hbe hk hst h0 hb0
       go_wp2_with fail
       go_region_law (fail)
       all_goals ((try go_wp2_with fail); exact door_idle (by rfl) (by rfl) hFd hXd (HDone.out HP.out))
      ·have b0 : F.body.toList.isEmpty = false := by rw [hbe]; exact decide_eq_false hb0
       have HP : Hid (finS D2 F.core head = (70, (head : Int))) := Lib.hid (by rw [HFIN.out, if_pos ⟨h0, hk, hst, hb0⟩])
       clear hbe hk hst h0 hb0
       have hb2 : ∀ (x y : Int) (W : World), (Instr.build 28 #[(0, .int .i64 x), (1, .int .i64 y)]).run Tryz.prog W = .ok (.agg #[.int .i64 x, .int .i64 y]) W := fun x y W => by kernel_rfl
       have hszq := fv_size 70 (head : Int)
       clear sF sX eF eXd hFd hXd hdr
       go_upto_region 11 with ((with_reducible show wpList _ _ _ (Oper.mk none _ _ _ _ _ :: _) _ _); refine wpList_store_row rfl 28 (.tmp 5) (.tmp 50) rfl g2 (fv 70 (head : Int)) rfl rfl 28 _ hX8 hszq rfl (fv_one _ _) ?_)
       have hX9 := setRow_heap _ g2 _ (fv 70 (head : Int)) _ _ hX8
       have hF9 := hF8.only (Fr.only_row w10 g2 (fv 70 (head : Int))) hgg
       have hbu := below_setRow (cs := fv 70 (head : Int)) hbt (g := g2) (by have := HG2.out; omega)
       have hDone : ReadPost w xs head (.returned (.tuple #[.agg F.arr, .agg (fv 70 (head : Int))])) (w10.setRow g2 (fv 70 (head : Int))).drew := ⟨F, 70, (head : Int), rfl, hF9.tool, Lib.hid (read_fin HKF2.out HINV.out HP.out), fun e => absurd e (by decide), below_step hbu (below_drew (Below.refl _ _))⟩
       have HDone2 := Lib.hid hDone
       clear hF8 hbt hX8 hDone eX eK eS eB
       generalize w10.setRow g2 (fv 70 (head : Int)) = w11 at *
       have hdr := below_drew (Below.refl w11.heap.size w11)
       have hFd := hF9.below hdr
       have hXd := (hdr.block _ (lt_of_block hX9)).trans hX9
       have eXd := load_fault hXd
       have hif : (Tryz.prog.info? 48).map (·.size) = some F.cells.length := by have := Fr.arr_size F hF9.tool; rw [frame_size]; simp [Fr.arr] at this; rw [this]
       have eF := load_frame F hif w11.drew g hFd
       have sF := same_frame hFd
       have sX := same_fault hXd
       clear hif
       go_wp2_with fail
       go_region_law (fail)
       all_goals ((try go_wp2_with fail); exact door_idle (by rfl) (by rfl) hFd hXd HDone2.out)
    ·have bk : (F.k == 3) = false := by rw [beq_eq_false_iff_ne]; exact hk
     have HP : Hid (finS D2 F.core head = (x, y)) := Lib.hid (by rw [HFIN.out, if_neg (fun e => hk e.2.1)])
     clear hbe hk h0
     go_wp2_with fail
     go_region_law (fail)
     all_goals ((try go_wp2_with fail); exact door_idle (by rfl) (by rfl) hFd hXd (HDone.out HP.out))
   ·have heq := run_fault x y false (by rw [Bool.and_eq_false_iff]; left; rw [beq_eq_false_iff_ne]; exact h0)
    have HP : Hid (finS D2 F.core head = (x, y)) := Lib.hid (by rw [HFIN.out, if_neg (fun e => h0 e.1)])
    clear hbe h0
    go_wp2_with fail
    go_region_law (fail)
    all_goals ((try go_wp2_with fail); exact door_idle (by rfl) (by rfl) hFd hXd (HDone.out HP.out))
 ·have hF3 := hF2.only ho2 (notr hs)
  have hX3 := ho2.kept hX2 hr2
  have hby := Below.only hbx ho2 hbx.size (fun k e => e ▸ HRW.out)
  have HB : Hid ((readF xs head).2 = ((70 : Int), (D0.at_ : Int))) := Lib.hid (by
   have e2 : fieldsS ((Rd.new xs).to head) = (D0.fail 70 D0.at_, (fieldsS D0).2) := by rw [← HD0.out, ← fields_none HC.out HV.out]
   exact read_bad e2 (by show (70 : Int) ≠ 0; decide))
  refine door_raised (Z := fv 0 0) rfl rfl hF3 hX3 rfl hgg (fun W' ho' => ?_)
  exact ⟨kF 0, 70, _, rfl, hF3.tool, Lib.hid ⟨HB.out, fun e => absurd e (by decide)⟩, fun e => absurd e (by decide), Below.only hby ho' hby.size (fun k e => by have := HG2.out; omega)⟩
end
end Go.Proofs.YtpjpgcjhdbiepaaGreat
end
section
namespace CrcM
abbrev W := BitVec 32
def poly : W := 0x82f63b78#32
def M (c : W) : W := if c.getLsbD 0 then (c >>> 1) ^^^ poly else c >>> 1
def Mn : Nat → W → W
 | 0, c => c
 | n + 1, c => Mn n (M c)
theorem xlc (a b c : W) : a ^^^ (b ^^^ c) = b ^^^ (a ^^^ c) := by rw [← BitVec.xor_assoc, BitVec.xor_comm a b, BitVec.xor_assoc]
theorem xself (a b : W) : a ^^^ (a ^^^ b) = b := by rw [← BitVec.xor_assoc]; simp
theorem M_xor (a b : W) : M (a ^^^ b) = M a ^^^ M b := by
 unfold M
 rw [BitVec.getLsbD_xor, BitVec.ushiftRight_xor_distrib]
 cases a.getLsbD 0 <;> cases b.getLsbD 0 <;> simp [BitVec.xor_assoc, BitVec.xor_comm, xlc, xself]
theorem Mn_xor (n : Nat) : ∀ a b : W, Mn n (a ^^^ b) = Mn n a ^^^ Mn n b := by
 induction n with
 | zero => intro a b; rfl
 | succ n ih => intro a b; simp only [Mn, M_xor, ih]
def byt (x : Int) : W := BitVec.ofInt 32 x
def over (c : W) (l : List Int) : W := l.foldl (fun c x => Mn 8 (c ^^^ byt x)) c
theorem over_append (c : W) (l r : List Int) : over c (l ++ r) = over (over c l) r := by unfold over; rw [List.foldl_append]
theorem over_snoc (c : W) (x : Int) (l : List Int) : over c (l ++ [x]) = Mn 8 (over c l ^^^ byt x) := by rw [over_append]; rfl
theorem M_shl (c : W) (h : c.getLsbD 31 = false) : M (c <<< 1) = c := by
 unfold M
 rw [if_neg (by simp)]
 apply BitVec.eq_of_getLsbD_eq
 intro i hi
 rw [BitVec.getLsbD_ushiftRight, BitVec.getLsbD_shiftLeft]
 by_cases e : i = 31
 ·subst e; rw [h]; simp
 ·simp; intro; omega
theorem Mn_shl (n : Nat) : ∀ c : W, (∀ i, 32 - n ≤ i → c.getLsbD i = false) → n ≤ 32 → Mn n (c <<< n) = c := by
 induction n with
 | zero => intro c _ _; simp [Mn]
 | succ n ih =>
  intro c h hn
  rw [Mn, BitVec.shiftLeft_add, M_shl, ih c (fun i hi => h i (by omega)) (by omega)]
  rw [BitVec.getLsbD_shiftLeft]
  by_cases e : 31 < n
  ·simp [e]
  ·simp [e, h (31 - n) (by omega)]
theorem Mn8_split (y : W) : Mn 8 y = (y >>> 8) ^^^ Mn 8 (y &&& 255#32) := by
 have e : y = (y &&& 255#32) ^^^ ((y >>> 8) <<< 8) := by
  apply BitVec.eq_of_getLsbD_eq
  intro i hi
  rw [BitVec.getLsbD_xor, BitVec.getLsbD_and, BitVec.getLsbD_shiftLeft, BitVec.getLsbD_ushiftRight]
  have h255 : (255#32 : W).getLsbD i = decide (i < 8) := by
   have : ∀ j : Fin 32, (255#32 : W).getLsbD j.val = decide (j.val < 8) := by decide
   exact this ⟨i, hi⟩
  rw [h255]
  by_cases h : i < 8
  ·simp [h]
  ·simp [h, hi]; rw [show 8 + (i - 8) = i from by omega, BitVec.getLsbD_eq_getElem hi]
 have h8 : Mn 8 ((y >>> 8) <<< 8) = y >>> 8 := Mn_shl 8 _ (fun i hi => by rw [BitVec.getLsbD_ushiftRight]; exact BitVec.getLsbD_of_ge _ _ (by omega)) (by omega)
 have h := congrArg (Mn 8) e
 rw [Mn_xor, h8, BitVec.xor_comm] at h
 exact h
def b4 (d : W) : List Int := [((d &&& 255#32).toNat : Int), (((d >>> 8) &&& 255#32).toNat : Int), (((d >>> 16) &&& 255#32).toNat : Int), (((d >>> 24) &&& 255#32).toNat : Int)]
end CrcM
end
section
namespace Go.Proofs.YtpjpgcjhdbiepaaGreat
open Go.RowKit Go.Kit CrcM Go.Proofs.YtpjpgcjhdbiepaaGreatW.PrintWords

theorem u32_lt (c : W) : (c.toNat : Int) < 4294967296 := by have := c.isLt; omega
theorem and_one (c : W) : bits .and .u32 (c.toNat : Int) 1 = if c.getLsbD 0 then 1 else 0 := by
 have := u32_and_nat c.toNat 1 (by have := c.isLt; omega) (by omega)
 rw [show ((1 : Nat) : Int) = 1 from rfl] at this
 rw [this, Nat.and_one_is_mod, BitVec.getLsbD, Nat.testBit_zero]
 by_cases h : c.toNat % 2 = 1 <;> simp [h]; omega
theorem shr_one (c : W) : ((c.toNat : Nat) : Int) / (2 : Int) = ((c >>> 1).toNat : Int) := by
 rw [BitVec.toNat_ushiftRight, Nat.shiftRight_eq_div_pow]; omega
theorem shr_eight (c : W) : ((c.toNat : Nat) : Int) / (256 : Int) = ((c >>> 8).toNat : Int) := by
 rw [BitVec.toNat_ushiftRight, Nat.shiftRight_eq_div_pow]; omega
theorem xor_w (c d : W) : bits .xor .u32 (c.toNat : Int) (d.toNat : Int) = ((c ^^^ d).toNat : Int) := by
 rw [u32_xor_nat _ _ (by have := c.isLt; omega) (by have := d.isLt; omega), BitVec.toNat_xor]
theorem step_yes (c : W) (h : c.getLsbD 0 = true) : bits .xor .u32 (((c.toNat : Nat) : Int) / (2 : Int)) 2197175160 = ((M c).toNat : Int) := by
 rw [shr_one, show (2197175160 : Int) = (poly.toNat : Int) from rfl, xor_w, M, if_pos h]
theorem step_no (c : W) (h : c.getLsbD 0 = false) : ((c.toNat : Nat) : Int) / (2 : Int) = ((M c).toNat : Int) := by
 rw [shr_one, M, if_neg (by rw [h]; simp)]
theorem Mn_less (k : Nat) (hk : k < 8) (d : W) : Mn (8 - k) d = Mn (8 - (k + 1)) (M d) := by
 rw [show 8 - k = (8 - (k + 1)) + 1 from by omega]; rfl

set_option maxHeartbeats 400000 in
theorem step_any (c : W) (n : Int) (hn : n = (c.toNat : Int)) (w : World) :
  Calls Tryz.prog 139 #[.int .u32 n] w fun e w' => e = .returned (.int .u32 ((Mn 8 c).toNat : Int)) ∧ w' = w := by
 subst hn
 go_enter Tryz.func139, Tryz.ntmps139
 go_wp2
 go_loop [0, 3] (fun v0 v3 => ∃ (d : W) (k : Nat), k ≤ 8 ∧ v0 = .int .u32 (d.toNat : Int) ∧ v3 = .int .i64 (k : Int) ∧ Hid (Mn 8 c = Mn (8 - k) d)) (fun _ i => 8 - (intOf i).toNat)
 case atStart => exact ⟨c, 0, by omega, rfl, rfl, rfl⟩
 case round =>
  obtain ⟨d, k, hk, rfl, rfl, HD⟩ := hrel
  have h1 := and_one d
  by_cases hlt : k < 8
  ·have HE : Hid (Mn 8 c = Mn (8 - (k + 1)) (M d)) := (HD.out).trans (Mn_less k hlt d)
   cases hb : d.getLsbD 0
   ·rw [hb] at h1
    have HS := Lib.hid (step_no d hb)
    clear hb
    go_wp2
    go_round
    case rel => exact ⟨M d, k + 1, by omega, by rw [← HS.out], by simp, HE⟩
    case measure => simp [intOf]; omega
   ·rw [hb] at h1
    have HS := Lib.hid (step_yes d hb)
    clear hb
    go_wp2
    go_round
    case rel => exact ⟨M d, k + 1, by omega, by rw [← HS.out], by simp, HE⟩
    case measure => simp [intOf]; omega
  ·have HE : Hid (Mn 8 c = d) := by rw [HD.out, show 8 - k = 0 from by omega]; rfl
   go_wp2
   go_ret
   exact ⟨by rw [HE.out]; rfl, rfl⟩

def tabV (j : Nat) : Value := .int .u32 ((Mn 8 (BitVec.ofNat 32 j)).toNat : Int)
def tabC (i : Nat) : Array Value := Array.ofFn (n := 256) fun j => if j.val < i then tabV j.val else .int .u32 0
theorem tabC_zero : tabC 0 = Array.replicate 256 (.int .u32 0) := by
 apply Array.ext
 ·simp [tabC]
 ·intro i h1 h2; simp [tabC]
theorem tabC_size (i : Nat) : (tabC i).size = 256 := by simp [tabC]
theorem tabC_set (i : Nat) : (tabC i).setIfInBounds i (tabV i) = tabC (i + 1) := by
 apply Array.ext
 ·simp [tabC]
 ·intro j h1 h2
  have hj : j < (tabC i).size := by simpa using h1
  rw [Array.getElem_setIfInBounds hj]
  by_cases e : i = j
  ·subst e; simp [tabC]
  ·simp only [if_neg e, tabC, Array.getElem_ofFn]
   have : (j < i + 1) = (j < i) := by simp; omega
   simp [this]
theorem tabC_one (i : Nat) : (tabC i).all (·.oneCell') = true := by
 rw [Array.all_eq_true]
 intro j h
 simp only [tabC, Array.getElem_ofFn]
 split <;> rfl
theorem tabC_get (j : Nat) (hj : j < 256) : (tabC 256)[j]? = some (tabV j) := by
 rw [Array.getElem?_eq_getElem (by rw [tabC_size]; exact hj)]
 simp [tabC]
theorem info_tab : (Tryz.prog.info? 172).map (fun i => (i.zero, i.size)) = some (some (.agg (Array.replicate 256 (.int .u32 0))), 256) := by kernel_rfl

set_option maxHeartbeats 400000 in
set_option maxRecDepth 100000 in
theorem table_any (w : World) :
  Calls Tryz.prog 135 #[] w fun e w' => e = .returned (.agg (tabC 256)) ∧ Below w.heap.size w w' := by
 have hz58 := (zero_of_info info_tab).1
 have hi58 := (zero_of_info info_tab).2
 have HI := Lib.hid hi58
 clear hi58
 rw [← tabC_zero] at hz58
 go_enter Tryz.func135, Tryz.ntmps135
 go_wp2
 clear hz58
 go_loopg [3] 256 (fun g v3 wx => ∃ i : Nat, i + g = 256 ∧ v3 = .int .i64 i ∧ wx = (w.alloc (.cells (tabC 0) 172)).alloc (.cells (tabC i) 172))
 case atStart => exact ⟨0, by omega, rfl, rfl⟩
 case round =>
  obtain ⟨i, hig, rfl, rfl⟩ := hrel
  cases gk with
  | zero =>
   obtain rfl : i = 256 := by omega
   have hh1 : ((w.alloc (.cells (tabC 0) 172)).alloc (.cells (tabC 256) 172)).heap[w.heap.size + 1]? = some (.cells (tabC 256) 172 (0, 0)) := by
    have := heap_alloc_new (w.alloc (.cells (tabC 0) 172)) (.cells (tabC 256) 172)
    rwa [World.size_alloc] at this
   have hh0 : ((w.alloc (.cells (tabC 0) 172)).alloc (.cells (tabC 256) 172)).heap[w.heap.size]? = some (.cells (tabC 0) 172 (0, 0)) := by
    exact (heap_alloc_old _ _ (by simp)).trans (heap_alloc_new w _)
   have Hh1 := Lib.hid hh1
   have Hh0 := Lib.hid hh0
   have Hb : Below w.heap.size w ((w.alloc (.cells (tabC 0) 172)).alloc (.cells (tabC 256) 172)) := ((Below.refl _ _).alloc (Nat.le_refl _) _).alloc (by simp) _
   clear hh0 hh1
   generalize ((w.alloc (.cells (tabC 0) 172)).alloc (.cells (tabC 256) 172)) = W at *
   clear hig
   have Hs : Hid ((Tryz.prog.info? 172).map (·.size) = some (tabC 256).size) := by rw [tabC_size]; exact HI.out
   have Hs0 : Hid ((tabC 0).size = (tabC 256).size) := by rw [tabC_size, tabC_size]; rfl
   go_upto_region 7 with (fail)
   apply wp_region_lit
   refine wpList_load_row rfl 172 (.tmp 1) rfl (w.heap.size + 1) rfl 172 (tabC 256) (0, 0) (.array 256 112) Hh1.out Tryz.underlying172 rfl Hs.out ?_
   refine wpList_store_row rfl 172 (.tmp 0) (.tmp 12) rfl w.heap.size (tabC 256) rfl rfl 172 (tabC 0) Hh0.out Hs.out Hs0.out (tabC_one _) ?_
   have HR : Hid ((W.setRow w.heap.size (tabC 256)).heap[w.heap.size]? = some (.cells (tabC 256) 172 (0, 0))) := setRow_heap _ _ _ _ _ _ Hh0.out
   have Hb2 : Below w.heap.size w (W.setRow w.heap.size (tabC 256)) := below_setRow Hb (Nat.le_refl _) _
   generalize W.setRow w.heap.size (tabC 256) = W2 at *
   go_wp2_with fail
   refine bodyPost_ret (v := .agg (tabC 256)) (results_cell_row rfl _ W2 w.heap.size 172 (tabC 256) (0, 0) (.array 256 112) rfl HR.out Tryz.underlying172 rfl Hs.out) rfl ⟨rfl, Hb2⟩
  | succ g =>
   have hi : i < 256 := by omega
   have HG := Lib.hid hig
   clear hig
   have hn : (i : Int) = ((BitVec.ofNat 32 i).toNat : Int) := by simp; omega
   have HN := Lib.hid hn
   clear hn
   go_wp2_with fail
   refine (step_any (BitVec.ofNat 32 i) _ HN.out _).mono ?_
   rintro e w' ⟨rfl, rfl⟩
   have hv : Value.int .u32 ((Mn 8 (BitVec.ofNat 32 i)).toNat : Int) = tabV i := rfl
   have HV := Lib.hid hv
   clear hv
   generalize ((Mn 8 (BitVec.ofNat 32 i)).toNat : Int) = x at *
   have hts := tabC_size i
   go_wp2_with fail
   go_roundg g
   case measure => omega
   case rel => exact ⟨i + 1, by have := HG.out; omega, by simp, by rw [HV.out, tabC_set]⟩
end Go.Proofs.YtpjpgcjhdbiepaaGreat
end
section
namespace Go.Proofs.YtpjpgcjhdbiepaaGreat
open Go.RowKit Go.Kit CrcM Go.Proofs.YtpjpgcjhdbiepaaGreatW.PrintWords

theorem byte_of (c : W) (x : Int) (h0 : 0 ≤ x) (h1 : x < 256) :
  bits .xor .u8 ((c.toNat : Int) % 256) x = ((((c ^^^ byt x) &&& 255#32).toNat : Nat) : Int) := by
 obtain ⟨n, rfl⟩ := Int.eq_ofNat_of_zero_le h0
 have e : ((c.toNat : Int) % 256) = ((c.toNat % 256 : Nat) : Int) := by omega
 rw [e, u8_xor_nat _ _ (Nat.mod_lt _ (by omega)) (by omega)]
 congr 1
 have h255 : ((c ^^^ byt (n : Int)) &&& 255#32).toNat = (c.toNat ^^^ n) % 256 := by
  rw [BitVec.toNat_and, BitVec.toNat_xor, byt, BitVec.ofInt_natCast, BitVec.toNat_ofNat, Nat.mod_eq_of_lt (show n < 2 ^ 32 by omega)]
  exact Nat.and_two_pow_sub_one_eq_mod _ 8
 rw [h255]
 rw [show (256 : Nat) = 2 ^ 8 from rfl, Nat.xor_mod_two_pow, Nat.mod_eq_of_lt (show n < 2 ^ 8 by omega)]
theorem over_step (c : W) (x : Int) (h0 : 0 ≤ x) (h1 : x < 256) :
  bits .xor .u32 (((c.toNat : Nat) : Int) / (256 : Int)) ((Mn 8 (BitVec.ofNat 32 ((c ^^^ byt x) &&& 255#32).toNat)).toNat : Int) = ((Mn 8 (c ^^^ byt x)).toNat : Int) := by
 rw [shr_eight, xor_w]
 congr 2
 rw [Mn8_split (c ^^^ byt x)]
 congr 1
 ·apply BitVec.eq_of_getLsbD_eq
  intro i hi
  obtain ⟨n, rfl⟩ := Int.eq_ofNat_of_zero_le h0
  rw [BitVec.getLsbD_ushiftRight, BitVec.getLsbD_ushiftRight, BitVec.getLsbD_xor, byt, BitVec.ofInt_natCast, BitVec.getLsbD_ofNat, Nat.testBit_lt_two_pow (show n < 2 ^ (8 + i) from Nat.lt_of_lt_of_le (show n < 2 ^ 8 by omega) (Nat.pow_le_pow_right (by omega) (by omega)))]
  simp
 ·simp
theorem low_lt (y : W) : (y &&& 255#32).toNat < 256 := by
 rw [BitVec.toNat_and]
 exact Nat.lt_of_le_of_lt Nat.and_le_right (by decide)
theorem over_round (c : W) (x : Int) (h0 : 0 ≤ x) (h1 : x < 256) : ∃ (q : Nat) (z : Int), q < 256 ∧ (tabC 256)[q]? = some (.int .u32 z) ∧
  bits .xor .u8 ((c.toNat : Int) % 256) x = (q : Int) ∧ bits .xor .u32 (((c.toNat : Nat) : Int) / (256 : Int)) z = ((Mn 8 (c ^^^ byt x)).toNat : Int) :=
 ⟨_, _, low_lt _, tabC_get _ (low_lt (c ^^^ byt x)), byte_of c x h0 h1, over_step c x h0 h1⟩
set_option maxHeartbeats 1000000 in
set_option maxRecDepth 100000 in
theorem over_any (c : W) (n : Int) (hn : n = (c.toNat : Int)) (A : Option Addr) (len cap : Nat) (L : List (List Int)) (w : World) (hL : RBs w A len L) :
  Calls Tryz.prog 100 #[.int .u32 n, .slice A len cap] w fun e w' => e = .returned (.int .u32 ((over c L.flatten).toNat : Int)) ∧ Below w.heap.size w w' := by
 subst hn
 have hlenL := hL.len
 have HL := Lib.hid hlenL
 clear hlenL
 have hmaxL := hL.max
 have hz58 := (zero_of_info info_tab).1
 have HZ := Lib.hid hz58
 clear hz58
 have HI := Lib.hid (zero_of_info info_tab).2
 go_enter Tryz.func100, Tryz.ntmps100
 go_wp2_with fail
 refine (table_any _).mono ?_
 rintro e w1 ⟨rfl, hb1⟩
 have hz58 := HZ.out
 rw [← tabC_zero] at hz58
 have Hs : Hid ((Tryz.prog.info? 172).map (·.size) = some (tabC 256).size) := by rw [tabC_size]; exact HI.out
 have Hs0 : Hid ((tabC 0).size = (tabC 256).size) := by rw [tabC_size, tabC_size]; rfl
 have Hh : Hid ((w1.alloc (.cells (tabC 0) 172)).heap[w1.heap.size]? = some (.cells (tabC 0) 172 (0, 0))) := heap_alloc_new w1 _
 go_wp2_with (refine wpList_store_row rfl 172 (.tmp 5) (.tmp 10) rfl w1.heap.size (tabC 256) rfl rfl 172 (tabC 0) Hh.out Hs.out Hs0.out (tabC_one _) ?_)
 have HT : Hid (((w1.alloc (.cells (tabC 0) 172)).setRow w1.heap.size (tabC 256)).heap[w1.heap.size]? = some (.cells (tabC 256) 172 (0, 0))) := setRow_heap _ _ _ _ _ _ Hh.out
 have hb2 : Below w.heap.size w ((w1.alloc (.cells (tabC 0) 172)).setRow w1.heap.size (tabC 256)) := below_setRow (below_alloc hb1 _) hb1.size _
 clear Hh Hs Hs0 hz58 HZ HI hb1
 generalize ((w1.alloc (.cells (tabC 0) 172)).setRow w1.heap.size (tabC 256)) = wt at hb2 HT ⊢
 replace hL := hL.below hb2
 go_loop [0, 13] (fun v0 v13 => ∃ (d : W) (k : Nat), k ≤ len ∧ v0 = .int .u32 (d.toNat : Int) ∧ v13 = .int .i64 (k : Int) ∧ Hid (d = over c (L.take k).flatten)) (fun _ i => len - (intOf i).toNat)
 case atStart => exact ⟨c, 0, by omega, rfl, rfl, rfl⟩
 case round =>
  obtain ⟨d, k, hk, rfl, rfl, HD⟩ := hrel
  by_cases hlt : k < len
  ·obtain ⟨ad, Ai, ni, ci, xs, rfl, hcell, hr, HX⟩ := hL.at_ k hlt
   have hmx := hr.max
   go_upto_block 2 with (fail)
   go_wp2_with fail
   go_loop [0, 19] (fun v0 v19 => ∃ (d2 : W) (j : Nat), j ≤ ni ∧ v0 = .int .u32 (d2.toNat : Int) ∧ v19 = .int .i64 (j : Int) ∧ Hid (d2 = over d (xs.take j))) (fun _ i => ni - (intOf i).toNat)
   case atStart => exact ⟨d, 0, by omega, rfl, rfl, rfl⟩
   case round =>
    obtain ⟨d2, j, hj, rfl, rfl, HD2⟩ := hrel
    by_cases hlj : j < ni
    ·obtain ⟨ad2, x, rfl, hc2, h0, h1, HX2⟩ := hr.at_ j hlj
     obtain ⟨q, z, hq, hz, hby, hxo⟩ := over_round d2 x h0 h1
     have hct : wt.cell? ⟨w1.heap.size, q, none⟩ = some (.int .u32 z) := (cell_of_row wt w1.heap.size q (tabC 256) 172 (0, 0) HT.out).trans hz
     clear hz
     go_wp2
     go_round
     case rel => exact ⟨Mn 8 (d2 ^^^ byt x), j + 1, by omega, by simp, by simp, by rw [snoc HX2.out, over_snoc, ← HD2.out]; rfl⟩
     case measure => simp [intOf]; omega
    ·go_wp2
     go_round
     case rel => exact ⟨d2, k + 1, by omega, by simp, by simp, by rw [flat_snoc HX.out, over_append, ← HD.out, HD2.out, all_of (by rw [hr.len]; omega)]; rfl⟩
     case measure => simp [intOf]; omega
  ·go_wp2
   go_ret
   exact ⟨by rw [HD.out, all_of (by rw [HL.out]; omega)]; rfl, hb2⟩
end Go.Proofs.YtpjpgcjhdbiepaaGreat
end
section
namespace Go.Proofs.YtpjpgcjhdbiepaaGreat
open Go.RowKit Go.Kit CrcM Go.Proofs.YtpjpgcjhdbiepaaGreatW.PrintWords

theorem not_w (c : W) : bits .xor .u32 IntKind.u32.max ((c.toNat : Nat) : Int) = ((~~~ c).toNat : Int) := by
 rw [show IntKind.u32.max = ((BitVec.allOnes 32).toNat : Int) from by decide, xor_w]
 congr 2
def more (c : W) (l : List Int) : W := ~~~ (over (~~~ c) l)
set_option maxHeartbeats 400000 in
theorem Sum_any (A : Option Addr) (len cap : Nat) (L : List (List Int)) (w : World) (hL : RBs w A len L) :
  Calls Tryz.prog 75 #[.slice A len cap] w fun e w' => e = .returned (.int .u32 ((more 0#32 L.flatten).toNat : Int)) ∧ Below w.heap.size w w' := by
 go_enter Tryz.func75, Tryz.ntmps75
 go_wp2_with fail
 refine (over_any (~~~ 0#32) _ (by decide) A len cap L w hL).mono ?_
 rintro e w1 ⟨rfl, hb⟩
 have hnot := not_w (over (~~~ 0#32) L.flatten)
 obtain ⟨m, hm⟩ : ∃ m, m = ~~~ over (~~~ 0#32) L.flatten := ⟨_, rfl⟩
 have HM : Hid (m = more 0#32 L.flatten) := hm
 rw [← hm] at hnot
 clear hm
 generalize over (~~~ 0#32) L.flatten = d at *
 go_wp2
 go_ret
 exact ⟨by rw [← HM.out]; rfl, hb⟩
theorem Sum_one {A : Option Addr} {n cap : Nat} {xs : List Int} (t : TypeId) {w : World} (h : RB w A n xs) (ad : Option Addr) (had : ad = some ⟨w.heap.size, 0, none⟩) :
  Calls Tryz.prog 75 #[.slice ad 1 1] (w.alloc (.cells #[.slice A n cap] t)) fun e w' => ∃ s : W, e = .returned (.int .u32 (s.toNat : Int)) ∧ Hid (s = more 0#32 xs) ∧ Below w.heap.size w w' := by
 subst had
 refine (Sum_any _ 1 1 [xs] _ (RBs.one t h)).mono ?_
 rintro e w1 ⟨rfl, hb1⟩
 exact ⟨_, rfl, Lib.hid (by simp), below_then (below_alloc (Below.refl _ w) _) (by simp) hb1⟩
end Go.Proofs.YtpjpgcjhdbiepaaGreat
end
section
namespace Go.Proofs.YtpjpgcjhdbiepaaGreat
open Go.RowKit Go.Kit CrcM Go.Proofs.YtpjpgcjhdbiepaaGreatW.PrintWords

theorem byte_in (c : W) (x : Int) (h0 : 0 ≤ x) (h1 : x < 256) : bits .xor .u32 ((c.toNat : Nat) : Int) x = ((c ^^^ byt x).toNat : Int) := by
 obtain ⟨n, rfl⟩ := Int.eq_ofNat_of_zero_le h0
 have e : (n : Int) = ((byt (n : Int)).toNat : Int) := by rw [byt, BitVec.ofInt_natCast, BitVec.toNat_ofNat]; omega
 rw [show bits .xor .u32 ((c.toNat : Nat) : Int) (n : Int) = bits .xor .u32 ((c.toNat : Nat) : Int) ((byt (n : Int)).toNat : Int) from by rw [← e], xor_w]
set_option maxHeartbeats 400000 in
theorem byteOn_any (c : W) (n : Int) (hn : n = (c.toNat : Int)) (x : Int) (hx0 : 0 ≤ x) (hx1 : x < 256) (w : World) :
  Calls Tryz.prog 63 #[.int .u32 n, .int .u8 x] w fun e w' => e = .returned (.int .u32 ((Mn 8 (c ^^^ byt x)).toNat : Int)) ∧ w' = w := by
 subst hn
 have hin := byte_in c x hx0 hx1
 obtain ⟨c2, hc2⟩ : ∃ c2, c2 = c ^^^ byt x := ⟨_, rfl⟩
 rw [← hc2] at hin ⊢
 clear hc2
 go_enter Tryz.func63, Tryz.ntmps63
 go_wp2
 clear hin
 go_loop [0, 5] (fun v0 v3 => ∃ (d : W) (k : Nat), k ≤ 8 ∧ v0 = .int .u32 (d.toNat : Int) ∧ v3 = .int .i64 (k : Int) ∧ Hid (Mn 8 c2 = Mn (8 - k) d)) (fun _ i => 8 - (intOf i).toNat)
 case atStart => exact ⟨c2, 0, by omega, rfl, rfl, rfl⟩
 case round =>
  obtain ⟨d, k, hk, rfl, rfl, HD⟩ := hrel
  have h1 := and_one d
  by_cases hlt : k < 8
  ·have HE : Hid (Mn 8 c2 = Mn (8 - (k + 1)) (M d)) := (HD.out).trans (Mn_less k hlt d)
   cases hb : d.getLsbD 0
   ·rw [hb] at h1
    have HS := Lib.hid (step_no d hb)
    clear hb
    go_wp2
    go_round
    case rel => exact ⟨M d, k + 1, by omega, by rw [← HS.out], by simp, HE⟩
    case measure => simp [intOf]; omega
   ·rw [hb] at h1
    have HS := Lib.hid (step_yes d hb)
    clear hb
    go_wp2
    go_round
    case rel => exact ⟨M d, k + 1, by omega, by rw [← HS.out], by simp, HE⟩
    case measure => simp [intOf]; omega
  ·have HE : Hid (Mn 8 c2 = d) := by rw [HD.out, show 8 - k = 0 from by omega]; rfl
   go_wp2
   go_ret
   exact ⟨by rw [HE.out]; rfl, rfl⟩

set_option maxHeartbeats 400000 in
theorem rMore_any (c : W) (n : Int) (hn : n = (c.toNat : Int)) (A : Option Addr) (len cap : Nat) (xs : List Int) (w : World) (hx : RB w A len xs) :
  Calls Tryz.prog 51 #[.int .u32 n, .slice A len cap] w fun e w' => e = .returned (.int .u32 ((more c xs).toNat : Int)) ∧ w' = w := by
 subst hn
 have hnot := not_w c
 obtain ⟨b, hb0⟩ : ∃ b, b = ~~~ c := ⟨_, rfl⟩
 rw [← hb0] at hnot
 have HB := Lib.hid hb0
 clear hb0
 have hmx := hx.max
 go_enter Tryz.func51, Tryz.ntmps51
 go_wp2_with fail
 clear hnot
 go_loop [0, 5] (fun v0 v5 => ∃ (d : W) (k : Nat), k ≤ len ∧ v0 = .int .u32 (d.toNat : Int) ∧ v5 = .int .i64 (k : Int) ∧ Hid (d = over b (xs.take k))) (fun _ i => len - (intOf i).toNat)
 case atStart => exact ⟨b, 0, by omega, rfl, rfl, rfl⟩
 case round =>
  obtain ⟨d, k, hk, rfl, rfl, HD⟩ := hrel
  by_cases hlt : k < len
  ·obtain ⟨ad, x, rfl, hc, h0, h1, HX⟩ := hx.at_ k hlt
   go_wp2_with ((go_at_call 63); (refine (byteOn_any d _ rfl _ h0 h1 _).mono ?_); (rintro e w' ⟨rfl, rfl⟩))
   go_round
   case rel => exact ⟨Mn 8 (d ^^^ byt x), k + 1, by omega, by simp, by simp, by rw [snoc HX.out, over_snoc, ← HD.out]; rfl⟩
   case measure => simp [intOf]; omega
  ·have hnot := not_w d
   obtain ⟨m, hm⟩ : ∃ m, m = ~~~ d := ⟨_, rfl⟩
   rw [← hm] at hnot
   have HM : Hid (m = more c xs) := Lib.hid (by unfold more; rw [← HB.out, hm, HD.out, all_of (by rw [hx.len]; omega)])
   clear hm
   go_wp2_with fail
   go_ret
   exact ⟨by rw [← HM.out]; rfl, rfl⟩

end Go.Proofs.YtpjpgcjhdbiepaaGreat
end
section
namespace Go.Proofs.YtpjpgcjhdbiepaaGreat
open Go.RowKit Go.Kit CrcM Go.Proofs.YtpjpgcjhdbiepaaGreatW.PrintWords

theorem b4_four (c : W) : ∃ x0 x1 x2 x3 : Int, b4 c = [x0, x1, x2, x3] ∧ (c.toNat : Int) % 256 = x0 ∧ (c.toNat : Int) / 256 % 256 = x1 ∧ (c.toNat : Int) / 65536 % 256 = x2 ∧ (c.toNat : Int) / 16777216 = x3 ∧
  (0 ≤ x0 ∧ x0 < 256) ∧ (0 ≤ x1 ∧ x1 < 256) ∧ (0 ≤ x2 ∧ x2 < 256) ∧ 0 ≤ x3 ∧ x3 < 256 := by
 have h255 : ∀ d : W, (d &&& 255#32).toNat = d.toNat % 256 := fun d => by rw [BitVec.toNat_and]; exact Nat.and_two_pow_sub_one_eq_mod _ 8
 refine ⟨_, _, _, _, rfl, ?_, ?_, ?_, ?_, ?_, ?_, ?_, ?_⟩
 all_goals have hlt := c.isLt
 all_goals simp only [h255, BitVec.toNat_ushiftRight, Nat.shiftRight_eq_div_pow]
 all_goals omega
theorem b4_byt (c : W) : Byt (b4 c) := by
 obtain ⟨x0, x1, x2, x3, h, _, _, _, _, h0, h1, h2, h3⟩ := b4_four c
 rw [h]; intro x hx; simp at hx; omega
theorem b4_length (c : W) : (b4 c).length = 4 := rfl
theorem info_b4 : (Tryz.prog.info? 110).map (fun i => (i.zero, i.size)) = some (some (.agg #[.int .u8 0, .int .u8 0, .int .u8 0, .int .u8 0]), 4) := by kernel_rfl
set_option maxHeartbeats 400000 in
theorem Bytes_any (c : W) (n : Int) (hn : n = (c.toNat : Int)) (w : World) :
  Calls Tryz.prog 74 #[.int .u32 n] w fun e w' => ∃ x0 x1 x2 x3, e = .returned (.agg #[.int .u8 x0, .int .u8 x1, .int .u8 x2, .int .u8 x3]) ∧ Hid (b4 c = [x0, x1, x2, x3]) ∧ Below w.heap.size w w' := by
 subst hn
 have hlt := u32_lt c
 obtain ⟨x0, x1, x2, x3, h, e0, e1, e2, e3, h0, h1, h2, h3⟩ := b4_four c
 have H := Lib.hid h
 clear h
 have hz := (zero_of_info info_b4).1
 go_enter Tryz.func74, Tryz.ntmps74
 go_wp2_with fail
 refine bodyPost_ret (v := .agg #[.int .u8 x0, .int .u8 x1, .int .u8 x2, .int .u8 x3]) (by simp [results, Tryz.results74, go_sem]) rfl ⟨x0, x1, x2, x3, rfl, H, (Below.refl _ _).alloc (Nat.le_refl _) _⟩
set_option maxHeartbeats 400000 in
theorem rBytes_any (c : W) (n : Int) (hn : n = (c.toNat : Int)) (w : World) :
  Calls Tryz.prog 50 #[.int .u32 n] w fun e w' => ∃ x0 x1 x2 x3, e = .returned (.agg #[.int .u8 x0, .int .u8 x1, .int .u8 x2, .int .u8 x3]) ∧ Hid (b4 c = [x0, x1, x2, x3]) ∧ Below w.heap.size w w' := by
 subst hn
 have hlt := u32_lt c
 obtain ⟨x0, x1, x2, x3, h, e0, e1, e2, e3, h0, h1, h2, h3⟩ := b4_four c
 have H := Lib.hid h
 clear h
 have hz := (zero_of_info info_b4).1
 go_enter Tryz.func50, Tryz.ntmps50
 go_wp2_with fail
 refine bodyPost_ret (v := .agg #[.int .u8 x0, .int .u8 x1, .int .u8 x2, .int .u8 x3]) (by simp [results, Tryz.results50, go_sem]) rfl ⟨x0, x1, x2, x3, rfl, H, (Below.refl _ _).alloc (Nat.le_refl _) _⟩

def sealed (xs : List Int) : List Int := xs ++ b4 (more 0#32 xs)
theorem sealed_length (xs : List Int) : (sealed xs).length = xs.length + 4 := by unfold sealed; rw [List.length_append, b4_length]
set_option maxHeartbeats 1000000 in
set_option maxRecDepth 100000 in
theorem Seal_any (A : Option Addr) (len cap : Nat) (xs : List Int) (w : World) (hx : RB w A len xs) (hl : len ≤ 140737488355000) :
  Calls Tryz.prog 60 #[.slice A len cap] w fun e w' => ∃ v, e = .returned v ∧ OB 5 w' w.heap.size v (sealed xs) ∧ Below w.heap.size w w' := by
 obtain ⟨i0, hi, hz0, hz1, hz2⟩ := info_parts u8_info
 have hmk := fun W => run_make_rowN 22 5 i0 _ Tryz.underlying22 hi hz0 len (len + 4) (by omega) (by rw [hz2]; omega) (by omega) W (len : Int) ((len : Int) + 4) rfl (by simp)
 simp only [hz1, Value.cells, Nat.mul_one, made_u8] at hmk
 clear hi hz0 hz1 hz2
 go_enter Tryz.func60, Tryz.ntmps60
 go_wp2_with (refine wpList_copy_bytes (w := w) rfl (.tmp 11) (.tmp 12) 22 5 rfl Tryz.underlying22 u8_size A len (len + 4) len cap xs w.heap.size rfl rfl (hx.alloc _) (Nat.le_refl _) (heap_alloc_new w _) (by omega) (by omega) (below_alloc (Below.refl _ w) _) (Nat.le_refl _) ?_)
 intro w1 hO hb1
 rw [all_of (by rw [hx.len]; exact Nat.le_refl _)] at hO
 have hx1 := hx.below hb1
 clear hmk
 go_wp2_with fail
 refine (Sum_one _ hx1 _ rfl).mono ?_
 rintro e w2 ⟨s, rfl, HS, hb2⟩
 replace hO := hO.below hb2
 replace hb1 := below_step hb1 hb2
 go_wp2_with fail
 refine (Bytes_any s _ rfl _).mono ?_
 rintro e w3 ⟨x0, x1, x2, x3, rfl, HB, hb3⟩
 replace hO := hO.below hb3
 replace hb1 := below_step hb1 hb3
 have hz := (zero_of_info info_b4).1
 clear hb2 hb3 hx1
 have hfour : Byt [x0, x1, x2, x3] := by rw [← HB.out]; exact b4_byt s
 have HR := RB.lit w3 [x0, x1, x2, x3] hfour (by simp) 110 (0, 0)
 simp only [nums, List.map_cons, List.map_nil, List.length_cons, List.length_nil, Nat.reduceAdd] at HR
 have HO := hO.below (below_alloc (Below.refl _ w3) (.cells #[.int .u8 x0, .int .u8 x1, .int .u8 x2, .int .u8 x3] 110))
 have hbw := below_alloc hb1 (.cells #[.int .u8 x0, .int .u8 x1, .int .u8 x2, .int .u8 x3] 110)
 clear hO hb1
 have hlen := hx.len
 have HL := Lib.hid hlen
 clear hlen
 go_wp2_with (at_builtin; refine print_append_row (w0 := w) w.heap.size rfl (.tmp 18) (.tmp 19) 22 5 .u8 1 rfl Tryz.underlying22 u8_info (by decide) _ xs [x0, x1, x2, x3] _ 4 4 rfl rfl HO.own HR.rd hbw (by have := hbw.size; simpa using this) (by rw [HL.out]; omega) ?_)
 intro v1 w4 hown hb4 _ _
 have hF : OB 5 w4 w.heap.size v1 (sealed xs) := by
  unfold sealed
  rw [← HS.out, HB.out]
  exact ⟨by simpa using hown, hx.byt.append hfour⟩
 clear HO HR hbw hown
 go_wp2_with fail
 go_ret
 exact ⟨_, rfl, hF, hb4⟩

set_option maxHeartbeats 1000000 in
set_option maxRecDepth 100000 in
theorem rSeal_any (A : Option Addr) (len cap : Nat) (xs : List Int) (w : World) (hx : RB w A len xs) (hl : len ≤ 140737488355000) :
  Calls Tryz.prog 41 #[.slice A len cap] w fun e w' => ∃ v, e = .returned v ∧ OB 5 w' w.heap.size v (sealed xs) ∧ Below w.heap.size w w' := by
 have HL := Lib.hid hx.len
 go_enter Tryz.func41, Tryz.ntmps41
 go_wp2_with (at_builtin; refine print_append_row (w0 := w) w.heap.size rfl (.const (.slice none 0 0)) (.tmp 5) 22 5 .u8 1 rfl Tryz.underlying22 u8_info (by decide) (.slice none 0 0) [] xs A len cap rfl rfl (own_nil w _ _ _) hx.rd (Below.refl _ _) (Nat.le_refl _) (by simp; omega) ?_)
 intro v1 w1 hown hb1 _ _
 have hO : OB 5 w1 w.heap.size v1 xs := ⟨by simpa using hown, hx.byt⟩
 clear hown
 have hx1 := hx.below hb1
 go_wp2_with fail
 refine (rMore_any 0#32 _ (by decide) A len cap xs _ hx1).mono ?_
 rintro e w2 ⟨rfl, rfl⟩
 obtain ⟨s, hs⟩ : ∃ s, s = more 0#32 xs := ⟨_, rfl⟩
 rw [← hs]
 have HS := Lib.hid hs
 clear hs
 go_wp2_with fail
 refine (rBytes_any s _ rfl _).mono ?_
 rintro e w3 ⟨x0, x1, x2, x3, rfl, HB, hb3⟩
 replace hO := hO.below hb3
 replace hb1 := below_step hb1 hb3
 have hz := (zero_of_info info_b4).1
 clear hb3 hx1
 have hfour : Byt [x0, x1, x2, x3] := by rw [← HB.out]; exact b4_byt s
 obtain ⟨wb, hwb⟩ : ∃ wb, wb = w3.alloc (.cells #[.int .u8 x0, .int .u8 x1, .int .u8 x2, .int .u8 x3] 110) := ⟨_, rfl⟩
 have HR := RB.lit wb [x0, x1, x2, x3] hfour (by simp) 5 (0, 0)
 simp only [nums, List.map_cons, List.map_nil, List.length_cons, List.length_nil, Nat.reduceAdd] at HR
 have HO := (hO.below (below_alloc (Below.refl _ w3) (.cells #[.int .u8 x0, .int .u8 x1, .int .u8 x2, .int .u8 x3] 110)))
 have hbw := below_alloc hb1 (.cells #[.int .u8 x0, .int .u8 x1, .int .u8 x2, .int .u8 x3] 110)
 rw [← hwb] at HO hbw
 replace HO := HO.below (below_alloc (Below.refl _ wb) (.cells #[.int .u8 x0, .int .u8 x1, .int .u8 x2, .int .u8 x3] 5))
 replace hbw := below_alloc hbw (.cells #[.int .u8 x0, .int .u8 x1, .int .u8 x2, .int .u8 x3] 5)
 subst hwb
 simp only [World.size_alloc] at HR
 clear hO hb1
 go_wp2_with (at_builtin; refine print_append_row (w0 := w) w.heap.size rfl (.tmp 10) (.tmp 19) 22 5 .u8 1 rfl Tryz.underlying22 u8_info (by decide) _ xs [x0, x1, x2, x3] _ 4 4 rfl rfl HO.own HR.rd hbw (by have := hbw.size; simpa using this) (by rw [HL.out]; omega) ?_)
 intro v2 w4 hown hb4 _ _
 have hF : OB 5 w4 w.heap.size v2 (sealed xs) := by
  unfold sealed
  rw [← HS.out, HB.out]
  exact ⟨by simpa using hown, hx.byt.append hfour⟩
 clear HO HR hbw hown
 go_wp2_with fail
 go_ret
 exact ⟨_, rfl, hF, hb4⟩
end Go.Proofs.YtpjpgcjhdbiepaaGreat
end
section
namespace Go.Proofs.YtpjpgcjhdbiepaaGreat
open Go.RowKit Go.Kit CrcM Go.Proofs.YtpjpgcjhdbiepaaGreatW.PrintWords

def openR (xs : List Int) : List Int × Int :=
 if xs.length < 4 then ([], 4) else if b4 (more 0#32 (xs.take (xs.length - 4))) = xs.drop (xs.length - 4) then (xs.take (xs.length - 4), 0) else ([], 71)
theorem openR_short {xs : List Int} (h : xs.length < 4) : openR xs = ([], 4) := if_pos h
theorem openR_good {xs : List Int} {N : Nat} (h : xs.length = N + 4) (e : b4 (more 0#32 (xs.take N)) = xs.drop N) : openR xs = (xs.take N, 0) := by
 unfold openR; rw [if_neg (by omega), show xs.length - 4 = N from by omega, if_pos e]
theorem openR_bad {xs : List Int} {N : Nat} (h : xs.length = N + 4) (e : b4 (more 0#32 (xs.take N)) ≠ xs.drop N) : openR xs = ([], 71) := by
 unfold openR; rw [if_neg (by omega), show xs.length - 4 = N from by omega, if_neg e]
theorem last_four {xs : List Int} {N : Nat} (h : xs.length = N + 4) : ∃ y0 y1 y2 y3, xs.drop N = [y0, y1, y2, y3] := by
 have hl : (xs.drop N).length = 4 := by rw [List.length_drop]; omega
 match hd : xs.drop N, hl with
 | [y0, y1, y2, y3], _ => exact ⟨y0, y1, y2, y3, rfl⟩
theorem RBs.drew {w : World} {A : Option Addr} {n : Nat} {L : List (List Int)} (h : RBs w A n L) : RBs w.drew A n L := ⟨h.len, h.max, fun i hi => by
 obtain ⟨ad, Ai, ci, xs, e, hc, hx, hr⟩ := h.at0 i hi
 exact ⟨ad, Ai, ci, xs, e, hc, hx, hr.drew⟩⟩
theorem Sum_of {A : Option Addr} {n : Nat} {xs : List Int} {w : World} (h : RBs w A n [xs]) (c : Nat) :
  Calls Tryz.prog 75 #[.slice A n c] w fun e w' => ∃ s : W, e = .returned (.int .u32 (s.toNat : Int)) ∧ Hid (s = more 0#32 xs) ∧ Below w.heap.size w w' := by
 refine (Sum_any _ n c [xs] _ h).mono ?_
 rintro e w1 ⟨rfl, hb1⟩
 exact ⟨_, rfl, Lib.hid (by simp), hb1⟩
theorem openS {w w1 : World} {a0 a1 a2 a3 : Addr} {v0 v1 v2 v3 : Value} (h0 : w.cell? a0 = some v0) (h1 : w.cell? a1 = some v1) (h2 : w.cell? a2 = some v2) (h3 : w.cell? a3 = some v3) (hb : Below w.heap.size w w1) :
  Below w.heap.size w w1 ∧ w1.cell? a0 = some v0 ∧ w1.cell? a1 = some v1 ∧ w1.cell? a2 = some v2 ∧ w1.cell? a3 = some v3 :=
 ⟨hb, pw_cell_below hb h0, pw_cell_below hb h1, pw_cell_below hb h2, pw_cell_below hb h3⟩
def sameL (l m : List Int) : Bool := decide (l = m)
set_option maxHeartbeats 2000000 in
set_option maxRecDepth 100000 in
theorem Open_any (A : Option Addr) (len cap : Nat) (xs : List Int) (w : World) (hx : RB w A len xs) (hcap : len ≤ cap) (hl : len ≤ 140737488355000) :
  Calls Tryz.prog 69 #[.slice A len cap] w fun e w' => ∃ v ys err, e = .returned (.tuple #[v, .int .i64 err]) ∧ OB 5 w' w.heap.size v ys ∧ Hid ((ys, err) = openR xs) ∧ Below w.heap.size w w' := by
 by_cases h4 : len < 4
 ·have HF : Hid (([], 4) = openR xs) := (openR_short (by rw [hx.len]; exact h4)).symm
  go_enter Tryz.func69, Tryz.ntmps69
  go_wp2_with fail
  go_ret2
  exact ⟨_, _, _, rfl, OB.nil _ _ _, HF, Below.refl _ _⟩
 ·obtain ⟨N, rfl⟩ : ∃ N, len = N + 4 := ⟨len - 4, by omega⟩
  obtain ⟨y0, y1, y2, y3, hd⟩ := last_four hx.len
  obtain ⟨ad, rfl, hcells⟩ := hx.rd.2.2 (by omega)
  have hget : ∀ j, xs.getD (N + j) 0 = (xs.drop N).getD j 0 := fun j => by simp [List.getD_eq_getElem?_getD, List.getElem?_drop]
  have c0 : w.cell? (ad.add N) = some (.int .u8 y0) := by rw [hcells N (by omega)]; have := hget 0; rw [Nat.add_zero] at this; rw [this, hd]; rfl
  have c1 : w.cell? ⟨(ad.add N).block, (ad.add N).off + 1, none⟩ = some (.int .u8 y1) := by rw [← add_field ad N 1 (by omega), hcells (N + 1) (by omega), hget 1, hd]; rfl
  have c2 : w.cell? ⟨(ad.add N).block, (ad.add N).off + 2, none⟩ = some (.int .u8 y2) := by rw [← add_field ad N 2 (by omega), hcells (N + 2) (by omega), hget 2, hd]; rfl
  have c3 : w.cell? ⟨(ad.add N).block, (ad.add N).off + 3, none⟩ = some (.int .u8 y3) := by rw [← add_field ad N 3 (by omega), hcells (N + 3) (by omega), hget 3, hd]; rfl
  have HD := Lib.hid hd
  clear hd hget hcells
  have hcN : ¬ cap = N := by omega
  go_enter Tryz.func69, Tryz.ntmps69
  go_wp2_with fail
  have hxN := RB.take_ hx N (by omega)
  have harr : ∀ (W : World) (a : Option Addr) (c : Nat), (Instr.arrayAt 110 (.slice a 4 c)).run Tryz.prog W = .ok (.pointer a) W := fun W a c => run_arrayAt W 110 5 4 a 4 c Tryz.underlying110 (by omega)
  have heq : ∀ (W : World) (x0 x1 x2 x3 : Int), (Op.equalIn 10000 110 (.agg #[.int .u8 x0, .int .u8 x1, .int .u8 x2, .int .u8 x3]) (.agg #[.int .u8 y0, .int .u8 y1, .int .u8 y2, .int .u8 y3])).run Tryz.prog W = .ok (sameL [x0, x1, x2, x3] [y0, y1, y2, y3]) W := by
   intro W x0 x1 x2 x3
   obtain ⟨i0, hi, hz0, hz1, hz2⟩ := info_parts u8_info
   exact run_equalIn_nums (P := Tryz.prog) (w := W) 9998 [x0, x1, x2, x3] [y0, y1, y2, y3] Tryz.underlying110 hi hz1 Tryz.underlying5 rfl rfl
  have b1 : (0 : Int) ≤ (N : Int) := by omega
  have b2 : (N : Int) ≤ (cap : Int) := by omega
  have b3 : (N : Int) ≤ (N : Int) + 4 := by omega
  have b4 : (N : Int) + 4 ≤ (cap : Int) := by omega
  go_region_held3 (fun w' => Below w.heap.size w w' ∧ w'.cell? (ad.add N) = some (.int .u8 y0) ∧ w'.cell? ⟨(ad.add N).block, (ad.add N).off + 1, none⟩ = some (.int .u8 y1) ∧ w'.cell? ⟨(ad.add N).block, (ad.add N).off + 2, none⟩ = some (.int .u8 y2) ∧ w'.cell? ⟨(ad.add N).block, (ad.add N).off + 3, none⟩ = some (.int .u8 y3))
   (first
    | assumption
    | (go_split_ands; refine ⟨?_, ?_, ?_, ?_, ?_⟩ <;> assumption)
    | exact openS c0 c1 c2 c3 (below_drew (Below.refl _ _))
    | (go_split_ands; refine openS c0 c1 c2 c3 (below_step ?_ hb3); assumption)
    | (go_split_ands; refine openS c0 c1 c2 c3 (below_step ?_ hb2); assumption)
    | (go_split_ands; refine openS c0 c1 c2 c3 (below_alloc ?_ _); assumption)
    | exact openS c0 c1 c2 c3 (below_drew (below_alloc (Below.refl _ _) _)))
   (first
    | (go_at_call 75; go_split_ands; go_must (refine (Sum_of (RBs.drew (RBs.one _ hxN)) _).mono ?_); rintro e w2 ⟨s, rfl, HS, hb2⟩)
    | (go_at_call 74; refine (Bytes_any s _ rfl _).mono ?_; rintro e w3 ⟨x0, x1, x2, x3, rfl, HB, hb3⟩))
  all_goals
   clear harr heq c0 c1 c2 c3 hcN
   go_split_ands
   by_cases hq : [x0, x1, x2, x3] = [y0, y1, y2, y3]
   ·have HF : Hid ((xs.take N, 0) = openR xs) := (openR_good hx.len (by rw [← HS.out, HB.out, HD.out]; exact hq)).symm
    have hqd : sameL [x0, x1, x2, x3] [y0, y1, y2, y3] = true := decide_eq_true hq
    rw [hqd]
    clear hq hqd
    obtain ⟨i0, hi, hz0, hz1, hz2⟩ := info_parts u8_info
    have hmk := fun W => run_make_rowN 22 5 i0 _ Tryz.underlying22 hi hz0 N N (Nat.le_refl _) (by rw [hz2]; omega) (by omega) W (N : Int) (N : Int) rfl rfl
    simp only [hz1, Value.cells, Nat.mul_one, made_u8] at hmk
    clear hi hz0 hz1 hz2
    go_wp2_with (refine wpList_copy_bytes (w := w) rfl (.tmp 26) (.tmp 27) 22 5 rfl Tryz.underlying22 u8_size (some ad) N N (N + 4) cap xs _ rfl rfl ((hx.below (by assumption)).alloc _) (by omega) (heap_alloc_new _ _) (Nat.le_refl _) (by omega) (below_alloc (by assumption) _) (Below.size (by assumption)) ?_)
    intro w9 hO hb9
    go_wp2_with fail
    go_ret2
    exact ⟨_, _, _, rfl, hO, HF, hb9⟩
   ·have HF : Hid (([], 71) = openR xs) := (openR_bad hx.len (by rw [← HS.out, HB.out, HD.out]; exact hq)).symm
    have hqd : sameL [x0, x1, x2, x3] [y0, y1, y2, y3] = false := decide_eq_false hq
    rw [hqd]
    clear hq hqd
    go_wp2_with fail
    go_ret2
    exact ⟨_, _, _, rfl, OB.nil _ _ _, HF, by assumption⟩
end Go.Proofs.YtpjpgcjhdbiepaaGreat
end
section
namespace Go.Proofs.YtpjpgcjhdbiepaaGreat
open Go.RowKit Go.Kit Go.Proofs.YtpjpgcjhdbiepaaGreatW.PrintWords
def decF (xs : List Int) : Fr × Int × Int :=
 if (needF xs).2.2 ≠ 0 then (noF, (needF xs).2.2, 0) else if (needF xs).1 = 0 ∨ xs.length < (needF xs).1 then (noF, 4, (xs.length : Int)) else if (needF xs).1 < xs.length then (noF, 6, ((needF xs).1 : Int))
 else if (openR xs).2 ≠ 0 then (noF, 71, ((needF xs).1 : Int) - 4) else readF (openR xs).1 (needF xs).2.1
def DecPost (w : World) (xs : List Int) (e : Ending) (w' : World) : Prop :=
 ∃ (F : Fr) (x y : Int), e = .returned (.tuple #[.agg F.arr, .agg (fv x y)]) ∧ Hid ((decF xs).2 = (x, y) ∧ F.core = (decF xs).1) ∧ F.ok w' ∧ OwnA w' w.heap.size F ∧ Below w.heap.size w w'
theorem two_new (W : World) : Below W.heap.size W ((W.alloc (.cells #[.int .i64 0, .int .u64 0, .int .i64 0, .int .i64 0, .int .u8 0, .int .u8 0, .int .u8 0, .int .u8 0, .int .u8 0, .int .u8 0, .int .u8 0, .int .u8 0, .int .u8 0, .int .u8 0, .int .u8 0, .int .u8 0, .int .u8 0, .int .u8 0, .int .u8 0, .int .u8 0, .int .u8 0, .int .u8 0, .int .u8 0, .int .u8 0, .int .u8 0, .int .u8 0, .int .u8 0, .int .u8 0, .int .u8 0, .int .u8 0, .int .u8 0, .int .u8 0, .int .u8 0, .int .u8 0, .int .u8 0, .int .u8 0, .int .i64 0, .int .i64 0, .int .i64 0, .int .i64 0, .slice none 0 0, .string ⟨#[]⟩] 48)).alloc (.cells #[.int .i64 0, .int .i64 0] 28)) ∧
  (kF 0).at_ 48 ((W.alloc (.cells #[.int .i64 0, .int .u64 0, .int .i64 0, .int .i64 0, .int .u8 0, .int .u8 0, .int .u8 0, .int .u8 0, .int .u8 0, .int .u8 0, .int .u8 0, .int .u8 0, .int .u8 0, .int .u8 0, .int .u8 0, .int .u8 0, .int .u8 0, .int .u8 0, .int .u8 0, .int .u8 0, .int .u8 0, .int .u8 0, .int .u8 0, .int .u8 0, .int .u8 0, .int .u8 0, .int .u8 0, .int .u8 0, .int .u8 0, .int .u8 0, .int .u8 0, .int .u8 0, .int .u8 0, .int .u8 0, .int .u8 0, .int .u8 0, .int .i64 0, .int .i64 0, .int .i64 0, .int .i64 0, .slice none 0 0, .string ⟨#[]⟩] 48)).alloc (.cells #[.int .i64 0, .int .i64 0] 28)) W.heap.size ∧
  ((W.alloc (.cells #[.int .i64 0, .int .u64 0, .int .i64 0, .int .i64 0, .int .u8 0, .int .u8 0, .int .u8 0, .int .u8 0, .int .u8 0, .int .u8 0, .int .u8 0, .int .u8 0, .int .u8 0, .int .u8 0, .int .u8 0, .int .u8 0, .int .u8 0, .int .u8 0, .int .u8 0, .int .u8 0, .int .u8 0, .int .u8 0, .int .u8 0, .int .u8 0, .int .u8 0, .int .u8 0, .int .u8 0, .int .u8 0, .int .u8 0, .int .u8 0, .int .u8 0, .int .u8 0, .int .u8 0, .int .u8 0, .int .u8 0, .int .u8 0, .int .i64 0, .int .i64 0, .int .i64 0, .int .i64 0, .slice none 0 0, .string ⟨#[]⟩] 48)).alloc (.cells #[.int .i64 0, .int .i64 0] 28)).heap[W.heap.size + 1]? = some (.cells (fv 0 0) 28 (0, 0)) := by
 refine ⟨below_alloc (below_alloc (Below.refl _ W) _) _, ⟨(heap_alloc_old _ _ (by simp)).trans (heap_alloc_new W _), rfl⟩, ?_⟩
 have := heap_alloc_new (W.alloc (.cells #[.int .i64 0, .int .u64 0, .int .i64 0, .int .i64 0, .int .u8 0, .int .u8 0, .int .u8 0, .int .u8 0, .int .u8 0, .int .u8 0, .int .u8 0, .int .u8 0, .int .u8 0, .int .u8 0, .int .u8 0, .int .u8 0, .int .u8 0, .int .u8 0, .int .u8 0, .int .u8 0, .int .u8 0, .int .u8 0, .int .u8 0, .int .u8 0, .int .u8 0, .int .u8 0, .int .u8 0, .int .u8 0, .int .u8 0, .int .u8 0, .int .u8 0, .int .u8 0, .int .u8 0, .int .u8 0, .int .u8 0, .int .u8 0, .int .i64 0, .int .i64 0, .int .i64 0, .int .i64 0, .slice none 0 0, .string ⟨#[]⟩] 48)) (.cells #[.int .i64 0, .int .i64 0] 28)
 simpa [fv] using this
theorem put_fault {W : World} {g : Nat} {x y : Int} (a b : Int) (h : W.heap[g]? = some (.cells (fv x y) 28 (0, 0))) : (Instr.storeAt 28 (.pointer (some ⟨g, 0, none⟩)) (.agg #[.int .i64 a, .int .i64 b])).run Tryz.prog W = .ok () (W.setRow g (fv a b)) :=
 storeAt_all (P := Tryz.prog) W g 28 28 (fv a b) (fv x y) h rfl (fv_size a b) (fv_one a b)
theorem put_frame {W : World} {g : Nat} {F : Fr} (f : Fr) (hf : f.tool.length = 32) (h : F.at_ 48 W g) : (Instr.storeAt 48 (.pointer (some ⟨g, 0, none⟩)) (.agg f.arr)).run Tryz.prog W = .ok () (W.setRow g f.arr) :=
 storeAt_all (P := Tryz.prog) W g 48 48 f.arr F.arr h.blk (by rw [Fr.arr_size F h.tool, Fr.arr_size f hf]) (by rw [Fr.arr_size f hf]; kernel_rfl) (arr_one f)
theorem put_at {W : World} {g : Nat} {F : Fr} (f : Fr) (hf : f.tool.length = 32) (h : F.at_ 48 W g) : f.at_ 48 (W.setRow g f.arr) g := ⟨setRow_heap _ _ _ _ _ _ h.blk, hf⟩
theorem get_fault {W : World} {g : Nat} {a b : Int} (h : W.heap[g]? = some (.cells (fv a b) 28 (0, 0))) : (Instr.loadAt 28 (.pointer (some ⟨g, 0, none⟩))).run Tryz.prog W = .ok (.agg #[.int .i64 a, .int .i64 b]) W := load_fault h
theorem get_frame {W : World} {g : Nat} {F : Fr} (h : F.at_ 48 W g) : (Instr.loadAt 48 (.pointer (some ⟨g, 0, none⟩))).run Tryz.prog W = .ok (.agg F.arr) W :=
 load_frame F (by have := Fr.arr_size F h.tool; rw [frame_size]; simp [Fr.arr] at this; rw [this]) W g h
theorem keep_fault {W W1 : World} {g : Nat} {a b : Int} {S : Nat → Prop} (h : W.heap[g]? = some (.cells (fv a b) 28 (0, 0))) (ho : Only W W1 S) (hs : ¬ S g) : W1.heap[g]? = some (.cells (fv a b) 28 (0, 0)) := ho.kept h hs
theorem set_fault {W : World} {g : Nat} {x y : Int} (a b : Int) (h : W.heap[g]? = some (.cells (fv x y) 28 (0, 0))) : (W.setRow g (fv a b)).heap[g]? = some (.cells (fv a b) 28 (0, 0)) := setRow_heap _ _ _ _ _ _ h
set_option maxRecDepth 100000 in
theorem same_zero {W : World} {g : Nat} (h : (kF 0).at_ 48 W g) : (Instr.storeAt 48 (.pointer (some ⟨g, 0, none⟩)) (.agg #[.int .i64 0, .int .u64 0, .int .i64 0, .int .i64 0, .int .u8 0, .int .u8 0, .int .u8 0, .int .u8 0, .int .u8 0, .int .u8 0, .int .u8 0, .int .u8 0, .int .u8 0, .int .u8 0, .int .u8 0, .int .u8 0, .int .u8 0, .int .u8 0, .int .u8 0, .int .u8 0, .int .u8 0, .int .u8 0, .int .u8 0, .int .u8 0, .int .u8 0, .int .u8 0, .int .u8 0, .int .u8 0, .int .u8 0, .int .u8 0, .int .u8 0, .int .u8 0, .int .u8 0, .int .u8 0, .int .u8 0, .int .u8 0, .int .i64 0, .int .i64 0, .int .i64 0, .int .i64 0, .slice none 0 0, .string ⟨#[]⟩])).run Tryz.prog W = .ok () W := same_frame h
theorem zero_frame (W : World) : (Instr.build 48 #[]).run Tryz.prog W = .ok (.agg (kF 0).arr) W := by kernel_rfl
theorem run_fault_ne (x y : Int) (b : Bool) (hb : ((x == 0) && (y == 0)) = b) (W : World) : (binOp .neq 28 (.agg #[.int .i64 x, .int .i64 y]) (.agg #[.int .i64 0, .int .i64 0])).run Tryz.prog W = .ok (.bool !b) W := by
 have he : (Op.equalIn 10000 28 (.agg #[.int .i64 x, .int .i64 y]) (.agg #[.int .i64 0, .int .i64 0])).run Tryz.prog W = .ok b W := by
  subst hb
  by_cases h1 : x = 0 <;> by_cases h2 : y = 0 <;> go_simp
 simp [run_neq_struct W 28 _ _, he]
theorem need_head {xs : List Int} {m k : Nat} (h : needF xs = (m, k, 0)) (hm : m ≠ 0) : ∃ m0, headF xs = (m0, k, 0) ∧ m = m0 + k + 4 := by
 unfold needF at h
 split at h
 ·exact absurd (congrArg Prod.fst h).symm hm
 ·next hn =>
  have h0 : (headF xs).2.2 = 0 := Classical.byContradiction fun e => hn (.inl e)
  simp only [Prod.mk.injEq] at h
  obtain ⟨h1, h2, _⟩ := h
  exact ⟨(headF xs).1, Prod.ext rfl (Prod.ext h2 h0), by omega⟩
theorem readF_none {p : List Int} {head : Nat} (h : (readF p head).2.1 ≠ 0) : (readF p head).1 = noF := by
 unfold readF at h ⊢
 split at h
 ·next D f he =>
  split at h
  ·next hc => rw [if_pos hc]
  ·exact absurd rfl h
theorem open_take {xs ys : List Int} (h : openR xs = (ys, 0)) : ys = xs.take (xs.length - 4) ∧ ¬ xs.length < 4 := by
 unfold openR at h
 split at h
 ·cases h
 split at h
 ·next h4 _ => cases h; exact ⟨rfl, h4⟩
 ·cases h
theorem two_put (W : World) (F : Fr) (hT : F.tool.length = 32) (x y : Int) : ∃ W1 W2 W3 : World, (W.alloc (.cells #[.int .i64 0, .int .u64 0, .int .i64 0, .int .i64 0, .int .u8 0, .int .u8 0, .int .u8 0, .int .u8 0, .int .u8 0, .int .u8 0, .int .u8 0, .int .u8 0, .int .u8 0, .int .u8 0, .int .u8 0, .int .u8 0, .int .u8 0, .int .u8 0, .int .u8 0, .int .u8 0, .int .u8 0, .int .u8 0, .int .u8 0, .int .u8 0, .int .u8 0, .int .u8 0, .int .u8 0, .int .u8 0, .int .u8 0, .int .u8 0, .int .u8 0, .int .u8 0, .int .u8 0, .int .u8 0, .int .u8 0, .int .u8 0, .int .i64 0, .int .i64 0, .int .i64 0, .int .i64 0, .slice none 0 0, .string ⟨#[]⟩] 48)).alloc (.cells #[.int .i64 0, .int .i64 0] 28) = W1 ∧
  (Instr.storeAt 48 (.pointer (some ⟨W.heap.size, 0, none⟩)) (.agg F.arr)).run Tryz.prog W1 = .ok () W2 ∧
  (Instr.storeAt 28 (.pointer (some ⟨W.heap.size + 1, 0, none⟩)) (.agg (fv x y))).run Tryz.prog W2 = .ok () W3 ∧
  F.at_ 48 W3 W.heap.size ∧ W3.heap[W.heap.size + 1]? = some (.cells (fv x y) 28 (0, 0)) ∧ Below W.heap.size W W3 := by
 obtain ⟨hbn, hFz, hXz⟩ := two_new W
 obtain ⟨W1, h1⟩ : ∃ W1, (W.alloc (.cells #[.int .i64 0, .int .u64 0, .int .i64 0, .int .i64 0, .int .u8 0, .int .u8 0, .int .u8 0, .int .u8 0, .int .u8 0, .int .u8 0, .int .u8 0, .int .u8 0, .int .u8 0, .int .u8 0, .int .u8 0, .int .u8 0, .int .u8 0, .int .u8 0, .int .u8 0, .int .u8 0, .int .u8 0, .int .u8 0, .int .u8 0, .int .u8 0, .int .u8 0, .int .u8 0, .int .u8 0, .int .u8 0, .int .u8 0, .int .u8 0, .int .u8 0, .int .u8 0, .int .u8 0, .int .u8 0, .int .u8 0, .int .u8 0, .int .i64 0, .int .i64 0, .int .i64 0, .int .i64 0, .slice none 0 0, .string ⟨#[]⟩] 48)).alloc (.cells #[.int .i64 0, .int .i64 0] 28) = W1 := ⟨_, rfl⟩
 rw [h1] at hbn hFz hXz
 refine ⟨W1, W1.setRow W.heap.size F.arr, (W1.setRow W.heap.size F.arr).setRow (W.heap.size + 1) (fv x y), h1, ?_⟩
 clear h1
 have hFa := put_at F hT hFz
 have ho1 := Fr.only_row W1 W.heap.size F.arr
 have hXa := keep_fault hXz ho1 (fun e => by omega)
 have ho2 := Fr.only_row (W1.setRow W.heap.size F.arr) (W.heap.size + 1) (fv x y)
 exact ⟨put_frame F hT hFz, put_fault x y hXa, hFa.only ho2 (fun e => by omega), set_fault x y hXa, below_setRow (below_setRow hbn (Nat.le_refl _) _) (Nat.le_succ _) _⟩
theorem dec_ret {W : World} {g g2 : Nat} {tmps : Array Value} {F : Fr} {x y : Int} (hp : tmps.getD 2 undef = .pointer (some ⟨g, 0, none⟩)) (hq : tmps.getD 3 undef = .pointer (some ⟨g2, 0, none⟩)) (hF : F.at_ 48 W g) (hX : W.heap[g2]? = some (.cells (fv x y) 28 (0, 0))) :
  (results Tryz.f56 tmps).run Tryz.prog W = .ok (.tuple #[.agg F.arr, .agg (fv x y)]) W :=
 results_cell_row2 (P := Tryz.prog) (fn := Tryz.f56) (p := 2) (q := 3) rfl tmps W g g2 48 28 F.arr (fv x y) (0, 0) (0, 0) _ _ hp hF.blk Tryz.underlying48 rfl (by rw [Fr.arr_size F hF.tool]; kernel_rfl) hq hX Tryz.underlying28 rfl (fv_size x y)
theorem dec_bad {w W : World} {xs : List Int} {x y : Int} (h : Hid (decF xs = (noF, x, y))) (hb : Below w.heap.size w W) : DecPost w xs (.returned (.tuple #[.agg (kF 0).arr, .agg (fv x y)])) W :=
 ⟨kF 0, x, y, rfl, Lib.hid ⟨by rw [h.out], by rw [h.out]; rfl⟩, ⟨rfl, rt_none _ rfl rfl rfl⟩, OwnA.none _ _ ⟨rfl, rfl, rfl, rfl⟩, hb⟩
attribute [-go_sem] Instr.loadAt Instr.storeAt
section
variable {A : Option Addr} {n cap : Nat} {xs : List Int} {w : World}
set_option maxHeartbeats 8000000 in
set_option maxRecDepth 100000 in
theorem Decode_any (hx : RB w A n xs) (hc : n ≤ cap) : Calls Tryz.prog 56 #[.slice A n cap] w (DecPost w xs) := by
 have HXL := Lib.hid hx.len
 have HBY := Lib.hid hx.byt
 obtain ⟨hb0, hF0, hf0⟩ := two_new w
 have hbd : ∀ (x : Int) (W : World), (Instr.build 28 #[(0, .int .i64 x)]).run Tryz.prog W = .ok (.agg #[.int .i64 x, .int .i64 0]) W := fun x W => by kernel_rfl
 have hb2 : ∀ (x y : Int) (W : World), (Instr.build 28 #[(0, .int .i64 x), (1, .int .i64 y)]).run Tryz.prog W = .ok (.agg #[.int .i64 x, .int .i64 y]) W := fun x y W => by kernel_rfl
 have hz : ∀ W : World, (Instr.build 28 #[]).run Tryz.prog W = .ok (.agg #[.int .i64 0, .int .i64 0]) W := fun W => by kernel_rfl
 go_enter Tryz.func56, Tryz.ntmps56
 go_upto_region 1 with (fail)
 generalize (w.alloc (.cells #[.int .i64 0, .int .u64 0, .int .i64 0, .int .i64 0, .int .u8 0, .int .u8 0, .int .u8 0, .int .u8 0, .int .u8 0, .int .u8 0, .int .u8 0, .int .u8 0, .int .u8 0, .int .u8 0, .int .u8 0, .int .u8 0, .int .u8 0, .int .u8 0, .int .u8 0, .int .u8 0, .int .u8 0, .int .u8 0, .int .u8 0, .int .u8 0, .int .u8 0, .int .u8 0, .int .u8 0, .int .u8 0, .int .u8 0, .int .u8 0, .int .u8 0, .int .u8 0, .int .u8 0, .int .u8 0, .int .u8 0, .int .u8 0, .int .i64 0, .int .i64 0, .int .i64 0, .int .i64 0, .slice none 0 0, .string ⟨#[]⟩] 48)).alloc (.cells #[.int .i64 0, .int .i64 0] 28) = w1 at *
 obtain ⟨g, hg⟩ : ∃ g, w.heap.size = g := ⟨_, rfl⟩
 obtain ⟨g2, hg2⟩ : ∃ g2, w.heap.size + 1 = g2 := ⟨_, rfl⟩
 have HG := Lib.hid hg
 have HG2 := Lib.hid hg2
 have hgg : g ≠ g2 := by omega
 rw [hg] at hF0
 rw [hg2] at hf0
 rw [hg2, hg]
 have hxb := hx.below hb0
 clear hg hg2 hx
 go_wp2_with fail
 refine (Need_any A n cap xs _ hxb hc).mono ?_
 rintro e w2 ⟨m, k, x, rfl, HN, hb1⟩
 have hF1 := hF0.below hb1
 have hX1 := (hb1.block _ (lt_of_block hf0)).trans hf0
 have hbw := below_step hb0 hb1
 have hx1 := hxb.below hb1
 have HWX := hbw.size
 clear hb0 hb1 hf0 hF0 hxb
 by_cases h0 : x = 0
 ·subst h0
  by_cases hm : m = 0 ∨ n < m
  ·have hdm : decide ((n : Int) < (m : Int)) = decide (n < m) := by simp
   have HD : Hid (decF xs = (noF, 4, (n : Int))) := Lib.hid (by unfold decF; rw [HN.out, if_neg (by simp), if_pos (by rw [HXL.out]; exact hm), HXL.out])
   have sF := same_zero hF1
   have sX := put_fault 4 (n : Int) hX1
   have hXn := set_fault 4 (n : Int) hX1
   have hFn := hF1.only (Fr.only_row w2 g2 (fv 4 (n : Int))) hgg
   have hbn := below_setRow (cs := fv 4 (n : Int)) hbw (g := g2) (by have := HG2.out; omega)
   by_cases hm0 : m = 0
   ·have bm : ((m : Int) == 0) = true := by rw [beq_iff_eq]; omega
    clear hm hm0 hdm
    go_wp2_with fail
    try simp only [Exit.inBlock, Exit.then]
    exact bodyPost_ret (v := .tuple #[.agg (kF 0).arr, .agg (fv 4 (n : Int))]) (dec_ret rfl rfl hFn hXn) rfl (dec_bad HD hbn)
   ·have bm : ((m : Int) == 0) = false := by rw [beq_eq_false_iff_ne]; omega
    have hlt : (n : Int) < (m : Int) := by omega
    clear hm hm0 hdm
    go_wp2_with fail
    try simp only [Exit.inBlock, Exit.then]
    exact bodyPost_ret (v := .tuple #[.agg (kF 0).arr, .agg (fv 4 (n : Int))]) (dec_ret rfl rfl hFn hXn) rfl (dec_bad HD hbn)
  ·have bm : ((m : Int) == 0) = false := by rw [beq_eq_false_iff_ne]; omega
   have hlt : ¬ (n : Int) < (m : Int) := by omega
   by_cases hm2 : m < n
   ·have hgt : (n : Int) > (m : Int) := by omega
    have HD : Hid (decF xs = (noF, 6, (m : Int))) := Lib.hid (by unfold decF; rw [HN.out, if_neg (by simp), if_neg (by rw [HXL.out]; exact hm), if_pos (by rw [HXL.out]; exact hm2)])
    have sF := same_zero hF1
    have sX := put_fault 6 (m : Int) hX1
    have hXn := set_fault 6 (m : Int) hX1
    have hFn := hF1.only (Fr.only_row w2 g2 (fv 6 (m : Int))) hgg
    have hbn := below_setRow (cs := fv 6 (m : Int)) hbw (g := g2) (by have := HG2.out; omega)
    clear hm hm2
    go_wp2_with fail
    try simp only [Exit.inBlock, Exit.then]
    exact bodyPost_ret (v := .tuple #[.agg (kF 0).arr, .agg (fv 6 (m : Int))]) (dec_ret rfl rfl hFn hXn) rfl (dec_bad HD hbn)
   ·have hmn : m = n := by omega
    have hgt : ¬ (n : Int) > (m : Int) := by omega
    have hl : n ≤ 140737488355000 := by
     obtain ⟨m0, hh0, hm0⟩ := need_head HN.out (fun e => hm (.inl e))
     have := headF_facts HBY.out hh0
     omega
    have HM := Lib.hid hm
    have HMN := Lib.hid hmn
    clear hm hm2 hmn
    go_wp2_with fail
    refine (Open_any A n cap xs _ hx1 hc hl).mono ?_
    rintro e w3 ⟨v, ys, x, rfl, hO, HO, hb3⟩
    have hF2 := hF1.below hb3
    have hX2 := (hb3.block _ (lt_of_block hX1)).trans hX1
    have hbx := below_step hbw hb3
    have hx2 := hx1.below hb3
    clear hF1 hX1 hx1
    by_cases h1 : x = 0
    ·subst h1
     obtain ⟨A2, c2, rfl, hR2, hc2⟩ := hO.reads'
     have HOT := Lib.hid (open_take HO.out.symm)
     obtain ⟨N, hN⟩ : ∃ N, ys.length = N := ⟨_, rfl⟩
     have HNL := Lib.hid hN
     rw [hN] at hR2 hc2 ⊢
     clear hO hN
     go_wp2_with fail
     refine (head_any A n cap xs _ hx2 hc).mono ?_
     rintro e w4 ⟨m1, k1, x1, rfl, HH, hb4⟩
     obtain ⟨m0, hh0, hm0⟩ := need_head HN.out (fun e => HM.out (.inl e))
     have he := HH.out.symm.trans hh0
     cases he
     have hfa := headF_facts HBY.out HH.out
     have hF3 := hF2.below hb4
     have hX3 := (hb4.block _ (lt_of_block hX2)).trans hX2
     have hby := below_step hbx hb4
     have hR3 := hR2.below hb4
     have hyl : N = n - 4 := by rw [← HNL.out]; have e := HOT.out; rw [HXL.out] at e; rw [e.1, List.length_take, HXL.out]; omega
     have hk2 : k ≤ N := by have := HMN.out; omega
     have hn2 : N ≤ 4194304 := by have := HMN.out; omega
     clear hF2 hX2 hbx hx2 hR2 hfa hm0 hh0 hb4 hyl
     go_wp2_with fail
     refine (read_any hR3 hn2 k hk2).mono ?_
     rintro e w5 ⟨F, x, y, rfl, hT, HRD, hok, hb5⟩
     obtain ⟨w6, w7, w8, s0, s1, s2, hFb, hXb, hbq⟩ := two_put w5 F hT x y
     have HFB := Lib.hid hFb
     have HXB := Lib.hid hXb
     have HBQ := Lib.hid hbq
     clear hFb hXb hbq
     go_upto_region 13 with (fail)
     clear s0 s1 s2
     have hbq := HBQ.out
     have hgl := hF3.lt
     have hF4 := (hF3.below hb5).below hbq
     have hbz := below_step (below_step hby hb5) hbq
     have hX4a := (hb5.block _ (lt_of_block hX3)).trans hX3
     have hX4 := (hbq.block _ (lt_of_block hX4a)).trans hX4a
     clear hX4a hF3 hX3
     have hF5 := HFB.out
     have hX5 := HXB.out
     have hg3 : ¬ w5.heap.size + 1 = g := by have := hb5.size; omega
     have HD : Hid (decF xs = readF ys k) := Lib.hid (by
      have e := HO.out
      unfold decF; rw [HN.out, if_neg (by simp), if_neg (by rw [HXL.out]; exact HM.out), if_neg (by rw [HXL.out, HMN.out]; simp), ← e, if_neg (by simp)])
     have hok2 : x = 0 → F.ok w8 ∧ OwnA w8 w.heap.size F ∧ (∀ a, F.A = some a → ¬ a.block = g) := fun h0 => ⟨(hok h0).1.below hbq, ((hok h0).2.below hbq).less hby.size, fun a e => by have := (hok h0).2.fresh a e; have := hby.size; omega⟩
     have HOK := Lib.hid hok2
     obtain ⟨g3, hg3e⟩ : ∃ g3, w5.heap.size = g3 := ⟨_, rfl⟩
     obtain ⟨g4, hg4e⟩ : ∃ g4, w5.heap.size + 1 = g4 := ⟨_, rfl⟩
     rw [hg4e] at hX5 hg3
     rw [hg3e] at hF5
     rw [hg4e, hg3e]
     clear HFB HXB HBQ hbq hok hok2 hb5 hby hR3 hgl hg3e hg4e hk2 hn2
     have hdr := below_drew (Below.refl w8.heap.size w8)
     have eX0 := get_fault hX5
     have hF4d := hF4.below hdr
     have hX4d := (hdr.block _ (lt_of_block hX4)).trans hX4
     have hF5d := hF5.below hdr
     have hX5d := (hdr.block _ (lt_of_block hX5)).trans hX5
     have hbzd := below_step hbz hdr
     have hg2g : g2 ≠ g := fun e => hgg e.symm
     by_cases hx0 : x = 0
     ·have hy0 : y = 0 := (HRD.out.2 hx0).2
      have HRR := Lib.hid (HRD.out.2 hx0).1
      have HR2 := HRD
      have hok3 := HOK.out hx0
      subst hx0
      subst hy0
      have heq := run_fault_ne 0 0 true rfl
      have e1 := get_frame hF5d
      have e2 := get_fault hX5d
      have s1 := put_frame F hT hF4d
      have sX : (Instr.storeAt 28 (.pointer (some ⟨g2, 0, none⟩)) (.agg #[.int .i64 0, .int .i64 0])).run Tryz.prog w8.drew = .ok () w8.drew := same_fault hX4d
      have ho1 := Fr.only_row w8.drew g F.arr
      have hXg4 := keep_fault hX5d ho1 hg3
      have hXg2 := keep_fault hX4d ho1 hg2g
      have e3 := get_fault hXg4
      have sX2 : (Instr.storeAt 28 (.pointer (some ⟨g2, 0, none⟩)) (.agg #[.int .i64 0, .int .i64 0])).run Tryz.prog (w8.drew.setRow g F.arr) = .ok () (w8.drew.setRow g F.arr) := same_fault hXg2
      have hFg := put_at F hT hF4d
      have hbg := below_setRow (cs := F.arr) hbzd (g := g) (by have := HG.out; omega)
      have hokg : F.ok (w8.drew.setRow g F.arr) := ⟨hT, (hok3.1.below hdr).args.apart ho1 hok3.2.2⟩
      have HP : Hid (DecPost w xs (.returned (.tuple #[.agg F.arr, .agg (fv 0 0)])) (w8.drew.setRow g F.arr)) := Lib.hid ⟨F, 0, 0, rfl, Lib.hid ⟨by rw [HD.out]; exact HR2.out.1, by rw [HD.out]; exact HRR.out⟩, hokg, (hok3.2.1.below hdr).only ho1 hok3.2.2, hbg⟩
      clear hok3 hokg ho1 HOK
      generalize w8.drew.setRow g F.arr = w9 at *
      go_wp2_with fail
      go_region_law (fail)
      all_goals
       try go_wp2_with fail
       try simp only [Exit.inBlock, Exit.then]
       exact bodyPost_ret (v := .tuple #[.agg F.arr, .agg (fv 0 0)]) (dec_ret rfl rfl hFg hXg2) rfl HP.out
     ·have heq := run_fault_ne x y false (by rw [Bool.and_eq_false_iff]; left; rw [beq_eq_false_iff_ne]; exact hx0)
      have HD2 : Hid (decF xs = (noF, x, y)) := Lib.hid (by
       rw [HD.out]
       have e := HRD.out.1
       refine Prod.ext ?_ e
       have hh := readF_none (p := ys) (head := k) (by rw [e]; exact hx0)
       exact hh)
      have e2 := get_fault hX5d
      have sF := same_zero hF4d
      have s1 := put_fault x y hX4d
      have ho1 := Fr.only_row w8.drew g2 (fv x y)
      have hFq := hF4d.only ho1 hgg
      have sF2 := same_zero hFq
      have hXq := set_fault x y hX4d
      have hbq := below_setRow (cs := fv x y) hbzd (g := g2) (by have := HG2.out; omega)
      have HP : Hid (DecPost w xs (.returned (.tuple #[.agg (kF 0).arr, .agg (fv x y)])) (w8.drew.setRow g2 (fv x y))) := Lib.hid (dec_bad HD2 hbq)
      clear hx0 ho1 HOK
      generalize w8.drew.setRow g2 (fv x y) = w9 at *
      go_wp2_with fail
      go_region_law (fail)
      all_goals
       try go_wp2_with fail
       try simp only [Exit.inBlock, Exit.then]
       exact bodyPost_ret (v := .tuple #[.agg (kF 0).arr, .agg (fv x y)]) (dec_ret rfl rfl hFq hXq) rfl HP.out
    ·have b1 : (x != 0) = true := by simpa using h1
     have HD : Hid (decF xs = (noF, 71, (m : Int) - 4)) := Lib.hid (by
      have e := HO.out
      unfold decF; rw [HN.out, if_neg (by simp), if_neg (by rw [HXL.out]; exact HM.out), if_neg (by rw [HXL.out, HMN.out]; simp), if_pos (by rw [← e]; exact h1)])
     have hwr : IntKind.i64.wrap ((m : Int) - 4) = (m : Int) - 4 := IntWalk.i64_in _ ⟨by have := HMN.out; omega, by have := HMN.out; omega⟩
     have sF := same_zero hF2
     have sX := put_fault 71 ((m : Int) - 4) hX2
     have hXn := set_fault 71 ((m : Int) - 4) hX2
     have hFn := hF2.only (Fr.only_row w3 g2 (fv 71 ((m : Int) - 4))) hgg
     have hbn := below_setRow (cs := fv 71 ((m : Int) - 4)) hbx (g := g2) (by have := HG2.out; omega)
     clear h1
     go_wp2_with fail
     try simp only [Exit.inBlock, Exit.then]
     exact bodyPost_ret (v := .tuple #[.agg (kF 0).arr, .agg (fv 71 ((m : Int) - 4))]) (dec_ret rfl rfl hFn hXn) rfl (dec_bad HD hbn)
 ·have b0 : (x != 0) = true := by simpa using h0
  have HD : Hid (decF xs = (noF, x, 0)) := Lib.hid (by unfold decF; rw [HN.out, if_pos h0])
  have sF := same_zero hF1
  have sX := put_fault x 0 hX1
  have hXn := set_fault x 0 hX1
  have hFn := hF1.only (Fr.only_row w2 g2 (fv x 0)) hgg
  have hbn := below_setRow (cs := fv x 0) hbw (g := g2) (by have := HG2.out; omega)
  clear h0
  go_wp2_with fail
  try simp only [Exit.inBlock, Exit.then]
  exact bodyPost_ret (v := .tuple #[.agg (kF 0).arr, .agg (fv x 0)]) (dec_ret rfl rfl hFn hXn) rfl (dec_bad HD hbn)
end
end Go.Proofs.YtpjpgcjhdbiepaaGreat
end
