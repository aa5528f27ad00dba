/- Contracts of functions that the laws reach (texts laid together, part 10): each says of its call what it answers and what it leaves of memory; the conditions stand in each statement. -/
import Derived.Test.YtelfephmjkipoaaMb9
import Derived.Test.YtelfephmjkipoaaMb2
import Derived.Test.YtelfephmjkipoaaMb1
import Derived.Test.YtelfephmjkipoaaMb8
set_option linter.unusedVariables false
/-! Rows of texts: cut, laid behind one another, written. -/
section
namespace Go.Proofs.Ytelfephmjkipoaa
open Go.RowKit Go.Kit Go.Proofs.YtelfephmjkipoaaW.PrintWords
theorem head_texts (A : Option Addr) (n c k : Nat) (hk : k ≤ c) (W : World) : (Instr.slice 27 (.slice A n c) none (some (.int .i64 (k : Int))) none).run Try.prog W = .ok (.slice A k c) W := by
  obtain ⟨i0, hi0, hz0, hz1, hz2⟩ := info_parts str_info
  have hel : Try.prog.elem 27 = 9 := by simp [Program.elem, Try.underlying27]
  have hu : Try.prog.underlying 27 = some (.slice (Try.prog.elem 27)) := by rw [hel]; exact Try.underlying27
  rw [run_slice_h W 27 A n c hu .i64 (k : Int) (Int.natCast_nonneg _) (by omega), hel]
  cases A <;> simp [sizeOf, typeInfo, hi0, hz1, sliced, Result.andThen, Addr.add]
theorem RT.lit2 (w : World) (s t : ByteArray) (e : TypeId) : RT (w.alloc (.cells #[.string s, .string t] e)) (some ⟨w.heap.size, 0, none⟩) 2 [s, t] :=
  ⟨rfl, by omega, fun _ => ⟨_, rfl, fun j hj => by
    rw [add_plain]
    rcases (by omega : j = 0 ∨ j = 1) with rfl | rfl
    · exact World.cell?_alloc_new (w := w) _ e 0
    · exact World.cell?_alloc_new (w := w) _ e 1⟩⟩
theorem RT.take_ {w : World} {A : Option Addr} {n : Nat} {xs : List ByteArray} (h : RT w A n xs) (k : Nat) (hk : k ≤ n) : RT w A k (xs.take k) := by
  have hl := h.len
  refine ⟨by rw [List.length_take]; omega, by have := h.max; omega, fun hp => ?_⟩
  obtain ⟨a, e, hc⟩ := h.2.2 (by omega)
  refine ⟨a, e, fun j hj => ?_⟩
  rw [hc j (by omega)]
  simp [List.getD_eq_getElem?_getD, List.getElem?_take, hj]
section
variable {ops : Array Oper} {rest : List Oper} {o : Oper} {a : Act} {Q : Exit → Act → World → Prop} {w0 W : World} {v : Value} {xs ys : List ByteArray}
/-- append(v, ys...), texts. -/
theorem push_texts (base : Nat) (hgd : o.guard = none) (s x : Operand) (A : Option Addr) (m c : Nat)
    (ho : o.op = .call { callee := .builtin .append, args := #[s, x], argTypes := #[27, 27] }) (hs : a.eval s = v) (hx : a.eval x = .slice A m c)
    (HO : OT 9 W base v xs) (HR : RT W A m ys) (HB : Below base w0 W) (hbase : base ≤ W.heap.size) (hl : (xs.length + m) * 16 ≤ 140737488355328)
    (h : ∀ v1 w1, OT 9 w1 base v1 (xs ++ ys) → Below base w0 w1 → W.grownBy w1 v.ownBlock → (v1.ownBlock = v.ownBlock ∨ ∃ b, v1.ownBlock = some b ∧ W.heap.size ≤ b) → wpList Try.prog ops Q rest (a.put o.dst v1) w1) :
    wpList Try.prog ops Q (o :: rest) a W :=
  print_append_row_of Value.string ByteArray.empty base hgd s x 27 9 (.string ByteArray.empty) 16 ho Try.underlying27 str_info rfl (by decide) (fun _ => rfl) v xs ys A m c hs hx HO HR HB hbase hl h
end
section
variable {e : TypeId} {w : World} {base n c : Nat} {A : Option Addr} {xs : List ByteArray}
/-- A row of texts of the call's own: where it lies. -/
theorem _root_.Go.Kit.OT.block_ (h : OT e w base (.slice A n c) xs) (hn : n = xs.length) (hp : 0 < n) : ∃ g, A = some ⟨g, 0, none⟩ ∧ base ≤ g ∧ g < w.heap.size := by
  obtain ⟨g, cap, hv, hb, hl⟩ := World.ownsRow.form h (by omega)
  injection hv with h1
  exact ⟨g, h1, hb, hl⟩
theorem _root_.Go.Kit.OT.at_ {g : Nat} (h : OT e w base (.slice (some ⟨g, 0, none⟩) n c) xs) (hn : n = xs.length) (i : Nat) (hi : i < n) : ∃ x, w.cell? ⟨g, i, none⟩ = some (.string x) ∧ w.frozen? ⟨g, i, none⟩ = false := by
  subst hn
  have := own_at_of (d := ByteArray.empty) h (i : Int) (by omega) (by omega)
  exact ⟨_, this.1, this.2⟩
theorem _root_.Go.Kit.OT.store {g : Nat} (h : OT e w base (.slice (some ⟨g, 0, none⟩) n c) xs) (hn : n = xs.length) (i : Nat) (x : ByteArray) : OT e (w.setCell ⟨g, i, none⟩ (.string x)) base (.slice (some ⟨g, 0, none⟩) n c) (xs.set i x) := by
  subst hn
  have := (own_store_of h (i : Int) x).1
  unfold OT
  simpa using this
end
end Go.Proofs.Ytelfephmjkipoaa
end
/-! The walk of FrameOwn. -/
section
namespace Go.Proofs.Ytelfephmjkipoaa
open Go.RowKit Go.Kit CrcM Go.Proofs.YtelfephmjkipoaaW.PrintWords
attribute [local go_sem] Go.Proofs.YtelfephmjkipoaaW.PrintMore.max_three
def markB : ByteArray := ⟨#[109, 97, 114, 107]⟩
theorem load_strs {W : World} {a : Addr} {v : Value} (h : W.cell? a = some v) : (Instr.loadAt 27 (.pointer (some a))).run Try.prog W = .ok v W := by go_simp
theorem load_u64' {W : World} {a : Addr} {v : Value} (h : W.cell? a = some v) : (Instr.loadAt 22 (.pointer (some a))).run Try.prog W = .ok v W := by go_simp
theorem load_str' {W : World} {a : Addr} {v : Value} (h : W.cell? a = some v) : (Instr.loadAt 9 (.pointer (some a))).run Try.prog W = .ok v W := by go_simp
theorem add_succ (a : Addr) (n : Nat) : a.add (n + 1) = ⟨a.block, a.off + (n + 1), none⟩ := by simp [Addr.add]
theorem neq_self (s : ByteArray) (W : World) : (binOp .neq 9 (.string s) (.string s)).run Try.prog W = .ok (.bool false) W := by go_simp
theorem req_wf {f : Fr} (h : f.wf) (A : Option Addr) (n c : Nat) (args : List ByteArray) (body : ByteArray) : (reqF f.id f.mo f.fu f.di A n c args body).wf :=
  ⟨h.id0, h.id1, ⟨by show (-9223372036854775808 : Int) ≤ 2; decide, by show (2 : Int) ≤ 9223372036854775807; decide⟩, ⟨by show (-9223372036854775808 : Int) ≤ 0; decide, by show (0 : Int) ≤ 9223372036854775807; decide⟩, ⟨by show (-9223372036854775808 : Int) ≤ 0; decide, by show (0 : Int) ≤ 9223372036854775807; decide⟩, ⟨by show (-9223372036854775808 : Int) ≤ 0; decide, by show (0 : Int) ≤ 9223372036854775807; decide⟩, h.mo, h.fu, h.di, z32_byt⟩
attribute [-go_sem] Instr.loadAt Instr.storeAt Instr.build run_slice_h run_slice_any
set_option maxHeartbeats 16000000 in
set_option maxRecDepth 100000 in
theorem FrameOwn_walk (f : Fr) (w : World) (hf : f.ok w) (hw : f.wf) (has : ∀ s ∈ f.args, s.size ≤ 9223372036854775807) (hn : f.n * 16 ≤ 140737488351232) :
    Calls Try.prog 11 #[f.val] w fun e w' => e = .returned (.bool true) ∧ Below w.heap.size w w' := by
  have hb := below_alloc (Below.refl _ w) (.cells f.arr 29)
  have hF := boxed hf.tool w
  have HW := Lib.hid hw
  have HAS := Lib.hid has
  have HN := Lib.hid hn
  have hn2 : f.n ≤ 8796093022207 := by omega
  have HLA := Lib.hid hf.args.len
  show Calls Try.prog _ #[.agg f.arr] w _
  clear hw has hn
  go_enter Try.func11, Try.ntmps11
  go_upto_region 1 with (fail)
  generalize w.alloc (.cells f.arr 29) = w1 at *
  obtain ⟨g, hg⟩ : ∃ g, w.heap.size = g := ⟨_, rfl⟩
  have HG := Lib.hid hg
  rw [hg] at hF ⊢
  clear hg
  go_wp2_with fail
  refine (alive_any _).mono ?_
  rintro e w2 ⟨rfl, hb1⟩
  have hF2 := hF.below hb1
  have hb2 := below_step hb hb1
  have hT2 := hf.args.below hb2
  have e40 := load_strs hF2.c40
  clear hF hb hb1
  go_wp2_with (at_builtin; refine push_texts (w0 := w) w.heap.size rfl (.const (.slice none 0 0)) (.tmp 24) f.A f.n f.c rfl rfl rfl (OT.nil _ _ _) hT2 hb2 hb2.size (by have := HN.out; simp; omega) ?_)
  intro v3 w3 hO3 hb3 hg3 hat3
  replace hO3 : OT 9 w3 w.heap.size v3 f.args := hO3
  have hk3 : Below w2.heap.size w2 w3 := (Only.grown (Only.refl w2 (fun _ => False)) hg3 (fun k e => by cases e)).of_new (fun k e => e.elim)
  have HN3 : Hid (∀ k, v3.ownBlock = some k → w2.heap.size ≤ k) := Lib.hid (fun k e => by
    rcases hat3 with h | ⟨b, h, hb⟩
    · rw [h] at e; cases e
    · rw [h] at e; cases e; exact hb)
  have hba := below_alloc (Below.refl w3.heap.size w3) (.cells #[.string ⟨#[109, 97, 114, 107]⟩, .string ⟨#[109, 97, 114, 107]⟩] 9)
  have hL3 := RT.lit2 w3 ⟨#[109, 97, 114, 107]⟩ ⟨#[109, 97, 114, 107]⟩ 9
  have hk3a := below_step hk3 hba
  have hb3a := below_step hb3 hba
  have hO3a := hO3.below hba
  have HK3 := Lib.hid hk3a
  clear hg3 hat3 hO3 hb3 hk3 hk3a hba hT2
  go_wp2_with (at_builtin; refine push_texts (w0 := w) w.heap.size rfl (.tmp 25) (.tmp 26) (some ⟨w3.heap.size, 0, none⟩) 2 2 rfl rfl rfl hO3a hL3 hb3a hb3a.size (by have := HN.out; have := HLA.out; omega) ?_)
  intro v4 w4 hO4 hb4 hg4 _
  have HK4 : Hid (Below w2.heap.size w2 w4) := Lib.hid (((Only.of_below HK3.out (fun _ => False)).grown hg4 (fun k e => .inr (HN3.out k e))).of_new (fun k e => e.elim))
  clear hg4 hO3a hL3 hb3a e40 HN3 HK3
  have hF4 := hF2.below HK4.out
  obtain ⟨A4, c4, rfl, hR4, hc4, hA4⟩ := OT.open_ hO4
  have hL4 : (f.args ++ [(⟨#[109, 97, 114, 107]⟩ : ByteArray), ⟨#[109, 97, 114, 107]⟩]).length = f.n + 2 := by rw [List.length_append, HLA.out]; rfl
  have HX0 : Hid ((f.args ++ [(⟨#[109, 97, 114, 107]⟩ : ByteArray), ⟨#[109, 97, 114, 107]⟩])[f.n]? = some ⟨#[109, 97, 114, 107]⟩) := Lib.hid (by rw [List.getElem?_append_right (by rw [HLA.out]; exact Nat.le_refl _), HLA.out, Nat.sub_self]; rfl)
  have HX1 : Hid ((f.args ++ [(⟨#[109, 97, 114, 107]⟩ : ByteArray), ⟨#[109, 97, 114, 107]⟩])[f.n + 1]? = some ⟨#[109, 97, 114, 107]⟩) := Lib.hid (by rw [List.getElem?_append_right (by rw [HLA.out]; omega), HLA.out, Nat.add_sub_cancel_left]; rfl)
  obtain ⟨n2, hn2e⟩ : ∃ n2, f.n + 2 = n2 := ⟨_, rfl⟩
  rw [hL4, hn2e] at hR4 hc4
  rw [hL4, hn2e]
  have hx0 : (f.n : Int) < (n2 : Int) := by omega
  have hx1 : (f.n : Int) + 1 < (n2 : Int) := by omega
  have HN2 := Lib.hid hn2e
  have hRm : RT w4 A4 f.n f.args := by
    have := RT.take_ hR4 f.n (by omega)
    rwa [List.take_left' HLA.out] at this
  have hsl := head_texts A4 n2 c4 f.n (by omega)
  have e40 := load_strs hF4.c40
  clear hO4 hL4 hA4 hF2 hn2e
  go_upto_region 5 with (fail)
  clear hsl e40
  have e1 := load_u64' hF4.c1
  have e37 := lim_load hF4
  have e41 := load_str' hF4.c41
  go_wp2_with fail
  refine (Request_any f.id f.mo f.fu f.di A4 f.n c4 f.args f.body _ hRm HN.out).mono ?_
  rintro e w5 ⟨A5, c5, rfl, hO5, hR5, hb5⟩
  obtain ⟨R5, hR5e⟩ : ∃ R5, reqF f.id f.mo f.fu f.di A5 f.n c5 f.args f.body = R5 := ⟨_, rfl⟩
  have HR5 : Hid (R5.tool.length = 32 ∧ ∀ (W : World) (gk : Nat), R5.at_ 29 W gk → W.cell? ⟨gk, 40, none⟩ = some (.slice A5 f.n c5)) := Lib.hid (by
    rw [← hR5e]; exact ⟨rfl, fun W gk h => h.c40⟩)
  unfold Fr.val
  rw [hR5e]
  obtain ⟨wa, w6, s0, s1, hG6, hb6⟩ := frame_put w5 R5 HR5.out.1
  have HG6 := Lib.hid hG6
  have HB6 := Lib.hid hb6
  clear hG6 hb6 hR5e e1 e37 e41 hR5
  go_upto_region 6 with (fail)
  clear s0 s1
  have hG6 := HG6.out
  have hO6 := hO5.below HB6.out
  have hb7 := below_step hb5 HB6.out
  have HGA : Hid (∀ k, A5 = some ⟨k, 0, none⟩ → ¬ k = w5.heap.size) := Lib.hid (fun k e => by
    obtain ⟨A', c', hv, _, _, hA⟩ := OT.open_ hO5
    injection hv with h1
    have := hA _ (h1 ▸ e); dsimp only at this; omega)
  obtain ⟨g6, hg6⟩ : ∃ g6, w5.heap.size = g6 := ⟨_, rfl⟩
  rw [hg6] at hG6 HGA ⊢
  clear hg6 HG6 HB6 hO5 hb5
  have e40 := load_strs (HR5.out.2 _ _ hG6)
  go_wp2_with fail
  go_loopg [44] f.n (fun gk v44 w' => ∃ (i : Nat) (l : List ByteArray), v44 = .int .i64 (i : Int) ∧ l.length = f.n ∧ OT 9 w' w4.heap.size (.slice A5 f.n c5) l ∧ R5.at_ 29 w' g6 ∧ Below w4.heap.size w4 w' ∧ Hid (i + gk = f.n))
  case atStart => exact ⟨0, f.args, rfl, HLA.out, hO6, hG6, hb7, Lib.hid (by omega)⟩
  case round =>
    clear hO6 hG6 hb7 e40
    obtain ⟨i, l, rfl, hl, hO, hGr, hbr, HI⟩ := hrel
    have HL := Lib.hid hl
    have e40 := load_strs (HR5.out.2 _ _ hGr)
    clear hl
    by_cases hi : i < f.n
    · obtain ⟨ga, rfl, hga, hga2⟩ := hO.block_ HL.out.symm (by omega)
      obtain ⟨x, hcx, hfx⟩ := hO.at_ HL.out.symm i hi
      have hi2 : (i : Int) < (f.n : Int) := by omega
      have ss := put_cell_str ⟨#[111, 116, 104, 101, 114]⟩ wr ⟨ga, i, none⟩ _ hcx hfx
      have hOn := hO.store HL.out.symm i ⟨#[111, 116, 104, 101, 114]⟩
      have hgg : ¬ ga = g6 := HGA.out ga rfl
      have hGn := hGr.only (Fr.only_at wr ga i (.string ⟨#[111, 116, 104, 101, 114]⟩)) (fun e => hgg e.symm)
      have hbn := below_set (j := i) (v := .string ⟨#[111, 116, 104, 101, 114]⟩) hbr hga
      clear hcx hfx hO hGr hbr hgg
      go_wp2_with fail
      go_roundg (gk - 1)
      case measure => have := HI.out; omega
      case rel => exact ⟨i + 1, l.set i ⟨#[111, 116, 104, 101, 114]⟩, by simp, by rw [List.length_set]; exact HL.out, hOn, hGn, hbn, Lib.hid (by have := HI.out; omega)⟩
    · have hi2 : ¬ (i : Int) < (f.n : Int) := by omega
      have hba := below_alloc (Below.refl wr.heap.size wr) (.cells #[.string ⟨#[109, 111, 114, 101]⟩, .string ⟨#[109, 111, 114, 101]⟩] 9)
      have hLr := RT.lit2 wr ⟨#[109, 111, 114, 101]⟩ ⟨#[109, 111, 114, 101]⟩ 9
      have hOa := hO.below hba
      have hbra := below_step hbr hba
      clear hO hba hbr hi
      go_wp2_with (at_builtin; refine push_texts (w0 := w4) w4.heap.size rfl (.tmp 53) (.tmp 54) (some ⟨wr.heap.size, 0, none⟩) 2 2 rfl rfl rfl hOa hLr hbra hbra.size (by have := HN.out; have := HL.out; omega) ?_)
      intro v8 w8 _ hb8 _ _
      clear hOa hLr hbra e40 hGr
      have hF8 := hF4.below hb8
      have hR8 := hRm.below hb8
      have hR8a := hR4.below hb8
      have hb9 := below_step hb4 hb8
      clear hF4 hRm hR4 hb4 hb8
      have e1 := load_u64' hF8.c1
      have e37 := lim_load hF8
      have e41 := load_str' hF8.c41
      go_wp2_with fail
      refine (Request_any f.id f.mo f.fu f.di A4 f.n c4 f.args f.body _ hR8 HN.out).mono ?_
      rintro e w9 ⟨A9, c9, rfl, _, hR9, hb10⟩
      obtain ⟨R9, hR9e⟩ : ∃ R9, reqF f.id f.mo f.fu f.di A9 f.n c9 f.args f.body = R9 := ⟨_, rfl⟩
      have HR9 : Hid (R9 = reqF f.id f.mo f.fu f.di A9 f.n c9 f.args f.body) := Lib.hid hR9e.symm
      have HT9 : Hid (R9.tool.length = 32) := Lib.hid (by rw [← hR9e]; rfl)
      have hok9 : R9.ok w9 := ⟨HT9.out, by rw [← hR9e]; exact hR9⟩
      unfold Fr.val
      rw [hR9e]
      obtain ⟨wa, w10, s0, s1, hG, hb11⟩ := frame_put w9 R9 HT9.out
      have HG10 := Lib.hid hG
      have HB10 := Lib.hid (below_step hb10 hb11)
      have HOK10 := Lib.hid (hok9.below hb11)
      clear hG hb10 hb11 hR9e hR9 hok9 e1 e37 e41 hR8
      go_upto_region 13 with (fail)
      clear s0 s1
      have hG10 := HG10.out
      have hok10 := HOK10.out
      have hF10 := hF8.below HB10.out
      have hR10 := hR8a.below HB10.out
      have hb12 := below_step hb9 HB10.out
      obtain ⟨g9, hg9⟩ : ∃ g9, w9.heap.size = g9 := ⟨_, rfl⟩
      rw [hg9] at hG10 ⊢
      clear hg9 HG10 HB10 HOK10 hF8 hR8a hb9
      have e1 := load_u64' hF10.c1
      have e37 := lim_load hF10
      have e40 := load_strs hF10.c40
      have e41 := load_str' hF10.c41
      have hbw := req_built f.id f.mo f.fu f.di f.A f.n f.c f.args f.body
      obtain ⟨Rw, hRwe⟩ : ∃ Rw, reqF f.id f.mo f.fu f.di f.A f.n f.c f.args f.body = Rw := ⟨_, rfl⟩
      have HRw : Hid (Rw = reqF f.id f.mo f.fu f.di f.A f.n f.c f.args f.body) := Lib.hid hRwe.symm
      have HTw : Hid (Rw.tool.length = 32) := Lib.hid (by rw [← hRwe]; rfl)
      have hokw : Rw.ok w10 := ⟨HTw.out, by rw [← hRwe]; exact hf.args.below hb12⟩
      rw [hRwe] at hbw
      obtain ⟨wa, w11, s0, s1, hG, hb13⟩ := frame_put w10 Rw HTw.out
      have HGW := Lib.hid hG
      have HB13 := Lib.hid hb13
      clear hG hb13 hRwe
      go_upto_region 14 with (fail)
      clear s0 s1 hbw e1 e37 e40 e41
      have hG11 := hG10.below HB13.out
      have hok11 := hok10.below HB13.out
      have hokw11 := hokw.below HB13.out
      have hF11 := hF10.below HB13.out
      have hR11 := hR10.below HB13.out
      have hb14 := below_step hb12 HB13.out
      have hGW := HGW.out
      obtain ⟨gw, hgw⟩ : ∃ gw, w10.heap.size = gw := ⟨_, rfl⟩
      rw [hgw] at hGW ⊢
      clear hgw HGW HB13 hG10 hok10 hokw hF10 hR10 hb12
      have hS : R9.same Rw = true := by rw [same_iff, HR9.out, HRw.out]; rfl
      have e9 := get_frame hG11
      have ew := get_frame hGW
      go_wp2_with fail
      refine (rSame_is R9 Rw true hS _ hok11 hokw11).mono ?_
      rintro e w12 ⟨rfl, hb15⟩
      have hF12 := hF11.below hb15
      have hR12 := hR11.below hb15
      have e40 := load_strs hF12.c40
      obtain ⟨ad, x, rfl, hcx, HX⟩ := hR12.at_ f.n (by omega)
      obtain ⟨ad', x', hA', hcx', HX'⟩ := hR12.at_ (f.n + 1) (by omega)
      cases hA'
      obtain rfl : x = ⟨#[109, 97, 114, 107]⟩ := Option.some.inj (HX.out.symm.trans HX0.out)
      obtain rfl : x' = ⟨#[109, 97, 114, 107]⟩ := Option.some.inj (HX'.out.symm.trans HX1.out)
      have el0 := load_str' hcx
      rw [add_succ] at hcx'
      have el1 := load_str' hcx'
      have qn := neq_self ⟨#[109, 97, 114, 107]⟩
      have htn : ((f.n : Int) + 1).toNat = f.n + 1 := by omega
      have hok12 := hok11.below hb15
      have hokw12 := hokw11.below hb15
      have hG12 := hG11.below hb15
      have hGw12 := hGW.below hb15
      have hb16 := below_step hb14 hb15
      have hFx12 := hF12
      clear hF11 hR11 hok11 hokw11 hG11 hGW hb14 hb15 e9 ew hcx hcx' hR12
      go_upto_region 16 with (fail)
      clear e40 el0 el1 qn htn hF12 HX HX' HX0 HX1 hx0 hx1 HN2
      have hwf9 : R9.wf := by rw [HR9.out]; exact req_wf HW.out _ _ _ _ _
      have HWF9 := Lib.hid hwf9
      have has9 : ∀ s ∈ R9.args, s.size ≤ 9223372036854775807 := by rw [HR9.out]; exact HAS.out
      have cE := fun W (h : Below w12.heap.size w12 W) => Encode_any (hok12.below h) hwf9 has9
      obtain ⟨l0, hl0⟩ : ∃ l0, encF R9 = l0 := ⟨_, rfl⟩
      obtain ⟨c, hc⟩ : ∃ c, chkF R9 = c := ⟨_, rfl⟩
      have HL0 := Lib.hid hl0
      have HC := Lib.hid hc
      rw [hl0, hc] at cE
      unfold Fr.val at cE
      have e9 := get_frame hG12
      clear hl0 hc hwf9 has9
      go_wp2_with fail
      refine (cE w12 (Below.refl _ _)).mono ?_
      rintro e w13 ⟨v13, rfl, hO13, hb17⟩
      have hG13 := hG12.below hb17
      have e9' := get_frame hG13
      clear e9 hG12
      go_wp2_with fail
      refine (cE w13 hb17).mono ?_
      rintro e w14 ⟨v14, rfl, hO14, hb18⟩
      have hO13a := hO13.below hb18
      have hGw14 := (hGw12.below hb17).below hb18
      have hokw14 := (hokw12.below hb17).below hb18
      have hF14 := (hFx12.below hb17).below hb18
      have hb19 := below_step (below_step hb16 hb17) hb18
      obtain ⟨N, hN⟩ : ∃ N, l0.length = N := ⟨_, rfl⟩
      have HLN := Lib.hid hN
      by_cases h0 : c = 0
      · subst h0
        obtain ⟨q1, q2, q3, q4⟩ := len_enc HC.out
        have q5 := sh_ten (n := (bodyF R9).length) (by omega)
        rw [HL0.out, hN] at q4
        have hN1 : 1 ≤ N := by omega
        have hN2 : N ≤ 2097166 := by omega
        have HDB : Hid (Lim R9 → decF l0 = (R9.core, 0, 0)) := Lib.hid (fun h => by rw [← HL0.out]; exact dec_enc HWF9.out HT9.out HC.out h)
        have HDO : Hid (¬ Lim R9 → ∃ y, decF l0 = (noF, 11, y)) := Lib.hid (fun h => by rw [← HL0.out]; exact dec_over HWF9.out HC.out h)
        have HB14 : Hid (Below w12.heap.size w12 w14) := Lib.hid (below_step hb17 hb18)
        clear q1 q2 q3 q4 q5 cE e9' hG13 hok12 hb19 hGw14 hokw14 hF14
        obtain ⟨gb, c13, rfl, hgb0, hgb1⟩ := hO13.open_ (by omega)
        rw [hN] at hO13a ⊢
        obtain ⟨A14, c14, rfl, hR14, hc14, hA14⟩ := hO14.reads_from
        rw [hN] at hR14 hc14 ⊢
        have HA14 : Hid (∀ a, A14 = some a → ¬ a.block = gb) := Lib.hid (fun a e hg => by have := hA14 a e; omega)
        have HGB : Hid (w12.heap.size ≤ gb ∧ gb < w14.heap.size) := Lib.hid ⟨hgb0, by have := hb18.size; omega⟩
        clear hO13 hO14 hA14 hN hgb0 hgb1 hb17 hb18
        go_wp2_with (at_builtin; refine push_row (w0 := w14) w14.heap.size rfl (.const (.slice none 0 0)) (.tmp 116) 38 l0 A14 N c14 rfl Try.underlying38 u8_info rfl rfl (OB.nil _ _ _) hR14 (Below.refl _ _) (Nat.le_refl _) (by simp; omega) ?_)
        intro v15 w15 hO15 hb20 _ _
        replace hO15 : OB 5 w15 w14.heap.size v15 l0 := hO15
        have HO15 := Lib.hid hO15
        have hOb := hO13a.below hb20
        have hR15 := hR14.below hb20
        have HB15 : Hid (Below w12.heap.size w12 w15) := Lib.hid (below_step HB14.out hb20)
        clear hO13a hR14 hb20 hO15 HB14
        go_wp2_with fail
        go_loopg [120] N (fun gk v120 w' => ∃ (i : Nat) (lb : List Int), v120 = .int .i64 (i : Int) ∧ lb.length = N ∧ OB 5 w' w12.heap.size (.slice (some ⟨gb, 0, none⟩) N c13) lb ∧ Only w15 w' (fun k => k = gb) ∧ Hid (i + gk = N))
        case atStart => exact ⟨0, l0, rfl, HLN.out, hOb, Only.refl _ _, Lib.hid (by omega)⟩
        case round =>
          clear hOb
          obtain ⟨i, lb, rfl, hlb, hOb, hoi, HI⟩ := hrel
          have HLB := Lib.hid hlb
          clear hlb
          by_cases hi : i < N
          · obtain ⟨x, hcx, hfx, hx0, hx1, _⟩ := hOb.at_ HLB.out.symm i hi
            have hi2 : (i : Int) < (N : Int) := by omega
            have ss := put_cell_u8 170 wr ⟨gb, i, none⟩ _ hcx hfx
            have hOn := hOb.store HLB.out.symm i 170 (by decide) (by decide)
            have hon := hoi.same (Fr.only_at wr gb i (.int .u8 170))
            clear hcx hfx hOb hoi hx0 hx1
            go_wp2_with fail
            go_roundg (gk - 1)
            case measure => have := HI.out; omega
            case rel => exact ⟨i + 1, lb.set i 170, by simp, by rw [List.length_set]; exact HLB.out, hOn, hon, Lib.hid (by have := HI.out; omega)⟩
          · have hi2 : ¬ (i : Int) < (N : Int) := by omega
            have hba := below_alloc (Below.refl wr.heap.size wr) (.cells #[.int .u8 171, .int .u8 172] 5)
            have hLb : RB (wr.alloc (.cells #[.int .u8 171, .int .u8 172] 5)) (some ⟨wr.heap.size, 0, none⟩) 2 [171, 172] := by
              have := RB.lit wr [171, 172] (fun y hy => by simp at hy; omega) (by simp) 5 (0, 0)
              simpa [nums] using this
            have hbBr := below_step (Below.only HB15.out hoi HB15.out.size (fun k e => by have := HGB.out; omega)) hba
            have hOa := hOb.below hba
            have hoa := hoi.alloc (.cells #[.int .u8 171, .int .u8 172] 5)
            clear hOb hba hoi hi
            go_wp2_with (at_builtin; refine push_row (w0 := w12) w12.heap.size rfl (.tmp 127) (.tmp 128) 38 [171, 172] (some ⟨wr.heap.size, 0, none⟩) 2 2 rfl Try.underlying38 u8_info rfl rfl hOa hLb hbBr hbBr.size (by have := HLB.out; omega) ?_)
            intro v17 w17 _ hbB17 hg17 _
            have ho17 := hoa.grown hg17 (fun k e => by cases e; exact .inl rfl)
            have hR17 := hR15.apart ho17 HA14.out
            have HO17 : Hid (OB 5 w17 w14.heap.size v15 l0) := Lib.hid (HO15.out.only ho17 (fun k hk e => by have := HO15.out.from k hk; have := HGB.out; omega))
            clear hOa hLb hbBr hoa hg17 ho17 hR15 HO15 HB15 HA14 HGB
            go_wp2_with fail
            refine (Decode_any hR17 hc14).mono ?_
            rintro e w18 ⟨F1, x1, y1, rfl, HD1, hok1, hoa1, hb22⟩
            obtain ⟨wp, wq, w19, s0, s1, s2, hG1, _, hb23⟩ := two_put w18 F1 hok1.tool x1 y1
            have HG1 := Lib.hid hG1
            have HBC : Hid (Below w17.heap.size w17 w19) := Lib.hid (below_step hb22 hb23)
            have HOA1 := Lib.hid (hoa1.below hb23)
            have HLA1 := Lib.hid hok1.args.len
            have hnf : F1.n ≤ f.n := by
              have hA1 : F1.args = f.args ∨ F1.args = [] := by
                by_cases h : Lim R9
                · have e := HD1.out.2
                  rw [HDB.out h, HR9.out] at e
                  have e2 := congrArg Fr.args e; exact .inl e2
                · obtain ⟨y, hy⟩ := HDO.out h
                  have e := HD1.out.2
                  rw [hy] at e
                  have e2 := congrArg Fr.args e; exact .inr e2
              have h1 := hok1.args.len
              rcases hA1 with h | h <;> rw [h] at h1
              · rw [HLA.out] at h1; omega
              · simp at h1; omega
            have HNF := Lib.hid hnf
            have hn1 : F1.n ≤ 8796093022207 := by omega
            have HAB : Hid (∀ k, rf (.slice F1.A F1.n F1.c) k → w17.heap.size ≤ k ∧ k < w18.heap.size) := Lib.hid (fun k hk => by obtain ⟨a, e, rfl⟩ := own_block_at hk; exact hoa1.fresh a e)
            have HS18 := Lib.hid hb23.size
            clear hG1 hb23 hb22 hok1 hoa1 hnf HD1
            go_upto_region 28 with (fail)
            clear s0 s1 s2
            have hR19 := hR17.below HBC.out
            go_wp2_with fail
            refine (Decode_any hR19 hc14).mono ?_
            rintro e w20 ⟨F2, x2, y2, rfl, HD2, hok2, hoa2, hb24⟩
            obtain ⟨wp, wq, w21, s0, s1, s2, hG2, _, hb25⟩ := two_put w20 F2 hok2.tool x2 y2
            have HG2 := Lib.hid hG2
            have HB25 := Lib.hid (below_step hb24 hb25)
            have HOK2 := Lib.hid (hok2.below hb25)
            have HA2 : Hid (∀ a, F2.A = some a → w18.heap.size ≤ a.block) := Lib.hid (fun a e => by have := (hoa2.fresh a e).1; have := HS18.out; omega)
            have HG2N : Hid (w18.heap.size ≤ w20.heap.size) := Lib.hid (by have := hb24.size; have := HS18.out; omega)
            clear hG2 hb24 hb25 hok2 hoa2 hR19
            go_upto_region 29 with (fail)
            clear s0 s1 s2
            have hb26 := below_step HBC.out HB25.out
            have hG1 := HG1.out.below HB25.out
            have hoa1 := HOA1.out.below HB25.out
            have hG2 := HG2.out
            have hok2 := HOK2.out
            obtain ⟨g1, hg1⟩ : ∃ g1, w18.heap.size = g1 := ⟨_, rfl⟩
            obtain ⟨g2, hg2⟩ : ∃ g2, w20.heap.size = g2 := ⟨_, rfl⟩
            rw [hg1] at hG1 HA2 HAB HG2N
            rw [hg2] at hG2 HG2N
            rw [hg1, hg2]
            clear hg1 hg2 HG1 HG2 HOA1 HOK2 HBC HB25 HS18
            have e40 := load_strs hG1.c40
            go_wp2_with fail
            go_loopg [143] F1.n (fun gk v143 w' => ∃ (i : Nat) (l : List ByteArray), v143 = .int .i64 (i : Int) ∧ l.length = F1.n ∧ OT 9 w' w17.heap.size (.slice F1.A F1.n F1.c) l ∧ F1.at_ 29 w' g1 ∧ Only w21 w' (rf (.slice F1.A F1.n F1.c)) ∧ Hid (i + gk = F1.n))
            case atStart => exact ⟨0, F1.args, rfl, HLA1.out, hoa1, hG1, Only.refl _ _, Lib.hid (by omega)⟩
            case round =>
              clear hoa1 hG1 e40
              obtain ⟨i, l, rfl, hl, hO, hG1, hoi, HI⟩ := hrel
              have HL := Lib.hid hl
              have e40 := load_strs hG1.c40
              clear hl
              by_cases hi : i < F1.n
              · obtain ⟨ga, hA, hga, hga2⟩ := hO.block_ HL.out.symm (by omega)
                have hbk : rf (.slice F1.A F1.n F1.c) ga := by rw [hA]; rfl
                rw [hA] at e40
                have hO' := hO
                rw [hA] at hO'
                obtain ⟨x, hcx, hfx⟩ := hO'.at_ HL.out.symm i hi
                have hi2 : (i : Int) < (F1.n : Int) := by omega
                have ss := put_cell_str ⟨#[116, 104, 105, 114, 100]⟩ wr ⟨ga, i, none⟩ _ hcx hfx
                have hOn := hO'.store HL.out.symm i ⟨#[116, 104, 105, 114, 100]⟩
                rw [← hA] at hOn
                have hgg : ¬ ga = g1 := fun e => by have := (HAB.out ga hbk).2; omega
                have hGn := hG1.only (Fr.only_at wr ga i (.string ⟨#[116, 104, 105, 114, 100]⟩)) (fun e => hgg e.symm)
                have hon := hoi.set ga i (.string ⟨#[116, 104, 105, 114, 100]⟩) (.inl hbk)
                clear hcx hfx hO hG1 hoi hgg hO' hbk hga hga2 hA
                go_wp2_with fail
                go_roundg (gk - 1)
                case measure => have := HI.out; omega
                case rel => exact ⟨i + 1, l.set i ⟨#[116, 104, 105, 114, 100]⟩, by simp, by rw [List.length_set]; exact HL.out, hOn, hGn, hon, Lib.hid (by have := HI.out; omega)⟩
              · have hi2 : ¬ (i : Int) < (F1.n : Int) := by omega
                have hba := below_alloc (Below.refl wr.heap.size wr) (.cells #[.string ⟨#[102, 111, 117, 114, 116, 104]⟩] 9)
                have hLr := rt_lit wr ⟨#[102, 111, 117, 114, 116, 104]⟩
                have hOa := hO.below hba
                have hbra := below_step (Below.only hb26 hoi hb26.size (fun k e => (HAB.out k e).1)) hba
                have hoa := hoi.alloc (.cells #[.string ⟨#[102, 111, 117, 114, 116, 104]⟩] 9)
                clear hO hba hoi hi hb26
                go_wp2_with (at_builtin; refine push_texts (w0 := w17) w17.heap.size rfl (.tmp 152) (.tmp 153) (some ⟨wr.heap.size, 0, none⟩) 1 1 rfl rfl rfl hOa hLr hbra hbra.size (by have := HNF.out; have := HN.out; have := HL.out; omega) ?_)
                intro v23 w23 _ hb23 hg23 _
                have ho23 := hoa.grown hg23 (fun k e => .inl e)
                have hG23 := hG2.only ho23 (fun e => by have := (HAB.out _ e).2; have := HG2N.out; omega)
                have hok23 : F2.ok w23 := ⟨hok2.tool, hok2.args.apart ho23 (fun a e hk => by have := HA2.out a e; have := (HAB.out _ hk).2; omega)⟩
                have hR23 := hR17.below hb23
                have hO23 := HO17.out.below hb23
                have hbB23 := below_step hbB17 hb23
                have hF23 := hFx12.below hbB23
                have hGw23 := hGw12.below hbB23
                have hokw23 := hokw12.below hbB23
                have hb27 := below_step hb16 hbB23
                clear hOa hLr hbra hoa hg23 e40 hG1 ho23 hG2 hok2 hR17 HO17 hb23 hbB17 hbB23 hFx12 hGw12 hokw12 hb16
                have eL := lim_load hF23
                obtain ⟨wa, w24, s0, s1, hL, hbl⟩ := lim_put w23 f.mo f.fu f.di
                have HL24 := Lib.hid hL
                have HB24 := Lib.hid hbl
                clear hL hbl
                go_upto_region 36 with (fail)
                clear s0 s1 eL
                have hL24 := HL24.out
                obtain ⟨gl, hgl⟩ : ∃ gl, w23.heap.size = gl := ⟨_, rfl⟩
                rw [hgl] at hL24 ⊢
                have hbz := HB24.out
                have hG24 := hG23.below hbz
                have hok24 := hok23.below hbz
                have hR24 := hR23.below hbz
                have hO24 := hO23.below hbz
                have hGw24 := hGw23.below hbz
                have hokw24 := hokw23.below hbz
                have hb28 := below_step hb27 hbz
                obtain ⟨A15, c15, rfl, hRd, _⟩ := hO24.reads'
                rw [HLN.out] at hRd ⊢
                clear hgl HL24 HB24 hG23 hok23 hR23 hO23 hGw23 hokw23 hb27 hbz hF23 hO24
                go_wp2_with fail
                refine (Equal_same hR24 hRd rfl).mono ?_
                rintro e w25 ⟨rfl, rfl⟩
                have e2 := get_frame hG24
                have ew := get_frame hGw24
                by_cases hlim : Lim R9
                · have hS2 : F2.same Rw = true := by
                    rw [same_iff, HD2.out.2, HDB.out hlim, HR9.out, HRw.out]; rfl
                  clear hlim
                  go_wp2_with fail
                  refine (rSame_is F2 Rw true hS2 _ hok24 hokw24).mono ?_
                  rintro e w26 ⟨rfl, hb29⟩
                  have hb30 := below_step hb28 hb29
                  clear e2 ew hG24 hGw24
                  go_wp2_with fail
                  go_ret
                  exact ⟨rfl, hb30⟩
                · have hS2 : F2.same Rw = false := by
                    obtain ⟨y, hy⟩ := HDO.out hlim
                    have e := HD2.out.2
                    rw [hy] at e
                    cases hs : F2.same Rw with
                    | false => rfl
                    | true =>
                      rw [same_iff, e, HRw.out] at hs
                      have := congrArg Fr.k hs
                      exact absurd this (by show ¬ (0 : Int) = 2; decide)
                  have hlim2 : ¬ Lim f := fun h => hlim (by rw [HR9.out]; exact h)
                  obtain ⟨m1, m2, k1, k2, hm⟩ : ∃ m1 m2, Builtin.max2 (.int .i64 f.mo) (.int .i64 f.fu) = pure (.int .i64 m1) ∧ Builtin.max2 (.int .i64 m1) (.int .i64 f.di) = pure (.int .i64 m2) ∧ (m2 ≤ 2147483648 ↔ Lim f) := by
                    refine ⟨max f.mo f.fu, max (max f.mo f.fu) f.di, max2_is rfl, max2_is rfl, ?_⟩
                    unfold Lim; omega
                  have hm2 : 2147483648 < m2 := by
                    rcases Int.lt_or_le 2147483648 m2 with h | h
                    · exact h
                    · exact absurd (hm.1 h) hlim2
                  clear hlim hlim2 hm
                  go_wp2_with fail
                  refine (rSame_is F2 Rw false hS2 _ hok24 hokw24).mono ?_
                  rintro e w26 ⟨rfl, hb29⟩
                  have hb30 := below_step hb28 hb29
                  have hL26 := (hb29.block _ (lt_of_block hL24)).trans hL24
                  obtain ⟨d0, d1, d2⟩ := lim_three w26 gl f.mo f.fu f.di hL26
                  clear e2 ew hG24 hGw24 hL24 hL26
                  go_wp2_with fail
                  go_ret
                  exact ⟨rfl, hb30⟩
      · have b0 : (c != 0) = true := by simpa using h0
        have hl : N = 0 := by rw [← hN, ← HL0.out]; unfold encF; rw [if_pos (by rw [HC.out]; exact h0)]; rfl
        obtain ⟨A13, c13, rfl, _, _⟩ := hO13a.reads'
        obtain ⟨A14, c14, rfl, _, _⟩ := hO14.reads'
        rw [hN, hl]
        clear h0 hl hN hO13 hO13a hO14 cE e9' hG13 hok12 hGw12 hokw12
        go_wp2_with fail
        go_ret
        exact ⟨rfl, hb19⟩
end Go.Proofs.Ytelfephmjkipoaa
end
