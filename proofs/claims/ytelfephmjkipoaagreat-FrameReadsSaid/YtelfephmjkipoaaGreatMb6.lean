/- Contracts of functions that the laws reach (texts laid together, part 6): each says of its call what it answers and what it leaves of memory; the conditions stand in each statement. -/
import Derived.Test.YtelfephmjkipoaaGreatMb5
set_option linter.unusedVariables false
/-! The walk of FrameForm. (mk_frfo) -/
section
namespace Go.Proofs.YtelfephmjkipoaaGreat
open Go.RowKit Go.Kit Go.Proofs.YtelfephmjkipoaaGreatW.PrintWords
theorem dec_zero {xs : List Int} {f : Fr} {y : Int} (h : decF xs = (f, 0, y)) : y = 0 := by
  unfold decF at h
  split at h
  · next h0 => exact absurd (congrArg (fun p => p.2.1) h) h0
  split at h
  · exact absurd (congrArg (fun p => p.2.1) h) (by show ¬ (4 : Int) = 0; decide)
  split at h
  · exact absurd (congrArg (fun p => p.2.1) h) (by show ¬ (6 : Int) = 0; decide)
  split at h
  · exact absurd (congrArg (fun p => p.2.1) h) (by show ¬ (71 : Int) = 0; decide)
  unfold readF at h
  split at h
  split at h
  · next hc => exact absurd (congrArg (fun p => p.2.1) h) hc
  · exact (congrArg (fun p => p.2.2) h).symm
theorem dec_none {xs : List Int} (h : (decF xs).2.1 ≠ 0) : (decF xs).1 = noF := by
  unfold decF at h ⊢
  split
  · rfl
  · next h0 =>
    rw [if_neg h0] at h
    split
    · rfl
    · next h1 =>
      rw [if_neg h1] at h
      split
      · rfl
      · next h2 =>
        rw [if_neg h2] at h
        split
        · rfl
        · next h3 =>
          rw [if_neg h3] at h
          exact readF_none h
theorem form_of {xs : List Int} (hb : Byt xs) {F : Fr} (h1 : (decF xs).2 = (0, 0)) (h2 : F.core = (decF xs).1) : chkF F = 0 ∧ encF F = xs ∧ F.wf ∧ ∀ s ∈ F.args, s.size ≤ 9223372036854775807 := by
  have e : decF xs = (F.core, 0, 0) := Prod.ext h2.symm h1
  obtain ⟨a, b, c⟩ := dec_form hb e
  have hm := (chk_facts a).1
  exact ⟨a, b, core_wf rfl c ⟨hm.k1, hm.k6⟩, fun s hs => by have := c.each s hs; omega⟩
theorem load_errno {W : World} {a : Addr} {v : Value} (h : W.cell? a = some v) : (Instr.loadAt 31 (.pointer (some a))).run Tryz.prog W = .ok v W := by go_simp
theorem load_why {W : World} {g : Nat} {a b : Int} (h : W.heap[g]? = some (.cells (fv a b) 33 (0, 0))) : (Instr.loadAt 31 (.pointer (some ⟨g, 0, none⟩))).run Tryz.prog W = .ok (.int .i64 a) W := load_errno (by rw [cell_of_row W g 0 _ _ _ h]; rfl)
attribute [-go_sem] Instr.loadAt Instr.storeAt Instr.build
section
variable {A : Option Addr} {n cap : Nat} {xs : List Int} {w : World}
end
end Go.Proofs.YtelfephmjkipoaaGreat
end
/-! The document's reading of a body's fields. (mk_frrb.py) -/
section
namespace Go.Proofs.YtelfephmjkipoaaGreat
open Go.RowKit Go.Kit Go.Proofs.YtelfephmjkipoaaGreatW.PrintWords
theorem one_new (W : World) : (kF 0).at_ 30 (W.alloc (.cells #[.int .i64 0, .int .u64 0, .int .i64 0, .int .i64 0, .int .u8 0, .int .u8 0, .int .u8 0, .int .u8 0, .int .u8 0, .int .u8 0, .int .u8 0, .int .u8 0, .int .u8 0, .int .u8 0, .int .u8 0, .int .u8 0, .int .u8 0, .int .u8 0, .int .u8 0, .int .u8 0, .int .u8 0, .int .u8 0, .int .u8 0, .int .u8 0, .int .u8 0, .int .u8 0, .int .u8 0, .int .u8 0, .int .u8 0, .int .u8 0, .int .u8 0, .int .u8 0, .int .u8 0, .int .u8 0, .int .u8 0, .int .u8 0, .int .i64 0, .int .i64 0, .int .i64 0, .int .i64 0, .slice none 0 0, .string ⟨#[]⟩] 30)) W.heap.size ∧ Below W.heap.size W (W.alloc (.cells #[.int .i64 0, .int .u64 0, .int .i64 0, .int .i64 0, .int .u8 0, .int .u8 0, .int .u8 0, .int .u8 0, .int .u8 0, .int .u8 0, .int .u8 0, .int .u8 0, .int .u8 0, .int .u8 0, .int .u8 0, .int .u8 0, .int .u8 0, .int .u8 0, .int .u8 0, .int .u8 0, .int .u8 0, .int .u8 0, .int .u8 0, .int .u8 0, .int .u8 0, .int .u8 0, .int .u8 0, .int .u8 0, .int .u8 0, .int .u8 0, .int .u8 0, .int .u8 0, .int .u8 0, .int .u8 0, .int .u8 0, .int .u8 0, .int .i64 0, .int .i64 0, .int .i64 0, .int .i64 0, .slice none 0 0, .string ⟨#[]⟩] 30)) := ⟨⟨heap_alloc_new W _, rfl⟩, below_alloc (Below.refl _ W) _⟩
theorem frame_put (W : World) (F : Fr) (hT : F.tool.length = 32) : ∃ W1 W2 : World, W.alloc (.cells #[.int .i64 0, .int .u64 0, .int .i64 0, .int .i64 0, .int .u8 0, .int .u8 0, .int .u8 0, .int .u8 0, .int .u8 0, .int .u8 0, .int .u8 0, .int .u8 0, .int .u8 0, .int .u8 0, .int .u8 0, .int .u8 0, .int .u8 0, .int .u8 0, .int .u8 0, .int .u8 0, .int .u8 0, .int .u8 0, .int .u8 0, .int .u8 0, .int .u8 0, .int .u8 0, .int .u8 0, .int .u8 0, .int .u8 0, .int .u8 0, .int .u8 0, .int .u8 0, .int .u8 0, .int .u8 0, .int .u8 0, .int .u8 0, .int .i64 0, .int .i64 0, .int .i64 0, .int .i64 0, .slice none 0 0, .string ⟨#[]⟩] 30) = W1 ∧
    (Instr.storeAt 30 (.pointer (some ⟨W.heap.size, 0, none⟩)) (.agg F.arr)).run Tryz.prog W1 = .ok () W2 ∧ F.at_ 30 W2 W.heap.size ∧ Below W.heap.size W W2 := by
  obtain ⟨hF, hb⟩ := one_new W
  exact ⟨_, _, rfl, put_frame F hT hF, put_at F hT hF, below_setRow hb (Nat.le_refl _) _⟩
theorem frame_new (W : World) : ∃ W1 : World, W.alloc (.cells #[.int .i64 0, .int .u64 0, .int .i64 0, .int .i64 0, .int .u8 0, .int .u8 0, .int .u8 0, .int .u8 0, .int .u8 0, .int .u8 0, .int .u8 0, .int .u8 0, .int .u8 0, .int .u8 0, .int .u8 0, .int .u8 0, .int .u8 0, .int .u8 0, .int .u8 0, .int .u8 0, .int .u8 0, .int .u8 0, .int .u8 0, .int .u8 0, .int .u8 0, .int .u8 0, .int .u8 0, .int .u8 0, .int .u8 0, .int .u8 0, .int .u8 0, .int .u8 0, .int .u8 0, .int .u8 0, .int .u8 0, .int .u8 0, .int .i64 0, .int .i64 0, .int .i64 0, .int .i64 0, .slice none 0 0, .string ⟨#[]⟩] 30) = W1 ∧ (kF 0).at_ 30 W1 W.heap.size ∧ Below W.heap.size W W1 := by
  obtain ⟨hF, hb⟩ := one_new W
  exact ⟨_, rfl, hF, hb⟩
theorem build_kind (k : Int) (W : World) : (Instr.build 30 #[(0, .int .i64 k)]).run Tryz.prog W = .ok (.agg (kF k).arr) W := by kernel_rfl
section
variable {f : Fr} {t : TypeId} {w : World} {g : Nat}
theorem tool_set (T : List Value) (a b c d : Value) (R : List Value) (j : Nat) (hj : j < T.length) (v : Value) : ([a, b, c, d] ++ (T ++ R)).set (4 + j) v = [a, b, c, d] ++ (T.set j v ++ R) := by
  rw [List.set_append_right _ _ (by simp), List.set_append_left _ _ (by simpa using hj)]
  congr 3
  simp
theorem _root_.Go.Kit.Fr.at_.setTool (h : f.at_ t w g) (j : Nat) (hj : j < 32) (x : Int) : ({ f with tool := f.tool.set j x } : Fr).at_ t (w.setCell ⟨g, 4 + j, none⟩ (.int .u8 x)) g := by
  refine ⟨?_, by show (f.tool.set j x).length = 32; rw [List.length_set]; exact h.tool⟩
  have h1 := heap_set_same w g (4 + j) _ _ (.int .u8 x) h.blk
  rw [h1]
  unfold Fr.arr
  rw [List.setIfInBounds_toArray]
  have e : f.cells.set (4 + j) (.int .u8 x) = ({ f with tool := f.tool.set j x } : Fr).cells := by
    unfold Fr.cells
    rw [tool_set _ _ _ _ _ _ j (by simp [nums, h.tool]; omega)]
    simp [nums, List.map_set, Fr.lim]
  rw [e]
end
theorem some_le {D D1 : Rd} {k : Nat} (h : someS D 6 = (D1, k)) : k ≤ 6 := by
  unfold someS at h
  split at h
  · cases h; omega
  · have := count_le (by omega) h; omega
/-- What reading a body's fields leaves. -/
def FieldsPost (w : World) (q n c : Nat) (A : Option Addr) (D : Rd) (e : Ending) (w' : World) : Prop :=
  ∃ (D1 : Rd) (F : Fr), e = .returned (.agg F.arr) ∧ Hid (fieldsS D = (D1, F.core)) ∧ QR w' q A n c D1 ∧ F.ok w' ∧ (∀ a, F.A = some a → w.heap.size ≤ a.block) ∧ Only w w' (fun k => k = q)
theorem notq {q g : Nat} {A : Option Addr} (h : ¬ qrf q A g) : ¬ g = q := fun e => h (.inl e)
theorem sepq {q g : Nat} {A : Option Addr} (h : ¬ qrf q A g) : Sep (qrf q A) (fun k => k = g) := fun k hk e => h (e ▸ hk)
theorem fields_end {w w3 W : World} {q g gr : Nat} {cs : Array Value} (h3 : Only w w3 (fun k => k = q)) (ho : Only w3 W (fun k => k = q ∨ k = g)) (hg : w.heap.size ≤ g) (hgr : w.heap.size ≤ gr) : Only w (W.setRow gr cs) (fun k => k = q) :=
  (h3.then_ ho (fun k e => e.elim .inl (fun e => .inr (by omega)))).then_ (Fr.only_row W gr cs) (fun k e => .inr (by omega))
theorem fields_of {D D1 D2 : Rd} {k j : Nat} {F : Fr} (hk : k = j) (h : someS D 6 = (D1, k)) (h2 : kindS D1 j = (D2, F)) : fieldsS D = (D2, F) := by
  unfold fieldsS; rw [h]; subst hk; exact h2
theorem load_int' {W : World} {a : Addr} {v : Value} (h : W.cell? a = some v) : (Instr.loadAt 3 (.pointer (some a))).run Tryz.prog W = .ok v W := by go_simp
theorem _root_.Go.Kit.OB.reads_from {e : TypeId} {w : World} {base : Nat} {v : Value} {xs : List Int} (h : OB e w base v xs) : ∃ A c, v = .slice A xs.length c ∧ RB w A xs.length xs ∧ xs.length ≤ c ∧ ∀ a, A = some a → base ≤ a.block := by
  obtain ⟨A, c, hv, hr, hc⟩ := h.reads'
  refine ⟨A, c, hv, hr, hc, fun a e => ?_⟩
  rcases h.own.2 with ⟨h1, h2⟩ | ⟨g, cap, cur, h1, h2, _⟩
  · rw [hv] at h1
    injection h1 with h3
    rw [h3] at e; cases e
  · rw [hv] at h1
    injection h1 with h3
    rw [h3] at e; cases e; exact h2
theorem put_cell_u8 (y : Int) (W : World) (a : Addr) (u : Value) (hc : W.cell? a = some u) (hf : W.frozen? a = false) : (Instr.storeAt 5 (.pointer (some a)) (.int .u8 y)).run Tryz.prog W = .ok () (W.setCell a (.int .u8 y)) := by go_simp
theorem load_cell_u8 {W : World} {a : Addr} {v : Value} (h : W.cell? a = some v) : (Instr.loadAt 5 (.pointer (some a))).run Tryz.prog W = .ok v W := by go_simp
theorem tool_cell {f : Fr} {t : TypeId} {w : World} {g : Nat} (h : f.at_ t w g) (i : Nat) (hi : i < 32) : ∃ u, w.cell? ⟨g, 4 + i, none⟩ = some u := by
  have hl : i < (nums .u8 f.tool).length := by rw [nums_length, h.tool]; exact hi
  exact ⟨_, h.r4 i _ (List.getElem?_eq_getElem hl)⟩
theorem tool_step (ts : List Int) (i : Nat) (x : Int) (hi : i < 32) (hx : ts[i]? = some x) : (ts.take i ++ z32.drop i).set i x = ts.take (i + 1) ++ z32.drop (i + 1) := by
  have hl : i < ts.length := by
    rcases Nat.lt_or_ge i ts.length with h | h
    · exact h
    · rw [List.getElem?_eq_none h] at hx; cases hx
  have e1 : (ts.take i).length = i := by rw [List.length_take]; omega
  have e2 : z32.drop i = 0 :: z32.drop (i + 1) := by
    have : i < z32.length := by simpa [z32] using hi
    rw [List.drop_eq_getElem_cons this]; congr 1; exact List.getElem_replicate _
  rw [List.set_append_right _ _ (by omega), e1, Nat.sub_self, e2, List.set_cons_zero, snoc hx, List.append_assoc]
  rfl
theorem put_cell_int (y : Int) (W : World) (a : Addr) (u : Value) (hc : W.cell? a = some u) (hf : W.frozen? a = false) : (Instr.storeAt 3 (.pointer (some a)) (.int .i64 y)).run Tryz.prog W = .ok () (W.setCell a (.int .i64 y)) := by go_simp
theorem put_cell_u64 (y : Int) (W : World) (a : Addr) (u : Value) (hc : W.cell? a = some u) (hf : W.frozen? a = false) : (Instr.storeAt 23 (.pointer (some a)) (.int .u64 y)).run Tryz.prog W = .ok () (W.setCell a (.int .u64 y)) := by go_simp
theorem put_cell_str (y : ByteArray) (W : World) (a : Addr) (u : Value) (hc : W.cell? a = some u) (hf : W.frozen? a = false) : (Instr.storeAt 9 (.pointer (some a)) (.string y)).run Tryz.prog W = .ok () (W.setCell a (.string y)) := by go_simp
theorem put_cell_strs (A : Option Addr) (n c : Nat) (W : World) (a : Addr) (u : Value) (hc : W.cell? a = some u) (hf : W.frozen? a = false) : (Instr.storeAt 28 (.pointer (some a)) (.slice A n c)).run Tryz.prog W = .ok () (W.setCell a (.slice A n c)) := by go_simp
attribute [-go_sem] Instr.loadAt Instr.storeAt Instr.build
section
variable {w : World} {q n c : Nat} {A : Option Addr} {D : Rd}
set_option maxHeartbeats 16000000 in
set_option maxRecDepth 100000 in
theorem rfields_any (h : QR w q A n c D) (hn : n ≤ 4398046511104) : Calls Tryz.prog 15 #[.pointer (some ⟨q, 0, none⟩)] w (FieldsPost w q n c A D) := by
  obtain ⟨hZ0, hb0⟩ := one_new w
  have h0 := h.below hb0
  have hold := h.oldF
  have hq0 := lt_of_block h.qk
  go_enter Tryz.func15, Tryz.ntmps15
  go_upto_region 1 with (fail)
  generalize w.alloc (.cells #[.int .i64 0, .int .u64 0, .int .i64 0, .int .i64 0, .int .u8 0, .int .u8 0, .int .u8 0, .int .u8 0, .int .u8 0, .int .u8 0, .int .u8 0, .int .u8 0, .int .u8 0, .int .u8 0, .int .u8 0, .int .u8 0, .int .u8 0, .int .u8 0, .int .u8 0, .int .u8 0, .int .u8 0, .int .u8 0, .int .u8 0, .int .u8 0, .int .u8 0, .int .u8 0, .int .u8 0, .int .u8 0, .int .u8 0, .int .u8 0, .int .u8 0, .int .u8 0, .int .u8 0, .int .u8 0, .int .u8 0, .int .u8 0, .int .i64 0, .int .i64 0, .int .i64 0, .int .i64 0, .slice none 0 0, .string ⟨#[]⟩] 30) = w1 at *
  obtain ⟨gr, hgr⟩ : ∃ gr, w.heap.size = gr := ⟨_, rfl⟩
  have hrq : ¬ qrf q A gr := fun e => by have := hold gr e; omega
  rw [hgr] at hZ0 ⊢
  have HGR := Lib.hid hgr
  clear h hgr hq0
  go_wp2_with fail
  refine (rsome_any h0 6 (by omega)).mono ?_
  rintro e w2 ⟨D0, k, rfl, HS, hR2, ho2⟩
  have hZ2 := hZ0.only ho2 (notq hrq)
  have hk6 := some_le HS.out
  obtain ⟨z, hz⟩ : ∃ z : Int, (k : Int) = z := ⟨_, rfl⟩
  have HZ := Lib.hid hz
  rw [hz]
  obtain ⟨wa, w3, s0, s1, hF3, hb3⟩ := frame_put w2 (kF z) rfl
  have HF3 := Lib.hid hF3
  have HB3 := Lib.hid hb3
  have hbk := build_kind z
  clear hF3 hb3
  go_upto_region 2 with (fail)
  clear s0 s1 hbk
  have hF := HF3.out
  have hbb := HB3.out
  have hR := hR2.below hbb
  have hZ := hZ2.below hbb
  have h3 : Only w w3 (fun k => k = q) := ((Only.of_below hb0 (fun k => k = q)).same ho2).below hbb
  obtain ⟨g, hg⟩ : ∃ g, w2.heap.size = g := ⟨_, rfl⟩
  have hgq : ¬ qrf q A g := fun e => by have := hR2.oldF g e; omega
  have hgg : ¬ g = gr := fun e => by have := hZ2.lt; omega
  have hgw : w.heap.size ≤ g := by have := ho2.size; have := hb0.size; omega
  rw [hg] at hF ⊢
  have HGG := Lib.hid hgg
  have HGW := Lib.hid hgw
  clear hg HF3 HB3 hbb hR2 hZ2 hZ0 h0 hb0 ho2 hgg hgw hold
  have q0 : w3.cell? ⟨g, 0, none⟩ = some (.int .i64 z) := hF.c0
  have l0 := load_int' q0
  have ho := Only.refl w3 (fun k => k = q ∨ k = g)
  have HS2 : Hid (someS D 6 = (D0, k)) := HS
  by_cases k1 : k = 1
  · have HKK := Lib.hid k1
    have b1 : (z == 1) = true := by rw [beq_iff_eq]; omega
    have b2 : (z == 2) = false := by rw [beq_eq_false_iff_ne]; omega
    have b3 : (z == 3) = false := by rw [beq_eq_false_iff_ne]; omega
    have b4 : (z == 4) = false := by rw [beq_eq_false_iff_ne]; omega
    have b6 : (z == 6) = false := by rw [beq_eq_false_iff_ne]; omega
    clear k1 hk6 hz HS2
    go_wp2_with fail
    refine (rsome_any hR 1 (by omega)).mono ?_
    rintro e wc1 ⟨D1, v1, rfl, H1, hRa, hoa⟩
    clear l0 q0
    have hFa := hF.only hoa (notq hgq)
    have qq := put_cell_int (v1 : Int) _ _ _ (hFa.c2) (hFa.fz 2)
    have hob := ho.orr hoa
    replace hF := hFa.set2 (v1 : Int)
    replace hR := hRa.only (Fr.only_at wc1 g 2 (.int .i64 (v1 : Int))) (sepq hgq)
    replace ho := hob.org (Fr.only_at wc1 g 2 (.int .i64 (v1 : Int)))
    clear hFa hRa hoa hob
    go_wp2_with fail
    generalize wc1.setCell ⟨g, 2, none⟩ (.int .i64 (v1 : Int)) = wd1 at *
    clear qq
    refine (rsome_any hR 64 (by omega)).mono ?_
    rintro e wc2 ⟨D2, v2, rfl, H2, hRa, hoa⟩
    have hFa := hF.only hoa (notq hgq)
    have qq := put_cell_int (v2 : Int) _ _ _ (hFa.c3) (hFa.fz 3)
    have hob := ho.orr hoa
    replace hF := hFa.set3 (v2 : Int)
    replace hR := hRa.only (Fr.only_at wc2 g 3 (.int .i64 (v2 : Int))) (sepq hgq)
    replace ho := hob.org (Fr.only_at wc2 g 3 (.int .i64 (v2 : Int)))
    clear hFa hRa hoa hob
    go_wp2_with fail
    generalize wc2.setCell ⟨g, 3, none⟩ (.int .i64 (v2 : Int)) = wd2 at *
    clear qq
    refine (rRaw_any hR 32 (by omega)).mono ?_
    rintro e wc3 ⟨D3, v3, ts, rfl, H3, hO3, hR3, ho3a⟩
    have hF3 := hF.only ho3a (notq hgq)
    have ho3 := ho.orr ho3a
    have hts := rawS_len hR.ok H3.out
    obtain ⟨A3, c3, rfl, hB3, hc3, hA3a⟩ := hO3.reads_from
    have HA3 : Hid (∀ a, A3 = some a → ¬ a.block = g) := Lib.hid (fun a e hg => by have := hA3a a e; have := hF.lt; omega)
    obtain ⟨m, hm⟩ : ∃ m, ts.length = m := ⟨_, rfl⟩
    rw [hm] at hB3 hc3 ⊢
    have HM : Hid (ts.length = m ∧ (m = 32 ∨ m = 0)) := Lib.hid ⟨hm, by rcases hts with h | h; omega; (rw [h] at hm; simp at hm; omega)⟩
    clear hF ho hR ho3a hts hO3 hm hA3a
    go_wp2_with fail
    go_loopg [5] m (fun gk v5 w' => ∃ i : Nat, v5 = .int .i64 (i : Int) ∧ ({ kF z with v := (v1 : Int), s := (v2 : Int), tool := ts.take i ++ z32.drop i } : Fr).at_ 30 w' g ∧ QR w' q A n c D3 ∧ RB w' A3 m ts ∧ Only w3 w' (fun k => k = q ∨ k = g) ∧ Hid (i + gk = m))
    case atStart => exact ⟨0, rfl, hF3, hR3, hB3, ho3, Lib.hid (by omega)⟩
    case round =>
      clear hF3 hR3 hB3 ho3
      obtain ⟨i, rfl, hF, hR, hB, ho, HG⟩ := hrel
      have hm32 : m ≤ 32 := by have := HM.out; omega
      by_cases hi : i < m
      · have hi2 : (i : Int) < (m : Int) := by omega
        obtain ⟨ad, x, rfl, hcx, hx0, hx1, HX⟩ := hB.at_ i hi
        have ecx := load_cell_u8 hcx
        obtain ⟨u, hu⟩ := tool_cell hF i (by omega)
        have ecp := put_cell_u8 x wr ⟨g, 4 + i, none⟩ u hu (hF.fz _)
        have ecq := put_cell_u8 x wr.drew ⟨g, 4 + i, none⟩ u hu (hF.fz _)
        clear hu
        have hFn := hF.setTool i (by omega) x
        replace hFn : ({ kF z with v := (v1 : Int), s := (v2 : Int), tool := ts.take (i + 1) ++ z32.drop (i + 1) } : Fr).at_ 30 (wr.setCell ⟨g, 4 + i, none⟩ (.int .u8 x)) g := by
          rw [← tool_step ts i x (by omega) HX.out]; exact hFn
        have hRn := hR.only (Fr.only_at wr g (4 + i) (.int .u8 x)) (sepq hgq)
        have hBn := hB.apart (Fr.only_at wr g (4 + i) (.int .u8 x)) HA3.out
        have hon := ho.org (Fr.only_at wr g (4 + i) (.int .u8 x))
        have hi32 : (i : Int) < 32 := by omega
        clear hF hR hB ho hm32
        go_wp2_with fail
        go_roundg (gk - 1)
        case measure => have := HG.out; omega
        case rel => exact ⟨i + 1, by simp, hFn, hRn, hBn, hon, Lib.hid (by have := HG.out; omega)⟩
      · have hi2 : ¬ (i : Int) < (m : Int) := by omega
        have HK : Hid (fieldsS D = (D3, ({ kF z with v := (v1 : Int), s := (v2 : Int), tool := ts.take i ++ z32.drop i } : Fr).core)) := Lib.hid (fields_of HKK.out HS.out (by
          rw [show z = 1 by rw [← HZ.out, HKK.out]; rfl]
          show helloS D0 = _
          unfold helloS; rw [H1.out]; dsimp only; rw [H2.out]; dsimp only; rw [H3.out]; dsimp only
          have hM := HM.out
          have hG := HG.out
          rcases hM.2 with hM2 | hM2
          · rw [if_pos (by omega), List.take_of_length_le (by omega), List.drop_of_length_le (by have : z32.length = 32 := rfl; omega), List.append_nil]; rfl
          · obtain rfl : i = 0 := by omega
            rw [if_neg (by omega)]; rfl))
        clear hi hm32 hB
        have hT : ({ kF z with v := (v1 : Int), s := (v2 : Int), tool := ts.take i ++ z32.drop i } : Fr).tool.length = 32 := hF.tool
        have hZe := hZ.only ho (fun e => e.elim (notq hrq) (fun e => HGG.out e.symm))
        have eF := get_frame hF
        have eP := put_frame ({ kF z with v := (v1 : Int), s := (v2 : Int), tool := ts.take i ++ z32.drop i } : Fr) hT hZe
        have hZf := put_at ({ kF z with v := (v1 : Int), s := (v2 : Int), tool := ts.take i ++ z32.drop i } : Fr) hT hZe
        have hRe := hR.only (Fr.only_row _ gr ({ kF z with v := (v1 : Int), s := (v2 : Int), tool := ts.take i ++ z32.drop i } : Fr).arr) (sepq hrq)
        have hend := fields_end (cs := ({ kF z with v := (v1 : Int), s := (v2 : Int), tool := ts.take i ++ z32.drop i } : Fr).arr) h3 ho HGW.out (by have := HGR.out; omega : w.heap.size ≤ gr)
        clear hF hZ ho hR hZe h3
        go_wp2_with fail
        exact bodyPost_ret (v := .agg ({ kF z with v := (v1 : Int), s := (v2 : Int), tool := ts.take i ++ z32.drop i } : Fr).arr) (results_cell_row rfl _ _ gr 30 ({ kF z with v := (v1 : Int), s := (v2 : Int), tool := ts.take i ++ z32.drop i } : Fr).arr (0, 0) _ rfl hZf.blk Tryz.underlying30 rfl (by rw [Fr.arr_size ({ kF z with v := (v1 : Int), s := (v2 : Int), tool := ts.take i ++ z32.drop i } : Fr) hT]; kernel_rfl)) rfl ⟨_, _, rfl, HK, hRe, ⟨hT, rt_none _ rfl rfl rfl⟩, fun a e => (by cases e), hend⟩
  by_cases k2 : k = 2
  · have HKK := Lib.hid k2
    have b1 : (z == 1) = false := by rw [beq_eq_false_iff_ne]; omega
    have b2 : (z == 2) = true := by rw [beq_iff_eq]; omega
    have b3 : (z == 3) = false := by rw [beq_eq_false_iff_ne]; omega
    have b4 : (z == 4) = false := by rw [beq_eq_false_iff_ne]; omega
    have b6 : (z == 6) = false := by rw [beq_eq_false_iff_ne]; omega
    clear k1 k2 hk6 hz HS2
    go_wp2_with fail
    refine (rRUint_any hR).mono ?_
    rintro e wc1 ⟨D1, v1, rfl, H1, hRa, hoa⟩
    clear l0 q0
    have hFa := hF.only hoa (notq hgq)
    have qq := put_cell_u64 (v1 : Int) _ _ _ (hFa.c1) (hFa.fz 1)
    have hob := ho.orr hoa
    replace hF := hFa.set1 (v1 : Int)
    replace hR := hRa.only (Fr.only_at wc1 g 1 (.int .u64 (v1 : Int))) (sepq hgq)
    replace ho := hob.org (Fr.only_at wc1 g 1 (.int .u64 (v1 : Int)))
    clear hFa hRa hoa hob
    go_wp2_with fail
    generalize wc1.setCell ⟨g, 1, none⟩ (.int .u64 (v1 : Int)) = wd1 at *
    clear qq
    refine (rCount_any hR 2147483648 (by omega)).mono ?_
    rintro e wc2 ⟨D2, v2, rfl, H2, hRa, hoa⟩
    have hFa := hF.only hoa (notq hgq)
    have qq := put_cell_int (v2 : Int) _ _ _ (hFa.c37) (hFa.fz 37)
    have hob := ho.orr hoa
    replace hF := hFa.set37 (v2 : Int)
    replace hR := hRa.only (Fr.only_at wc2 g 37 (.int .i64 (v2 : Int))) (sepq hgq)
    replace ho := hob.org (Fr.only_at wc2 g 37 (.int .i64 (v2 : Int)))
    clear hFa hRa hoa hob
    go_wp2_with fail
    generalize wc2.setCell ⟨g, 37, none⟩ (.int .i64 (v2 : Int)) = wd2 at *
    clear qq
    refine (rCount_any hR 2147483648 (by omega)).mono ?_
    rintro e wc3 ⟨D3, v3, rfl, H3, hRa, hoa⟩
    have hFa := hF.only hoa (notq hgq)
    have qq := put_cell_int (v3 : Int) _ _ _ (hFa.c38) (hFa.fz 38)
    have hob := ho.orr hoa
    replace hF := hFa.set38 (v3 : Int)
    replace hR := hRa.only (Fr.only_at wc3 g 38 (.int .i64 (v3 : Int))) (sepq hgq)
    replace ho := hob.org (Fr.only_at wc3 g 38 (.int .i64 (v3 : Int)))
    clear hFa hRa hoa hob
    go_wp2_with fail
    generalize wc3.setCell ⟨g, 38, none⟩ (.int .i64 (v3 : Int)) = wd3 at *
    clear qq
    refine (rCount_any hR 2147483648 (by omega)).mono ?_
    rintro e wc4 ⟨D4, v4, rfl, H4, hRa, hoa⟩
    have hFa := hF.only hoa (notq hgq)
    have qq := put_cell_int (v4 : Int) _ _ _ (hFa.c39) (hFa.fz 39)
    have hob := ho.orr hoa
    replace hF := hFa.set39 (v4 : Int)
    replace hR := hRa.only (Fr.only_at wc4 g 39 (.int .i64 (v4 : Int))) (sepq hgq)
    replace ho := hob.org (Fr.only_at wc4 g 39 (.int .i64 (v4 : Int)))
    clear hFa hRa hoa hob
    go_wp2_with fail
    generalize wc4.setCell ⟨g, 39, none⟩ (.int .i64 (v4 : Int)) = wd4 at *
    clear qq
    refine (rRList_any hR hn 8 4096 (by omega) (by omega)).mono ?_
    rintro e wc5 ⟨D5, w5, l5, rfl, H5, hO5, hRa, hoa⟩
    have hFa := hF.only hoa (notq hgq)
    obtain ⟨A5, c5, rfl, hT5a, hc5, hA5⟩ := hO5.open_
    have qq := put_cell_strs A5 l5.length c5 _ _ _ (hFa.c40) (hFa.fz 40)
    have hob := ho.orr hoa
    have hT5 := hT5a.apart (Fr.only_at wc5 g 40 (.slice A5 l5.length c5)) (fun a e hg => by have := (hA5 a e).1; have := hF.lt; omega)
    have hA5b : ∀ a, A5 = some a → w.heap.size ≤ a.block ∧ ¬ a.block = q ∧ ¬ a.block = g := fun a e => by
      have h1 := (hA5 a e).1
      have h2 := hF.lt
      have h3 := lt_of_block hR.qk
      have h4 := HGW.out
      exact ⟨by omega, by omega, by omega⟩
    have HA5 := Lib.hid hA5b
    have HAg : Hid (∀ a, A5 = some a → ¬ a.block = gr) := Lib.hid (fun a e hg => by have := (hA5 a e).1; have := hZ.lt; have := ho.size; omega)
    replace hF := hFa.set40 A5 l5.length c5 l5
    replace hR := hRa.only (Fr.only_at wc5 g 40 (.slice A5 l5.length c5)) (sepq hgq)
    replace ho := hob.org (Fr.only_at wc5 g 40 (.slice A5 l5.length c5))
    clear hFa hRa hoa hob hO5 hT5a hA5 hA5b
    go_wp2_with fail
    generalize wc5.setCell ⟨g, 40, none⟩ (.slice A5 l5.length c5) = wd5 at *
    clear qq
    refine (rRText_any hR 2097152 (by omega)).mono ?_
    rintro e wc6 ⟨D6, v6, rfl, H6, hRa, hoa⟩
    have hFa := hF.only hoa (notq hgq)
    have qq := put_cell_str v6 _ _ _ (hFa.c41) (hFa.fz 41)
    have hob := ho.orr hoa
    replace hF := hFa.set41 v6
    replace hR := hRa.only (Fr.only_at wc6 g 41 (.string v6)) (sepq hgq)
    replace ho := hob.org (Fr.only_at wc6 g 41 (.string v6))
    replace hT5 := (hT5.apart hoa (fun a e => (HA5.out a e).2.1)).apart (Fr.only_at wc6 g 41 (.string v6)) (fun a e => (HA5.out a e).2.2)
    clear hFa hRa hoa hob
    have HK : Hid (fieldsS D = (D6, ({ kF z with id := (v1 : Int), mo := (v2 : Int), fu := (v3 : Int), di := (v4 : Int), A := A5, n := l5.length, c := c5, args := l5, body := v6 } : Fr).core)) := Lib.hid (fields_of HKK.out HS.out (by
      rw [show z = 2 by rw [← HZ.out, HKK.out]; rfl]
      show requestS D0 = _
      unfold requestS; rw [H1.out]; dsimp only; rw [H2.out]; dsimp only; rw [H3.out]; dsimp only; rw [H4.out]; dsimp only; rw [H5.out]; dsimp only; rw [H6.out]; rfl))
    have hT : ({ kF z with id := (v1 : Int), mo := (v2 : Int), fu := (v3 : Int), di := (v4 : Int), A := A5, n := l5.length, c := c5, args := l5, body := v6 } : Fr).tool.length = 32 := hF.tool
    have hZe := hZ.only ho (fun e => e.elim (notq hrq) (fun e => HGG.out e.symm))
    have eF := get_frame hF
    have eP := put_frame ({ kF z with id := (v1 : Int), mo := (v2 : Int), fu := (v3 : Int), di := (v4 : Int), A := A5, n := l5.length, c := c5, args := l5, body := v6 } : Fr) hT hZe
    have hZf := put_at ({ kF z with id := (v1 : Int), mo := (v2 : Int), fu := (v3 : Int), di := (v4 : Int), A := A5, n := l5.length, c := c5, args := l5, body := v6 } : Fr) hT hZe
    have hRe := hR.only (Fr.only_row _ gr ({ kF z with id := (v1 : Int), mo := (v2 : Int), fu := (v3 : Int), di := (v4 : Int), A := A5, n := l5.length, c := c5, args := l5, body := v6 } : Fr).arr) (sepq hrq)
    have hend := fields_end (cs := ({ kF z with id := (v1 : Int), mo := (v2 : Int), fu := (v3 : Int), di := (v4 : Int), A := A5, n := l5.length, c := c5, args := l5, body := v6 } : Fr).arr) h3 ho HGW.out (by have := HGR.out; omega : w.heap.size ≤ gr)
    clear hF hZ ho hR hZe h3
    go_wp2_with fail
    exact bodyPost_ret (v := .agg ({ kF z with id := (v1 : Int), mo := (v2 : Int), fu := (v3 : Int), di := (v4 : Int), A := A5, n := l5.length, c := c5, args := l5, body := v6 } : Fr).arr) (results_cell_row rfl _ _ gr 30 ({ kF z with id := (v1 : Int), mo := (v2 : Int), fu := (v3 : Int), di := (v4 : Int), A := A5, n := l5.length, c := c5, args := l5, body := v6 } : Fr).arr (0, 0) _ rfl hZf.blk Tryz.underlying30 rfl (by rw [Fr.arr_size ({ kF z with id := (v1 : Int), mo := (v2 : Int), fu := (v3 : Int), di := (v4 : Int), A := A5, n := l5.length, c := c5, args := l5, body := v6 } : Fr) hT]; kernel_rfl)) rfl ⟨_, _, rfl, HK, hRe, ⟨rfl, hT5.apart (Fr.only_row _ gr _) (fun a e => HAg.out a e)⟩, fun a e => (HA5.out a e).1, hend⟩
  by_cases k3 : k = 3
  · have HKK := Lib.hid k3
    have b1 : (z == 1) = false := by rw [beq_eq_false_iff_ne]; omega
    have b2 : (z == 2) = false := by rw [beq_eq_false_iff_ne]; omega
    have b3 : (z == 3) = true := by rw [beq_iff_eq]; omega
    have b4 : (z == 4) = false := by rw [beq_eq_false_iff_ne]; omega
    have b6 : (z == 6) = false := by rw [beq_eq_false_iff_ne]; omega
    clear k1 k2 k3 hk6 hz HS2
    go_wp2_with fail
    refine (rRUint_any hR).mono ?_
    rintro e wc1 ⟨D1, v1, rfl, H1, hRa, hoa⟩
    clear l0 q0
    have hFa := hF.only hoa (notq hgq)
    have qq := put_cell_u64 (v1 : Int) _ _ _ (hFa.c1) (hFa.fz 1)
    have hob := ho.orr hoa
    replace hF := hFa.set1 (v1 : Int)
    replace hR := hRa.only (Fr.only_at wc1 g 1 (.int .u64 (v1 : Int))) (sepq hgq)
    replace ho := hob.org (Fr.only_at wc1 g 1 (.int .u64 (v1 : Int)))
    clear hFa hRa hoa hob
    go_wp2_with fail
    generalize wc1.setCell ⟨g, 1, none⟩ (.int .u64 (v1 : Int)) = wd1 at *
    clear qq
    refine (rsome_any hR 3 (by omega)).mono ?_
    rintro e wc2 ⟨D2, v2, rfl, H2, hRa, hoa⟩
    have hFa := hF.only hoa (notq hgq)
    have qq := put_cell_int (v2 : Int) _ _ _ (hFa.c36) (hFa.fz 36)
    have hob := ho.orr hoa
    replace hF := hFa.set36 (v2 : Int)
    replace hR := hRa.only (Fr.only_at wc2 g 36 (.int .i64 (v2 : Int))) (sepq hgq)
    replace ho := hob.org (Fr.only_at wc2 g 36 (.int .i64 (v2 : Int)))
    clear hFa hRa hoa hob
    go_wp2_with fail
    generalize wc2.setCell ⟨g, 36, none⟩ (.int .i64 (v2 : Int)) = wd2 at *
    clear qq
    refine (rRText_any hR 2097152 (by omega)).mono ?_
    rintro e wc3 ⟨D3, v3, rfl, H3, hRa, hoa⟩
    have hFa := hF.only hoa (notq hgq)
    have qq := put_cell_str v3 _ _ _ (hFa.c41) (hFa.fz 41)
    have hob := ho.orr hoa
    replace hF := hFa.set41 v3
    replace hR := hRa.only (Fr.only_at wc3 g 41 (.string v3)) (sepq hgq)
    replace ho := hob.org (Fr.only_at wc3 g 41 (.string v3))
    clear hFa hRa hoa hob
    have HK : Hid (fieldsS D = (D3, ({ kF z with id := (v1 : Int), st := (v2 : Int), body := v3 } : Fr).core)) := Lib.hid (fields_of HKK.out HS.out (by
      rw [show z = 3 by rw [← HZ.out, HKK.out]; rfl]
      show responseS D0 = _
      unfold responseS; rw [H1.out]; dsimp only; rw [H2.out]; dsimp only; rw [H3.out]; rfl))
    have hT : ({ kF z with id := (v1 : Int), st := (v2 : Int), body := v3 } : Fr).tool.length = 32 := hF.tool
    have hZe := hZ.only ho (fun e => e.elim (notq hrq) (fun e => HGG.out e.symm))
    have eF := get_frame hF
    have eP := put_frame ({ kF z with id := (v1 : Int), st := (v2 : Int), body := v3 } : Fr) hT hZe
    have hZf := put_at ({ kF z with id := (v1 : Int), st := (v2 : Int), body := v3 } : Fr) hT hZe
    have hRe := hR.only (Fr.only_row _ gr ({ kF z with id := (v1 : Int), st := (v2 : Int), body := v3 } : Fr).arr) (sepq hrq)
    have hend := fields_end (cs := ({ kF z with id := (v1 : Int), st := (v2 : Int), body := v3 } : Fr).arr) h3 ho HGW.out (by have := HGR.out; omega : w.heap.size ≤ gr)
    clear hF hZ ho hR hZe h3
    go_wp2_with fail
    exact bodyPost_ret (v := .agg ({ kF z with id := (v1 : Int), st := (v2 : Int), body := v3 } : Fr).arr) (results_cell_row rfl _ _ gr 30 ({ kF z with id := (v1 : Int), st := (v2 : Int), body := v3 } : Fr).arr (0, 0) _ rfl hZf.blk Tryz.underlying30 rfl (by rw [Fr.arr_size ({ kF z with id := (v1 : Int), st := (v2 : Int), body := v3 } : Fr) hT]; kernel_rfl)) rfl ⟨_, _, rfl, HK, hRe, ⟨rfl, rt_none _ rfl rfl rfl⟩, fun a e => (by cases e), hend⟩
  by_cases k4 : k = 4
  · have HKK := Lib.hid k4
    have b1 : (z == 1) = false := by rw [beq_eq_false_iff_ne]; omega
    have b2 : (z == 2) = false := by rw [beq_eq_false_iff_ne]; omega
    have b3 : (z == 3) = false := by rw [beq_eq_false_iff_ne]; omega
    have b4 : (z == 4) = true := by rw [beq_iff_eq]; omega
    have b6 : (z == 6) = false := by rw [beq_eq_false_iff_ne]; omega
    clear k1 k2 k3 k4 hk6 hz HS2
    go_wp2_with fail
    refine (rRUint_any hR).mono ?_
    rintro e wc1 ⟨D1, v1, rfl, H1, hRa, hoa⟩
    clear l0 q0
    have hFa := hF.only hoa (notq hgq)
    have qq := put_cell_u64 (v1 : Int) _ _ _ (hFa.c1) (hFa.fz 1)
    have hob := ho.orr hoa
    replace hF := hFa.set1 (v1 : Int)
    replace hR := hRa.only (Fr.only_at wc1 g 1 (.int .u64 (v1 : Int))) (sepq hgq)
    replace ho := hob.org (Fr.only_at wc1 g 1 (.int .u64 (v1 : Int)))
    clear hFa hRa hoa hob
    have HK : Hid (fieldsS D = (D1, ({ kF z with id := (v1 : Int) } : Fr).core)) := Lib.hid (fields_of HKK.out HS.out (by
      rw [show z = 4 by rw [← HZ.out, HKK.out]; rfl]
      show cancelS D0 = _
      unfold cancelS;  rw [H1.out]; rfl))
    have hT : ({ kF z with id := (v1 : Int) } : Fr).tool.length = 32 := hF.tool
    have hZe := hZ.only ho (fun e => e.elim (notq hrq) (fun e => HGG.out e.symm))
    have eF := get_frame hF
    have eP := put_frame ({ kF z with id := (v1 : Int) } : Fr) hT hZe
    have hZf := put_at ({ kF z with id := (v1 : Int) } : Fr) hT hZe
    have hRe := hR.only (Fr.only_row _ gr ({ kF z with id := (v1 : Int) } : Fr).arr) (sepq hrq)
    have hend := fields_end (cs := ({ kF z with id := (v1 : Int) } : Fr).arr) h3 ho HGW.out (by have := HGR.out; omega : w.heap.size ≤ gr)
    clear hF hZ ho hR hZe h3
    go_wp2_with fail
    exact bodyPost_ret (v := .agg ({ kF z with id := (v1 : Int) } : Fr).arr) (results_cell_row rfl _ _ gr 30 ({ kF z with id := (v1 : Int) } : Fr).arr (0, 0) _ rfl hZf.blk Tryz.underlying30 rfl (by rw [Fr.arr_size ({ kF z with id := (v1 : Int) } : Fr) hT]; kernel_rfl)) rfl ⟨_, _, rfl, HK, hRe, ⟨rfl, rt_none _ rfl rfl rfl⟩, fun a e => (by cases e), hend⟩
  by_cases k6 : k = 6
  · have HKK := Lib.hid k6
    have b1 : (z == 1) = false := by rw [beq_eq_false_iff_ne]; omega
    have b2 : (z == 2) = false := by rw [beq_eq_false_iff_ne]; omega
    have b3 : (z == 3) = false := by rw [beq_eq_false_iff_ne]; omega
    have b4 : (z == 4) = false := by rw [beq_eq_false_iff_ne]; omega
    have b6 : (z == 6) = true := by rw [beq_iff_eq]; omega
    clear k1 k2 k3 k4 k6 hk6 hz HS2
    go_wp2_with fail
    refine (rRText_any hR 2097152 (by omega)).mono ?_
    rintro e wc1 ⟨D1, v1, rfl, H1, hRa, hoa⟩
    clear l0 q0
    have hFa := hF.only hoa (notq hgq)
    have qq := put_cell_str v1 _ _ _ (hFa.c41) (hFa.fz 41)
    have hob := ho.orr hoa
    replace hF := hFa.set41 v1
    replace hR := hRa.only (Fr.only_at wc1 g 41 (.string v1)) (sepq hgq)
    replace ho := hob.org (Fr.only_at wc1 g 41 (.string v1))
    clear hFa hRa hoa hob
    have HK : Hid (fieldsS D = (D1, ({ kF z with body := v1 } : Fr).core)) := Lib.hid (fields_of HKK.out HS.out (by
      rw [show z = 6 by rw [← HZ.out, HKK.out]; rfl]
      show noteS D0 = _
      unfold noteS;  rw [H1.out]; rfl))
    have hT : ({ kF z with body := v1 } : Fr).tool.length = 32 := hF.tool
    have hZe := hZ.only ho (fun e => e.elim (notq hrq) (fun e => HGG.out e.symm))
    have eF := get_frame hF
    have eP := put_frame ({ kF z with body := v1 } : Fr) hT hZe
    have hZf := put_at ({ kF z with body := v1 } : Fr) hT hZe
    have hRe := hR.only (Fr.only_row _ gr ({ kF z with body := v1 } : Fr).arr) (sepq hrq)
    have hend := fields_end (cs := ({ kF z with body := v1 } : Fr).arr) h3 ho HGW.out (by have := HGR.out; omega : w.heap.size ≤ gr)
    clear hF hZ ho hR hZe h3
    go_wp2_with fail
    exact bodyPost_ret (v := .agg ({ kF z with body := v1 } : Fr).arr) (results_cell_row rfl _ _ gr 30 ({ kF z with body := v1 } : Fr).arr (0, 0) _ rfl hZf.blk Tryz.underlying30 rfl (by rw [Fr.arr_size ({ kF z with body := v1 } : Fr) hT]; kernel_rfl)) rfl ⟨_, _, rfl, HK, hRe, ⟨rfl, rt_none _ rfl rfl rfl⟩, fun a e => (by cases e), hend⟩
  · have b1 : (z == 1) = false := by rw [beq_eq_false_iff_ne]; omega
    have b2 : (z == 2) = false := by rw [beq_eq_false_iff_ne]; omega
    have b3 : (z == 3) = false := by rw [beq_eq_false_iff_ne]; omega
    have b4 : (z == 4) = false := by rw [beq_eq_false_iff_ne]; omega
    have b6 : (z == 6) = false := by rw [beq_eq_false_iff_ne]; omega
    have HK : Hid (fieldsS D = (D0, (kF z).core)) := Lib.hid (fields_of rfl HS.out (by unfold kindS; rw [if_neg k1, if_neg k2, if_neg k3, if_neg k4, if_neg k6, ← HZ.out]; rfl))
    clear k1 k2 k3 k4 k6 hk6 hz
    have hT : (kF z : Fr).tool.length = 32 := hF.tool
    have hZe := hZ.only ho (fun e => e.elim (notq hrq) (fun e => HGG.out e.symm))
    have eF := get_frame hF
    have eP := put_frame (kF z : Fr) hT hZe
    have hZf := put_at (kF z : Fr) hT hZe
    have hRe := hR.only (Fr.only_row _ gr (kF z : Fr).arr) (sepq hrq)
    have hend := fields_end (cs := (kF z : Fr).arr) h3 ho HGW.out (by have := HGR.out; omega : w.heap.size ≤ gr)
    clear hF hZ ho hR hZe h3
    go_wp2_with fail
    exact bodyPost_ret (v := .agg (kF z : Fr).arr) (results_cell_row rfl _ _ gr 30 (kF z : Fr).arr (0, 0) _ rfl hZf.blk Tryz.underlying30 rfl (by rw [Fr.arr_size (kF z : Fr) hT]; kernel_rfl)) rfl ⟨_, _, rfl, HK, hRe, ⟨rfl, rt_none _ rfl rfl rfl⟩, fun a e => (by cases e), hend⟩
end
end Go.Proofs.YtelfephmjkipoaaGreat
end
/-! The document's decoding of a frame. -/
section
namespace Go.Proofs.YtelfephmjkipoaaGreat
open Go.RowKit Go.Kit Go.Proofs.YtelfephmjkipoaaGreatW.PrintWords
theorem results_cell_row_tmp2 {P : Program} {fn : Func} {p u v : Tmp} {ty : TypeId} (h : fn.results = #[.cell p ty, .tmp u, .tmp v]) (tmps : Array Value) (w : World) (g : Nat) (t : TypeId) (cs : Array Value) (fr : Nat × Nat) (d : TypeDesc)
    (hp : tmps.getD p undef = .pointer (some ⟨g, 0, none⟩)) (hg : w.heap[g]? = some (.cells cs t fr))
    (hu : P.underlying ty = some d) (hd : (match d with | .struct _ | .array _ _ => true | _ => false) = true) (hi : (P.info? ty).map (·.size) = some cs.size) (x y : Value) (hx : tmps.getD u undef = x) (hy : tmps.getD v undef = y) :
    (results fn tmps).run P w = .ok (.tuple #[.agg cs, x, y]) w := by
  subst hx hy
  have hp' : tmps[p]?.getD undef = .pointer (some ⟨g, 0, none⟩) := by simpa using hp
  simp [results, h, hp', asAddr, run_loadVar_row w g t ty cs fr d hg hu hd hi]
def RDecPost (w : World) (xs : List Int) (e : Ending) (w' : World) : Prop :=
  ∃ (F : Fr) (x y : Int), e = .returned (.tuple #[.agg F.arr, .int .i64 x, .int .i64 y]) ∧ Hid ((decF xs).2 = (x, y) ∧ F.core = (decF xs).1) ∧ F.ok w' ∧ (∀ a, F.A = some a → w.heap.size ≤ a.block) ∧ Below w.heap.size w w'
theorem rdec_bad {w W : World} {xs : List Int} {x y : Int} (h : Hid (decF xs = (noF, x, y))) (hb : Below w.heap.size w W) : RDecPost w xs (.returned (.tuple #[.agg (kF 0).arr, .int .i64 x, .int .i64 y])) W :=
  ⟨kF 0, x, y, rfl, Lib.hid ⟨by rw [h.out], by rw [h.out]; rfl⟩, ⟨rfl, rt_none _ rfl rfl rfl⟩, fun a e => (by cases e), hb⟩
theorem rdec_ret {W : World} {g : Nat} {tmps : Array Value} {F : Fr} {x y : Value} (hp : tmps.getD 2 undef = .pointer (some ⟨g, 0, none⟩)) (hF : F.at_ 30 W g) (hx : tmps.getD 3 undef = x) (hy : tmps.getD 4 undef = y) :
    (results Tryz.f5 tmps).run Tryz.prog W = .ok (.tuple #[.agg F.arr, x, y]) W :=
  results_cell_row_tmp2 (P := Tryz.prog) (fn := Tryz.f5) (p := 2) (u := 3) (v := 4) rfl tmps W g 30 F.arr (0, 0) _ hp hF.blk Tryz.underlying30 rfl (by rw [Fr.arr_size F hF.tool]; kernel_rfl) x y hx hy
theorem q_put (W : World) (A : Option Addr) (n c : Nat) : ∃ W1 W2 : World, W.alloc (.cells #[.slice none 0 0, .int .i64 0, .int .i64 0, .int .i64 0] 53) = W1 ∧
    (Instr.storeAt 53 (.pointer (some ⟨W.heap.size, 0, none⟩)) (.agg #[.slice A n c, .int .i64 0, .int .i64 0, .int .i64 0])).run Tryz.prog W1 = .ok () W2 ∧
    W2.heap[W.heap.size]? = some (.cells #[.slice A n c, .int .i64 0, .int .i64 0, .int .i64 0] 53 (0, 0)) ∧ Below W.heap.size W W2 := by
  have h0 := heap_alloc_new W (.cells #[.slice none 0 0, .int .i64 0, .int .i64 0, .int .i64 0] 53)
  have hb := below_alloc (Below.refl _ W) (.cells #[.slice none 0 0, .int .i64 0, .int .i64 0, .int .i64 0] 53)
  exact ⟨_, _, rfl, storeAt_all (P := Tryz.prog) _ W.heap.size 53 53 (qV A n c) _ h0 rfl (q_size A n c) (by simp [qV, Value.oneCell']), setRow_heap _ _ _ _ _ _ h0, below_setRow hb (Nat.le_refl _) _⟩
theorem fin_eq (D : Rd) (F : Fr) (head : Nat) : finS D F.core head = if (endS D).why = 0 ∧ F.k = 3 ∧ F.st ≠ 1 ∧ F.body.size ≠ 0 then (70, (head : Int)) else ((endS D).why, (endS D).wat) := rfl
attribute [-go_sem] Instr.loadAt Instr.storeAt Instr.build
section
variable {A : Option Addr} {n cap : Nat} {xs : List Int} {w : World}
set_option maxHeartbeats 16000000 in
set_option maxRecDepth 100000 in
theorem rDecode_any (hx : RB w A n xs) (hc : n ≤ cap) (hl : n ≤ 140737488355000) : Calls Tryz.prog 5 #[.slice A n cap] w (RDecPost w xs) := by
  obtain ⟨w1, s0, hZ0, hb0⟩ := frame_new w
  have hzf := zero_frame
  go_enter Tryz.func5, Tryz.ntmps5
  go_upto_region 1 with (fail)
  clear s0
  obtain ⟨gr, hgr⟩ : ∃ gr, w.heap.size = gr := ⟨_, rfl⟩
  rw [hgr] at hZ0 ⊢
  have HGR := Lib.hid hgr
  clear hgr
  obtain ⟨wa, w2, s0, s1, hN2, hb1⟩ := frame_put w1 (kF 0) rfl
  have HN2 := Lib.hid hN2
  have HB1 := Lib.hid hb1
  clear hN2 hb1
  go_upto_region 2 with (fail)
  clear s0 s1 hzf
  have hN2 := HN2.out
  have hZ2 := hZ0.below HB1.out
  have hb2 := below_step hb0 HB1.out
  have hx2 := hx.below hb2
  obtain ⟨gn, hgn⟩ : ∃ gn, w1.heap.size = gn := ⟨_, rfl⟩
  have HGN : Hid (w.heap.size ≤ gn ∧ ¬ gn = gr) := Lib.hid ⟨by have := hb0.size; omega, by have := hZ0.lt; omega⟩
  rw [hgn] at hN2 ⊢
  clear hgn hZ0 HN2 HB1 hb0 hx
  go_wp2_with fail
  refine (rNeed_any A n cap xs _ hx2 (by omega)).mono ?_
  rintro e w3 ⟨m, k, x, rfl, HN, hb3⟩
  have hN3 := hN2.below hb3
  have hZ3 := hZ2.below hb3
  have hb4 := below_step hb2 hb3
  have hx3 := hx2.below hb3
  have HL := Lib.hid hx3.len
  clear hN2 hZ2 hb2 hx2 hb3
  have eN := get_frame hN3
  have eP := put_frame (kF 0) rfl hZ3
  have hZe := put_at (kF 0) rfl hZ3
  have hbe := below_setRow (cs := (kF 0).arr) hb4 (g := gr) (by have := HGR.out; omega)
  by_cases h0 : x = 0
  · subst h0
    by_cases h1 : m = 0 ∨ n < m
    · have HD : Hid (decF xs = (noF, 4, (n : Int))) := Lib.hid (by unfold decF; rw [HN.out]; dsimp only; rw [if_neg (by simp), HL.out, if_pos h1])
      by_cases h2 : m = 0
      · have b1 : ((m : Int) == 0) = true := by rw [beq_iff_eq]; omega
        clear h1 h2
        go_wp2_with fail
        exact bodyPost_ret (rdec_ret rfl hZe rfl rfl) rfl (rdec_bad HD hbe)
      · have b1 : ((m : Int) == 0) = false := by rw [beq_eq_false_iff_ne]; omega
        have b2 : (n : Int) < (m : Int) := by omega
        clear h1 h2
        go_wp2_with fail
        exact bodyPost_ret (rdec_ret rfl hZe rfl rfl) rfl (rdec_bad HD hbe)
    · have b1 : ((m : Int) == 0) = false := by rw [beq_eq_false_iff_ne]; omega
      have b2 : ¬ (n : Int) < (m : Int) := by omega
      by_cases h2 : m < n
      · have HD : Hid (decF xs = (noF, 6, (m : Int))) := Lib.hid (by unfold decF; rw [HN.out]; dsimp only; rw [if_neg (by simp), HL.out, if_neg h1, if_pos h2])
        have b3 : (m : Int) < (n : Int) := by omega
        clear h1 h2
        go_wp2_with fail
        exact bodyPost_ret (rdec_ret rfl hZe rfl rfl) rfl (rdec_bad HD hbe)
      · have b3 : ¬ (m : Int) < (n : Int) := by omega
        have HMN : Hid (m = n) := Lib.hid (by omega)
        have HDE : Hid (decF xs = if (openR xs).2 ≠ 0 then (noF, 71, (m : Int) - 4) else readF (openR xs).1 k) := Lib.hid (by unfold decF; rw [HN.out]; dsimp only; rw [if_neg (by simp), HL.out, if_neg h1, if_neg h2])
        have HK : Hid (k + 4 ≤ n ∧ n ≤ 2097166) := Lib.hid (by
          obtain ⟨m0, hh, hm0⟩ := need_head HN.out (fun e => h1 (.inl e))
          have h8 := headF_facts hx3.byt hh
          have := HMN.out; omega)
        clear h1 h2 eN eP hZe hbe
        go_wp2_with fail
        refine (rOpen_any A n cap xs _ hx3 hc (by omega)).mono ?_
        rintro e w4 ⟨v4, ys, err, rfl, hO4, HO, hb5⟩
        have hN4 := hN3.below hb5
        have hZ4 := hZ3.below hb5
        have hb6 := below_step hb4 hb5
        clear hN3 hZ3 hb4 hb5 hx3
        by_cases he : err = 0
        · subst he
          have HT := Lib.hid (open_take HO.out.symm)
          have HLY : Hid (ys.length = n - 4) := Lib.hid (by rw [HT.out.1, List.length_take, HL.out]; omega)
          obtain ⟨A4, c4, rfl, hR4, hc4⟩ := hO4.reads'
          obtain ⟨ny, hny⟩ : ∃ ny, ys.length = ny := ⟨_, rfl⟩
          have hny2 : ny = n - 4 := by rw [← hny]; exact HLY.out
          have hnyl : ny ≤ 2097166 := by have := HK.out; omega
          have HKY : Hid (k ≤ ny) := Lib.hid (by have := HK.out; omega)
          rw [hny] at hR4 hc4 ⊢
          have HRF : Hid (decF xs = readF ys k) := Lib.hid (by rw [HDE.out, ← HO.out, if_neg (by simp)])
          clear hO4 hny hny2 HLY HT HO HDE HK HN
          go_wp2_with fail
          refine (rNew_any A4 ny c4 ys _ hR4 (by omega)).mono ?_
          rintro e w5 ⟨A5, c5, rfl, hR5, hc5, hA5, hb7⟩
          have hN5 := hN4.below hb7
          have hZ5 := hZ4.below hb7
          have hb8 := below_step hb6 hb7
          obtain ⟨wa, w6, s0, s1, hQ, hbq⟩ := q_put w5 A5 ny c5
          have HQ := Lib.hid hQ
          have HBQ := Lib.hid hbq
          have HA5 : Hid (∀ a, A5 = some a → w.heap.size ≤ a.block ∧ a.block < w5.heap.size) := Lib.hid (fun a e => by have := hA5 a e; have := hb6.size; omega)
          clear hQ hbq hA5 hN4 hZ4 hb6 hb7 hR4 hc4
          go_upto_region 13 with (fail)
          clear s0 s1
          have hN6 := hN5.below HBQ.out
          have hZ6 := hZ5.below HBQ.out
          have hb9 := below_step hb8 HBQ.out
          have hq : QR w6 w5.heap.size A5 ny c5 (Rd.new ys) := ⟨HQ.out, hR5.below HBQ.out, hc5, by omega, by show 0 ≤ ny; omega, fun _ => rfl, fun a e => by have := HA5.out a e; omega, fun a e => by have := (HA5.out a e).2; have := HBQ.out.size; omega⟩
          obtain ⟨gq, hgq⟩ : ∃ gq, w5.heap.size = gq := ⟨_, rfl⟩
          have HGQ : Hid (w.heap.size ≤ gq ∧ ¬ gn = gq ∧ ¬ gr = gq) := Lib.hid ⟨by have := hb8.size; omega, by have := hN5.lt; omega, by have := hZ5.lt; omega⟩
          have HAQ : Hid (∀ a, A5 = some a → w.heap.size ≤ a.block ∧ a.block < gq) := Lib.hid (by rw [← hgq]; exact HA5.out)
          rw [hgq] at hq ⊢
          clear hgq HQ HBQ HA5 hN5 hZ5 hb8 hR5 hc5
          have sk := put_cell_int (k : Int) _ _ _ hq.q1 (hq.fq 1)
          have hq2 := hq.set1 (k : Int) k rfl HKY.out
          have hoq := only_q w6 gq 1 (.int .i64 (k : Int))
          have hN7 := hN6.only hoq HGQ.out.2.1
          have hZ7 := hZ6.only hoq HGQ.out.2.2
          have hb10 := Below.only hb9 hoq hb9.size (fun k' e => by have := HGQ.out.1; omega)
          clear hq hoq hN6 hZ6 hb9
          go_wp2_with fail
          generalize w6.setCell ⟨gq, 1, none⟩ (.int .i64 (k : Int)) = w7 at *
          clear sk
          refine (rfields_any hq2 (by omega)).mono ?_
          rintro e w8 ⟨D1, F, rfl, HF, hqf, hok, hfr, ho8⟩
          have hN8 := hN7.only ho8 HGQ.out.2.1
          have hZ8 := hZ7.only ho8 HGQ.out.2.2
          have hb11 := Below.only hb10 ho8 hb10.size (fun k' e => by have := HGQ.out.1; omega)
          obtain ⟨wa, w9, s0, s1, hF9, hb12⟩ := frame_put w8 F hok.tool
          have HF9 := Lib.hid hF9
          have HB12 := Lib.hid hb12
          have HFR : Hid (∀ a, F.A = some a → w.heap.size ≤ a.block ∧ ¬ a.block = gq ∧ ¬ a.block = gr) := Lib.hid (fun a e => by have := hfr a e; have := hb10.size; have := lt_of_block hq2.qk; have := hZ7.lt; omega)
          clear hF9 hb12 hq2 hN7 hZ7 hb10 ho8 hfr
          go_upto_region 15 with (fail)
          clear s0 s1
          have hF9 := HF9.out
          have hN9 := hN8.below HB12.out
          have hZ9 := hZ8.below HB12.out
          have hb13 := below_step hb11 HB12.out
          have hq9 := hqf.below HB12.out
          have hok9 := hok.below HB12.out
          obtain ⟨gf, hgf⟩ : ∃ gf, w8.heap.size = gf := ⟨_, rfl⟩
          have HGF : Hid (¬ gf = gq ∧ ¬ gf = gr) := Lib.hid ⟨by have := lt_of_block hqf.qk; omega, by have := hZ8.lt; omega⟩
          rw [hgf] at hF9 ⊢
          clear hgf HF9 HB12 hN8 hZ8 hb11 hqf hok
          go_wp2_with fail
          refine (rEnd_any hq9).mono ?_
          rintro e w10 ⟨rfl, hq10, ho10⟩
          have hF10 := hF9.only ho10 HGF.out.1
          have hN10 := hN9.only ho10 HGQ.out.2.1
          have hZ10 := hZ9.only ho10 HGQ.out.2.2
          have hb14 := Below.only hb13 ho10 hb13.size (fun k' e => by have := HGQ.out.1; omega)
          have hok10 : F.ok w10 := ⟨hok9.tool, hok9.args.apart ho10 (fun a e => (HFR.out a e).2.1)⟩
          clear hF9 hN9 hZ9 hb13 hok9 ho10 hq9
          have HFIN0 := Lib.hid (fin_eq D1 F k)
          have HREAD : Hid (decF xs = if (finS D1 F.core k).1 ≠ 0 then (noF, finS D1 F.core k) else (F.core, 0, 0)) := Lib.hid (by rw [HRF.out, readF_of HF.out])
          obtain ⟨x0, hx0⟩ : ∃ x0, (endS D1).why = x0 := ⟨_, rfl⟩
          obtain ⟨y0, hy0⟩ : ∃ y0, (endS D1).wat = y0 := ⟨_, rfl⟩
          rw [hx0, hy0]
          have HFIN : Hid (finS D1 F.core k = if x0 = 0 ∧ F.k = 3 ∧ F.st ≠ 1 ∧ F.body.size ≠ 0 then (70, (k : Int)) else (x0, y0)) := Lib.hid (by rw [HFIN0.out, hx0, hy0])
          clear hx0 hy0 hq10 HFIN0 HRF
          have eK := load_int' hF10.c0
          have eS := load_int' hF10.c36
          have eB := load_str hF10.c41
          have eF := get_frame hF10
          have eP := put_frame F hok10.tool hZ10
          have hZg := put_at F hok10.tool hZ10
          have hbg := below_setRow (cs := F.arr) hb14 (g := gr) (by have := HGR.out; omega)
          have hokg : F.ok (w10.setRow gr F.arr) := ⟨hok10.tool, hok10.args.apart (Fr.only_row w10 gr F.arr) (fun a e => (HFR.out a e).2.2)⟩
          have eN := get_frame hN10
          have eP0 := put_frame (kF 0) rfl hZ10
          have hZe := put_at (kF 0) rfl hZ10
          have hbe := below_setRow (cs := (kF 0).arr) hb14 (g := gr) (by have := HGR.out; omega)
          have hbe0 := body_empty F.body
          clear hF10 hN10 hZ10 hb14
          by_cases hx0 : x0 = 0
          · have bx : (x0 == 0) = true := by rw [hx0]; rfl
            have bx2 : (x0 != 0) = false := by rw [hx0]; rfl
            by_cases hk : F.k = 3
            · have bk : (F.k == 3) = true := by rw [beq_iff_eq]; exact hk
              by_cases hst : F.st = 1
              · have bs : (F.st != 1) = false := by simp [hst]
                have HD : Hid ((decF xs).2 = (0, 0) ∧ F.core = (decF xs).1) := Lib.hid (by have hfin := HFIN.out; rw [if_neg (fun e => e.2.2.1 hst)] at hfin; rw [HREAD.out, hfin, if_neg (by simp [hx0])]; exact ⟨rfl, rfl⟩)
                clear hst hk hx0 hbe0
                go_wp2_with fail
                exact bodyPost_ret (rdec_ret rfl hZg rfl rfl) rfl ⟨F, 0, 0, rfl, HD, hokg, fun a e => (HFR.out a e).1, hbg⟩
              · have bs : (F.st != 1) = true := by simp [hst]
                by_cases hb0 : F.body.size = 0
                · have b0 : F.body.toList.isEmpty = true := by rw [hbe0]; exact decide_eq_true hb0
                  have HD : Hid ((decF xs).2 = (0, 0) ∧ F.core = (decF xs).1) := Lib.hid (by have hfin := HFIN.out; rw [if_neg (fun e => e.2.2.2 hb0)] at hfin; rw [HREAD.out, hfin, if_neg (by simp [hx0])]; exact ⟨rfl, rfl⟩)
                  clear hst hk hx0 hbe0 hb0
                  go_wp2_with fail
                  exact bodyPost_ret (rdec_ret rfl hZg rfl rfl) rfl ⟨F, 0, 0, rfl, HD, hokg, fun a e => (HFR.out a e).1, hbg⟩
                · have b0 : F.body.toList.isEmpty = false := by rw [hbe0]; exact decide_eq_false hb0
                  have HD : Hid (decF xs = (noF, 70, (k : Int))) := Lib.hid (by have hfin := HFIN.out; rw [if_pos ⟨hx0, hk, hst, hb0⟩] at hfin; rw [HREAD.out, hfin, if_pos (by show (70 : Int) ≠ 0; decide)])
                  clear hst hk hx0 hbe0 hb0
                  go_wp2_with fail
                  exact bodyPost_ret (rdec_ret rfl hZe rfl rfl) rfl (rdec_bad HD hbe)
            · have bk : (F.k == 3) = false := by rw [beq_eq_false_iff_ne]; exact hk
              have HD : Hid ((decF xs).2 = (0, 0) ∧ F.core = (decF xs).1) := Lib.hid (by have hfin := HFIN.out; rw [if_neg (fun e => hk e.2.1)] at hfin; rw [HREAD.out, hfin, if_neg (by simp [hx0])]; exact ⟨rfl, rfl⟩)
              clear hk hx0 hbe0
              go_wp2_with fail
              exact bodyPost_ret (rdec_ret rfl hZg rfl rfl) rfl ⟨F, 0, 0, rfl, HD, hokg, fun a e => (HFR.out a e).1, hbg⟩
          · have bx : (x0 == 0) = false := by rw [beq_eq_false_iff_ne]; exact hx0
            have bx2 : (x0 != 0) = true := by simpa using hx0
            have HD : Hid (decF xs = (noF, x0, y0)) := Lib.hid (by have hfin := HFIN.out; rw [if_neg (fun e => hx0 e.1)] at hfin; rw [HREAD.out, hfin, if_pos hx0])
            clear hx0 hbe0
            go_wp2_with fail
            exact bodyPost_ret (rdec_ret rfl hZe rfl rfl) rfl (rdec_bad HD hbe)
        · have HD : Hid (decF xs = (noF, 71, (m : Int) - 4)) := Lib.hid (by rw [HDE.out, ← HO.out, if_pos he])
          have b4 : (err != 0) = true := by simpa using he
          have hm4 : (m : Int) ≤ 2097166 := by have := HK.out; have := HMN.out; omega
          have eN := get_frame hN4
          have eP := put_frame (kF 0) rfl hZ4
          have hZe := put_at (kF 0) rfl hZ4
          have hbe := below_setRow (cs := (kF 0).arr) hb6 (g := gr) (by have := HGR.out; omega)
          clear he hN4 hZ4 hb6 hO4
          go_wp2_with fail
          exact bodyPost_ret (rdec_ret rfl hZe rfl rfl) rfl (rdec_bad HD hbe)
  · have b0 : (x != 0) = true := by simpa using h0
    have HD : Hid (decF xs = (noF, x, 0)) := Lib.hid (by unfold decF; rw [HN.out]; dsimp only; rw [if_pos h0])
    clear h0
    go_wp2_with fail
    exact bodyPost_ret (rdec_ret rfl hZe rfl rfl) rfl (rdec_bad HD hbe)
end
end Go.Proofs.YtelfephmjkipoaaGreat
end
/-! The walk of FrameReads. -/
section
namespace Go.Proofs.YtelfephmjkipoaaGreat
open Go.RowKit Go.Kit Go.Proofs.YtelfephmjkipoaaGreatW.PrintWords
theorem load_at {W : World} {g : Nat} {a b : Int} (h : W.heap[g]? = some (.cells (fv a b) 33 (0, 0))) : (Instr.loadAt 3 (.pointer (some ⟨g, 1, none⟩))).run Tryz.prog W = .ok (.int .i64 b) W := load_int' (by rw [cell_of_row W g 1 _ _ _ h]; rfl)
attribute [-go_sem] Instr.loadAt Instr.storeAt Instr.build
section
variable {A : Option Addr} {n cap : Nat} {xs : List Int} {w : World}
set_option maxHeartbeats 16000000 in
set_option maxRecDepth 100000 in
theorem FrameReads_walk (hx : RB w A n xs) (hc : n ≤ cap) (hl : n ≤ 140737488355000) : Calls Tryz.prog 3 #[.slice A n cap] w fun e w' => e = .returned (.bool true) ∧ Below w.heap.size w w' := by
  go_enter Tryz.func3, Tryz.ntmps3
  go_wp2_with fail
  refine (Decode_any hx hc).mono ?_
  rintro e w1 ⟨F, x, y, rfl, HD, hok, hfr, hb1⟩
  obtain ⟨wp, wq, w2, s0, s1, s2, hF, hX, hbb⟩ := two_put w1 F hok.tool x y
  have HF := Lib.hid hF
  have HX := Lib.hid hX
  have HOK := Lib.hid (hok.below hbb)
  have HRX := Lib.hid ((hx.below hb1).below hbb)
  have HB := Lib.hid (below_step hb1 hbb)
  clear hF hX hbb hok hfr hb1 hx
  go_upto_region 2 with (fail)
  clear s0 s1 s2
  have hF2 := HF.out
  have hX2 := HX.out
  have hok2 := HOK.out
  have hb2 := HB.out
  obtain ⟨gf, hgf⟩ : ∃ gf, w1.heap.size = gf := ⟨_, rfl⟩
  obtain ⟨gx, hgx⟩ : ∃ gx, w1.heap.size + 1 = gx := ⟨_, rfl⟩
  rw [hgx] at hX2
  rw [hgf] at hF2
  rw [hgx, hgf]
  clear hgf hgx HF HX HOK HB
  go_wp2_with fail
  refine (rDecode_any HRX.out hc hl).mono ?_
  rintro e w3 ⟨G, x2, y2, rfl, HD2, hokG, _, hb3⟩
  have hE := HD.out.1.symm.trans HD2.out.1
  have hx2 : x = x2 := congrArg Prod.fst hE
  have hy2 : y = y2 := congrArg Prod.snd hE
  subst hx2 hy2
  have hS : F.same G = true := by rw [same_iff, HD.out.2, HD2.out.2]
  obtain ⟨wa, w4, s0, s1, hG, hb4⟩ := frame_put w3 G hokG.tool
  have HG := Lib.hid hG
  have HB4 := Lib.hid (below_step hb3 hb4)
  have HOG := Lib.hid (hokG.below hb4)
  clear hG hb4 hb3 hokG hE HD HD2
  go_upto_region 3 with (fail)
  clear s0 s1
  have hF4 := hF2.below HB4.out
  have hX4 := (HB4.out.block _ (lt_of_block hX2)).trans hX2
  have hok4 := hok2.below HB4.out
  have hb5 := below_step hb2 HB4.out
  have eF := get_frame hF4
  have eG := get_frame HG.out
  have hokG := HOG.out
  clear hF2 hX2 hok2 hb2 HB4 HRX HG HOG
  have xx : (x == x) = true := by simp
  have yy : (y == y) = true := by simp
  go_wp2_with fail
  refine (rSame_is F G true hS _ hok4 hokG).mono ?_
  rintro e w5 ⟨rfl, hb6⟩
  have hX5 := (hb6.block _ (lt_of_block hX4)).trans hX4
  have eW := load_why hX5
  have eA := load_at hX5
  have hb7 := below_step hb5 hb6
  clear eF eG hF4 hX4 hok4 hokG hb5 hb6
  go_wp2_with fail
  refine (alive_any _).mono ?_
  rintro e w6 ⟨rfl, hb8⟩
  have hb9 := below_step hb7 hb8
  go_wp2_with fail
  go_ret
  exact ⟨rfl, hb9⟩
end
end Go.Proofs.YtelfephmjkipoaaGreat
end
