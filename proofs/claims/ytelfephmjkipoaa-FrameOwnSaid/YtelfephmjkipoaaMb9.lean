/- Contracts of functions that the laws reach (texts laid together, part 9): each says of its call what it answers and what it leaves of memory; the conditions stand in each statement. -/
import Derived.Test.YtelfephmjkipoaaMb8
import Derived.Test.YtelfephmjkipoaaMb1
import Derived.Deep.Strs
import Derived.Test.YtelfephmjkipoaaMb6
import Derived.Test.YtelfephmjkipoaaMb5
import Derived.Test.YtelfephmjkipoaaMb7
set_option linter.unusedVariables false
/-! A row of texts opened, with its bulk. -/
section
namespace Go.Proofs.Ytelfephmjkipoaa
open Go.ChangeShapes Go.WideShapes Go.RowKit Go.Kit Go.Deep Go.Proofs.YtelfephmjkipoaaW.PrintWords
section
variable {H : Type} {enc : TypeId × Value → H} {P : Program} {W : World}
theorem read_texts_bulk {t e : TypeId} {n : Nat} {cs : List Value} {y : DataW H × List MemPlace} (ht : P.underlying t = some (.slice e)) (he : P.underlying e = some .string) (hc : P.cellsOf e = 1)
    (h : DataW.trod enc P W 0 (fun _ => true) true n t cs = some y) : ∃ A len cap xs, cs = [.slice A len cap] ∧ RT W A len xs ∧ tw xs + 1 ≤ Rows.uptoBulk y.1 ∧ len ≤ cap := by
  rcases Deep.open_strs ht he hc h with h0 | ⟨a, len, cap, m, Sx, rfl, _, hl, hm, hmm, rfl, hx⟩
  · exact ⟨none, 0, 0, [], h0.1, RT.nil W, by rw [h0.2]; simp [tw, Rows.uptoBulk], by omega⟩
  · simp only [if_true] at hmm
    refine ⟨_, len, cap, (List.range len).map Sx, rfl, ⟨by simp, by unfold maxLen at hm; omega, fun _ => ⟨a, rfl, fun j hj => ?_⟩⟩, ?_, hl⟩
    · rw [(hx j (by omega)).1]
      simp [List.getD_eq_getElem?_getD, hj]
    · refine Nat.le_trans (Nat.add_le_add_right ?_ 1) (bulk_slice _ _)
      have h1 := bulk_sum (H := H) (fun i => .lit (.string (Sx i).data.toList)) (fun i => (Sx i).size + 1) (List.range len) (fun i _ => by
        rw [bulk_text, Array.length_toList]; exact Nat.le_refl _)
      unfold tw
      rw [List.map_map]
      exact h1
end
end Go.Proofs.Ytelfephmjkipoaa
end
/-! A frame in a new block of its own; cells written and read. -/
section
namespace Go.Proofs.Ytelfephmjkipoaa
open Go.RowKit Go.Kit Go.Proofs.YtelfephmjkipoaaW.PrintWords
theorem one_new (W : World) : (kF 0).at_ 29 (W.alloc (.cells #[.int .i64 0, .int .u64 0, .int .i64 0, .int .i64 0, .int .u8 0, .int .u8 0, .int .u8 0, .int .u8 0, .int .u8 0, .int .u8 0, .int .u8 0, .int .u8 0, .int .u8 0, .int .u8 0, .int .u8 0, .int .u8 0, .int .u8 0, .int .u8 0, .int .u8 0, .int .u8 0, .int .u8 0, .int .u8 0, .int .u8 0, .int .u8 0, .int .u8 0, .int .u8 0, .int .u8 0, .int .u8 0, .int .u8 0, .int .u8 0, .int .u8 0, .int .u8 0, .int .u8 0, .int .u8 0, .int .u8 0, .int .u8 0, .int .i64 0, .int .i64 0, .int .i64 0, .int .i64 0, .slice none 0 0, .string ⟨#[]⟩] 29)) W.heap.size ∧ Below W.heap.size W (W.alloc (.cells #[.int .i64 0, .int .u64 0, .int .i64 0, .int .i64 0, .int .u8 0, .int .u8 0, .int .u8 0, .int .u8 0, .int .u8 0, .int .u8 0, .int .u8 0, .int .u8 0, .int .u8 0, .int .u8 0, .int .u8 0, .int .u8 0, .int .u8 0, .int .u8 0, .int .u8 0, .int .u8 0, .int .u8 0, .int .u8 0, .int .u8 0, .int .u8 0, .int .u8 0, .int .u8 0, .int .u8 0, .int .u8 0, .int .u8 0, .int .u8 0, .int .u8 0, .int .u8 0, .int .u8 0, .int .u8 0, .int .u8 0, .int .u8 0, .int .i64 0, .int .i64 0, .int .i64 0, .int .i64 0, .slice none 0 0, .string ⟨#[]⟩] 29)) := ⟨⟨heap_alloc_new W _, rfl⟩, below_alloc (Below.refl _ W) _⟩
theorem frame_put (W : World) (F : Fr) (hT : F.tool.length = 32) : ∃ W1 W2 : World, W.alloc (.cells #[.int .i64 0, .int .u64 0, .int .i64 0, .int .i64 0, .int .u8 0, .int .u8 0, .int .u8 0, .int .u8 0, .int .u8 0, .int .u8 0, .int .u8 0, .int .u8 0, .int .u8 0, .int .u8 0, .int .u8 0, .int .u8 0, .int .u8 0, .int .u8 0, .int .u8 0, .int .u8 0, .int .u8 0, .int .u8 0, .int .u8 0, .int .u8 0, .int .u8 0, .int .u8 0, .int .u8 0, .int .u8 0, .int .u8 0, .int .u8 0, .int .u8 0, .int .u8 0, .int .u8 0, .int .u8 0, .int .u8 0, .int .u8 0, .int .i64 0, .int .i64 0, .int .i64 0, .int .i64 0, .slice none 0 0, .string ⟨#[]⟩] 29) = W1 ∧
    (Instr.storeAt 29 (.pointer (some ⟨W.heap.size, 0, none⟩)) (.agg F.arr)).run Try.prog W1 = .ok () W2 ∧ F.at_ 29 W2 W.heap.size ∧ Below W.heap.size W W2 := by
  obtain ⟨hF, hb⟩ := one_new W
  exact ⟨_, _, rfl, put_frame F hT hF, put_at F hT hF, below_setRow hb (Nat.le_refl _) _⟩
theorem frame_new (W : World) : ∃ W1 : World, W.alloc (.cells #[.int .i64 0, .int .u64 0, .int .i64 0, .int .i64 0, .int .u8 0, .int .u8 0, .int .u8 0, .int .u8 0, .int .u8 0, .int .u8 0, .int .u8 0, .int .u8 0, .int .u8 0, .int .u8 0, .int .u8 0, .int .u8 0, .int .u8 0, .int .u8 0, .int .u8 0, .int .u8 0, .int .u8 0, .int .u8 0, .int .u8 0, .int .u8 0, .int .u8 0, .int .u8 0, .int .u8 0, .int .u8 0, .int .u8 0, .int .u8 0, .int .u8 0, .int .u8 0, .int .u8 0, .int .u8 0, .int .u8 0, .int .u8 0, .int .i64 0, .int .i64 0, .int .i64 0, .int .i64 0, .slice none 0 0, .string ⟨#[]⟩] 29) = W1 ∧ (kF 0).at_ 29 W1 W.heap.size ∧ Below W.heap.size W W1 := by
  obtain ⟨hF, hb⟩ := one_new W
  exact ⟨_, rfl, hF, hb⟩
theorem build_kind (k : Int) (W : World) : (Instr.build 29 #[(0, .int .i64 k)]).run Try.prog W = .ok (.agg (kF k).arr) W := by kernel_rfl
theorem _root_.Go.Kit.OB.reads_from {e : TypeId} {w : World} {base : Nat} {v : Value} {xs : List Int} (h : OB e w base v xs) : ∃ A c, v = .slice A xs.length c ∧ RB w A xs.length xs ∧ xs.length ≤ c ∧ ∀ a, A = some a → base ≤ a.block := by
  obtain ⟨A, c, hv, hr, hc⟩ := h.reads'
  refine ⟨A, c, hv, hr, hc, fun a e => ?_⟩
  rcases h.own.2 with ⟨h1, h2⟩ | ⟨g, cap, cur, h1, h2, _⟩
  · rw [hv] at h1
    injection h1 with h3
    rw [h3] at e; cases e
  · rw [hv] at h1
    injection h1 with h3
    rw [h3] at e; cases e; exact h2
theorem put_cell_u8 (y : Int) (W : World) (a : Addr) (u : Value) (hc : W.cell? a = some u) (hf : W.frozen? a = false) : (Instr.storeAt 5 (.pointer (some a)) (.int .u8 y)).run Try.prog W = .ok () (W.setCell a (.int .u8 y)) := by go_simp
theorem load_cell_u8 {W : World} {a : Addr} {v : Value} (h : W.cell? a = some v) : (Instr.loadAt 5 (.pointer (some a))).run Try.prog W = .ok v W := by go_simp
theorem put_cell_int (y : Int) (W : World) (a : Addr) (u : Value) (hc : W.cell? a = some u) (hf : W.frozen? a = false) : (Instr.storeAt 3 (.pointer (some a)) (.int .i64 y)).run Try.prog W = .ok () (W.setCell a (.int .i64 y)) := by go_simp
theorem put_cell_u64 (y : Int) (W : World) (a : Addr) (u : Value) (hc : W.cell? a = some u) (hf : W.frozen? a = false) : (Instr.storeAt 22 (.pointer (some a)) (.int .u64 y)).run Try.prog W = .ok () (W.setCell a (.int .u64 y)) := by go_simp
theorem put_cell_str (y : ByteArray) (W : World) (a : Addr) (u : Value) (hc : W.cell? a = some u) (hf : W.frozen? a = false) : (Instr.storeAt 9 (.pointer (some a)) (.string y)).run Try.prog W = .ok () (W.setCell a (.string y)) := by go_simp
theorem put_cell_strs (A : Option Addr) (n c : Nat) (W : World) (a : Addr) (u : Value) (hc : W.cell? a = some u) (hf : W.frozen? a = false) : (Instr.storeAt 27 (.pointer (some a)) (.slice A n c)).run Try.prog W = .ok () (W.setCell a (.slice A n c)) := by go_simp
theorem load_cell_int {W : World} {a : Addr} {v : Value} (h : W.cell? a = some v) : (Instr.loadAt 3 (.pointer (some a))).run Try.prog W = .ok v W := by go_simp
end Go.Proofs.Ytelfephmjkipoaa
end
/-! Rows of frames; the contracts of All and of the document's All; the walk of FrameAll. -/
section
namespace Go.Kit
open Go.RowKit Go.Proofs.YtelfephmjkipoaaW.PrintWords
/-- A row of frames that is read. -/
structure RF (w : World) (A : Option Addr) (n : Nat) (L : List Fr) : Prop where
  len : L.length = n
  max : n ≤ 9223372036854775807
  at0 : ∀ i, i < n → ∃ ad f, A = some ad ∧ (∀ j v, f.cells[j]? = some v → w.cell? ((ad.add (i * 42)).add j) = some v) ∧ L[i]? = some f ∧ f.ok w ∧ f.wf ∧ (∀ s ∈ f.args, s.size ≤ 9223372036854775807)
theorem RF.below {w w1 : World} {A : Option Addr} {n : Nat} {L : List Fr} (h : RF w A n L) (hb : Below w.heap.size w w1) : RF w1 A n L :=
  ⟨h.len, h.max, fun i hi => by
    obtain ⟨ad, f, e, hc, hl, ho, hw, ha⟩ := h.at0 i hi
    exact ⟨ad, f, e, fun j v hj => pw_cell_below hb (hc j v hj), hl, ho.below hb, hw, ha⟩⟩
end Go.Kit
namespace Go.Proofs.Ytelfephmjkipoaa
open Go.RowKit Go.Kit Go.Proofs.YtelfephmjkipoaaW.PrintWords
theorem load_frame_at (f : Fr) (hf : f.tool.length = 32) (W : World) (a : Addr) (h : ∀ j v, f.cells[j]? = some v → W.cell? (a.add j) = some v) :
    (Instr.loadAt 29 (.pointer (some a))).run Try.prog W = .ok (.agg f.arr) W := by
  have hi : (Try.prog.info? 29).map (·.size) = some f.cells.length := by rw [frame_size]; have := Fr.arr_size f hf; simp [Fr.arr] at this; rw [this]
  have hl : (loadCells a f.cells.length).run Try.prog W = .ok f.cells.toArray W := run_loadCells_list (P := Try.prog) W a f.cells h
  simp only [Instr.loadAt, Instr.sureAddr, Sem.run_bind, Sem.run_pure, Result.andThen_ok]
  cases hq : Try.prog.info? 29 with
  | none => simp [hq] at hi
  | some i =>
    have hs : i.size = f.cells.length := by simpa [hq] using hi
    have hagg : (isAgg 29).run Try.prog W = .ok true W := by
      unfold isAgg
      rw [Sem.run_bind, run_underlying Try.underlying29 W]
      rfl
    simp [loadVar, Sem.run_bind, hagg, sizeOf, typeInfo, hq, hs, hl, Fr.arr]
/-- Frames' bytes, one behind the other, or why one may not be. -/
def allF : List Fr → List Int × Int
  | [] => ([], 0)
  | f :: r => if chkF f ≠ 0 then ([], chkF f) else if (allF r).2 ≠ 0 then ([], (allF r).2) else (encF f ++ (allF r).1, 0)
def encs_ (L : List Fr) : List Int := (L.map encF).flatten
theorem all_ok : ∀ (L : List Fr), (∀ f ∈ L, chkF f = 0) → allF L = (encs_ L, 0)
  | [], _ => rfl
  | f :: r, h => by
    have h1 := all_ok r (fun g hg => h g (List.mem_cons_of_mem _ hg))
    unfold allF
    rw [if_neg (by rw [h f List.mem_cons_self]; decide), h1, if_neg (by simp)]
    rfl
theorem all_bad : ∀ (L : List Fr) (k : Nat) (f : Fr), (∀ j, j < k → ∀ g, L[j]? = some g → chkF g = 0) → L[k]? = some f → chkF f ≠ 0 → allF L = ([], chkF f)
  | [], k, f, _, h, _ => by simp at h
  | g :: r, 0, f, _, h, hc => by
    simp at h
    subst h
    unfold allF
    rw [if_pos hc]
  | g :: r, k + 1, f, hk, h, hc => by
    have h1 := all_bad r k f (fun j hj x hx => hk (j + 1) (by omega) x (by simpa using hx)) (by simpa using h) hc
    unfold allF
    rw [if_neg (by rw [hk 0 (by omega) g rfl]; decide), h1, if_pos hc]
theorem encs_snoc {L : List Fr} {i : Nat} {f : Fr} (h : L[i]? = some f) : encs_ (L.take (i + 1)) = encs_ (L.take i) ++ encF f := by rw [snoc h]; simp [encs_]
theorem enc_len (f : Fr) : (encF f).length ≤ 2097176 := by
  unfold encF
  split
  · simp
  · next h =>
    have h1 := (chk_facts (by simpa using h)).2.2
    have h2 := sh_ten (n := (bodyF f).length) (by omega)
    rw [sealed_length, List.length_append]
    omega
theorem encs_len (L : List Fr) : (encs_ L).length ≤ 2097176 * L.length := by
  induction L with
  | nil => simp [encs_]
  | cons f r ih =>
    have := enc_len f
    simp only [encs_, List.map_cons, List.flatten_cons, List.length_append, List.length_cons] at ih ⊢
    omega
attribute [-go_sem] Instr.loadAt Instr.storeAt
section
variable {A : Option Addr} {n c : Nat} {L : List Fr} {w : World}
set_option maxHeartbeats 8000000 in
set_option maxRecDepth 100000 in
theorem All_any (hA : RF w A n L) (hn : n ≤ 1048576) : Calls Try.prog 26 #[.slice A n c] w fun e w' => ∃ v, e = .returned (.tuple #[v, .int .i64 (allF L).2]) ∧ OB 5 w' w.heap.size v (allF L).1 ∧ Below w.heap.size w w' := by
  obtain ⟨ys, hys⟩ : ∃ ys, (allF L).1 = ys := ⟨_, rfl⟩
  obtain ⟨x, hx⟩ : ∃ x, (allF L).2 = x := ⟨_, rfl⟩
  rw [hys, hx]
  have HR : Hid (allF L = (ys, x)) := Lib.hid (by rw [← hys, ← hx])
  have HA := Lib.hid hA
  clear hys hx hA
  go_enter Try.func26, Try.ntmps26
  go_wp2_with fail
  go_loopg [4, 11] n (fun gk v4 v11 w' => ∃ i : Nat, v11 = .int .i64 (i : Int) ∧ OB 5 w' w.heap.size v4 (encs_ (L.take i)) ∧ Below w.heap.size w w' ∧ Hid (i + gk = n ∧ ∀ j, j < i → ∀ g, L[j]? = some g → chkF g = 0))
  case atStart => exact ⟨0, rfl, OB.nil _ _ _, Below.refl _ _, Lib.hid ⟨by omega, fun j hj => by omega⟩⟩
  case round =>
    obtain ⟨i, rfl, hO, hb, HG⟩ := hrel
    by_cases hi : i < n
    · obtain ⟨ad, f, HE, hcl, HX, hf, hw, ha⟩ := (HA.out.below hb).at0 i hi
      have hi2 : (i : Int) < (n : Int) := by omega
      subst HE
      have e1 := load_frame_at f hf.tool wr _ hcl
      obtain ⟨wa, w2, s0, s1, hF, hbz⟩ := frame_put wr f hf.tool
      have HX2 := Lib.hid HX
      have HF := Lib.hid hF
      have HB := Lib.hid hbz
      clear HX hcl hF hbz
      go_upto_region 5 with (fail)
      clear s0 s1 e1
      have hF2 := HF.out
      have hO2 := hO.below HB.out
      have hb2 := below_step hb HB.out
      have hf2 := hf.below HB.out
      have e2 := get_frame hF2
      clear hO hb hf HF
      go_wp2_with fail
      refine (Encode_any hf2 hw ha).mono ?_
      rintro e w3 ⟨v3, rfl, hO3, hb3⟩
      have hb4 := below_step hb2 hb3
      have hO4 := hO2.below hb3
      obtain ⟨q, hq⟩ : ∃ q, chkF f = q := ⟨_, rfl⟩
      have HQ := Lib.hid hq
      rw [hq]
      clear hO2 hb2 hb3 hf2 e2 hF2 hq
      by_cases h0 : q = 0
      · subst h0
        obtain ⟨A3, c3, rfl, hR3, hc3⟩ := hO3.reads'
        obtain ⟨N, hN⟩ : ∃ N, (encF f).length = N := ⟨_, rfl⟩
        have hN2 : N ≤ 2097176 := by rw [← hN]; exact enc_len f
        have hsz : (encs_ (L.take i)).length + N ≤ 140737488355328 := by
          have h1 := encs_len (L.take i)
          rw [List.length_take] at h1
          have h2 : 2097176 * min i L.length ≤ 2097176 * 1048576 := Nat.mul_le_mul_left _ (by omega)
          omega
        have HSZ := Lib.hid hsz
        rw [hN] at hR3 hc3 ⊢
        clear hO3 hN hsz hc3
        go_wp2_with (at_builtin; refine push_row (w0 := w) w.heap.size rfl (.tmp 23) (.tmp 24) 38 (encF f) A3 N c3 rfl Try.underlying38 u8_info rfl rfl hO4 hR3 hb4 hb4.size HSZ.out ?_)
        intro v5 w5 hO5 hb5 _ _
        have HO5 : Hid (OB 5 w5 w.heap.size v5 (encs_ (L.take (i + 1)))) := Lib.hid (by rw [encs_snoc HX2.out]; exact hO5)
        clear hO5 hO4 hR3 hb4
        go_wp2_with fail
        go_roundg (gk - 1)
        case measure => have := HG.out.1; omega
        case rel =>
          refine ⟨i + 1, by simp, HO5.out, hb5, Lib.hid ⟨by have := HG.out.1; omega, fun j hj g hg => ?_⟩⟩
          rcases Nat.lt_succ_iff_lt_or_eq.1 hj with h | h
          · exact HG.out.2 j h g hg
          · subst h
            have := hg.symm.trans HX2.out
            cases this; exact HQ.out
      · have b0 : (q != 0) = true := by simpa using h0
        have hbad := all_bad L i f HG.out.2 HX2.out (by rw [HQ.out]; exact h0)
        rw [HR.out, HQ.out] at hbad
        obtain ⟨rfl, rfl⟩ : ys = [] ∧ x = q := ⟨congrArg Prod.fst hbad, congrArg Prod.snd hbad⟩
        clear h0 hbad hO3 hO4
        go_wp2_with fail
        go_ret2
        exact ⟨_, rfl, OB.nil _ _ _, hb4⟩
    · have hi2 : ¬ (i : Int) < (n : Int) := by omega
      have hin : i = n := by have := HG.out.1; omega
      have HLn := HA.out.len
      have hall := all_ok L (fun f hf => by
        obtain ⟨j, hj⟩ := List.getElem?_of_mem hf
        have : j < L.length := by
          rcases Nat.lt_or_ge j L.length with h | h
          · exact h
          · rw [List.getElem?_eq_none h] at hj; cases hj
        exact HG.out.2 j (by omega) f hj)
      rw [HR.out] at hall
      obtain ⟨rfl, rfl⟩ : ys = encs_ L ∧ x = 0 := ⟨congrArg Prod.fst hall, congrArg Prod.snd hall⟩
      rw [List.take_of_length_le (by omega)] at hO
      have HO := Lib.hid hO
      clear hO hall HLn hin hi
      go_wp2_with fail
      go_ret2
      exact ⟨_, rfl, HO.out, hb⟩
set_option maxHeartbeats 8000000 in
set_option maxRecDepth 100000 in
theorem rAll_any (hA : RF w A n L) (hn : n ≤ 1048576) : Calls Try.prog 27 #[.slice A n c] w fun e w' => ∃ v, e = .returned (.tuple #[v, .int .i64 (allF L).2]) ∧ OB 5 w' w.heap.size v (allF L).1 ∧ Below w.heap.size w w' := by
  obtain ⟨ys, hys⟩ : ∃ ys, (allF L).1 = ys := ⟨_, rfl⟩
  obtain ⟨x, hx⟩ : ∃ x, (allF L).2 = x := ⟨_, rfl⟩
  rw [hys, hx]
  have HR : Hid (allF L = (ys, x)) := Lib.hid (by rw [← hys, ← hx])
  have HA := Lib.hid hA
  clear hys hx hA
  go_enter Try.func27, Try.ntmps27
  go_wp2_with fail
  go_loopg [4, 5] n (fun gk v4 v5 w' => ∃ i : Nat, v5 = .int .i64 (i : Int) ∧ OB 5 w' w.heap.size v4 (encs_ (L.take i)) ∧ Below w.heap.size w w' ∧ Hid (i + gk = n ∧ ∀ j, j < i → ∀ g, L[j]? = some g → chkF g = 0))
  case atStart => exact ⟨0, rfl, OB.nil _ _ _, Below.refl _ _, Lib.hid ⟨by omega, fun j hj => by omega⟩⟩
  case round =>
    obtain ⟨i, rfl, hO, hb, HG⟩ := hrel
    by_cases hi : i < n
    · obtain ⟨ad, f, HE, hcl, HX, hf, hw, ha⟩ := (HA.out.below hb).at0 i hi
      have hi2 : (i : Int) < (n : Int) := by omega
      subst HE
      have e1 := load_frame_at f hf.tool wr _ hcl
      have HX2 := Lib.hid HX
      have hf2 := hf
      have hb2 := hb
      have hO2 := hO
      clear HX hcl hb hf hO
      go_wp2_with fail
      refine (rEncode_any hf2 hw ha).mono ?_
      rintro e w3 ⟨v3, rfl, hO3, hb3⟩
      have hb4 := below_step hb2 hb3
      have hO4 := hO2.below hb3
      obtain ⟨q, hq⟩ : ∃ q, chkF f = q := ⟨_, rfl⟩
      have HQ := Lib.hid hq
      rw [hq]
      clear hO2 hb2 hb3 hf2 e1 hq
      by_cases h0 : q = 0
      · subst h0
        obtain ⟨A3, c3, rfl, hR3, hc3⟩ := hO3.reads'
        obtain ⟨N, hN⟩ : ∃ N, (encF f).length = N := ⟨_, rfl⟩
        have hN2 : N ≤ 2097176 := by rw [← hN]; exact enc_len f
        have hsz : (encs_ (L.take i)).length + N ≤ 140737488355328 := by
          have h1 := encs_len (L.take i)
          rw [List.length_take] at h1
          have h2 : 2097176 * min i L.length ≤ 2097176 * 1048576 := Nat.mul_le_mul_left _ (by omega)
          omega
        have HSZ := Lib.hid hsz
        rw [hN] at hR3 hc3 ⊢
        clear hO3 hN hsz hc3
        go_wp2_with (at_builtin; refine push_row (w0 := w) w.heap.size rfl (.tmp 25) (.tmp 26) 38 (encF f) A3 N c3 rfl Try.underlying38 u8_info rfl rfl hO4 hR3 hb4 hb4.size HSZ.out ?_)
        intro v5 w5 hO5 hb5 _ _
        have HO5 : Hid (OB 5 w5 w.heap.size v5 (encs_ (L.take (i + 1)))) := Lib.hid (by rw [encs_snoc HX2.out]; exact hO5)
        clear hO5 hO4 hR3 hb4
        go_wp2_with fail
        go_roundg (gk - 1)
        case measure => have := HG.out.1; omega
        case rel =>
          refine ⟨i + 1, by simp, HO5.out, hb5, Lib.hid ⟨by have := HG.out.1; omega, fun j hj g hg => ?_⟩⟩
          rcases Nat.lt_succ_iff_lt_or_eq.1 hj with h | h
          · exact HG.out.2 j h g hg
          · subst h
            have := hg.symm.trans HX2.out
            cases this; exact HQ.out
      · have b0 : (q != 0) = true := by simpa using h0
        have hbad := all_bad L i f HG.out.2 HX2.out (by rw [HQ.out]; exact h0)
        rw [HR.out, HQ.out] at hbad
        obtain ⟨rfl, rfl⟩ : ys = [] ∧ x = q := ⟨congrArg Prod.fst hbad, congrArg Prod.snd hbad⟩
        clear h0 hbad hO3 hO4
        go_wp2_with fail
        go_ret2
        exact ⟨_, rfl, OB.nil _ _ _, hb4⟩
    · have hi2 : ¬ (i : Int) < (n : Int) := by omega
      have hin : i = n := by have := HG.out.1; omega
      have HLn := HA.out.len
      have hall := all_ok L (fun f hf => by
        obtain ⟨j, hj⟩ := List.getElem?_of_mem hf
        have : j < L.length := by
          rcases Nat.lt_or_ge j L.length with h | h
          · exact h
          · rw [List.getElem?_eq_none h] at hj; cases hj
        exact HG.out.2 j (by omega) f hj)
      rw [HR.out] at hall
      obtain ⟨rfl, rfl⟩ : ys = encs_ L ∧ x = 0 := ⟨congrArg Prod.fst hall, congrArg Prod.snd hall⟩
      rw [List.take_of_length_le (by omega)] at hO
      have HO := Lib.hid hO
      clear hO hall HLn hin hi
      go_wp2_with fail
      go_ret2
      exact ⟨_, rfl, HO.out, hb⟩
set_option maxHeartbeats 8000000 in
set_option maxRecDepth 100000 in
theorem FrameAll_walk (hA : RF w A n L) (hn : n ≤ 1048576) : Calls Try.prog 6 #[.slice A n c] w fun e w' => e = .returned (.bool true) ∧ Below w.heap.size w w' := by
  go_enter Try.func6, Try.ntmps6
  go_wp2_with fail
  refine (All_any hA hn).mono ?_
  rintro e w1 ⟨v1, rfl, hO1, hb1⟩
  have hA1 := hA.below hb1
  obtain ⟨ys, hys⟩ : ∃ ys, (allF L).1 = ys := ⟨_, rfl⟩
  obtain ⟨x, hx⟩ : ∃ x, (allF L).2 = x := ⟨_, rfl⟩
  have HY := Lib.hid hys
  have HX := Lib.hid hx
  rw [hys] at hO1
  rw [hx]
  clear hA hys hx
  go_wp2_with fail
  refine (rAll_any hA1 hn).mono ?_
  rintro e w2 ⟨v2, rfl, hO2, hb2⟩
  rw [HY.out] at hO2
  rw [HX.out]
  have hO3 := hO1.below hb2
  have hb3 := below_step hb1 hb2
  obtain ⟨A3, c3, rfl, hR3, _⟩ := hO3.reads'
  obtain ⟨A2, c2, rfl, hR2, _⟩ := hO2.reads'
  have xx : (x == x) = true := by simp
  generalize ys.length = m at *
  clear hO1 hO2 hO3 hb1 hb2 hA1
  go_wp2_with fail
  refine (Equal_same hR3 hR2 rfl).mono ?_
  rintro e w4 ⟨rfl, rfl⟩
  go_wp2_with fail
  refine (alive_any _).mono ?_
  rintro e w6 ⟨rfl, hb8⟩
  have hb9 := below_step hb3 hb8
  go_wp2_with fail
  go_ret
  exact ⟨rfl, hb9⟩
end
end Go.Proofs.Ytelfephmjkipoaa
end
/-! A row of frames, opened, with its bulk. -/
section
namespace Go.Proofs.Ytelfephmjkipoaa
open Go.ChangeShapes Go.WideShapes Go.RowKit Go.Kit Go.Deep Go.Proofs.YtelfephmjkipoaaW.PrintWords
instance : Inhabited Fr := ⟨noF⟩
set_option maxRecDepth 100000 in
theorem read_frame {H : Type} {enc : TypeId × Value → H} {W : World} {n : Nat} {cs : List Value} {y : DataW H × List MemPlace} (ht : DataW.trod enc Try.prog W 0 (fun _ => true) true n 29 cs = some y) :
    ∃ f : Fr, cs = f.cells ∧ f.ok W ∧ f.wf ∧ tw f.args + 1 ≤ Rows.uptoBulk y.1 := by
  obtain ⟨hl, parts, hagg, hf⟩ := read_fields Try.underlying29 ht
  rw [show Try.prog.cellsOf 29 = 42 from by kernel_rfl] at hl
  have c1 : Try.prog.cellsOf 3 = 1 := by kernel_rfl
  have c2 : Try.prog.cellsOf 22 = 1 := by kernel_rfl
  have c3 : Try.prog.cellsOf 24 = 32 := by kernel_rfl
  have c4 : Try.prog.cellsOf 26 = 3 := by kernel_rfl
  have c5 : Try.prog.cellsOf 27 = 1 := by kernel_rfl
  have c6 : Try.prog.cellsOf 9 = 1 := by kernel_rfl
  obtain ⟨n0, y0, h0, p0, _⟩ := hf 0 3 0 rfl
  obtain ⟨n1, y1, h1, p1, _⟩ := hf 1 22 1 rfl
  obtain ⟨n2, y2, h2, p2, _⟩ := hf 2 3 2 rfl
  obtain ⟨n3, y3, h3, p3, _⟩ := hf 3 3 3 rfl
  obtain ⟨n4, y4, h4, p4, _⟩ := hf 4 24 4 rfl
  obtain ⟨n5, y5, h5, p5, _⟩ := hf 5 3 36 rfl
  obtain ⟨n6, y6, h6, p6, _⟩ := hf 6 26 37 rfl
  obtain ⟨n7, y7, h7, p7, _⟩ := hf 7 27 40 rfl
  obtain ⟨n8, y8, h8, p8, _⟩ := hf 8 9 41 rfl
  rw [c1] at h0 h2 h3 h5
  rw [c2] at h1
  rw [c3] at h4
  rw [c4] at h6
  rw [c5] at h7
  rw [c6] at h8
  obtain ⟨k, e0, _, we0⟩ := DataW.trod_int Try.underlying3 h0
  obtain ⟨id, e1, _, we1⟩ := DataW.trod_int Try.underlying22 h1
  obtain ⟨v, e2, _, we2⟩ := DataW.trod_int Try.underlying3 h2
  obtain ⟨s, e3, _, we3⟩ := DataW.trod_int Try.underlying3 h3
  obtain ⟨tool, e4, ht, hby⟩ := read_bytes Try.underlying24 Try.underlying5 (by kernel_rfl) c3 h4
  obtain ⟨st, e5, _, we5⟩ := DataW.trod_int Try.underlying3 h5
  obtain ⟨A, n, c, args, e7, hr, hbk, _⟩ := read_texts_bulk Try.underlying27 Try.underlying9 c6 h7
  obtain ⟨body, e8, ey8, _⟩ := DataW.trod_string Try.underlying9 h8
  obtain ⟨hl6, _, _, hf6⟩ := read_fields Try.underlying26 h6
  obtain ⟨m0, w0, z0, _, _⟩ := hf6 0 3 0 rfl
  obtain ⟨m1, w1, z1, _, _⟩ := hf6 1 3 1 rfl
  obtain ⟨m2, w2, z2, _, _⟩ := hf6 2 3 2 rfl
  rw [c1] at z0 z1 z2
  obtain ⟨mo, g0, _, wg0⟩ := DataW.trod_int Try.underlying3 z0
  obtain ⟨fu, g1, _, wg1⟩ := DataW.trod_int Try.underlying3 z1
  obtain ⟨di, g2, _, wg2⟩ := DataW.trod_int Try.underlying3 z2
  have e6 : (cs.drop 37).take 3 = [.int .i64 mo, .int .i64 fu, .int .i64 di] := by
    generalize (cs.drop 37).take 3 = l at *
    rw [c4] at hl6
    match l, hl6 with
    | [x, y, z], _ => simp at g0 g1 g2; rw [g0, g1, g2]
  have hbg := bulk_agg (List.mem_of_getElem? p7)
  rw [hagg]
  refine ⟨⟨k, id, v, s, tool, st, mo, fu, di, A, n, c, args, body⟩, ?_, ⟨ht, hr⟩, ?_, by show tw args + 1 ≤ _; omega⟩
  · show cs = Fr.cells _
    rw [split9 cs hl, e0, e1, e2, e3, e4, e5, e6, e7, e8]
    rfl
  · have a0 := bounds_i64 we0
    have a1 := bounds_u64 we1
    have a2 := bounds_i64 we2
    have a3 := bounds_i64 we3
    have a5 := bounds_i64 we5
    have b0 := bounds_i64 wg0
    have b1 := bounds_i64 wg1
    have b2 := bounds_i64 wg2
    exact ⟨a1.1, a1.2, a0, a2, a3, a5, b0, b1, b2, hby⟩
set_option maxRecDepth 100000 in
theorem open_frames {H : Type} {enc : TypeId × Value → H} {W : World} {base : Nat} {r : Reach} {v : Value} {d : DataW H} {ps : List MemPlace}
    (hv : Value.okWide Try.prog W r base 49 v) (h : DataW.Trod enc Try.prog W 0 (fun _ => true) true 49 v d ps) (hB : Rows.uptoBulk d ≤ 1048576) : ∃ A n c L, v = .slice A n c ∧ RF W A n L ∧ n ≤ 1048576 := by
  obtain ⟨A, n, c, rfl⟩ := okWide_slice Try.underlying49 hv
  obtain ⟨fuel, hf⟩ := h
  rcases open_slice Try.underlying49 hf with ⟨h0, h1⟩ | ⟨a, len, cap, m, k, D, Pl, hcs, _, hl, hm, hmm, hxx, hx⟩
  · simp [Value.cells] at h0
    obtain ⟨rfl, rfl, rfl⟩ := h0
    exact ⟨none, 0, 0, [], rfl, ⟨rfl, by omega, fun i hi => absurd hi (by omega)⟩, by omega⟩
  · simp [Value.cells] at hcs
    obtain ⟨rfl, rfl, rfl⟩ := hcs
    simp only [if_true] at hmm
    have c4 : Try.prog.cellsOf 29 = 42 := by kernel_rfl
    have each : ∀ i, i < n → ∃ f : Fr, (∀ j v, f.cells[j]? = some v → W.cell? ((a.add (i * 42)).add j) = some v) ∧ f.ok W ∧ f.wf ∧ tw f.args + 1 ≤ Rows.uptoBulk (D i) := by
      intro i hi
      obtain ⟨cs, hc, ht⟩ := hx i (by omega)
      rw [c4] at hc
      obtain ⟨hcl, _, hcell⟩ := World.cells?_some hc
      obtain ⟨f, rfl, hok, hwf, hb⟩ := read_frame ht
      refine ⟨f, fun j v hj => ?_, hok, hwf, hb⟩
      have hlt : j < f.cells.length := by
        rcases Nat.lt_or_ge j f.cells.length with h | h
        · exact h
        · rw [List.getElem?_eq_none h] at hj; cases hj
      have hlen : f.cells.length = 42 := by have := Fr.arr_size f hok.tool; simpa [Fr.arr] using this
      have q := hcell j (by omega)
      rw [← hj]; simpa using q
    obtain ⟨y, hy⟩ := choose_lt each
    simp only [Prod.mk.injEq] at hxx
    have hsum : n ≤ Rows.uptoBulk d := by
      rw [hxx.1]
      refine Nat.le_trans ?_ (Nat.le_trans (Nat.le_add_right _ 1) (bulk_slice _ _))
      have h1 := bulk_ints ((List.range n).map D)
      simpa using h1
    have hbi : ∀ i, i < n → Rows.uptoBulk (D i) ≤ Rows.uptoBulk d := fun i hi => by
      rw [hxx.1]
      refine Nat.le_trans ?_ (Nat.le_trans (Nat.le_add_right _ 1) (bulk_slice _ _))
      exact bulk_part (List.mem_map.2 ⟨i, List.mem_range.2 hi, rfl⟩)
    refine ⟨_, n, c, (List.range n).map y, rfl, ⟨by simp, by omega, fun i hi => ?_⟩, by omega⟩
    obtain ⟨q0, q1, q2, q3⟩ := hy i hi
    refine ⟨a, y i, rfl, q0, by simp [hi], q1, q2, fun s hs => ?_⟩
    have := tw_mem hs
    have := hbi i hi
    omega
end Go.Proofs.Ytelfephmjkipoaa
end
