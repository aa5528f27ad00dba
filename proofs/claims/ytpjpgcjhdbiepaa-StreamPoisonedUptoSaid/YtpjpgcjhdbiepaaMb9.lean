/- Contracts of functions that the laws reach (texts laid together, part 9): each says of its call what it answers and what it leaves of memory; the conditions stand in each statement. -/
import Derived.Test.YtpjpgcjhdbiepaaMb1
import Derived.Deep.Matrix
import Derived.Test.YtpjpgcjhdbiepaaRows
import Derived.Test.YtpjpgcjhdbiepaaMb8
import Derived.Test.YtpjpgcjhdbiepaaMb7
set_option linter.unusedVariables false
/-! Arguments opened: structs, weights. No program in it. -/
section
namespace Go.Kit
open Go.ChangeShapes Go.WideShapes Go.RowKit Go.Deep Go.Proofs.YtpjpgcjhdbiepaaW.PrintWords
section
variable {H : Type} {enc : TypeId × Value → H} {P : Program} {W : World} {base : Nat} {r : Reach}
/-- Bytes of an array. -/
theorem read_bytes {t e : TypeId} {m n : Nat} {cs : List Value} {y : DataW H × List MemPlace} (ht : P.underlying t = some (.array m e)) (he : P.underlying e = some (.int .u8)) (hc : P.cellsOf e = 1) (hm : P.cellsOf t = m)
    (h : DataW.trod enc P W 0 (fun _ => true) true n t cs = some y) : ∃ l : List Int, cs = nums .u8 l ∧ l.length = m ∧ Byt l := by
  obtain ⟨xs, k, _, _, hl, hx, hf⟩ := DataW.trod_array ht h
  rw [hm] at hl
  have each : ∀ i, i < m → ∃ z, cs[i]? = some (.int .u8 z) ∧ 0 ≤ z ∧ z < 256 := by
    intro i hi
    have hq := hf i hi
    rw [hc, Nat.mul_one, List.getElem?_eq_getElem (by omega)] at hq
    obtain ⟨z, hz, _, hwf⟩ := DataW.trod_int he hq
    refine ⟨z, ?_, ?_⟩
    · have := congrArg (fun l : List Value => l[0]?) hz
      simpa using this
    · have := bounds_u8 hwf; omega
  refine ⟨(List.range m).map fun i => match cs[i]? with | some (Value.int _ z) => z | _ => 0, ?_, by simp, ?_⟩
  · apply List.ext_getElem?
    intro i
    rcases Nat.lt_or_ge i m with hi | hi
    · obtain ⟨z, hz, _⟩ := each i hi
      simp [nums, hi, hz]
    · rw [List.getElem?_eq_none (by omega), List.getElem?_eq_none (by simp [nums]; omega)]
  · intro z hz
    simp only [List.mem_map, List.mem_range] at hz
    obtain ⟨i, hi, rfl⟩ := hz
    obtain ⟨z, hz, h0, h1⟩ := each i hi
    simp only [hz]; exact ⟨h0, h1⟩
/-- Every block inside is no greater than the reach. -/
def Wt (P : Program) (t : TypeId) (d : DataW H) : Prop := ∀ n ∈ d.weights P t, n ≤ 140737488351232
theorem wt_sized {ts : List TypeId} {ds : List (DataW H)} {j : Nat} {t : TypeId} {d : DataW H} (h : (DataW.weightsEach P ts ds).all (· ≤ reachBytes) = true) (ht : ts[j]? = some t) (hd : ds[j]? = some d) : Wt P t d := fun n hn => by
  have := List.all_eq_true.1 h n (DataW.weights_mem_each ht hd n hn)
  have := of_decide_eq_true this
  unfold reachBytes at this; omega
theorem Wt.field {t ty : TypeId} {fs : Array Field} {parts : List (DataW H)} {d : DataW H} (h : Wt P t (.agg parts)) (hs : P.underlying t = some (.struct fs)) {i : Nat} (hf : fs[i]?.map (·.type) = some ty) (hp : parts[i]? = some d) : Wt P ty d := fun n hn => by
  refine h n ?_
  rw [DataW.weights, hs]
  refine DataW.weights_mem_each (j := i) ?_ hp n hn
  rw [List.getElem?_map, Array.getElem?_toList]; exact hf
theorem mem_weightsAll {e : TypeId} {d : DataW H} : ∀ {l : List (DataW H)}, d ∈ l → ∀ n ∈ d.weights P e, n ∈ DataW.weightsAll P e l
  | x :: l, hd, n, hn => by
    rw [DataW.weightsAll, List.mem_append]
    rcases List.mem_cons.1 hd with rfl | hd
    · exact .inl hn
    · exact .inr (mem_weightsAll hd n hn)
theorem Wt.slice {t e : TypeId} {el sp : List (DataW H)} (h : Wt P t (.slice el sp)) (hs : P.underlying t = some (.slice e)) : (el.length + sp.length) * P.bytesOf e ≤ 140737488351232 ∧ ∀ d ∈ el, Wt P e d := by
  have h2 : ∀ n ∈ (el.length + sp.length) * P.bytesOf e :: (DataW.weightsAll P e el ++ DataW.weightsAll P e sp), n ≤ 140737488351232 := fun n hn => h n (by rw [DataW.weights, hs]; exact hn)
  exact ⟨h2 _ (by simp), fun d hd n hn => h2 n (by rw [List.mem_cons, List.mem_append]; exact .inr (.inl (mem_weightsAll hd n hn)))⟩
theorem Wt.string {t : TypeId} {b : List UInt8} (h : Wt P t (.lit (.string b) : DataW H)) : b.length ≤ 140737488351232 := h _ (by rw [DataW.weights]; simp)
/-- A struct's cells: every field's reading. -/
theorem read_fields {t : TypeId} {fs : Array Field} {n : Nat} {cs : List Value} {y : DataW H × List MemPlace} (hs : P.underlying t = some (.struct fs))
    (h : DataW.trod enc P W 0 (fun _ => true) true n t cs = some y) :
    cs.length = P.cellsOf t ∧ ∃ parts, y.1 = .agg parts ∧ ∀ (i : Nat) (ty : TypeId) (o : Nat), (fs[i]?.map fun f => (f.type, f.offset)) = some (ty, o) → ∃ n y, DataW.trod enc P W 0 (fun _ => true) true n ty ((cs.drop o).take (P.cellsOf ty)) = some y ∧ parts[i]? = some y.1 ∧ fs[i]?.map (·.type) = some ty := by
  obtain ⟨xs, n, _, rfl, hl, hlen, hfs⟩ := DataW.trod_struct hs h
  refine ⟨hl, _, rfl, fun i ty o hi => ?_⟩
  obtain ⟨f, hi2, he⟩ := Option.map_eq_some_iff.1 hi
  simp only [Prod.mk.injEq] at he
  obtain ⟨rfl, rfl⟩ := he
  have hlt : i < fs.size := by
    rcases Nat.lt_or_ge i fs.size with h | h
    · exact h
    · rw [Array.getElem?_eq_none h] at hi2; cases hi2
  refine ⟨n, xs[i]'(by omega), ?_, ?_, by rw [hi2]; rfl⟩
  · have := hfs i f hi2
    rwa [List.getElem?_eq_getElem (by omega)] at this
  · rw [List.getElem?_map, List.getElem?_eq_getElem (by omega)]; rfl
/-- A struct by value. -/
theorem open_fields {t : TypeId} {fs : Array Field} {v : Value} {d : DataW H} {ps : List MemPlace} (hs : P.underlying t = some (.struct fs))
    (hv : Value.okWide P W r base t v) (h : DataW.Trod enc P W 0 (fun _ => true) true t v d ps) :
    ∃ (cs : List Value) (parts : List (DataW H)), v = .agg cs.toArray ∧ cs.length = P.cellsOf t ∧ d = .agg parts ∧ ∀ (i : Nat) (ty : TypeId) (o : Nat), (fs[i]?.map fun f => (f.type, f.offset)) = some (ty, o) → ∃ n y, DataW.trod enc P W 0 (fun _ => true) true n ty ((cs.drop o).take (P.cellsOf ty)) = some y ∧ parts[i]? = some y.1 ∧ fs[i]?.map (·.type) = some ty := by
  obtain ⟨cs, rfl, hsz⟩ := okWide_struct hs hv
  obtain ⟨fuel, hq⟩ := h
  obtain ⟨h1, parts, h2, h3⟩ := read_fields hs hq
  exact ⟨cs.toList, parts, by simp, by simp [hsz], h2, h3⟩
end
end Go.Kit
end
/-! What the bound on the bulk gives. -/
section
namespace Go.Proofs.Ytpjpgcjhdbiepaa
open Go.ChangeShapes Go.WideShapes Go.RowKit Go.Kit Go.Deep Go.Proofs.YtpjpgcjhdbiepaaW.PrintWords
section
variable {H : Type}
theorem bulk_one (d : DataW H) : 1 ≤ Rows.uptoBulk d := by
  cases d with
  | lit l => cases l <;> simp [Rows.uptoBulk]
  | nil => simp [Rows.uptoBulk]
  | ptr d => simp [Rows.uptoBulk]
  | slice elems spare => simp [Rows.uptoBulk]
  | agg parts => simp [Rows.uptoBulk]
  | iface t d => simp [Rows.uptoBulk]
  | map entries => simp [Rows.uptoBulk]
  | held h => simp [Rows.uptoBulk]
theorem bulk_part {d : DataW H} {l : List (DataW H)} (h : d ∈ l) : Rows.uptoBulk d ≤ Rows.uptoBulkAll l := by
  induction l with
  | nil => cases h
  | cons x r ih =>
    simp only [Rows.uptoBulkAll]
    cases List.mem_cons.1 h with
    | inl e => subst e; omega
    | inr e => have := ih e; omega
theorem bulk_sum (D : Nat → DataW H) (g : Nat → Nat) : ∀ l : List Nat, (∀ i ∈ l, g i ≤ Rows.uptoBulk (D i)) → (l.map g).sum ≤ Rows.uptoBulkAll (l.map D)
  | [], _ => by simp
  | i :: l, h => by
    have h1 := h i List.mem_cons_self
    have h2 := bulk_sum D g l (fun j hj => h j (List.mem_cons_of_mem _ hj))
    simp only [List.map_cons, List.sum_cons, Rows.uptoBulkAll]
    omega
theorem bulk_slice (elems spare : List (DataW H)) : Rows.uptoBulkAll elems + 1 ≤ Rows.uptoBulk (.slice elems spare) := by
  simp only [Rows.uptoBulk]
  omega
theorem bulk_text (b : List UInt8) : Rows.uptoBulk (DataW.lit (H := H) (.string b)) = b.length + 1 := by simp [Rows.uptoBulk]
theorem bulk_agg {d : DataW H} {l : List (DataW H)} (h : d ∈ l) : Rows.uptoBulk d + 1 ≤ Rows.uptoBulk (.agg l) := by
  have := bulk_part h
  simp only [Rows.uptoBulk]
  omega
theorem bulk_ints (L : List (DataW H)) : L.length ≤ Rows.uptoBulkAll L := by
  induction L with
  | nil => simp
  | cons x r ih => have := bulk_one x; simp only [Rows.uptoBulkAll, List.length_cons]; omega
theorem bulk_lits (k : IntKind) (l : List Int) : l.length ≤ Rows.uptoBulkAll (lits (H := H) k l) := by
  have := bulk_ints (lits (H := H) k l)
  rwa [show (lits (H := H) k l).length = l.length by simp [lits]] at this
end
section
variable {H : Type} {enc : TypeId × Value → H} {P : Program} {W : World} {base : Nat} {r : Reach}
/-- Bytes, with their bulk. -/
theorem open_bytes_up {t e : TypeId} {v : Value} {d : DataW H} {ps : List MemPlace}
    (ht : P.underlying t = some (.slice e)) (he : P.underlying e = some (.int .u8)) (hc : P.cellsOf e = 1)
    (hval : Value.okWide P W r base t v) (h : DataW.Trod enc P W 0 (fun _ => true) true t v d ps) :
    ∃ A len cap xs, v = .slice A len cap ∧ RB W A len xs ∧ len ≤ cap ∧ cap ≤ Rows.uptoBulk d := by
  obtain ⟨A, len, cap, rfl⟩ := okWide_slice ht hval
  obtain ⟨fuel, hf⟩ := h
  rcases open_ints ht he hc hf with ⟨hcs, _⟩ | ⟨x, l, c, zs, hcs, _, hl, hm, hz, hxx, hcell, hwz⟩
  · simp [Value.cells] at hcs
    obtain ⟨rfl, rfl, rfl⟩ := hcs
    exact ⟨none, 0, 0, [], rfl, RB.nil W, by omega, by omega⟩
  · simp [Value.cells] at hcs
    obtain ⟨rfl, rfl, rfl⟩ := hcs
    simp only [if_true] at hz
    refine ⟨_, len, cap, zs.take len, rfl, ⟨⟨by rw [List.length_take]; omega, by unfold maxLen at hm; omega, fun _ => ⟨x, rfl, fun j hj => ?_⟩⟩, (byt_of_wf hwz).take len⟩, hl, ?_⟩
    · rw [hcell j (by omega)]
      simp [List.getD_eq_getElem?_getD, hj]
    · simp only [Prod.mk.injEq] at hxx
      rw [hxx.1]
      simp only [Rows.uptoBulk]
      have h1 := bulk_lits (H := H) .u8 (zs.take len)
      have h2 := bulk_lits (H := H) .u8 (zs.drop len)
      rw [List.length_take] at h1
      rw [List.length_drop] at h2
      omega
end
end Go.Proofs.Ytpjpgcjhdbiepaa
end
/-! The walk of StreamPoisoned. (mk_sttc.py) -/
section
namespace Go.Proofs.Ytpjpgcjhdbiepaa
open Go.RowKit Go.Kit CrcM Go.Proofs.YtpjpgcjhdbiepaaW.PrintWords
theorem cEndD {w : World} {d : Nat} {v : Value} {want : Int} {s : Sm} (hw : s.why ≠ 0) (h : Dc w d v want s) : Calls Try.prog 18 #[.pointer (some ⟨d, 0, none⟩)] w fun e w' => e = .returned (.agg #[.int .i64 s.why, .int .i64 s.wat]) ∧ Below w.heap.size w w' := dEnd_any h s.why s.wat (by unfold endSm; rw [if_pos hw])
theorem cWantD {w : World} {d : Nat} {v : Value} {want : Int} {s : Sm} (hw : s.why ≠ 0) (h : Dc w d v want s) : Calls Try.prog 15 #[.pointer (some ⟨d, 0, none⟩)] w fun e w' => e = .returned (.int .i64 0) ∧ Below w.heap.size w w' := dWant_any h 0 (by unfold wantSm; rw [if_pos hw])
def PoRel (w : World) (d : Nat) (v : Value) (want : Int) (t : Sm) (g8 n : Nat) (g : Nat) (v11 : Value) (W : World) : Prop :=
  ∃ i : Nat, v11 = .int .i64 (i : Int) ∧ PK w d v want t g8 t.why t.wat W ∧ Hid (i + g = n)
attribute [-go_sem] Instr.loadAt Instr.storeAt Instr.build
set_option maxHeartbeats 16000000 in
set_option maxRecDepth 100000 in
theorem StreamPoisoned_walk (A : Option Addr) (n c : Nat) (xs : List Int) (B : Option Addr) (nm cmo : Nat) (L : List (List Int)) (w : World) (hx : RB w A n xs) (hl : n ≤ 1048576) (hL : RBs w B nm L) :
    Calls Try.prog 5 #[.slice A n c, .slice B nm cmo] w fun e w' => e = .returned (.bool true) ∧ Below w.heap.size w w' := by
  have cN : Calls Try.prog 7 #[.int .i64 2097152] w fun e w' => e = .returned (.tuple #[.pointer (some ⟨w.heap.size, 0, none⟩), .int .i64 0]) ∧ Dc w' w.heap.size (.slice none 0 0) 0 (Sm.new 2097152) ∧ Below w.heap.size w w' := dNew_any 2097152 (by decide) (by decide) w
  have HX := Lib.hid hx
  have HXL := Lib.hid hx.len
  have HL := Lib.hid hl
  have HLL := Lib.hid hL
  clear hx hl hL
  go_enter Try.func5, Try.ntmps5
  go_wp2_with fail
  refine cN.mono ?_
  rintro e w1 ⟨rfl, hD, hb⟩
  obtain ⟨d, hd⟩ : ∃ d, w.heap.size = d := ⟨_, rfl⟩
  have HDS : Hid (w.heap.size = d) := Lib.hid hd
  have hbx := below_alloc (Below.refl _ w1) (.cells #[.slice A n c] 23)
  have HDF : Hid (∀ k, dfp d (.slice none 0 0) k → w.heap.size ≤ k) := Lib.hid (fun k hk => hk.elim (fun e => by rw [e]; exact Nat.le_of_eq HDS.out) (fun e => by cases e))
  have hP := PB.one (cap := c) (F := dfp d (.slice none 0 0)) 23 (HX.out.below hb) (fun a e hp hk => by have h1 := rb_lt HX.out a e hp; have h2 := HDF.out _ hk; omega) (by rw [← hd]; exact hD.toDb.old)
  have HDa := Lib.hid (hD.below hbx)
  have HBa := Lib.hid (below_step hb hbx)
  rw [hd] at HDa ⊢
  clear cN hd hD hb hbx
  go_wp2_with fail
  refine (feed_any HDa.out rfl _ 1 1 [xs] hP (by simp; have := HXL.out; have := HL.out; omega) (by simp [Sm.new]; have := HXL.out; have := HL.out; omega) (by simp [Sm.new]; have := HXL.out; have := HL.out; omega)).mono ?_
  rintro e w3 ⟨v3, vl, want3, t, Fs, rfl, HF, hD3, hO3, ho3, hon3⟩
  obtain ⟨wa, w4, s0, s1, hY, hb4⟩ := fault_put w3 t.why t.wat
  have hbw : Below w.heap.size w w3 := Below.only HBa.out ho3 HBa.out.size (fun k hk => HDF.out k hk)
  have hK0 : PK w d v3 want3 t w3.heap.size t.why t.wat w4 := ⟨below_step hbw hb4, hD3.below hb4, hY⟩
  obtain ⟨A7, c7, rfl⟩ := hO3.form
  generalize Fs.length = n7
  clear hP HF hD3 hO3 ho3 hon3 hbw hb4 hY HDa HBa
  go_upto_region 5 with (fail)
  clear s0 s1
  obtain ⟨g8, hg8⟩ : ∃ g, w3.heap.size = g := ⟨_, rfl⟩
  rw [hg8] at hK0 ⊢
  clear hg8
  have hK := hK0
  have eX := get_fault hK.flt
  have hb0 := build_fault0
  by_cases hw : t.why = 0
  · have hne := eql_fault t.why t.wat 0 0 true (by rw [hw, (hK.dc.ok.low hw).1]; rfl)
    have l11 : ∀ W : World, W.heap[g8]? = some (.cells (fv t.why t.wat) 30 (0, 0)) → (Instr.loadAt 30 (.pointer (some ⟨g8, 0, none⟩))).run Try.prog W = .ok (.agg #[.int .i64 t.why, .int .i64 t.wat]) W := fun W h => get_fault h
    have q3 := eql_fault t.why t.wat t.why t.wat true (by simp)
    clear hw hK0
    go_upto_region 6 with (fail)
    clear eX hne
    go_region_held3 (fun W => Below w.heap.size w W ∧ PK w d v3 want3 t g8 t.why t.wat W ∧ W.heap[g8]? = some (.cells (fv t.why t.wat) 30 (0, 0)))
      (first
        | assumption
        | exact ⟨(hK.below (below_drew (Below.refl _ _))).b, hK.below (below_drew (Below.refl _ _)), (hK.below (below_drew (Below.refl _ _))).flt⟩
        | (go_split_ands; exact ⟨by assumption, by assumption, by assumption⟩)
        | (go_split_ands; have hKn := PK.below ‹PK w d v3 want3 t g8 t.why t.wat _› (by assumption); exact ⟨hKn.b, hKn, hKn.flt⟩))
      (first
        | (go_at_call 11; go_split_ands; with_reducible refine (cPoisonD (PK.dc (by assumption))).mono ?_; rintro e wy ⟨rfl, hby⟩)
        | (go_at_call 12; go_split_ands; with_reducible refine (lawake_any _).mono ?_; rintro e wy ⟨rfl, hby⟩))
    all_goals
      go_split_ands
      go_wp2_with fail
      go_ret
      exact ⟨rfl, by assumption⟩
  · have hne := eql_fault t.why t.wat 0 0 false (by simp [hw])
    have HW := Lib.hid hw
    clear hw hK0
    go_wp2_with fail
    refine (dCount_any hK.dc).mono ?_
    rintro e w5 ⟨rfl, hb5⟩
    obtain ⟨cm, hcm⟩ : ∃ cm : Int, (t.came : Int) = cm := ⟨_, rfl⟩
    obtain ⟨wh, hwh⟩ : ∃ wh : Int, (t.whole : Int) = wh := ⟨_, rfl⟩
    have hCL : Hid (∀ {W : World}, PK w d v3 want3 t g8 t.why t.wat W → Calls Try.prog 20 #[.pointer (some ⟨d, 0, none⟩)] W fun e w' => e = .returned (.agg (fv 80 cm)) ∧ Below W.heap.size W w') := Lib.hid (fun h => closed_any h.dc 80 cm (by rw [if_pos HW.out, hcm]))
    have HCM : Hid ((t.came : Int) = cm ∧ (t.whole : Int) = wh) := Lib.hid ⟨hcm, hwh⟩
    rw [hcm, hwh]
    clear hcm hwh eX hne
    have hK5 := hK.below hb5
    have HZ : Hid (PoRel w d v3 want3 t g8 nm nm (.int .i64 0) w5) := Lib.hid ⟨0, rfl, hK5, Lib.hid (by omega)⟩
    clear hK hb5 hK5
    go_wp2_with fail
    go_loopg [11] nm (fun gk v11 w' => PoRel w d v3 want3 t g8 nm gk v11 w')
    case atStart => exact HZ.out
    case round =>
      clear HZ
      obtain ⟨i, rfl, hK, HG⟩ := hrel
      by_cases hi : i < nm
      · have HGA : Hid (gk - 1 < gk ∧ i + 1 + (gk - 1) = nm) := Lib.hid (by have h := HG.out; exact ⟨by omega, by omega⟩)
        have hi2 : (i : Int) < (nm : Int) := by omega
        have hi1 : IntKind.i64.wrap ((i : Int) + 1) = (i : Int) + 1 := by rw [IntKind.wrap_i64]; have := HLL.out.max; omega
        obtain ⟨ad, Ai, ni, ci, ys, hA, hcx, _, _⟩ := HLL.out.at_ i hi
        have hcell : Hid (∀ g4, w.heap.size ≤ g4 → ¬ (ad.add i).block = g4) := Lib.hid (fun g4 h e => by have := cell_lt hcx; omega)
        subst hA
        have hcc0 := pw_cell_below hK.b hcx
        have hdr := below_drew (Below.refl wr.heap.size wr)
        have hcc := pw_cell_below hdr hcc0
        have hQ := hK.below hdr
        have lB : ∀ W : World, W.cell? (ad.add i) = some (.slice Ai ni ci) → (Instr.loadAt 23 (.pointer (some (ad.add i)))).run Try.prog W = .ok (.slice Ai ni ci) W := fun W h => load_bytes_cell h
        clear hi hcx hcc0 hdr hK
        go_upto_region 11 with (fail)
        refine wp_region_held_drew (S := fun W => W.cell? (ad.add i) = some (.slice Ai ni ci)) (by kernel_rfl) (hcc) (fun hHeld => ?_)
        generalize wr.drew = wm0 at *
        refine wpAnyH_take (i := 0) (v := (.pointer (some ⟨d, 0, none⟩))) (oi := ⟨_, _, _, _, _, _⟩) rfl (by kernel_rfl) (by kernel_rfl) (by kernel_rfl) (fun _ _ _ h => h) (Or.inl ⟨by kernel_rfl, fun W hS => ?_⟩) (by assumption) ?_
        · dsimp only at hS; go_split_ands; go_simp
        simp only [Act.put, List.setIfInBounds_toArray, List.set_cons_zero, List.set_cons_succ]
        refine wpAnyH_take (i := 1) (v := (.slice (some ad) nm cmo)) (oi := ⟨_, _, _, _, _, _⟩) rfl (by kernel_rfl) (by kernel_rfl) (by kernel_rfl) (fun _ _ _ h => h) (Or.inl ⟨by kernel_rfl, fun W hS => ?_⟩) (by assumption) ?_
        · dsimp only at hS; go_split_ands; go_simp
        simp only [Act.put, List.setIfInBounds_toArray, List.set_cons_zero, List.set_cons_succ]
        refine wpAnyH_take (i := 2) (v := (.int .i64 (i : Int))) (oi := ⟨_, _, _, _, _, _⟩) rfl (by kernel_rfl) (by kernel_rfl) (by kernel_rfl) (fun _ _ _ h => h) (Or.inl ⟨by kernel_rfl, fun W hS => ?_⟩) (by assumption) ?_
        · dsimp only at hS; go_split_ands; go_simp
        simp only [Act.put, List.setIfInBounds_toArray, List.set_cons_zero, List.set_cons_succ]
        refine wpAnyH_take (i := 3) (v := (.pointer (some (ad.add i)))) (oi := ⟨_, _, _, _, _, _⟩) rfl (by kernel_rfl) (by kernel_rfl) (by kernel_rfl) (fun _ _ _ h => h) (Or.inl ⟨by kernel_rfl, fun W hS => ?_⟩) (by assumption) ?_
        · dsimp only at hS; go_split_ands; go_simp
        simp only [Act.put, List.setIfInBounds_toArray, List.set_cons_zero, List.set_cons_succ]
        refine wpAnyH_take (i := 4) (v := (.slice Ai ni ci)) (oi := ⟨_, _, _, _, _, _⟩) rfl (by kernel_rfl) (by kernel_rfl) (by kernel_rfl) (fun _ _ _ h => h) (Or.inl ⟨by kernel_rfl, fun W hS => ?_⟩) (by assumption) ?_
        · dsimp only at hS; go_split_ands; go_simp
        simp only [Act.put, List.setIfInBounds_toArray, List.set_cons_zero, List.set_cons_succ]
        refine wpAnyH_ready (rs := [5, 11]) (by kernel_rfl) (by decide) (AllReadyH.cons (o := ⟨_, _, _, _, _, _⟩) rfl (fun K hK => ?_) (AllReadyH.cons (o := ⟨_, _, _, _, _, _⟩) rfl (fun K hK => ?_) AllReadyH.nil))
        · skip
          rw [if_pos (by kernel_rfl)]
          go_simp
          refine (lbye_any wm0).mono ?_
          rintro e wm1 ⟨v5, rfl, hOb, hbx⟩
          obtain ⟨A5, c5, rfl, _, _⟩ := hOb.reads'
          generalize (encF byeF).length = n5
          replace hQ := hQ.below hbx
          clear hOb
          go_wp2_with fail
          refine hK.out _ _ (pw_cell_below hbx hHeld) (fun hHeld => ?_)
          clear hK K
          try simp only [Act.put, List.setIfInBounds_toArray, List.set_cons_zero, List.set_cons_succ]
          refine wpAnyH_ready (rs := [6, 11]) (by kernel_rfl) (by decide) (AllReadyH.cons (o := ⟨_, _, _, _, _, _⟩) rfl (fun K hK => ?_) (AllReadyH.cons (o := ⟨_, _, _, _, _, _⟩) rfl (fun K hK => ?_) AllReadyH.nil))
          · skip
            rw [if_pos (by kernel_rfl)]
            go_simp
            have hbx := below_alloc (Below.refl _ wm1) (.cells #[.slice Ai ni ci, .slice A5 n5 c5] 23)
            obtain ⟨gl, hgl⟩ : ∃ gl, wm1.heap.size = gl := ⟨_, rfl⟩
            have hbx2 := hbx
            rw [hgl] at hbx2 ⊢
            replace hQ := hQ.below hbx
            generalize wm1.alloc (.cells #[.slice Ai ni ci, .slice A5 n5 c5] 23) = wm2 at *
            clear hbx2 hgl
            refine hK.out _ _ (pw_cell_below hbx hHeld) (fun hHeld => ?_)
            clear hK K
            try simp only [Act.put, List.setIfInBounds_toArray, List.set_cons_zero, List.set_cons_succ]
            refine wpAnyH_ready (rs := [7, 11]) (by kernel_rfl) (by decide) (AllReadyH.cons (o := ⟨_, _, _, _, _, _⟩) rfl (fun K hK => ?_) (AllReadyH.cons (o := ⟨_, _, _, _, _, _⟩) rfl (fun K hK => ?_) AllReadyH.nil))
            · skip
              rw [if_pos (by kernel_rfl)]
              go_simp
              refine (dfeed_bad (x := 80) (y := cm) (by decide) (fun W h => hCL.out (hQ.below h)) _ 2 2).mono ?_
              rintro e wm3 ⟨rfl, hbx⟩
              replace hQ := hQ.below hbx
              rw [show Value.agg (fv 80 cm) = .agg #[.int .i64 80, .int .i64 cm] from rfl]
              go_wp2_with fail
              refine hK.out _ _ (pw_cell_below hbx hHeld) (fun hHeld => ?_)
              clear hK K
              try simp only [Act.put, List.setIfInBounds_toArray, List.set_cons_zero, List.set_cons_succ]
              refine wpAnyH_take (i := 8) (v := (.tuple #[.slice none 0 0, (.agg #[.int .i64 80, .int .i64 cm])])) (oi := ⟨_, _, _, _, _, _⟩) rfl (by kernel_rfl) (by kernel_rfl) (by kernel_rfl) (fun _ _ _ h => h) (Or.inl ⟨by kernel_rfl, fun W hS => ?_⟩) (by assumption) ?_
              · dsimp only at hS; go_split_ands; go_simp
              simp only [Act.put, List.setIfInBounds_toArray, List.set_cons_zero, List.set_cons_succ]
              refine wpAnyH_take (i := 9) (v := (.slice none 0 0)) (oi := ⟨_, _, _, _, _, _⟩) rfl (by kernel_rfl) (by kernel_rfl) (by kernel_rfl) (fun _ _ _ h => h) (Or.inl ⟨by kernel_rfl, fun W hS => ?_⟩) (by assumption) ?_
              · dsimp only at hS; go_split_ands; go_simp
              simp only [Act.put, List.setIfInBounds_toArray, List.set_cons_zero, List.set_cons_succ]
              refine wpAnyH_take (i := 10) (v := (.agg #[.int .i64 80, .int .i64 cm])) (oi := ⟨_, _, _, _, _, _⟩) rfl (by kernel_rfl) (by kernel_rfl) (by kernel_rfl) (fun _ _ _ h => h) (Or.inl ⟨by kernel_rfl, fun W hS => ?_⟩) (by assumption) ?_
              · dsimp only at hS; go_split_ands; go_simp
              simp only [Act.put, List.setIfInBounds_toArray, List.set_cons_zero, List.set_cons_succ]
              refine wpAnyH_ready (rs := [11]) (by kernel_rfl) (by decide) (AllReadyH.cons (o := ⟨_, _, _, _, _, _⟩) rfl (fun K hK => ?_) AllReadyH.nil)
              rw [if_pos (by kernel_rfl)]
              go_simp
              obtain ⟨wm4, s0, hX4, hbx⟩ := fault_new wm3
              rw [s0]
              obtain ⟨g4, hg4⟩ : ∃ g4, wm3.heap.size = g4 := ⟨_, rfl⟩
              have hg4l : w.heap.size ≤ g4 := by rw [← hg4]; exact hQ.b.size
              have hg84 : ¬ g8 = g4 := by have := lt_of_block hQ.flt; omega
              have hbx2 := hbx
              rw [hg4] at hX4 hbx2 ⊢
              replace hQ := hQ.below hbx
              clear hbx2 hg4 s0
              refine hK.out _ _ (pw_cell_below hbx hHeld) (fun hHeld => ?_)
              clear hK K
              try simp only [Act.put, List.setIfInBounds_toArray, List.set_cons_zero, List.set_cons_succ]
              refine wpAnyH_take (i := 12) (v := (.slice none 0 0)) (oi := ⟨_, _, _, _, _, _⟩) rfl (by kernel_rfl) (by kernel_rfl) (by kernel_rfl) (fun _ _ _ h => h) (Or.inl ⟨by kernel_rfl, fun W hS => ?_⟩) (by assumption) ?_
              · dsimp only at hS; go_split_ands; go_simp
              simp only [Act.put, List.setIfInBounds_toArray, List.set_cons_zero, List.set_cons_succ]
              refine wpAnyH_ready (rs := [13]) (by kernel_rfl) (by decide) (AllReadyH.cons (o := ⟨_, _, _, _, _, _⟩) rfl (fun K hK => ?_) AllReadyH.nil)
              have s4 := put_fault 80 cm hX4
              have hX5 := set_fault 80 cm hX4
              have hc5 := (Fr.only_row wm4 g4 (fv 80 cm)).cell hHeld (hcell.out g4 hg4l)
              rw [if_pos (by kernel_rfl)]
              go_simp
              refine hK.out _ _ (hc5) (fun hHeld => ?_)
              clear hK K
              try simp only [Act.put, List.setIfInBounds_toArray, List.set_cons_zero, List.set_cons_succ]
              refine wpAnyH_done (by kernel_rfl) ?_ _
              have hor := Fr.only_row wm4 g4 (fv 80 cm)
              have hQ5 : PK w d v3 want3 t g8 t.why t.wat (wm4.setRow g4 (fv 80 cm)) := ⟨Below.only hQ.b hor hQ.b.size (fun k e => by rw [e]; exact hg4l), hQ.dc.only hor (fun k hk e => dfp_fault hQ.dc.toDb hX4 (e ▸ hk)), fault_only hQ.flt hor hg84⟩
              clear hor hX4 s4 hQ
              generalize wm4.setRow g4 (fv 80 cm) = w8 at *
              have eL := load_bytes_cell hHeld
              go_wp2_with fail
              refine (dsome_bad (x := 80) (y := cm) (by decide) (fun W h => hCL.out (hQ5.below h)) (i : Int) Ai ni ci).mono ?_
              rintro e w9 ⟨rfl, hb9⟩
              obtain ⟨wb, wc, s0, s1, hX6, hb10⟩ := fault_put w9 80 cm
              have hb910 := below_step hb9 hb10
              have hQ6 := hQ5.below hb910
              have hX7 := fault_keep hX5 hb910
              have HX6 := Lib.hid hX6
              clear hQ5 hX5 hb9 hb10 hb910 hX6 eL
              go_upto_region 13 with (fail)
              clear s0 s1
              obtain ⟨g16, hg16⟩ : ∃ g, w9.heap.size = g := ⟨_, rfl⟩
              have hX8 := HX6.out
              rw [hg16] at hX8 ⊢
              clear hg16 HX6
              have e13 := get_fault hX7
              have e16 := get_fault hX8
              have hbf := build_fault
              have r1 := neq_faults 80 cm 80 cm true (by simp)
              have k0 : IntKind.i64.wrap 0 = 0 := by decide
              go_wp2_with fail
              go_roundg (gk - 1)
              case measure => exact HGA.out.1
              case rel => exact ⟨i + 1, by simp, hQ6, HGA.out.2⟩
            · skip
              rw [if_pos (by kernel_rfl)]
              go_simp
              obtain ⟨wm3, s0, hX4, hbx⟩ := fault_new wm2
              rw [s0]
              obtain ⟨g4, hg4⟩ : ∃ g4, wm2.heap.size = g4 := ⟨_, rfl⟩
              have hg4l : w.heap.size ≤ g4 := by rw [← hg4]; exact hQ.b.size
              have hg84 : ¬ g8 = g4 := by have := lt_of_block hQ.flt; omega
              have hbx2 := hbx
              rw [hg4] at hX4 hbx2 ⊢
              replace hQ := hQ.below hbx
              clear hbx2 hg4 s0
              refine hK.out _ _ (pw_cell_below hbx hHeld) (fun hHeld => ?_)
              clear hK K
              try simp only [Act.put, List.setIfInBounds_toArray, List.set_cons_zero, List.set_cons_succ]
              refine wpAnyH_ready (rs := [7]) (by kernel_rfl) (by decide) (AllReadyH.cons (o := ⟨_, _, _, _, _, _⟩) rfl (fun K hK => ?_) AllReadyH.nil)
              rw [if_pos (by kernel_rfl)]
              go_simp
              refine (dfeed_bad (x := 80) (y := cm) (by decide) (fun W h => hCL.out (hQ.below h)) _ 2 2).mono ?_
              rintro e wm4 ⟨rfl, hbx⟩
              replace hQ := hQ.below hbx
              replace hX4 := fault_keep hX4 hbx
              rw [show Value.agg (fv 80 cm) = .agg #[.int .i64 80, .int .i64 cm] from rfl]
              go_wp2_with fail
              refine hK.out _ _ (pw_cell_below hbx hHeld) (fun hHeld => ?_)
              clear hK K
              try simp only [Act.put, List.setIfInBounds_toArray, List.set_cons_zero, List.set_cons_succ]
              refine wpAnyH_take (i := 8) (v := (.tuple #[.slice none 0 0, (.agg #[.int .i64 80, .int .i64 cm])])) (oi := ⟨_, _, _, _, _, _⟩) rfl (by kernel_rfl) (by kernel_rfl) (by kernel_rfl) (fun _ _ _ h => h) (Or.inl ⟨by kernel_rfl, fun W hS => ?_⟩) (by assumption) ?_
              · dsimp only at hS; go_split_ands; go_simp
              simp only [Act.put, List.setIfInBounds_toArray, List.set_cons_zero, List.set_cons_succ]
              refine wpAnyH_take (i := 9) (v := (.slice none 0 0)) (oi := ⟨_, _, _, _, _, _⟩) rfl (by kernel_rfl) (by kernel_rfl) (by kernel_rfl) (fun _ _ _ h => h) (Or.inl ⟨by kernel_rfl, fun W hS => ?_⟩) (by assumption) ?_
              · dsimp only at hS; go_split_ands; go_simp
              simp only [Act.put, List.setIfInBounds_toArray, List.set_cons_zero, List.set_cons_succ]
              refine wpAnyH_take (i := 10) (v := (.agg #[.int .i64 80, .int .i64 cm])) (oi := ⟨_, _, _, _, _, _⟩) rfl (by kernel_rfl) (by kernel_rfl) (by kernel_rfl) (fun _ _ _ h => h) (Or.inl ⟨by kernel_rfl, fun W hS => ?_⟩) (by assumption) ?_
              · dsimp only at hS; go_split_ands; go_simp
              simp only [Act.put, List.setIfInBounds_toArray, List.set_cons_zero, List.set_cons_succ]
              refine wpAnyH_take (i := 12) (v := (.slice none 0 0)) (oi := ⟨_, _, _, _, _, _⟩) rfl (by kernel_rfl) (by kernel_rfl) (by kernel_rfl) (fun _ _ _ h => h) (Or.inl ⟨by kernel_rfl, fun W hS => ?_⟩) (by assumption) ?_
              · dsimp only at hS; go_split_ands; go_simp
              simp only [Act.put, List.setIfInBounds_toArray, List.set_cons_zero, List.set_cons_succ]
              refine wpAnyH_ready (rs := [13]) (by kernel_rfl) (by decide) (AllReadyH.cons (o := ⟨_, _, _, _, _, _⟩) rfl (fun K hK => ?_) AllReadyH.nil)
              have s4 := put_fault 80 cm hX4
              have hX5 := set_fault 80 cm hX4
              have hc5 := (Fr.only_row wm4 g4 (fv 80 cm)).cell hHeld (hcell.out g4 hg4l)
              rw [if_pos (by kernel_rfl)]
              go_simp
              refine hK.out _ _ (hc5) (fun hHeld => ?_)
              clear hK K
              try simp only [Act.put, List.setIfInBounds_toArray, List.set_cons_zero, List.set_cons_succ]
              refine wpAnyH_done (by kernel_rfl) ?_ _
              have hor := Fr.only_row wm4 g4 (fv 80 cm)
              have hQ5 : PK w d v3 want3 t g8 t.why t.wat (wm4.setRow g4 (fv 80 cm)) := ⟨Below.only hQ.b hor hQ.b.size (fun k e => by rw [e]; exact hg4l), hQ.dc.only hor (fun k hk e => dfp_fault hQ.dc.toDb hX4 (e ▸ hk)), fault_only hQ.flt hor hg84⟩
              clear hor hX4 s4 hQ
              generalize wm4.setRow g4 (fv 80 cm) = w8 at *
              have eL := load_bytes_cell hHeld
              go_wp2_with fail
              refine (dsome_bad (x := 80) (y := cm) (by decide) (fun W h => hCL.out (hQ5.below h)) (i : Int) Ai ni ci).mono ?_
              rintro e w9 ⟨rfl, hb9⟩
              obtain ⟨wb, wc, s0, s1, hX6, hb10⟩ := fault_put w9 80 cm
              have hb910 := below_step hb9 hb10
              have hQ6 := hQ5.below hb910
              have hX7 := fault_keep hX5 hb910
              have HX6 := Lib.hid hX6
              clear hQ5 hX5 hb9 hb10 hb910 hX6 eL
              go_upto_region 13 with (fail)
              clear s0 s1
              obtain ⟨g16, hg16⟩ : ∃ g, w9.heap.size = g := ⟨_, rfl⟩
              have hX8 := HX6.out
              rw [hg16] at hX8 ⊢
              clear hg16 HX6
              have e13 := get_fault hX7
              have e16 := get_fault hX8
              have hbf := build_fault
              have r1 := neq_faults 80 cm 80 cm true (by simp)
              have k0 : IntKind.i64.wrap 0 = 0 := by decide
              go_wp2_with fail
              go_roundg (gk - 1)
              case measure => exact HGA.out.1
              case rel => exact ⟨i + 1, by simp, hQ6, HGA.out.2⟩
          · skip
            rw [if_pos (by kernel_rfl)]
            go_simp
            obtain ⟨wm2, s0, hX4, hbx⟩ := fault_new wm1
            rw [s0]
            obtain ⟨g4, hg4⟩ : ∃ g4, wm1.heap.size = g4 := ⟨_, rfl⟩
            have hg4l : w.heap.size ≤ g4 := by rw [← hg4]; exact hQ.b.size
            have hg84 : ¬ g8 = g4 := by have := lt_of_block hQ.flt; omega
            have hbx2 := hbx
            rw [hg4] at hX4 hbx2 ⊢
            replace hQ := hQ.below hbx
            clear hbx2 hg4 s0
            refine hK.out _ _ (pw_cell_below hbx hHeld) (fun hHeld => ?_)
            clear hK K
            try simp only [Act.put, List.setIfInBounds_toArray, List.set_cons_zero, List.set_cons_succ]
            refine wpAnyH_ready (rs := [6]) (by kernel_rfl) (by decide) (AllReadyH.cons (o := ⟨_, _, _, _, _, _⟩) rfl (fun K hK => ?_) AllReadyH.nil)
            rw [if_pos (by kernel_rfl)]
            go_simp
            have hbx := below_alloc (Below.refl _ wm2) (.cells #[.slice Ai ni ci, .slice A5 n5 c5] 23)
            obtain ⟨gl, hgl⟩ : ∃ gl, wm2.heap.size = gl := ⟨_, rfl⟩
            have hbx2 := hbx
            rw [hgl] at hbx2 ⊢
            replace hQ := hQ.below hbx
            replace hX4 := fault_keep hX4 hbx
            generalize wm2.alloc (.cells #[.slice Ai ni ci, .slice A5 n5 c5] 23) = wm3 at *
            clear hbx2 hgl
            refine hK.out _ _ (pw_cell_below hbx hHeld) (fun hHeld => ?_)
            clear hK K
            try simp only [Act.put, List.setIfInBounds_toArray, List.set_cons_zero, List.set_cons_succ]
            refine wpAnyH_ready (rs := [7]) (by kernel_rfl) (by decide) (AllReadyH.cons (o := ⟨_, _, _, _, _, _⟩) rfl (fun K hK => ?_) AllReadyH.nil)
            rw [if_pos (by kernel_rfl)]
            go_simp
            refine (dfeed_bad (x := 80) (y := cm) (by decide) (fun W h => hCL.out (hQ.below h)) _ 2 2).mono ?_
            rintro e wm4 ⟨rfl, hbx⟩
            replace hQ := hQ.below hbx
            replace hX4 := fault_keep hX4 hbx
            rw [show Value.agg (fv 80 cm) = .agg #[.int .i64 80, .int .i64 cm] from rfl]
            go_wp2_with fail
            refine hK.out _ _ (pw_cell_below hbx hHeld) (fun hHeld => ?_)
            clear hK K
            try simp only [Act.put, List.setIfInBounds_toArray, List.set_cons_zero, List.set_cons_succ]
            refine wpAnyH_take (i := 8) (v := (.tuple #[.slice none 0 0, (.agg #[.int .i64 80, .int .i64 cm])])) (oi := ⟨_, _, _, _, _, _⟩) rfl (by kernel_rfl) (by kernel_rfl) (by kernel_rfl) (fun _ _ _ h => h) (Or.inl ⟨by kernel_rfl, fun W hS => ?_⟩) (by assumption) ?_
            · dsimp only at hS; go_split_ands; go_simp
            simp only [Act.put, List.setIfInBounds_toArray, List.set_cons_zero, List.set_cons_succ]
            refine wpAnyH_take (i := 9) (v := (.slice none 0 0)) (oi := ⟨_, _, _, _, _, _⟩) rfl (by kernel_rfl) (by kernel_rfl) (by kernel_rfl) (fun _ _ _ h => h) (Or.inl ⟨by kernel_rfl, fun W hS => ?_⟩) (by assumption) ?_
            · dsimp only at hS; go_split_ands; go_simp
            simp only [Act.put, List.setIfInBounds_toArray, List.set_cons_zero, List.set_cons_succ]
            refine wpAnyH_take (i := 10) (v := (.agg #[.int .i64 80, .int .i64 cm])) (oi := ⟨_, _, _, _, _, _⟩) rfl (by kernel_rfl) (by kernel_rfl) (by kernel_rfl) (fun _ _ _ h => h) (Or.inl ⟨by kernel_rfl, fun W hS => ?_⟩) (by assumption) ?_
            · dsimp only at hS; go_split_ands; go_simp
            simp only [Act.put, List.setIfInBounds_toArray, List.set_cons_zero, List.set_cons_succ]
            refine wpAnyH_take (i := 12) (v := (.slice none 0 0)) (oi := ⟨_, _, _, _, _, _⟩) rfl (by kernel_rfl) (by kernel_rfl) (by kernel_rfl) (fun _ _ _ h => h) (Or.inl ⟨by kernel_rfl, fun W hS => ?_⟩) (by assumption) ?_
            · dsimp only at hS; go_split_ands; go_simp
            simp only [Act.put, List.setIfInBounds_toArray, List.set_cons_zero, List.set_cons_succ]
            refine wpAnyH_ready (rs := [13]) (by kernel_rfl) (by decide) (AllReadyH.cons (o := ⟨_, _, _, _, _, _⟩) rfl (fun K hK => ?_) AllReadyH.nil)
            have s4 := put_fault 80 cm hX4
            have hX5 := set_fault 80 cm hX4
            have hc5 := (Fr.only_row wm4 g4 (fv 80 cm)).cell hHeld (hcell.out g4 hg4l)
            rw [if_pos (by kernel_rfl)]
            go_simp
            refine hK.out _ _ (hc5) (fun hHeld => ?_)
            clear hK K
            try simp only [Act.put, List.setIfInBounds_toArray, List.set_cons_zero, List.set_cons_succ]
            refine wpAnyH_done (by kernel_rfl) ?_ _
            have hor := Fr.only_row wm4 g4 (fv 80 cm)
            have hQ5 : PK w d v3 want3 t g8 t.why t.wat (wm4.setRow g4 (fv 80 cm)) := ⟨Below.only hQ.b hor hQ.b.size (fun k e => by rw [e]; exact hg4l), hQ.dc.only hor (fun k hk e => dfp_fault hQ.dc.toDb hX4 (e ▸ hk)), fault_only hQ.flt hor hg84⟩
            clear hor hX4 s4 hQ
            generalize wm4.setRow g4 (fv 80 cm) = w8 at *
            have eL := load_bytes_cell hHeld
            go_wp2_with fail
            refine (dsome_bad (x := 80) (y := cm) (by decide) (fun W h => hCL.out (hQ5.below h)) (i : Int) Ai ni ci).mono ?_
            rintro e w9 ⟨rfl, hb9⟩
            obtain ⟨wb, wc, s0, s1, hX6, hb10⟩ := fault_put w9 80 cm
            have hb910 := below_step hb9 hb10
            have hQ6 := hQ5.below hb910
            have hX7 := fault_keep hX5 hb910
            have HX6 := Lib.hid hX6
            clear hQ5 hX5 hb9 hb10 hb910 hX6 eL
            go_upto_region 13 with (fail)
            clear s0 s1
            obtain ⟨g16, hg16⟩ : ∃ g, w9.heap.size = g := ⟨_, rfl⟩
            have hX8 := HX6.out
            rw [hg16] at hX8 ⊢
            clear hg16 HX6
            have e13 := get_fault hX7
            have e16 := get_fault hX8
            have hbf := build_fault
            have r1 := neq_faults 80 cm 80 cm true (by simp)
            have k0 : IntKind.i64.wrap 0 = 0 := by decide
            go_wp2_with fail
            go_roundg (gk - 1)
            case measure => exact HGA.out.1
            case rel => exact ⟨i + 1, by simp, hQ6, HGA.out.2⟩
        · skip
          rw [if_pos (by kernel_rfl)]
          go_simp
          obtain ⟨wm1, s0, hX4, hbx⟩ := fault_new wm0
          rw [s0]
          obtain ⟨g4, hg4⟩ : ∃ g4, wm0.heap.size = g4 := ⟨_, rfl⟩
          have hg4l : w.heap.size ≤ g4 := by rw [← hg4]; exact hQ.b.size
          have hg84 : ¬ g8 = g4 := by have := lt_of_block hQ.flt; omega
          have hbx2 := hbx
          rw [hg4] at hX4 hbx2 ⊢
          replace hQ := hQ.below hbx
          clear hbx2 hg4 s0
          refine hK.out _ _ (pw_cell_below hbx hHeld) (fun hHeld => ?_)
          clear hK K
          try simp only [Act.put, List.setIfInBounds_toArray, List.set_cons_zero, List.set_cons_succ]
          refine wpAnyH_ready (rs := [5]) (by kernel_rfl) (by decide) (AllReadyH.cons (o := ⟨_, _, _, _, _, _⟩) rfl (fun K hK => ?_) AllReadyH.nil)
          rw [if_pos (by kernel_rfl)]
          go_simp
          refine (lbye_any wm1).mono ?_
          rintro e wm2 ⟨v5, rfl, hOb, hbx⟩
          obtain ⟨A5, c5, rfl, _, _⟩ := hOb.reads'
          generalize (encF byeF).length = n5
          replace hQ := hQ.below hbx
          replace hX4 := fault_keep hX4 hbx
          clear hOb
          go_wp2_with fail
          refine hK.out _ _ (pw_cell_below hbx hHeld) (fun hHeld => ?_)
          clear hK K
          try simp only [Act.put, List.setIfInBounds_toArray, List.set_cons_zero, List.set_cons_succ]
          refine wpAnyH_ready (rs := [6]) (by kernel_rfl) (by decide) (AllReadyH.cons (o := ⟨_, _, _, _, _, _⟩) rfl (fun K hK => ?_) AllReadyH.nil)
          rw [if_pos (by kernel_rfl)]
          go_simp
          have hbx := below_alloc (Below.refl _ wm2) (.cells #[.slice Ai ni ci, .slice A5 n5 c5] 23)
          obtain ⟨gl, hgl⟩ : ∃ gl, wm2.heap.size = gl := ⟨_, rfl⟩
          have hbx2 := hbx
          rw [hgl] at hbx2 ⊢
          replace hQ := hQ.below hbx
          replace hX4 := fault_keep hX4 hbx
          generalize wm2.alloc (.cells #[.slice Ai ni ci, .slice A5 n5 c5] 23) = wm3 at *
          clear hbx2 hgl
          refine hK.out _ _ (pw_cell_below hbx hHeld) (fun hHeld => ?_)
          clear hK K
          try simp only [Act.put, List.setIfInBounds_toArray, List.set_cons_zero, List.set_cons_succ]
          refine wpAnyH_ready (rs := [7]) (by kernel_rfl) (by decide) (AllReadyH.cons (o := ⟨_, _, _, _, _, _⟩) rfl (fun K hK => ?_) AllReadyH.nil)
          rw [if_pos (by kernel_rfl)]
          go_simp
          refine (dfeed_bad (x := 80) (y := cm) (by decide) (fun W h => hCL.out (hQ.below h)) _ 2 2).mono ?_
          rintro e wm4 ⟨rfl, hbx⟩
          replace hQ := hQ.below hbx
          replace hX4 := fault_keep hX4 hbx
          rw [show Value.agg (fv 80 cm) = .agg #[.int .i64 80, .int .i64 cm] from rfl]
          go_wp2_with fail
          refine hK.out _ _ (pw_cell_below hbx hHeld) (fun hHeld => ?_)
          clear hK K
          try simp only [Act.put, List.setIfInBounds_toArray, List.set_cons_zero, List.set_cons_succ]
          refine wpAnyH_take (i := 8) (v := (.tuple #[.slice none 0 0, (.agg #[.int .i64 80, .int .i64 cm])])) (oi := ⟨_, _, _, _, _, _⟩) rfl (by kernel_rfl) (by kernel_rfl) (by kernel_rfl) (fun _ _ _ h => h) (Or.inl ⟨by kernel_rfl, fun W hS => ?_⟩) (by assumption) ?_
          · dsimp only at hS; go_split_ands; go_simp
          simp only [Act.put, List.setIfInBounds_toArray, List.set_cons_zero, List.set_cons_succ]
          refine wpAnyH_take (i := 9) (v := (.slice none 0 0)) (oi := ⟨_, _, _, _, _, _⟩) rfl (by kernel_rfl) (by kernel_rfl) (by kernel_rfl) (fun _ _ _ h => h) (Or.inl ⟨by kernel_rfl, fun W hS => ?_⟩) (by assumption) ?_
          · dsimp only at hS; go_split_ands; go_simp
          simp only [Act.put, List.setIfInBounds_toArray, List.set_cons_zero, List.set_cons_succ]
          refine wpAnyH_take (i := 10) (v := (.agg #[.int .i64 80, .int .i64 cm])) (oi := ⟨_, _, _, _, _, _⟩) rfl (by kernel_rfl) (by kernel_rfl) (by kernel_rfl) (fun _ _ _ h => h) (Or.inl ⟨by kernel_rfl, fun W hS => ?_⟩) (by assumption) ?_
          · dsimp only at hS; go_split_ands; go_simp
          simp only [Act.put, List.setIfInBounds_toArray, List.set_cons_zero, List.set_cons_succ]
          refine wpAnyH_take (i := 12) (v := (.slice none 0 0)) (oi := ⟨_, _, _, _, _, _⟩) rfl (by kernel_rfl) (by kernel_rfl) (by kernel_rfl) (fun _ _ _ h => h) (Or.inl ⟨by kernel_rfl, fun W hS => ?_⟩) (by assumption) ?_
          · dsimp only at hS; go_split_ands; go_simp
          simp only [Act.put, List.setIfInBounds_toArray, List.set_cons_zero, List.set_cons_succ]
          refine wpAnyH_ready (rs := [13]) (by kernel_rfl) (by decide) (AllReadyH.cons (o := ⟨_, _, _, _, _, _⟩) rfl (fun K hK => ?_) AllReadyH.nil)
          have s4 := put_fault 80 cm hX4
          have hX5 := set_fault 80 cm hX4
          have hc5 := (Fr.only_row wm4 g4 (fv 80 cm)).cell hHeld (hcell.out g4 hg4l)
          rw [if_pos (by kernel_rfl)]
          go_simp
          refine hK.out _ _ (hc5) (fun hHeld => ?_)
          clear hK K
          try simp only [Act.put, List.setIfInBounds_toArray, List.set_cons_zero, List.set_cons_succ]
          refine wpAnyH_done (by kernel_rfl) ?_ _
          have hor := Fr.only_row wm4 g4 (fv 80 cm)
          have hQ5 : PK w d v3 want3 t g8 t.why t.wat (wm4.setRow g4 (fv 80 cm)) := ⟨Below.only hQ.b hor hQ.b.size (fun k e => by rw [e]; exact hg4l), hQ.dc.only hor (fun k hk e => dfp_fault hQ.dc.toDb hX4 (e ▸ hk)), fault_only hQ.flt hor hg84⟩
          clear hor hX4 s4 hQ
          generalize wm4.setRow g4 (fv 80 cm) = w8 at *
          have eL := load_bytes_cell hHeld
          go_wp2_with fail
          refine (dsome_bad (x := 80) (y := cm) (by decide) (fun W h => hCL.out (hQ5.below h)) (i : Int) Ai ni ci).mono ?_
          rintro e w9 ⟨rfl, hb9⟩
          obtain ⟨wb, wc, s0, s1, hX6, hb10⟩ := fault_put w9 80 cm
          have hb910 := below_step hb9 hb10
          have hQ6 := hQ5.below hb910
          have hX7 := fault_keep hX5 hb910
          have HX6 := Lib.hid hX6
          clear hQ5 hX5 hb9 hb10 hb910 hX6 eL
          go_upto_region 13 with (fail)
          clear s0 s1
          obtain ⟨g16, hg16⟩ : ∃ g, w9.heap.size = g := ⟨_, rfl⟩
          have hX8 := HX6.out
          rw [hg16] at hX8 ⊢
          clear hg16 HX6
          have e13 := get_fault hX7
          have e16 := get_fault hX8
          have hbf := build_fault
          have r1 := neq_faults 80 cm 80 cm true (by simp)
          have k0 : IntKind.i64.wrap 0 = 0 := by decide
          go_wp2_with fail
          go_roundg (gk - 1)
          case measure => exact HGA.out.1
          case rel => exact ⟨i + 1, by simp, hQ6, HGA.out.2⟩
      · have hi2 : ¬ (i : Int) < (nm : Int) := by omega
        clear hi
        go_wp2_with fail
        refine (dCount_any hK.dc).mono ?_
        rintro e w6 ⟨rfl, hb6⟩
        replace hK := hK.below hb6
        have c1 := cPoisonD hK.dc
        rw [HCM.out.1, HCM.out.2]
        have l11 : ∀ W : World, W.heap[g8]? = some (.cells (fv t.why t.wat) 30 (0, 0)) → (Instr.loadAt 30 (.pointer (some ⟨g8, 0, none⟩))).run Try.prog W = .ok (.agg #[.int .i64 t.why, .int .i64 t.wat]) W := fun W h => get_fault h
        have q3 := eql_fault t.why t.wat t.why t.wat true (by simp)
        have b1 : (cm == cm) = true := by simp
        have b2 : (wh == wh) = true := by simp
        clear hb6 c1
        go_upto_region 16 with (fail)
        go_region_held3 (fun W => Below w.heap.size w W ∧ PK w d v3 want3 t g8 t.why t.wat W ∧ W.heap[g8]? = some (.cells (fv t.why t.wat) 30 (0, 0)))
          (first
            | assumption
            | exact ⟨(hK.below (below_drew (Below.refl _ _))).b, hK.below (below_drew (Below.refl _ _)), (hK.below (below_drew (Below.refl _ _))).flt⟩
            | (go_split_ands; exact ⟨by assumption, by assumption, by assumption⟩)
            | (go_split_ands; have hKn := PK.below ‹PK w d v3 want3 t g8 t.why t.wat _› (by assumption); exact ⟨hKn.b, hKn, hKn.flt⟩))
          (first
            | (go_at_call 11; go_split_ands; with_reducible refine (cPoisonD (PK.dc (by assumption))).mono ?_; rintro e wy ⟨rfl, hby⟩)
            | (go_at_call 18; go_split_ands; with_reducible refine (cEndD HW.out (PK.dc (by assumption))).mono ?_; rintro e wy ⟨rfl, hby⟩)
            | (go_at_call 15; go_split_ands; with_reducible refine (cWantD HW.out (PK.dc (by assumption))).mono ?_; rintro e wy ⟨rfl, hby⟩)
            | (go_at_call 12; go_split_ands; with_reducible refine (lawake_any _).mono ?_; rintro e wy ⟨rfl, hby⟩))
        all_goals
          go_split_ands
          go_wp2_with fail
          go_ret
          exact ⟨rfl, by assumption⟩
end Go.Proofs.Ytpjpgcjhdbiepaa
end
