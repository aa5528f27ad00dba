/- Contracts of functions that the laws reach (texts laid together, part 7): each says of its call what it answers and what it leaves of memory; the conditions stand in each statement. -/
import Derived.Test.YtelfephmjkipoaaMb1
import Derived.Deep.Matrix
import Derived.Test.YtelfephmjkipoaaProg
import Derived.Deep.Strs
import Derived.Test.YtelfephmjkipoaaMb3
import Derived.Test.YtelfephmjkipoaaMb6
import Derived.Deep.QuietTactic
import Derived.BigQuiet
import Derived.Test.YtelfephmjkipoaaWMore
import Derived.StillTailTactics
set_option linter.unusedVariables false
/-! Arguments opened: structs, weights. No program in it. -/
section
namespace Go.Kit
open Go.ChangeShapes Go.WideShapes Go.RowKit Go.Deep Go.Proofs.YtelfephmjkipoaaW.PrintWords
section
variable {H : Type} {enc : TypeId × Value → H} {P : Program} {W : World} {base : Nat} {r : Reach}
/-- Bytes of an array. -/
theorem read_bytes {t e : TypeId} {m n : Nat} {cs : List Value} {y : DataW H × List MemPlace} (ht : P.underlying t = some (.array m e)) (he : P.underlying e = some (.int .u8)) (hc : P.cellsOf e = 1) (hm : P.cellsOf t = m)
    (h : DataW.trod enc P W 0 (fun _ => true) true n t cs = some y) : ∃ l : List Int, cs = nums .u8 l ∧ l.length = m ∧ Byt l := by
  obtain ⟨xs, k, _, _, hl, hx, hf⟩ := DataW.trod_array ht h
  rw [hm] at hl
  have each : ∀ i, i < m → ∃ z, cs[i]? = some (.int .u8 z) ∧ 0 ≤ z ∧ z < 256 := by
    intro i hi
    have hq := hf i hi
    rw [hc, Nat.mul_one, List.getElem?_eq_getElem (by omega)] at hq
    obtain ⟨z, hz, _, hwf⟩ := DataW.trod_int he hq
    refine ⟨z, ?_, ?_⟩
    · have := congrArg (fun l : List Value => l[0]?) hz
      simpa using this
    · have := bounds_u8 hwf; omega
  refine ⟨(List.range m).map fun i => match cs[i]? with | some (Value.int _ z) => z | _ => 0, ?_, by simp, ?_⟩
  · apply List.ext_getElem?
    intro i
    rcases Nat.lt_or_ge i m with hi | hi
    · obtain ⟨z, hz, _⟩ := each i hi
      simp [nums, hi, hz]
    · rw [List.getElem?_eq_none (by omega), List.getElem?_eq_none (by simp [nums]; omega)]
  · intro z hz
    simp only [List.mem_map, List.mem_range] at hz
    obtain ⟨i, hi, rfl⟩ := hz
    obtain ⟨z, hz, h0, h1⟩ := each i hi
    simp only [hz]; exact ⟨h0, h1⟩
/-- Every block inside is no greater than the reach. -/
def Wt (P : Program) (t : TypeId) (d : DataW H) : Prop := ∀ n ∈ d.weights P t, n ≤ 140737488351232
theorem wt_sized {ts : List TypeId} {ds : List (DataW H)} {j : Nat} {t : TypeId} {d : DataW H} (h : (DataW.weightsEach P ts ds).all (· ≤ reachBytes) = true) (ht : ts[j]? = some t) (hd : ds[j]? = some d) : Wt P t d := fun n hn => by
  have := List.all_eq_true.1 h n (DataW.weights_mem_each ht hd n hn)
  have := of_decide_eq_true this
  unfold reachBytes at this; omega
theorem Wt.field {t ty : TypeId} {fs : Array Field} {parts : List (DataW H)} {d : DataW H} (h : Wt P t (.agg parts)) (hs : P.underlying t = some (.struct fs)) {i : Nat} (hf : fs[i]?.map (·.type) = some ty) (hp : parts[i]? = some d) : Wt P ty d := fun n hn => by
  refine h n ?_
  rw [DataW.weights, hs]
  refine DataW.weights_mem_each (j := i) ?_ hp n hn
  rw [List.getElem?_map, Array.getElem?_toList]; exact hf
theorem mem_weightsAll {e : TypeId} {d : DataW H} : ∀ {l : List (DataW H)}, d ∈ l → ∀ n ∈ d.weights P e, n ∈ DataW.weightsAll P e l
  | x :: l, hd, n, hn => by
    rw [DataW.weightsAll, List.mem_append]
    rcases List.mem_cons.1 hd with rfl | hd
    · exact .inl hn
    · exact .inr (mem_weightsAll hd n hn)
theorem Wt.slice {t e : TypeId} {el sp : List (DataW H)} (h : Wt P t (.slice el sp)) (hs : P.underlying t = some (.slice e)) : (el.length + sp.length) * P.bytesOf e ≤ 140737488351232 ∧ ∀ d ∈ el, Wt P e d := by
  have h2 : ∀ n ∈ (el.length + sp.length) * P.bytesOf e :: (DataW.weightsAll P e el ++ DataW.weightsAll P e sp), n ≤ 140737488351232 := fun n hn => h n (by rw [DataW.weights, hs]; exact hn)
  exact ⟨h2 _ (by simp), fun d hd n hn => h2 n (by rw [List.mem_cons, List.mem_append]; exact .inr (.inl (mem_weightsAll hd n hn)))⟩
theorem Wt.string {t : TypeId} {b : List UInt8} (h : Wt P t (.lit (.string b) : DataW H)) : b.length ≤ 140737488351232 := h _ (by rw [DataW.weights]; simp)
/-- A struct's cells: every field's reading. -/
theorem read_fields {t : TypeId} {fs : Array Field} {n : Nat} {cs : List Value} {y : DataW H × List MemPlace} (hs : P.underlying t = some (.struct fs))
    (h : DataW.trod enc P W 0 (fun _ => true) true n t cs = some y) :
    cs.length = P.cellsOf t ∧ ∃ parts, y.1 = .agg parts ∧ ∀ (i : Nat) (ty : TypeId) (o : Nat), (fs[i]?.map fun f => (f.type, f.offset)) = some (ty, o) → ∃ n y, DataW.trod enc P W 0 (fun _ => true) true n ty ((cs.drop o).take (P.cellsOf ty)) = some y ∧ parts[i]? = some y.1 ∧ fs[i]?.map (·.type) = some ty := by
  obtain ⟨xs, n, _, rfl, hl, hlen, hfs⟩ := DataW.trod_struct hs h
  refine ⟨hl, _, rfl, fun i ty o hi => ?_⟩
  obtain ⟨f, hi2, he⟩ := Option.map_eq_some_iff.1 hi
  simp only [Prod.mk.injEq] at he
  obtain ⟨rfl, rfl⟩ := he
  have hlt : i < fs.size := by
    rcases Nat.lt_or_ge i fs.size with h | h
    · exact h
    · rw [Array.getElem?_eq_none h] at hi2; cases hi2
  refine ⟨n, xs[i]'(by omega), ?_, ?_, by rw [hi2]; rfl⟩
  · have := hfs i f hi2
    rwa [List.getElem?_eq_getElem (by omega)] at this
  · rw [List.getElem?_map, List.getElem?_eq_getElem (by omega)]; rfl
/-- A struct by value. -/
theorem open_fields {t : TypeId} {fs : Array Field} {v : Value} {d : DataW H} {ps : List MemPlace} (hs : P.underlying t = some (.struct fs))
    (hv : Value.okWide P W r base t v) (h : DataW.Trod enc P W 0 (fun _ => true) true t v d ps) :
    ∃ (cs : List Value) (parts : List (DataW H)), v = .agg cs.toArray ∧ cs.length = P.cellsOf t ∧ d = .agg parts ∧ ∀ (i : Nat) (ty : TypeId) (o : Nat), (fs[i]?.map fun f => (f.type, f.offset)) = some (ty, o) → ∃ n y, DataW.trod enc P W 0 (fun _ => true) true n ty ((cs.drop o).take (P.cellsOf ty)) = some y ∧ parts[i]? = some y.1 ∧ fs[i]?.map (·.type) = some ty := by
  obtain ⟨cs, rfl, hsz⟩ := okWide_struct hs hv
  obtain ⟨fuel, hq⟩ := h
  obtain ⟨h1, parts, h2, h3⟩ := read_fields hs hq
  exact ⟨cs.toList, parts, by simp, by simp [hsz], h2, h3⟩
end
end Go.Kit
end
/-! An argument that is a frame, opened. -/
section
namespace Go.Kit
open Go.ChangeShapes Go.WideShapes Go.RowKit Go.Deep Go.Proofs.YtelfephmjkipoaaW.PrintWords
section
variable {H : Type} {enc : TypeId × Value → H} {P : Program} {W : World} {base : Nat} {r : Reach}
/-- A row of texts, out of a reading. -/
theorem read_texts {t e : TypeId} {n : Nat} {cs : List Value} {y : DataW H × List MemPlace} (ht : P.underlying t = some (.slice e)) (he : P.underlying e = some .string) (hc : P.cellsOf e = 1)
    (h : DataW.trod enc P W 0 (fun _ => true) true n t cs = some y) : ∃ A len cap xs, cs = [.slice A len cap] ∧ RT W A len xs := by
  rcases Deep.open_strs ht he hc h with h0 | ⟨a, len, cap, m, Sx, rfl, _, hl, hm, hmm, _, hx⟩
  · exact ⟨none, 0, 0, [], h0.1, RT.nil W⟩
  · simp only [if_true] at hmm
    refine ⟨_, len, cap, (List.range len).map Sx, rfl, by simp, by unfold maxLen at hm; omega, fun _ => ⟨a, rfl, fun j hj => ?_⟩⟩
    rw [(hx j (by omega)).1]
    simp [List.getD_eq_getElem?_getD, hj]
/-- A row of texts, out of a reading, with its weights. -/
theorem read_texts_wt {t e : TypeId} {n : Nat} {cs : List Value} {y : DataW H × List MemPlace} (ht : P.underlying t = some (.slice e)) (he : P.underlying e = some .string) (hc : P.cellsOf e = 1) (hB : P.bytesOf e = 16)
    (h : DataW.trod enc P W 0 (fun _ => true) true n t cs = some y) (hw : Wt P t y.1) : ∃ A len cap xs, cs = [.slice A len cap] ∧ RT W A len xs ∧ len * 16 ≤ 140737488351232 ∧ len ≤ cap ∧ ∀ s ∈ xs, s.size ≤ 140737488351232 := by
  rcases Deep.open_strs ht he hc h with h0 | ⟨a, len, cap, m, Sx, rfl, _, hl, hm, hmm, rfl, hx⟩
  · exact ⟨none, 0, 0, [], h0.1, RT.nil W, by omega, by omega, by simp⟩
  · simp only [if_true] at hmm
    obtain ⟨w1, w2⟩ := hw.slice ht
    rw [hB] at w1
    simp only [List.length_map, List.length_range] at w1
    refine ⟨_, len, cap, (List.range len).map Sx, rfl, ⟨by simp, by unfold maxLen at hm; omega, fun _ => ⟨a, rfl, fun j hj => ?_⟩⟩, by omega, hl, fun s hs => ?_⟩
    · rw [(hx j (by omega)).1]
      simp [List.getD_eq_getElem?_getD, hj]
    · obtain ⟨i, hi, rfl⟩ := List.mem_map.1 hs
      have := (w2 _ (List.mem_map.2 ⟨i, hi, rfl⟩)).string
      simpa using this
end
end Go.Kit
namespace Go.Proofs.Ytelfephmjkipoaa
open Go.ChangeShapes Go.WideShapes Go.RowKit Go.Kit Go.Deep Go.Proofs.YtelfephmjkipoaaW.PrintWords
theorem split9 (cs : List Value) (h : cs.length = 42) : cs = (cs.drop 0).take 1 ++ ((cs.drop 1).take 1 ++ ((cs.drop 2).take 1 ++ ((cs.drop 3).take 1 ++ ((cs.drop 4).take 32 ++ ((cs.drop 36).take 1 ++ ((cs.drop 37).take 3 ++ ((cs.drop 40).take 1 ++ (cs.drop 41).take 1))))))) := by
  have step : ∀ (n k : Nat), cs.drop n = (cs.drop n).take k ++ cs.drop (n + k) := fun n k => by rw [← List.drop_drop, List.take_append_drop]
  have last : (cs.drop 41).take 1 = cs.drop 41 := List.take_of_length_le (by rw [List.length_drop]; omega)
  rw [last]
  conv => lhs; rw [← List.drop_zero (l := cs), step 0 1, step 1 1, step 2 1, step 3 1, step 4 32, step 36 1, step 37 3, step 40 1]
set_option maxRecDepth 100000 in
theorem open_frame {H : Type} {enc : TypeId × Value → H} {W : World} {base : Nat} {r : Reach} {v : Value} {d : DataW H} {ps : List MemPlace}
    (hv : Value.okWide Try.prog W r base 29 v) (h : DataW.Trod enc Try.prog W 0 (fun _ => true) true 29 v d ps) : ∃ f : Fr, v = f.val ∧ f.ok W ∧ (Wt Try.prog 29 d → f.small) := by
  obtain ⟨cs, parts, rfl, hl, hd, hf⟩ := open_fields Try.underlying29 hv h
  rw [show Try.prog.cellsOf 29 = 42 from by kernel_rfl] at hl
  have c1 : Try.prog.cellsOf 3 = 1 := by kernel_rfl
  have c2 : Try.prog.cellsOf 22 = 1 := by kernel_rfl
  have c3 : Try.prog.cellsOf 24 = 32 := by kernel_rfl
  have c4 : Try.prog.cellsOf 26 = 3 := by kernel_rfl
  have c5 : Try.prog.cellsOf 27 = 1 := by kernel_rfl
  have c6 : Try.prog.cellsOf 9 = 1 := by kernel_rfl
  obtain ⟨n0, y0, h0, p0, f0⟩ := hf 0 3 0 rfl
  obtain ⟨n1, y1, h1, p1, f1⟩ := hf 1 22 1 rfl
  obtain ⟨n2, y2, h2, p2, f2⟩ := hf 2 3 2 rfl
  obtain ⟨n3, y3, h3, p3, f3⟩ := hf 3 3 3 rfl
  obtain ⟨n4, y4, h4, p4, f4⟩ := hf 4 24 4 rfl
  obtain ⟨n5, y5, h5, p5, f5⟩ := hf 5 3 36 rfl
  obtain ⟨n6, y6, h6, p6, f6⟩ := hf 6 26 37 rfl
  obtain ⟨n7, y7, h7, p7, f7⟩ := hf 7 27 40 rfl
  obtain ⟨n8, y8, h8, p8, f8⟩ := hf 8 9 41 rfl
  rw [c1] at h0 h2 h3 h5
  rw [c2] at h1
  rw [c3] at h4
  rw [c4] at h6
  rw [c5] at h7
  rw [c6] at h8
  obtain ⟨k, e0, _, _⟩ := DataW.trod_int Try.underlying3 h0
  obtain ⟨id, e1, _, _⟩ := DataW.trod_int Try.underlying22 h1
  obtain ⟨v, e2, _, _⟩ := DataW.trod_int Try.underlying3 h2
  obtain ⟨s, e3, _, _⟩ := DataW.trod_int Try.underlying3 h3
  obtain ⟨tool, e4, ht, hby⟩ := read_bytes Try.underlying24 Try.underlying5 (by kernel_rfl) c3 h4
  obtain ⟨st, e5, _, _⟩ := DataW.trod_int Try.underlying3 h5
  obtain ⟨A, n, c, args, e7, hr⟩ := read_texts Try.underlying27 Try.underlying9 c6 h7
  obtain ⟨body, e8, ey8, _⟩ := DataW.trod_string Try.underlying9 h8
  obtain ⟨hl6, _, _, hf6⟩ := read_fields Try.underlying26 h6
  obtain ⟨m0, w0, z0, _, _⟩ := hf6 0 3 0 rfl
  obtain ⟨m1, w1, z1, _, _⟩ := hf6 1 3 1 rfl
  obtain ⟨m2, w2, z2, _, _⟩ := hf6 2 3 2 rfl
  rw [c1] at z0 z1 z2
  obtain ⟨mo, g0, _, _⟩ := DataW.trod_int Try.underlying3 z0
  obtain ⟨fu, g1, _, _⟩ := DataW.trod_int Try.underlying3 z1
  obtain ⟨di, g2, _, _⟩ := DataW.trod_int Try.underlying3 z2
  have e6 : (cs.drop 37).take 3 = [.int .i64 mo, .int .i64 fu, .int .i64 di] := by
    generalize (cs.drop 37).take 3 = l at *
    rw [c4] at hl6
    match l, hl6 with
    | [x, y, z], _ => simp at g0 g1 g2; rw [g0, g1, g2]
  refine ⟨⟨k, id, v, s, tool, st, mo, fu, di, A, n, c, args, body⟩, ?_, ⟨ht, hr⟩, fun hw => ?_⟩
  rotate_left
  · rw [hd] at hw
    obtain ⟨A', n', c', xs', e7', hr', q1, q2, q3⟩ := read_texts_wt Try.underlying27 Try.underlying9 c6 (by kernel_rfl) h7 (hw.field Try.underlying29 f7 p7)
    rw [e7] at e7'
    injection e7' with e7'
    injection e7' with g1 g2 g3
    subst g1 g2 g3
    obtain rfl : args = xs' := RT.one hr hr'
    have q8 := hw.field Try.underlying29 f8 p8
    rw [ey8] at q8
    exact ⟨q1, by simpa using q8.string, q3⟩
  show Value.agg cs.toArray = Value.agg (Fr.cells _).toArray
  rw [split9 cs hl, e0, e1, e2, e3, e4, e5, e6, e7, e8]
  rfl
end Go.Proofs.Ytelfephmjkipoaa
end
/-! An argument that is a frame, opened, with what its numbers are. -/
section
namespace Go.Proofs.Ytelfephmjkipoaa
open Go.ChangeShapes Go.WideShapes Go.RowKit Go.Kit Go.Deep Go.Proofs.YtelfephmjkipoaaW.PrintWords
set_option maxRecDepth 100000 in
theorem open_frame_wf {H : Type} {enc : TypeId × Value → H} {W : World} {base : Nat} {r : Reach} {v : Value} {d : DataW H} {ps : List MemPlace}
    (hv : Value.okWide Try.prog W r base 29 v) (h : DataW.Trod enc Try.prog W 0 (fun _ => true) true 29 v d ps) : ∃ f : Fr, v = f.val ∧ f.ok W ∧ f.wf ∧ (Wt Try.prog 29 d → f.small) := by
  obtain ⟨cs, parts, rfl, hl, hd, hf⟩ := open_fields Try.underlying29 hv h
  rw [show Try.prog.cellsOf 29 = 42 from by kernel_rfl] at hl
  have c1 : Try.prog.cellsOf 3 = 1 := by kernel_rfl
  have c2 : Try.prog.cellsOf 22 = 1 := by kernel_rfl
  have c3 : Try.prog.cellsOf 24 = 32 := by kernel_rfl
  have c4 : Try.prog.cellsOf 26 = 3 := by kernel_rfl
  have c5 : Try.prog.cellsOf 27 = 1 := by kernel_rfl
  have c6 : Try.prog.cellsOf 9 = 1 := by kernel_rfl
  obtain ⟨n0, y0, h0, p0, f0⟩ := hf 0 3 0 rfl
  obtain ⟨n1, y1, h1, p1, f1⟩ := hf 1 22 1 rfl
  obtain ⟨n2, y2, h2, p2, f2⟩ := hf 2 3 2 rfl
  obtain ⟨n3, y3, h3, p3, f3⟩ := hf 3 3 3 rfl
  obtain ⟨n4, y4, h4, p4, f4⟩ := hf 4 24 4 rfl
  obtain ⟨n5, y5, h5, p5, f5⟩ := hf 5 3 36 rfl
  obtain ⟨n6, y6, h6, p6, f6⟩ := hf 6 26 37 rfl
  obtain ⟨n7, y7, h7, p7, f7⟩ := hf 7 27 40 rfl
  obtain ⟨n8, y8, h8, p8, f8⟩ := hf 8 9 41 rfl
  rw [c1] at h0 h2 h3 h5
  rw [c2] at h1
  rw [c3] at h4
  rw [c4] at h6
  rw [c5] at h7
  rw [c6] at h8
  obtain ⟨k, e0, _, we0⟩ := DataW.trod_int Try.underlying3 h0
  obtain ⟨id, e1, _, we1⟩ := DataW.trod_int Try.underlying22 h1
  obtain ⟨v, e2, _, we2⟩ := DataW.trod_int Try.underlying3 h2
  obtain ⟨s, e3, _, we3⟩ := DataW.trod_int Try.underlying3 h3
  obtain ⟨tool, e4, ht, hby⟩ := read_bytes Try.underlying24 Try.underlying5 (by kernel_rfl) c3 h4
  obtain ⟨st, e5, _, we5⟩ := DataW.trod_int Try.underlying3 h5
  obtain ⟨A, n, c, args, e7, hr⟩ := read_texts Try.underlying27 Try.underlying9 c6 h7
  obtain ⟨body, e8, ey8, _⟩ := DataW.trod_string Try.underlying9 h8
  obtain ⟨hl6, _, _, hf6⟩ := read_fields Try.underlying26 h6
  obtain ⟨m0, w0, z0, _, _⟩ := hf6 0 3 0 rfl
  obtain ⟨m1, w1, z1, _, _⟩ := hf6 1 3 1 rfl
  obtain ⟨m2, w2, z2, _, _⟩ := hf6 2 3 2 rfl
  rw [c1] at z0 z1 z2
  obtain ⟨mo, g0, _, wg0⟩ := DataW.trod_int Try.underlying3 z0
  obtain ⟨fu, g1, _, wg1⟩ := DataW.trod_int Try.underlying3 z1
  obtain ⟨di, g2, _, wg2⟩ := DataW.trod_int Try.underlying3 z2
  have e6 : (cs.drop 37).take 3 = [.int .i64 mo, .int .i64 fu, .int .i64 di] := by
    generalize (cs.drop 37).take 3 = l at *
    rw [c4] at hl6
    match l, hl6 with
    | [x, y, z], _ => simp at g0 g1 g2; rw [g0, g1, g2]
  refine ⟨⟨k, id, v, s, tool, st, mo, fu, di, A, n, c, args, body⟩, ?_, ⟨ht, hr⟩, ?_, fun hw => ?_⟩
  rotate_left
  · have a0 := bounds_i64 we0
    have a1 := bounds_u64 we1
    have a2 := bounds_i64 we2
    have a3 := bounds_i64 we3
    have a5 := bounds_i64 we5
    have b0 := bounds_i64 wg0
    have b1 := bounds_i64 wg1
    have b2 := bounds_i64 wg2
    exact ⟨a1.1, a1.2, a0, a2, a3, a5, b0, b1, b2, hby⟩
  · rw [hd] at hw
    obtain ⟨A', n', c', xs', e7', hr', q1, q2, q3⟩ := read_texts_wt Try.underlying27 Try.underlying9 c6 (by kernel_rfl) h7 (hw.field Try.underlying29 f7 p7)
    rw [e7] at e7'
    injection e7' with e7'
    injection e7' with g1 g2 g3
    subst g1 g2 g3
    obtain rfl : args = xs' := RT.one hr hr'
    have q8 := hw.field Try.underlying29 f8 p8
    rw [ey8] at q8
    exact ⟨q1, by simpa using q8.string, q3⟩
  show Value.agg cs.toArray = Value.agg (Fr.cells _).toArray
  rw [split9 cs hl, e0, e1, e2, e3, e4, e5, e6, e7, e8]
  rfl
end Go.Proofs.Ytelfephmjkipoaa
end
/-! The length with which a frame begins: its bytes, and what they say; frames whose sum is wrong. No program in it. -/
section
namespace Go.Proofs.Ytelfephmjkipoaa
open Go.RowKit Go.Kit CrcM Go.Proofs.YtelfephmjkipoaaW.PrintWords
theorem sh_more (n : Nat) : ∀ j, j + 1 < (sh n).length → ∃ x, (sh n)[j]? = some x ∧ (128 : Int) ≤ x := by
  induction n using Nat.strongRecOn with
  | ind n ih =>
    intro j hj
    rcases Nat.lt_or_ge n 128 with h | h
    · rw [sh_small h] at hj; simp at hj
    · rw [sh_big h] at hj ⊢
      cases j with
      | zero => exact ⟨_, rfl, by omega⟩
      | succ j =>
        rw [List.length_cons] at hj
        obtain ⟨x, hx, hx1⟩ := ih (n / 128) (by omega) j (by omega)
        exact ⟨x, by simpa using hx, hx1⟩
theorem sh_last (n : Nat) : ∃ x, (sh n)[(sh n).length - 1]? = some x ∧ x < (128 : Int) := by
  induction n using Nat.strongRecOn with
  | ind n ih =>
    rcases Nat.lt_or_ge n 128 with h | h
    · rw [sh_small h]; exact ⟨_, rfl, by omega⟩
    · rw [sh_big h]
      obtain ⟨x, hx, hx1⟩ := ih (n / 128) (by omega)
      have hp := sh_pos (n / 128)
      refine ⟨x, ?_, hx1⟩
      rw [List.length_cons, Nat.add_sub_cancel, List.getElem?_cons]
      rw [if_neg (by omega)]
      exact hx
theorem head_of {L : Nat} (rest : List Int) (h1 : 1 ≤ L) (h2 : L ≤ 2097152) : headF (sh L ++ rest) = (L, (sh L).length, 0) := by
  have hn := num_sh [] rest L (by omega)
  rw [List.nil_append] at hn
  unfold headF
  rw [show ([] : List Int).length = 0 from rfl] at hn
  rw [hn]
  dsimp only
  rw [if_neg (by decide), if_neg (by simp), if_neg (by omega), if_neg (by omega)]
theorem need_of' {L : Nat} (rest : List Int) (h1 : 1 ≤ L) (h2 : L ≤ 2097152) : needF (sh L ++ rest) = (L + (sh L).length + 4, (sh L).length, 0) := by
  have hp := sh_pos L
  unfold needF
  rw [head_of rest h1 h2]
  dsimp only
  rw [if_neg (by omega)]
theorem dec_turned {l : List Int} {L : Nat} (h1 : 1 ≤ L) (h2 : L ≤ 2097152) (ht : l.take (sh L).length = sh L) (hl : l.length = L + (sh L).length + 4) (ho : openR l = ([], 71)) : decF l = (noF, 71, (l.length : Int) - 4) := by
  have hn : needF l = (L + (sh L).length + 4, (sh L).length, 0) := by
    have := need_of' (L := L) (l.drop (sh L).length) h1 h2
    rwa [show sh L ++ l.drop (sh L).length = l by rw [← ht]; rw [ht]; conv => rhs; rw [← List.take_append_drop (sh L).length l, ht]] at this
  unfold decF
  rw [hn, ho]
  dsimp only
  rw [if_neg (by simp), if_neg (by omega), if_neg (by omega), if_pos (by decide), ← hl]
end Go.Proofs.Ytelfephmjkipoaa
end
/-! The contract of the document's Open; the walk of CrcSeals. -/
section
namespace Go.Proofs.Ytelfephmjkipoaa
open Go.RowKit Go.Kit CrcM Go.Proofs.YtelfephmjkipoaaW.PrintWords

theorem bne_same {x y : Int} (h : x = y) : (x != y) = false := by simp [h]
theorem bne_diff {x y : Int} (h : ¬ x = y) : (x != y) = true := by simp [h]
theorem same_upto {X Y : List Int} (hX : X.length = 4) (hY : Y.length = 4) (h : X.take 4 = Y.take 4) : X = Y := by
  rwa [List.take_of_length_le (by omega), List.take_of_length_le (by omega)] at h
end Go.Proofs.Ytelfephmjkipoaa
end
/-! The walk of CrcSeals. -/
section
namespace Go.Proofs.Ytelfephmjkipoaa
open Go.RowKit Go.Kit CrcM Go.Proofs.YtelfephmjkipoaaW.PrintWords

theorem open_sealed (xs : List Int) : openR (sealed xs) = (xs, 0) := by
  have hl : (sealed xs).length = xs.length + 4 := sealed_length xs
  have h := openR_good (xs := sealed xs) (N := xs.length) hl (by unfold sealed; rw [List.take_left, List.drop_left])
  rw [h]; unfold sealed; rw [List.take_left]
end Go.Proofs.Ytelfephmjkipoaa
end
/-! The walk of CrcTells. -/
section
namespace Go.Proofs.Ytelfephmjkipoaa
open Go.RowKit Go.Kit CrcM Go.Proofs.YtelfephmjkipoaaW.PrintWords
attribute [local go_sem] Go.Proofs.YtelfephmjkipoaaW.PrintMore.max_two Go.Proofs.YtelfephmjkipoaaW.PrintMore.min_two
theorem turn_bit (x : Int) (r : Nat) (h0 : 0 ≤ x) (h1 : x < 256) (hr : r < 8) : ∃ y, bits .xor .u8 x (IntKind.u8.wrap (2 ^ r)) = y ∧ 0 ≤ y ∧ y < 256 ∧ byt y = byt x ^^^ (1#32 <<< r) := by
  obtain ⟨X, rfl⟩ := Int.eq_ofNat_of_zero_le h0
  have hp : (2 : Nat) ^ r < 256 := Nat.lt_of_lt_of_le (Nat.pow_lt_pow_right (by omega) hr) (by decide)
  have hx : X ^^^ 2 ^ r < 2 ^ 8 := Nat.xor_lt_two_pow (by omega) (by omega)
  have hw : IntKind.u8.wrap (2 ^ r) = ((2 ^ r : Nat) : Int) := by
    have : r = 0 ∨ r = 1 ∨ r = 2 ∨ r = 3 ∨ r = 4 ∨ r = 5 ∨ r = 6 ∨ r = 7 := by omega
    rcases this with rfl | rfl | rfl | rfl | rfl | rfl | rfl | rfl <;> decide
  refine ⟨_, rfl, ?_⟩
  rw [hw, u8_xor_nat _ _ (by omega) hp]
  refine ⟨by omega, by omega, ?_⟩
  unfold byt
  rw [BitVec.ofInt_natCast, BitVec.ofInt_natCast]
  apply BitVec.eq_of_toNat_eq
  rw [BitVec.toNat_xor, BitVec.toNat_shiftLeft, BitVec.toNat_ofNat, BitVec.toNat_ofNat, Nat.mod_eq_of_lt (show X < 2 ^ 32 by omega), Nat.mod_eq_of_lt (show X ^^^ 2 ^ r < 2 ^ 32 by omega)]
  congr 1
  have : r = 0 ∨ r = 1 ∨ r = 2 ∨ r = 3 ∨ r = 4 ∨ r = 5 ∨ r = 6 ∨ r = 7 := by omega
  rcases this with rfl | rfl | rfl | rfl | rfl | rfl | rfl | rfl <;> decide
theorem low_ne (b : W) (i : Nat) (ha : b.getLsbD i = true) (hi : i < 32) : low (i + 1) b ≠ 0#32 := by
  intro h
  have h2 := congrArg (fun z : W => z.getLsbD i) h
  simp only [low, BitVec.getLsbD_ofNat, Nat.testBit_mod_two_pow] at h2
  have : b.toNat.testBit i = true := ha
  rw [this] at h2
  simp at h2
  omega
theorem some_getD {l : List Int} {q : Nat} {x : Int} (h : l[q]? = some x) : l.getD q 0 = x := by rw [List.getD_eq_getElem?_getD, h]; rfl
end Go.Proofs.Ytelfephmjkipoaa
end
/-! The contracts of both products, moves, joins and turns. -/
section
namespace Go.Proofs.Ytelfephmjkipoaa
open Go.RowKit Go.Kit CrcM Go.Proofs.YtelfephmjkipoaaW.PrintWords

def mv : Nat → Int
  | 0 => 0
  | n + 1 => ((2 ^ n : Nat) : Int)
theorem mv_pos (n : Nat) : 0 < mv (n + 1) := by
  show (0 : Int) < ((2 ^ n : Nat) : Int)
  have := Nat.two_pow_pos n; omega
theorem mv_half (n : Nat) : mv (n + 1) / 2 = mv n := by
  cases n with
  | zero => rfl
  | succ n => show ((2 ^ (n + 1) : Nat) : Int) / 2 = ((2 ^ n : Nat) : Int); rw [Nat.pow_succ]; omega
theorem mv_lt (n : Nat) (h : n ≤ 32) : mv n < 4294967296 := by
  cases n with
  | zero => decide
  | succ n =>
    show ((2 ^ n : Nat) : Int) < _
    have : 2 ^ n ≤ 2 ^ 31 := Nat.pow_le_pow_right (by omega) (by omega)
    omega
theorem and_bit (a : W) (n : Nat) (h : n < 32) : bits .and .u32 ((a.toNat : Nat) : Int) (mv (n + 1)) = if a.getLsbD n then mv (n + 1) else 0 := by
  have hl := mv_lt (n + 1) (by omega)
  show bits .and .u32 ((a.toNat : Nat) : Int) ((2 ^ n : Nat) : Int) = _
  rw [u32_and_nat _ _ (by have := a.isLt; omega) (by have : ((2 ^ n : Nat) : Int) < 4294967296 := hl; omega), nat_bit, BitVec.getLsbD, Nat.testBit_eq_decide_div_mod_eq]
  by_cases e : a.toNat / 2 ^ n % 2 = 1
  · simp [e, mv]
  · have e0 : a.toNat / 2 ^ n % 2 = 0 := by omega
    rw [e0]; simp

end Go.Proofs.Ytelfephmjkipoaa
end
/-! The contracts of the document's product; both moves, joins and turns. -/
section
namespace Go.Proofs.Ytelfephmjkipoaa
open Go.RowKit Go.Kit CrcM Go.Proofs.YtelfephmjkipoaaW.PrintWords

theorem shr_and (a : W) (k : Nat) : bits .and .u32 (((a.toNat : Nat) : Int) / (2 : Int) ^ k) 1 = if a.getLsbD k then 1 else 0 := by
  have e : ((a.toNat : Nat) : Int) / (2 : Int) ^ k = ((a.toNat / 2 ^ k : Nat) : Int) := by rw [Int.natCast_ediv]; simp
  have hl : a.toNat / 2 ^ k < 4294967296 := Nat.lt_of_le_of_lt (Nat.div_le_self _ _) a.isLt
  have := u32_and_nat (a.toNat / 2 ^ k) 1 hl (by omega)
  rw [show ((1 : Nat) : Int) = 1 from rfl] at this
  rw [e, this, Nat.and_one_is_mod, BitVec.getLsbD, Nat.testBit_eq_decide_div_mod_eq]
  by_cases h : a.toNat / 2 ^ k % 2 = 1 <;> simp only [h] <;> simp
  omega
end Go.Proofs.Ytelfephmjkipoaa
end
/-! The walk of FrameTells. -/
section
namespace Go.Proofs.Ytelfephmjkipoaa
open Go.RowKit Go.Kit CrcM Go.Proofs.YtelfephmjkipoaaW.PrintWords
attribute [local go_sem] Go.Proofs.YtelfephmjkipoaaW.PrintMore.max_two Go.Proofs.YtelfephmjkipoaaW.PrintMore.min_two
theorem load_u8 {W : World} {a : Addr} {v : Value} (h : W.cell? a = some v) : (Instr.loadAt 5 (.pointer (some a))).run Try.prog W = .ok v W := by go_simp
theorem run_fault_same (x y : Int) (W : World) : (binOp .eql 58 (.agg #[.int .i64 x, .int .i64 y]) (.agg #[.int .i64 x, .int .i64 y])).run Try.prog W = .ok (.bool true) W := by
  have he : (Op.equalIn 10000 58 (.agg #[.int .i64 x, .int .i64 y]) (.agg #[.int .i64 x, .int .i64 y])).run Try.prog W = .ok true W := by go_simp
  simp [run_eql_struct W 58 _ _, he]
theorem put_u8 (y : Int) (W : World) (a : Addr) (u : Value) (hc : W.cell? a = some u) (hf : W.frozen? a = false) : (Instr.storeAt 5 (.pointer (some a)) (.int .u8 y)).run Try.prog W = .ok () (W.setCell a (.int .u8 y)) := by go_simp
attribute [-go_sem] Instr.loadAt Instr.storeAt Instr.build
set_option maxHeartbeats 8000000 in
set_option maxRecDepth 100000 in
theorem FrameTells_walk (f : Fr) (at_ : Int) (b : W) (n : Int) (hn : n = (b.toNat : Int)) (w : World) (hf : f.ok w) (hw : f.wf) (has : ∀ s ∈ f.args, s.size ≤ 9223372036854775807) (ha : at_ ≤ 9223372036854775807) :
    Calls Try.prog 10 #[f.val, .int .i64 at_, .int .u32 n] w fun e w' => e = .returned (.bool true) ∧ Below w.heap.size w w' := by
  subst hn
  have hb := below_alloc (Below.refl _ w) (.cells f.arr 29)
  have hF := boxed hf.tool w
  have hif : (Try.prog.info? 29).map (·.size) = some f.cells.length := by rw [frame_size]; have := Fr.arr_size f hf.tool; simp [Fr.arr] at this; rw [this]
  have cE := fun W (hbw : Below w.heap.size w W) => Encode_any (hf.below hbw) hw has
  have cC := fun W (hbw : Below w.heap.size w W) => Check_any (hf.below hbw) hw has
  have HFA : Hid (chkF f = 0 → May f ∧ f.body.size ≤ 2097152 ∧ (bodyF f).length ≤ 2097152) := Lib.hid chk_facts
  have HEN : Hid (chkF f = 0 → encF f = sealed (sh (bodyF f).length ++ bodyF f)) := Lib.hid (fun e => by unfold encF; rw [if_neg (by rw [e]; decide)])
  have HBL : Hid (1 ≤ (bodyF f).length) := Lib.hid (by unfold bodyF; rw [List.length_append]; have := sh_pos f.k.toNat; omega)
  obtain ⟨l0, hl0⟩ : ∃ l0, encF f = l0 := ⟨_, rfl⟩
  obtain ⟨c, hc⟩ : ∃ c, chkF f = c := ⟨_, rfl⟩
  rw [hl0] at cE HEN
  rw [hc] at cE cC HFA HEN
  unfold Fr.val at cE cC
  clear hl0 hc hf hw has
  show Calls Try.prog _ #[.agg f.arr, _, _] w _
  go_enter Try.func10, Try.ntmps10
  go_upto_region 1 with (fail)
  generalize w.alloc (.cells f.arr 29) = w1 at *
  obtain ⟨g, hg⟩ : ∃ g, w.heap.size = g := ⟨_, rfl⟩
  rw [hg] at hF ⊢
  clear hg
  go_wp2_with fail
  refine (alive_any _).mono ?_
  rintro e w2 ⟨rfl, hb1⟩
  have hF2 := hF.below hb1
  have hb2 := below_step hb hb1
  have e1 := load_frame f hif w2 g hF2
  have hws := hb2.size
  clear hF hb hb1
  go_wp2_with fail
  refine (cE w2 hb2).mono ?_
  rintro e w3 ⟨v3, rfl, hO, hb3⟩
  have hF3 := hF2.below hb3
  have hb4 := below_step hb2 hb3
  have e2 := load_frame f hif w3 g hF3
  clear e1 hF2 hb2
  by_cases h0 : c = 0
  · by_cases hz : b = 0#32
    · have hbz : ((b.toNat : Int) == 0) = true := by rw [hz]; rfl
      subst h0
      clear hz
      go_wp2_with fail
      refine (cC _ hb4).mono ?_
      rintro e w5 ⟨rfl, hb5⟩
      have hb6 := below_step hb4 hb5
      go_wp2_with fail
      go_ret
      exact ⟨rfl, hb6⟩
    · have hbz : ((b.toNat : Int) == 0) = false := by
        rw [beq_eq_false_iff_ne]
        intro e
        exact hz (BitVec.eq_of_toNat_eq (by simpa using e))
      have HZ := Lib.hid hz
      have HM := HFA.out h0
      have hE := HEN.out h0
      have hbl := HBL.out
      obtain ⟨L, hL⟩ : ∃ L, (bodyF f).length = L := ⟨_, rfl⟩
      have hlen : l0.length = L + (sh L).length + 4 := by rw [hE, sealed_length, List.length_append, hL]; omega
      have hL2 : L ≤ 2097152 := by rw [← hL]; exact HM.2.2
      have hK10 := sh_ten (n := L) (by omega)
      have hKp := sh_pos L
      obtain ⟨K, hK⟩ : ∃ K, (sh L).length = K := ⟨_, rfl⟩
      rw [hK] at hlen hK10 hKp
      obtain ⟨g1, c1, rfl, hg1, hgl⟩ := hO.open_ (by omega)
      subst h0
      clear hz
      obtain ⟨N, hN⟩ : ∃ N, L + K + 4 = N := ⟨_, rfl⟩
      rw [hlen, hN]
      have HSH : Hid (l0.take K = sh L) := Lib.hid (by rw [hE, hL]; unfold sealed; rw [List.append_assoc, ← hK, List.take_left])
      have HSE : Hid (l0 = sealed (sh L ++ bodyF f)) := Lib.hid (by rw [← hL]; exact hE)
      have hL1 : 1 ≤ L := by rw [← hL]; exact hbl
      have HLEN : Hid (l0.length = N) := Lib.hid (by rw [hlen, hN])
      rw [hlen, hN] at hO
      clear hlen hE HM hbl HFA HEN HBL cE e2
      go_wp2_with fail
      go_loopg [9] K (fun gk v9 w' => ∃ i : Nat, v9 = .int .i64 (i : Int) ∧ w' = w3 ∧ Hid (i + gk = K ∧ i < K))
      case atStart => exact ⟨0, rfl, rfl, Lib.hid ⟨by omega, by omega⟩⟩
      case round =>
        obtain ⟨i, rfl, rfl, HG⟩ := hrel
        have hiK := HG.out.2
        obtain ⟨x, hc, hf, x0, x1, HX⟩ := hO.at_ HLEN.out.symm i (by omega)
        have ec := load_u8 hc
        have hiN : (i : Int) < (N : Int) := by omega
        by_cases hi : i + 1 < K
        · have hx : (128 : Int) ≤ x := by
            obtain ⟨z, h1, h2⟩ := sh_more L i (by omega)
            rw [← HSH.out, List.getElem?_take_of_lt (by omega), HX.out] at h1
            cases h1; exact h2
          clear hc hf
          go_wp2_with fail
          go_roundg (gk - 1)
          case measure => have := HG.out; omega
          case rel => exact ⟨i + 1, by simp, rfl, Lib.hid ⟨by have := HG.out; omega, hi⟩⟩
        · have hx : ¬ (128 : Int) ≤ x := by
            obtain ⟨z, h1, h2⟩ := sh_last L
            have hKi : K - 1 = i := by omega
            rw [hK, hKi, ← HSH.out, List.getElem?_take_of_lt hiK, HX.out] at h1
            cases h1; omega
          clear hc hf
          have hKi : (i : Int) + 1 = (K : Int) := by omega
          obtain ⟨m, a, hmx, hmn, ha1, ha2⟩ : ∃ (m : Int) (a : Nat), Builtin.max2 (.int .i64 at_) (.int .i64 0) = pure (.int .i64 m) ∧ Builtin.min2 (.int .i64 m) (.int .i64 (8 * ((N : Int) - (K : Int)) - 32)) = pure (.int .i64 (a : Int)) ∧ 8 * K + a + 32 ≤ 8 * N ∧ a ≤ 8 * N := by
            refine ⟨_, (min (max at_ 0) (8 * ((N : Int) - (K : Int)) - 32)).toNat, Go.Proofs.YtelfephmjkipoaaW.PrintMore.max2_int _ _ _ _, ?_, by omega, by omega⟩
            rw [Go.Proofs.YtelfephmjkipoaaW.PrintMore.min2_int]
            congr 2
            split <;> split <;> omega
          have hw1 : IntKind.i64.wrap ((i : Int) + 1) = (K : Int) := by rw [IntKind.wrap_i64]; omega
          go_wp2_with fail
          clear hmx hmn hw1 hx ec
          obtain ⟨P, hP⟩ : ∃ P : Nat, 8 * K + a = P := ⟨_, rfl⟩
          have hPi : 8 * (K : Int) + (a : Int) = (P : Int) := by omega
          rw [hPi]
          have hP1 : P + 32 ≤ 8 * N := by omega
          have hPK : 8 * K ≤ P := by omega
          have hb0 : low 0 b = 0#32 := low_zero b
          have hgw : w.heap.size ≤ g1 := by omega
          have HN := Lib.hid hN
          have HNB : Hid (N ≤ 2097166) := Lib.hid (by omega)
          clear ha1 ha2 hP hPi hN hKi HG hi hiN HX x0 x1 hiK
          go_loopg [57] 32 (fun gk v57 w' => ∃ (i : Nat) (l : List Int), v57 = .int .i64 (i : Int) ∧ OB 5 w' w2.heap.size (.slice (some ⟨g1, 0, none⟩) N c1) l ∧ l.length = N ∧ Below w.heap.size w w' ∧
            Hid (i ≤ 32 ∧ gk = 32 - i) ∧ Hid (over (~~~ 0#32) l = over (~~~ 0#32) l0 ^^^ Mn (8 * N - P - 32) (Mn 32 (low i b))) ∧ Hid (l.take K = sh L))
          case atStart => exact ⟨0, l0, rfl, hO, HLEN.out, hb4, Lib.hid ⟨by omega, rfl⟩, Lib.hid (by rw [hb0, Mn_zero, Mn_zero]; simp), HSH⟩
          case round =>
            obtain ⟨i, l, rfl, hO, hll, hbz, HG, HV, HT⟩ := hrel
            by_cases hi : i < 32
            · have hbit := shr_and b i
              cases ha : b.getLsbD i <;> rw [ha] at hbit
              · have hls := tell_same i b ha
                go_wp2_with fail
                go_roundg (31 - i)
                case measure => have := HG.out; omega
                case rel => exact ⟨i + 1, l, rfl, hO, hll, hbz, Lib.hid ⟨by omega, by omega⟩, by rw [hls]; exact HV, HT⟩
              · obtain ⟨M, q, r, hM, hq, hr⟩ : ∃ M q r : Nat, M = P + i ∧ q = M / 8 ∧ r = M % 8 := ⟨_, _, _, rfl, rfl, rfl⟩
                obtain ⟨x, hc, hf, x0, x1, HX⟩ := hO.at_ hll.symm q (by omega)
                have hld : ∀ W : World, W.cell? ⟨g1, q, none⟩ = some (.int .u8 x) → (Instr.loadAt 5 (.pointer (some ⟨g1, q, none⟩))).run Try.prog W = .ok (.int .u8 x) W := fun W h => load_u8 h
                have hcd : ({ heap := wr.heap, tape := wr.tape, drawn := wr.drawn + 1, os := wr.os, output := wr.output } : World).cell? ⟨g1, q, none⟩ = some (.int .u8 x) := hc
                have hNb2 := HNB.out
                have hw : IntKind.i64.wrap ((P : Int) + (i : Int)) = (P : Int) + (i : Int) := by rw [IntKind.wrap_i64]; omega
                have hw1 : IntKind.i64.wrap (((P : Int) + (i : Int)).tdiv 8) = (q : Int) := by rw [IntKind.wrap_i64, Int.tdiv_eq_ediv_of_nonneg (by omega)]; omega
                have hw2 : ((P : Int) + (i : Int)).tmod 8 = (r : Int) := by rw [Int.tmod_eq_emod_of_nonneg (by omega)]; omega
                have hq1 : (q : Int) < (N : Int) := by omega
                have hr8 : r < 8 := by omega
                have HKQ : Hid (K ≤ q) := Lib.hid (by omega)
                have hfd : ({ heap := wr.heap, tape := wr.tape, drawn := wr.drawn + 1, os := wr.os, output := wr.output } : World).frozen? ⟨g1, q, none⟩ = false := hf
                obtain ⟨y, hy, hy0, hy1, hy2⟩ := turn_bit x r x0 x1 hr8
                have HY := Lib.hid hy2
                clear hy2
                have hsd := put_u8 y wr.drew ⟨g1, q, none⟩ (.int .u8 x) hc hf
                have HNqr : Hid (q = (P + i) / 8 ∧ r = (P + i) % 8) := Lib.hid ⟨by omega, by omega⟩
                clear hM hq hr hNb2
                go_wp2_with fail
                refine wp_region_still_tail 14 (by kernel_rfl) (by kernel_rfl) ?_
                simp only [List.take_succ_cons, List.take_zero, List.drop_succ_cons, List.drop_zero]
                repeat still_step
                refine wpStill_nil ?_
                have hO2 := hO.store hll.symm q y hy0 hy1
                have hlow : low (i + 1) b ≠ 0#32 := low_ne b i ha hi
                have HVn : Hid (over (~~~ 0#32) (l.set q y) = over (~~~ 0#32) l0 ^^^ Mn (8 * N - P - 32) (Mn 32 (low (i + 1) b))) := Lib.hid (by
                  have := HNqr.out
                  rw [this.1]
                  exact tell_more l l0 _ P i N b y hll hP1 hi ha (by rw [← this.1, ← this.2, some_getD HX.out]; exact HY.out) HV.out)
                have HTn : Hid ((l.set q y).take K = sh L) := Lib.hid (by rw [List.take_set_of_le HKQ.out]; exact HT.out)
                clear hlow
                have hbz2 := below_set (j := q) (v := .int .u8 y) hbz hgw
                go_wp2_with fail
                go_roundg (31 - i)
                case measure => have := HG.out; omega
                case rel => exact ⟨i + 1, l.set q y, rfl, ⟨hO2.own, hO2.byt⟩, by rw [List.length_set]; exact hll, below_drew hbz2, Lib.hid ⟨by omega, by omega⟩, HVn, HTn⟩
            · obtain ⟨h0, h1⟩ := HG.out
              obtain rfl : i = 32 := by omega
              rw [low_all] at HV
              have hop : openR l = ([], 71) := by
                by_cases e : b4 (more 0#32 (l.take (L + K))) = l.drop (L + K)
                · refine absurd ?_ HZ.out
                  have hV := HV.out
                  rw [HSE.out] at hV
                  have hr : l = l.take (L + K) ++ b4 (~~~ over (~~~ 0#32) (l.take (L + K))) := by
                    refine (List.take_append_drop (L + K) l).symm.trans ?_
                    rw [← e]; rfl
                  exact told (~~~ 0#32) b _ _ l hV (l.take (L + K)) hr
                · exact openR_bad (N := L + K) (by rw [hll]; exact HN.out.symm) e
              have HDT : Hid (decF l = (noF, 71, (N : Int) - 4)) := Lib.hid (by
                have e := dec_turned (l := l) (L := L) hL1 hL2 (by rw [hK]; exact HT.out) (by rw [hK, hll]; exact HN.out.symm) hop
                rwa [hll] at e)
              obtain ⟨A8, c8, hv8, hr8, hc8⟩ := hO.reads'
              rw [hll] at hv8 hr8 hc8
              injection hv8 with e1 e2 e3
              subst e1 e3
              clear HV HT HG h0 h1 hO hop
              go_wp2_with fail
              refine (Decode_any hr8 hc8).mono ?_
              rintro e w5 ⟨F, x, y, rfl, HD, hok, hfr, hb5⟩
              have hxy := HD.out.1
              have hFc := HD.out.2
              rw [HDT.out] at hxy hFc
              have hx71 : x = 71 := (congrArg Prod.fst hxy).symm
              have hy71 : y = (N : Int) - 4 := (congrArg Prod.snd hxy).symm
              obtain ⟨w6, w7, w8, s0, s1, s2, hFF, hX, hbb⟩ := two_put w5 F hok.tool x y
              have HF := Lib.hid hFF
              have HX := Lib.hid hX
              have HB := Lib.hid hbb
              have HFC := Lib.hid hFc
              have HX71 := Lib.hid hx71
              have HY71 := Lib.hid hy71
              clear hFF hX hbb hFc hx71 hy71 hxy HD HDT hr8 hfr
              go_upto_region 18 with (fail)
              clear s0 s1 s2
              have hF8 := HF.out
              have hX8 := HX.out
              rw [HX71.out, HY71.out] at hX8
              have hb8 := below_step (below_step hbz hb5) HB.out
              have hok8 := hok.below HB.out
              clear HF HX hok hb5 HB hbz
              have hS : F.same (kF 0) = true := by
                rw [same_iff, HFC.out]; rfl
              have hk0 : (kF 0).ok w8 := ⟨rfl, rt_none _ rfl rfl rfl⟩
              have eX := get_fault hX8
              have eF := get_frame hF8
              have heq := run_fault_same 71 ((N : Int) - 4)
              have hz4 := zero_frame
              have hNb2 := HNB.out
              have hbf : ∀ (x y : Int) (W : World), (Instr.build 58 #[(0, .int .i64 x), (1, .int .i64 y)]).run Try.prog W = .ok (.agg #[.int .i64 x, .int .i64 y]) W := fun x y W => by kernel_rfl
              have hwN : IntKind.i64.wrap ((N : Int) - 4) = (N : Int) - 4 := by rw [IntKind.wrap_i64]; omega
              clear hNb2 hF8 hX8
              go_wp2_with fail
              refine (rSame_is F (kF 0) true hS _ hok8 hk0).mono ?_
              rintro e w9 ⟨rfl, hb9⟩
              have hb10 := below_step hb8 hb9
              go_wp2_with fail
              go_ret
              exact ⟨rfl, hb10⟩
  · have b0 : (c != 0) = true := by simpa using h0
    have bb : (c == c) = true := by simp
    clear h0
    go_wp2_with fail
    refine (cC _ hb4).mono ?_
    rintro e w5 ⟨rfl, hb5⟩
    have hb6 := below_step hb4 hb5
    go_wp2_with fail
    go_ret
    exact ⟨rfl, hb6⟩
end Go.Proofs.Ytelfephmjkipoaa
end
