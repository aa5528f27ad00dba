/- An argument that is a frame, opened. -/
import Derived.Test.YtelfephmjkipoaaProg
import Derived.Test.YtelfephmjkipoaaOpen
import Derived.Test.YtelfephmjkipoaaFrA
import Derived.Deep.Strs
namespace Go.Kit
open Go.ChangeShapes Go.WideShapes Go.RowKit Go.Deep Go.Proofs.YtelfephmjkipoaaW.PrintWords
section
variable {H : Type} {enc : TypeId × Value → H} {P : Program} {W : World} {base : Nat} {r : Reach}
/-- A row of texts, out of a reading. -/
theorem read_texts {t e : TypeId} {n : Nat} {cs : List Value} {y : DataW H × List MemPlace} (ht : P.underlying t = some (.slice e)) (he : P.underlying e = some .string) (hc : P.cellsOf e = 1)
    (h : DataW.trod enc P W 0 (fun _ => true) true n t cs = some y) : ∃ A len cap xs, cs = [.slice A len cap] ∧ RT W A len xs := by
  rcases Deep.open_strs ht he hc h with h0 | ⟨a, len, cap, m, Sx, rfl, _, hl, hm, hmm, _, hx⟩
  · exact ⟨none, 0, 0, [], h0.1, RT.nil W⟩
  · simp only [if_true] at hmm
    refine ⟨_, len, cap, (List.range len).map Sx, rfl, by simp, by unfold maxLen at hm; omega, fun _ => ⟨a, rfl, fun j hj => ?_⟩⟩
    rw [(hx j (by omega)).1]
    simp [List.getD_eq_getElem?_getD, hj]
/-- Bytes of an array. -/
theorem read_bytes {t e : TypeId} {m n : Nat} {cs : List Value} {y : DataW H × List MemPlace} (ht : P.underlying t = some (.array m e)) (he : P.underlying e = some (.int .u8)) (hc : P.cellsOf e = 1) (hm : P.cellsOf t = m)
    (h : DataW.trod enc P W 0 (fun _ => true) true n t cs = some y) : ∃ l : List Int, cs = nums .u8 l ∧ l.length = m ∧ Byt l := by
  obtain ⟨xs, k, _, _, hl, hx, hf⟩ := DataW.trod_array ht h
  rw [hm] at hl
  have each : ∀ i, i < m → ∃ z, cs[i]? = some (.int .u8 z) ∧ 0 ≤ z ∧ z < 256 := by
    intro i hi
    have hq := hf i hi
    rw [hc, Nat.mul_one, List.getElem?_eq_getElem (by omega)] at hq
    obtain ⟨z, hz, _, hwf⟩ := DataW.trod_int he hq
    refine ⟨z, ?_, ?_⟩
    · have := congrArg (fun l : List Value => l[0]?) hz
      simpa using this
    · have := bounds_u8 hwf; omega
  refine ⟨(List.range m).map fun i => match cs[i]? with | some (Value.int _ z) => z | _ => 0, ?_, by simp, ?_⟩
  · apply List.ext_getElem?
    intro i
    rcases Nat.lt_or_ge i m with hi | hi
    · obtain ⟨z, hz, _⟩ := each i hi
      simp [nums, hi, hz]
    · rw [List.getElem?_eq_none (by omega), List.getElem?_eq_none (by simp [nums]; omega)]
  · intro z hz
    simp only [List.mem_map, List.mem_range] at hz
    obtain ⟨i, hi, rfl⟩ := hz
    obtain ⟨z, hz, h0, h1⟩ := each i hi
    simp only [hz]; exact ⟨h0, h1⟩
/-- Every block inside is no greater than the reach. -/
def Wt (P : Program) (t : TypeId) (d : DataW H) : Prop := ∀ n ∈ d.weights P t, n ≤ 140737488351232
theorem wt_sized {ts : List TypeId} {ds : List (DataW H)} {j : Nat} {t : TypeId} {d : DataW H} (h : (DataW.weightsEach P ts ds).all (· ≤ reachBytes) = true) (ht : ts[j]? = some t) (hd : ds[j]? = some d) : Wt P t d := fun n hn => by
  have := List.all_eq_true.1 h n (DataW.weights_mem_each ht hd n hn)
  have := of_decide_eq_true this
  unfold reachBytes at this; omega
theorem Wt.field {t ty : TypeId} {fs : Array Field} {parts : List (DataW H)} {d : DataW H} (h : Wt P t (.agg parts)) (hs : P.underlying t = some (.struct fs)) {i : Nat} (hf : fs[i]?.map (·.type) = some ty) (hp : parts[i]? = some d) : Wt P ty d := fun n hn => by
  refine h n ?_
  rw [DataW.weights, hs]
  refine DataW.weights_mem_each (j := i) ?_ hp n hn
  rw [List.getElem?_map, Array.getElem?_toList]; exact hf
theorem mem_weightsAll {e : TypeId} {d : DataW H} : ∀ {l : List (DataW H)}, d ∈ l → ∀ n ∈ d.weights P e, n ∈ DataW.weightsAll P e l
  | x :: l, hd, n, hn => by
    rw [DataW.weightsAll, List.mem_append]
    rcases List.mem_cons.1 hd with rfl | hd
    · exact .inl hn
    · exact .inr (mem_weightsAll hd n hn)
theorem Wt.slice {t e : TypeId} {el sp : List (DataW H)} (h : Wt P t (.slice el sp)) (hs : P.underlying t = some (.slice e)) : (el.length + sp.length) * P.bytesOf e ≤ 140737488351232 ∧ ∀ d ∈ el, Wt P e d := by
  have h2 : ∀ n ∈ (el.length + sp.length) * P.bytesOf e :: (DataW.weightsAll P e el ++ DataW.weightsAll P e sp), n ≤ 140737488351232 := fun n hn => h n (by rw [DataW.weights, hs]; exact hn)
  exact ⟨h2 _ (by simp), fun d hd n hn => h2 n (by rw [List.mem_cons, List.mem_append]; exact .inr (.inl (mem_weightsAll hd n hn)))⟩
theorem Wt.string {t : TypeId} {b : List UInt8} (h : Wt P t (.lit (.string b) : DataW H)) : b.length ≤ 140737488351232 := h _ (by rw [DataW.weights]; simp)
/-- A row of texts, out of a reading, with its weights. -/
theorem read_texts_wt {t e : TypeId} {n : Nat} {cs : List Value} {y : DataW H × List MemPlace} (ht : P.underlying t = some (.slice e)) (he : P.underlying e = some .string) (hc : P.cellsOf e = 1) (hB : P.bytesOf e = 16)
    (h : DataW.trod enc P W 0 (fun _ => true) true n t cs = some y) (hw : Wt P t y.1) : ∃ A len cap xs, cs = [.slice A len cap] ∧ RT W A len xs ∧ len * 16 ≤ 140737488351232 ∧ len ≤ cap ∧ ∀ s ∈ xs, s.size ≤ 140737488351232 := by
  rcases Deep.open_strs ht he hc h with h0 | ⟨a, len, cap, m, Sx, rfl, _, hl, hm, hmm, rfl, hx⟩
  · exact ⟨none, 0, 0, [], h0.1, RT.nil W, by omega, by omega, by simp⟩
  · simp only [if_true] at hmm
    obtain ⟨w1, w2⟩ := hw.slice ht
    rw [hB] at w1
    simp only [List.length_map, List.length_range] at w1
    refine ⟨_, len, cap, (List.range len).map Sx, rfl, ⟨by simp, by unfold maxLen at hm; omega, fun _ => ⟨a, rfl, fun j hj => ?_⟩⟩, by omega, hl, fun s hs => ?_⟩
    · rw [(hx j (by omega)).1]
      simp [List.getD_eq_getElem?_getD, hj]
    · obtain ⟨i, hi, rfl⟩ := List.mem_map.1 hs
      have := (w2 _ (List.mem_map.2 ⟨i, hi, rfl⟩)).string
      simpa using this
/-- A struct's cells: every field's reading. -/
theorem read_fields {t : TypeId} {fs : Array Field} {n : Nat} {cs : List Value} {y : DataW H × List MemPlace} (hs : P.underlying t = some (.struct fs))
    (h : DataW.trod enc P W 0 (fun _ => true) true n t cs = some y) :
    cs.length = P.cellsOf t ∧ ∃ parts, y.1 = .agg parts ∧ ∀ (i : Nat) (ty : TypeId) (o : Nat), (fs[i]?.map fun f => (f.type, f.offset)) = some (ty, o) → ∃ n y, DataW.trod enc P W 0 (fun _ => true) true n ty ((cs.drop o).take (P.cellsOf ty)) = some y ∧ parts[i]? = some y.1 ∧ fs[i]?.map (·.type) = some ty := by
  obtain ⟨xs, n, _, rfl, hl, hlen, hfs⟩ := DataW.trod_struct hs h
  refine ⟨hl, _, rfl, fun i ty o hi => ?_⟩
  obtain ⟨f, hi2, he⟩ := Option.map_eq_some_iff.1 hi
  simp only [Prod.mk.injEq] at he
  obtain ⟨rfl, rfl⟩ := he
  have hlt : i < fs.size := by
    rcases Nat.lt_or_ge i fs.size with h | h
    · exact h
    · rw [Array.getElem?_eq_none h] at hi2; cases hi2
  refine ⟨n, xs[i]'(by omega), ?_, ?_, by rw [hi2]; rfl⟩
  · have := hfs i f hi2
    rwa [List.getElem?_eq_getElem (by omega)] at this
  · rw [List.getElem?_map, List.getElem?_eq_getElem (by omega)]; rfl
/-- A struct by value. -/
theorem open_fields {t : TypeId} {fs : Array Field} {v : Value} {d : DataW H} {ps : List MemPlace} (hs : P.underlying t = some (.struct fs))
    (hv : Value.okWide P W r base t v) (h : DataW.Trod enc P W 0 (fun _ => true) true t v d ps) :
    ∃ (cs : List Value) (parts : List (DataW H)), v = .agg cs.toArray ∧ cs.length = P.cellsOf t ∧ d = .agg parts ∧ ∀ (i : Nat) (ty : TypeId) (o : Nat), (fs[i]?.map fun f => (f.type, f.offset)) = some (ty, o) → ∃ n y, DataW.trod enc P W 0 (fun _ => true) true n ty ((cs.drop o).take (P.cellsOf ty)) = some y ∧ parts[i]? = some y.1 ∧ fs[i]?.map (·.type) = some ty := by
  obtain ⟨cs, rfl, hsz⟩ := okWide_struct hs hv
  obtain ⟨fuel, hq⟩ := h
  obtain ⟨h1, parts, h2, h3⟩ := read_fields hs hq
  exact ⟨cs.toList, parts, by simp, by simp [hsz], h2, h3⟩
end
end Go.Kit
namespace Go.Proofs.Ytelfephmjkipoaa
open Go.ChangeShapes Go.WideShapes Go.RowKit Go.Kit Go.Deep Go.Proofs.YtelfephmjkipoaaW.PrintWords
theorem split9 (cs : List Value) (h : cs.length = 42) : cs = (cs.drop 0).take 1 ++ ((cs.drop 1).take 1 ++ ((cs.drop 2).take 1 ++ ((cs.drop 3).take 1 ++ ((cs.drop 4).take 32 ++ ((cs.drop 36).take 1 ++ ((cs.drop 37).take 3 ++ ((cs.drop 40).take 1 ++ (cs.drop 41).take 1))))))) := by
  have step : ∀ (n k : Nat), cs.drop n = (cs.drop n).take k ++ cs.drop (n + k) := fun n k => by rw [← List.drop_drop, List.take_append_drop]
  have last : (cs.drop 41).take 1 = cs.drop 41 := List.take_of_length_le (by rw [List.length_drop]; omega)
  rw [last]
  conv => lhs; rw [← List.drop_zero (l := cs), step 0 1, step 1 1, step 2 1, step 3 1, step 4 32, step 36 1, step 37 3, step 40 1]
set_option maxRecDepth 100000 in
theorem open_frame {H : Type} {enc : TypeId × Value → H} {W : World} {base : Nat} {r : Reach} {v : Value} {d : DataW H} {ps : List MemPlace}
    (hv : Value.okWide Try.prog W r base 29 v) (h : DataW.Trod enc Try.prog W 0 (fun _ => true) true 29 v d ps) : ∃ f : Fr, v = f.val ∧ f.ok W ∧ (Wt Try.prog 29 d → f.small) := by
  obtain ⟨cs, parts, rfl, hl, hd, hf⟩ := open_fields Try.underlying29 hv h
  rw [show Try.prog.cellsOf 29 = 42 from by kernel_rfl] at hl
  have c1 : Try.prog.cellsOf 3 = 1 := by kernel_rfl
  have c2 : Try.prog.cellsOf 22 = 1 := by kernel_rfl
  have c3 : Try.prog.cellsOf 24 = 32 := by kernel_rfl
  have c4 : Try.prog.cellsOf 26 = 3 := by kernel_rfl
  have c5 : Try.prog.cellsOf 27 = 1 := by kernel_rfl
  have c6 : Try.prog.cellsOf 9 = 1 := by kernel_rfl
  obtain ⟨n0, y0, h0, p0, f0⟩ := hf 0 3 0 rfl
  obtain ⟨n1, y1, h1, p1, f1⟩ := hf 1 22 1 rfl
  obtain ⟨n2, y2, h2, p2, f2⟩ := hf 2 3 2 rfl
  obtain ⟨n3, y3, h3, p3, f3⟩ := hf 3 3 3 rfl
  obtain ⟨n4, y4, h4, p4, f4⟩ := hf 4 24 4 rfl
  obtain ⟨n5, y5, h5, p5, f5⟩ := hf 5 3 36 rfl
  obtain ⟨n6, y6, h6, p6, f6⟩ := hf 6 26 37 rfl
  obtain ⟨n7, y7, h7, p7, f7⟩ := hf 7 27 40 rfl
  obtain ⟨n8, y8, h8, p8, f8⟩ := hf 8 9 41 rfl
  rw [c1] at h0 h2 h3 h5
  rw [c2] at h1
  rw [c3] at h4
  rw [c4] at h6
  rw [c5] at h7
  rw [c6] at h8
  obtain ⟨k, e0, _, _⟩ := DataW.trod_int Try.underlying3 h0
  obtain ⟨id, e1, _, _⟩ := DataW.trod_int Try.underlying22 h1
  obtain ⟨v, e2, _, _⟩ := DataW.trod_int Try.underlying3 h2
  obtain ⟨s, e3, _, _⟩ := DataW.trod_int Try.underlying3 h3
  obtain ⟨tool, e4, ht, hby⟩ := read_bytes Try.underlying24 Try.underlying5 (by kernel_rfl) c3 h4
  obtain ⟨st, e5, _, _⟩ := DataW.trod_int Try.underlying3 h5
  obtain ⟨A, n, c, args, e7, hr⟩ := read_texts Try.underlying27 Try.underlying9 c6 h7
  obtain ⟨body, e8, ey8, _⟩ := DataW.trod_string Try.underlying9 h8
  obtain ⟨hl6, _, _, hf6⟩ := read_fields Try.underlying26 h6
  obtain ⟨m0, w0, z0, _, _⟩ := hf6 0 3 0 rfl
  obtain ⟨m1, w1, z1, _, _⟩ := hf6 1 3 1 rfl
  obtain ⟨m2, w2, z2, _, _⟩ := hf6 2 3 2 rfl
  rw [c1] at z0 z1 z2
  obtain ⟨mo, g0, _, _⟩ := DataW.trod_int Try.underlying3 z0
  obtain ⟨fu, g1, _, _⟩ := DataW.trod_int Try.underlying3 z1
  obtain ⟨di, g2, _, _⟩ := DataW.trod_int Try.underlying3 z2
  have e6 : (cs.drop 37).take 3 = [.int .i64 mo, .int .i64 fu, .int .i64 di] := by
    generalize (cs.drop 37).take 3 = l at *
    rw [c4] at hl6
    match l, hl6 with
    | [x, y, z], _ => simp at g0 g1 g2; rw [g0, g1, g2]
  refine ⟨⟨k, id, v, s, tool, st, mo, fu, di, A, n, c, args, body⟩, ?_, ⟨ht, hr⟩, fun hw => ?_⟩
  rotate_left
  · rw [hd] at hw
    obtain ⟨A', n', c', xs', e7', hr', q1, q2, q3⟩ := read_texts_wt Try.underlying27 Try.underlying9 c6 (by kernel_rfl) h7 (hw.field Try.underlying29 f7 p7)
    rw [e7] at e7'
    injection e7' with e7'
    injection e7' with g1 g2 g3
    subst g1 g2 g3
    obtain rfl : args = xs' := RT.one hr hr'
    have q8 := hw.field Try.underlying29 f8 p8
    rw [ey8] at q8
    exact ⟨q1, by simpa using q8.string, q3⟩
  show Value.agg cs.toArray = Value.agg (Fr.cells _).toArray
  rw [split9 cs hl, e0, e1, e2, e3, e4, e5, e6, e7, e8]
  rfl
end Go.Proofs.Ytelfephmjkipoaa
