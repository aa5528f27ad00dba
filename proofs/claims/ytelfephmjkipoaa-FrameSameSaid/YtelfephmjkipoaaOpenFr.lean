/- An argument that is a frame, opened. -/
import Derived.Test.YtelfephmjkipoaaProg
import Derived.Test.YtelfephmjkipoaaOpen
import Derived.Test.YtelfephmjkipoaaFrA
import Derived.Deep.Strs
namespace Go.Kit
open Go.ChangeShapes Go.WideShapes Go.RowKit Go.Deep Go.Proofs.YtelfephmjkipoaaW.PrintWords
section
variable {H : Type} {enc : TypeId × Value → H} {P : Program} {W : World} {base : Nat} {r : Reach}
/-- A row of texts, out of a reading. -/
theorem read_texts {t e : TypeId} {n : Nat} {cs : List Value} {y : DataW H × List MemPlace} (ht : P.underlying t = some (.slice e)) (he : P.underlying e = some .string) (hc : P.cellsOf e = 1)
    (h : DataW.trod enc P W 0 (fun _ => true) true n t cs = some y) : ∃ A len cap xs, cs = [.slice A len cap] ∧ RT W A len xs := by
  rcases Deep.open_strs ht he hc h with h0 | ⟨a, len, cap, m, Sx, rfl, _, hl, hm, hmm, _, hx⟩
  · exact ⟨none, 0, 0, [], h0.1, RT.nil W⟩
  · simp only [if_true] at hmm
    refine ⟨_, len, cap, (List.range len).map Sx, rfl, by simp, by unfold maxLen at hm; omega, fun _ => ⟨a, rfl, fun j hj => ?_⟩⟩
    rw [(hx j (by omega)).1]
    simp [List.getD_eq_getElem?_getD, hj]
/-- Bytes of an array. -/
theorem read_bytes {t e : TypeId} {m n : Nat} {cs : List Value} {y : DataW H × List MemPlace} (ht : P.underlying t = some (.array m e)) (he : P.underlying e = some (.int .u8)) (hc : P.cellsOf e = 1) (hm : P.cellsOf t = m)
    (h : DataW.trod enc P W 0 (fun _ => true) true n t cs = some y) : ∃ l : List Int, cs = nums .u8 l ∧ l.length = m ∧ Byt l := by
  obtain ⟨xs, k, _, _, hl, hx, hf⟩ := DataW.trod_array ht h
  rw [hm] at hl
  have each : ∀ i, i < m → ∃ z, cs[i]? = some (.int .u8 z) ∧ 0 ≤ z ∧ z < 256 := by
    intro i hi
    have hq := hf i hi
    rw [hc, Nat.mul_one, List.getElem?_eq_getElem (by omega)] at hq
    obtain ⟨z, hz, _, hwf⟩ := DataW.trod_int he hq
    refine ⟨z, ?_, ?_⟩
    · have := congrArg (fun l : List Value => l[0]?) hz
      simpa using this
    · have := bounds_u8 hwf; omega
  refine ⟨(List.range m).map fun i => match cs[i]? with | some (Value.int _ z) => z | _ => 0, ?_, by simp, ?_⟩
  · apply List.ext_getElem?
    intro i
    rcases Nat.lt_or_ge i m with hi | hi
    · obtain ⟨z, hz, _⟩ := each i hi
      simp [nums, hi, hz]
    · rw [List.getElem?_eq_none (by omega), List.getElem?_eq_none (by simp [nums]; omega)]
  · intro z hz
    simp only [List.mem_map, List.mem_range] at hz
    obtain ⟨i, hi, rfl⟩ := hz
    obtain ⟨z, hz, h0, h1⟩ := each i hi
    simp only [hz]; exact ⟨h0, h1⟩
/-- A struct's cells: every field's reading. -/
theorem read_fields {t : TypeId} {fs : Array Field} {n : Nat} {cs : List Value} {y : DataW H × List MemPlace} (hs : P.underlying t = some (.struct fs))
    (h : DataW.trod enc P W 0 (fun _ => true) true n t cs = some y) :
    cs.length = P.cellsOf t ∧ ∀ (i : Nat) (ty : TypeId) (o : Nat), (fs[i]?.map fun f => (f.type, f.offset)) = some (ty, o) → ∃ n y, DataW.trod enc P W 0 (fun _ => true) true n ty ((cs.drop o).take (P.cellsOf ty)) = some y := by
  obtain ⟨xs, n, _, _, hl, hlen, hfs⟩ := DataW.trod_struct hs h
  refine ⟨hl, fun i ty o hi => ?_⟩
  obtain ⟨f, hi2, he⟩ := Option.map_eq_some_iff.1 hi
  simp only [Prod.mk.injEq] at he
  obtain ⟨rfl, rfl⟩ := he
  have hlt : i < fs.size := by
    rcases Nat.lt_or_ge i fs.size with h | h
    · exact h
    · rw [Array.getElem?_eq_none h] at hi2; cases hi2
  refine ⟨n, xs[i]'(by omega), ?_⟩
  have := hfs i f hi2
  rwa [List.getElem?_eq_getElem (by omega)] at this
/-- A struct by value. -/
theorem open_fields {t : TypeId} {fs : Array Field} {v : Value} {d : DataW H} {ps : List MemPlace} (hs : P.underlying t = some (.struct fs))
    (hv : Value.okWide P W r base t v) (h : DataW.Trod enc P W 0 (fun _ => true) true t v d ps) :
    ∃ cs : List Value, v = .agg cs.toArray ∧ cs.length = P.cellsOf t ∧ ∀ (i : Nat) (ty : TypeId) (o : Nat), (fs[i]?.map fun f => (f.type, f.offset)) = some (ty, o) → ∃ n y, DataW.trod enc P W 0 (fun _ => true) true n ty ((cs.drop o).take (P.cellsOf ty)) = some y := by
  obtain ⟨cs, rfl, hsz⟩ := okWide_struct hs hv
  obtain ⟨fuel, hq⟩ := h
  obtain ⟨h1, h2⟩ := read_fields hs hq
  exact ⟨cs.toList, by simp, by simp [hsz], h2⟩
end
end Go.Kit
namespace Go.Proofs.Ytelfephmjkipoaa
open Go.ChangeShapes Go.WideShapes Go.RowKit Go.Kit Go.Deep Go.Proofs.YtelfephmjkipoaaW.PrintWords
theorem split9 (cs : List Value) (h : cs.length = 42) : cs = (cs.drop 0).take 1 ++ ((cs.drop 1).take 1 ++ ((cs.drop 2).take 1 ++ ((cs.drop 3).take 1 ++ ((cs.drop 4).take 32 ++ ((cs.drop 36).take 1 ++ ((cs.drop 37).take 3 ++ ((cs.drop 40).take 1 ++ (cs.drop 41).take 1))))))) := by
  have step : ∀ (n k : Nat), cs.drop n = (cs.drop n).take k ++ cs.drop (n + k) := fun n k => by rw [← List.drop_drop, List.take_append_drop]
  have last : (cs.drop 41).take 1 = cs.drop 41 := List.take_of_length_le (by rw [List.length_drop]; omega)
  rw [last]
  conv => lhs; rw [← List.drop_zero (l := cs), step 0 1, step 1 1, step 2 1, step 3 1, step 4 32, step 36 1, step 37 3, step 40 1]
set_option maxRecDepth 100000 in
theorem open_frame {H : Type} {enc : TypeId × Value → H} {W : World} {base : Nat} {r : Reach} {v : Value} {d : DataW H} {ps : List MemPlace}
    (hv : Value.okWide Try.prog W r base 29 v) (h : DataW.Trod enc Try.prog W 0 (fun _ => true) true 29 v d ps) : ∃ f : Fr, v = f.val ∧ f.ok W := by
  obtain ⟨cs, rfl, hl, hf⟩ := open_fields Try.underlying29 hv h
  rw [show Try.prog.cellsOf 29 = 42 from by kernel_rfl] at hl
  have c1 : Try.prog.cellsOf 3 = 1 := by kernel_rfl
  have c2 : Try.prog.cellsOf 22 = 1 := by kernel_rfl
  have c3 : Try.prog.cellsOf 24 = 32 := by kernel_rfl
  have c4 : Try.prog.cellsOf 26 = 3 := by kernel_rfl
  have c5 : Try.prog.cellsOf 27 = 1 := by kernel_rfl
  have c6 : Try.prog.cellsOf 9 = 1 := by kernel_rfl
  obtain ⟨n0, y0, h0⟩ := hf 0 3 0 rfl
  obtain ⟨n1, y1, h1⟩ := hf 1 22 1 rfl
  obtain ⟨n2, y2, h2⟩ := hf 2 3 2 rfl
  obtain ⟨n3, y3, h3⟩ := hf 3 3 3 rfl
  obtain ⟨n4, y4, h4⟩ := hf 4 24 4 rfl
  obtain ⟨n5, y5, h5⟩ := hf 5 3 36 rfl
  obtain ⟨n6, y6, h6⟩ := hf 6 26 37 rfl
  obtain ⟨n7, y7, h7⟩ := hf 7 27 40 rfl
  obtain ⟨n8, y8, h8⟩ := hf 8 9 41 rfl
  rw [c1] at h0 h2 h3 h5
  rw [c2] at h1
  rw [c3] at h4
  rw [c4] at h6
  rw [c5] at h7
  rw [c6] at h8
  obtain ⟨k, e0, _, _⟩ := DataW.trod_int Try.underlying3 h0
  obtain ⟨id, e1, _, _⟩ := DataW.trod_int Try.underlying22 h1
  obtain ⟨v, e2, _, _⟩ := DataW.trod_int Try.underlying3 h2
  obtain ⟨s, e3, _, _⟩ := DataW.trod_int Try.underlying3 h3
  obtain ⟨tool, e4, ht, hby⟩ := read_bytes Try.underlying24 Try.underlying5 (by kernel_rfl) c3 h4
  obtain ⟨st, e5, _, _⟩ := DataW.trod_int Try.underlying3 h5
  obtain ⟨A, n, c, args, e7, hr⟩ := read_texts Try.underlying27 Try.underlying9 c6 h7
  obtain ⟨body, e8, _, _⟩ := DataW.trod_string Try.underlying9 h8
  obtain ⟨hl6, hf6⟩ := read_fields Try.underlying26 h6
  obtain ⟨m0, w0, z0⟩ := hf6 0 3 0 rfl
  obtain ⟨m1, w1, z1⟩ := hf6 1 3 1 rfl
  obtain ⟨m2, w2, z2⟩ := hf6 2 3 2 rfl
  rw [c1] at z0 z1 z2
  obtain ⟨mo, g0, _, _⟩ := DataW.trod_int Try.underlying3 z0
  obtain ⟨fu, g1, _, _⟩ := DataW.trod_int Try.underlying3 z1
  obtain ⟨di, g2, _, _⟩ := DataW.trod_int Try.underlying3 z2
  have e6 : (cs.drop 37).take 3 = [.int .i64 mo, .int .i64 fu, .int .i64 di] := by
    generalize (cs.drop 37).take 3 = l at *
    rw [c4] at hl6
    match l, hl6 with
    | [x, y, z], _ => simp at g0 g1 g2; rw [g0, g1, g2]
  refine ⟨⟨k, id, v, s, tool, st, mo, fu, di, A, n, c, args, body⟩, ?_, ⟨ht, hr⟩⟩
  show Value.agg cs.toArray = Value.agg (Fr.cells _).toArray
  rw [split9 cs hl, e0, e1, e2, e3, e4, e5, e6, e7, e8]
  rfl
end Go.Proofs.Ytelfephmjkipoaa
