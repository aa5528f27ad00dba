/- Arguments opened: structs, weights. No program in it. -/
import Derived.Test.YtodhcgidmdeifaaKit3
import Derived.Test.YtodhcgidmdeifaaOpen
import Derived.Deep.Matrix
namespace Go.Kit
open Go.ChangeShapes Go.WideShapes Go.RowKit Go.Deep Go.Proofs.YtodhcgidmdeifaaW.PrintWords
section
variable {H : Type} {enc : TypeId × Value → H} {P : Program} {W : World} {base : Nat} {r : Reach}
/-- Bytes of an array. -/
theorem read_bytes {t e : TypeId} {m n : Nat} {cs : List Value} {y : DataW H × List MemPlace} (ht : P.underlying t = some (.array m e)) (he : P.underlying e = some (.int .u8)) (hc : P.cellsOf e = 1) (hm : P.cellsOf t = m)
    (h : DataW.trod enc P W 0 (fun _ => true) true n t cs = some y) : ∃ l : List Int, cs = nums .u8 l ∧ l.length = m ∧ Byt l := by
  obtain ⟨xs, k, _, _, hl, hx, hf⟩ := DataW.trod_array ht h
  rw [hm] at hl
  have each : ∀ i, i < m → ∃ z, cs[i]? = some (.int .u8 z) ∧ 0 ≤ z ∧ z < 256 := by
    intro i hi
    have hq := hf i hi
    rw [hc, Nat.mul_one, List.getElem?_eq_getElem (by omega)] at hq
    obtain ⟨z, hz, _, hwf⟩ := DataW.trod_int he hq
    refine ⟨z, ?_, ?_⟩
    · have := congrArg (fun l : List Value => l[0]?) hz
      simpa using this
    · have := bounds_u8 hwf; omega
  refine ⟨(List.range m).map fun i => match cs[i]? with | some (Value.int _ z) => z | _ => 0, ?_, by simp, ?_⟩
  · apply List.ext_getElem?
    intro i
    rcases Nat.lt_or_ge i m with hi | hi
    · obtain ⟨z, hz, _⟩ := each i hi
      simp [nums, hi, hz]
    · rw [List.getElem?_eq_none (by omega), List.getElem?_eq_none (by simp [nums]; omega)]
  · intro z hz
    simp only [List.mem_map, List.mem_range] at hz
    obtain ⟨i, hi, rfl⟩ := hz
    obtain ⟨z, hz, h0, h1⟩ := each i hi
    simp only [hz]; exact ⟨h0, h1⟩
/-- Every block inside is no greater than the reach. -/
def Wt (P : Program) (t : TypeId) (d : DataW H) : Prop := ∀ n ∈ d.weights P t, n ≤ 140737488351232
theorem wt_sized {ts : List TypeId} {ds : List (DataW H)} {j : Nat} {t : TypeId} {d : DataW H} (h : (DataW.weightsEach P ts ds).all (· ≤ reachBytes) = true) (ht : ts[j]? = some t) (hd : ds[j]? = some d) : Wt P t d := fun n hn => by
  have := List.all_eq_true.1 h n (DataW.weights_mem_each ht hd n hn)
  have := of_decide_eq_true this
  unfold reachBytes at this; omega
theorem Wt.field {t ty : TypeId} {fs : Array Field} {parts : List (DataW H)} {d : DataW H} (h : Wt P t (.agg parts)) (hs : P.underlying t = some (.struct fs)) {i : Nat} (hf : fs[i]?.map (·.type) = some ty) (hp : parts[i]? = some d) : Wt P ty d := fun n hn => by
  refine h n ?_
  rw [DataW.weights, hs]
  refine DataW.weights_mem_each (j := i) ?_ hp n hn
  rw [List.getElem?_map, Array.getElem?_toList]; exact hf
theorem mem_weightsAll {e : TypeId} {d : DataW H} : ∀ {l : List (DataW H)}, d ∈ l → ∀ n ∈ d.weights P e, n ∈ DataW.weightsAll P e l
  | x :: l, hd, n, hn => by
    rw [DataW.weightsAll, List.mem_append]
    rcases List.mem_cons.1 hd with rfl | hd
    · exact .inl hn
    · exact .inr (mem_weightsAll hd n hn)
theorem Wt.slice {t e : TypeId} {el sp : List (DataW H)} (h : Wt P t (.slice el sp)) (hs : P.underlying t = some (.slice e)) : (el.length + sp.length) * P.bytesOf e ≤ 140737488351232 ∧ ∀ d ∈ el, Wt P e d := by
  have h2 : ∀ n ∈ (el.length + sp.length) * P.bytesOf e :: (DataW.weightsAll P e el ++ DataW.weightsAll P e sp), n ≤ 140737488351232 := fun n hn => h n (by rw [DataW.weights, hs]; exact hn)
  exact ⟨h2 _ (by simp), fun d hd n hn => h2 n (by rw [List.mem_cons, List.mem_append]; exact .inr (.inl (mem_weightsAll hd n hn)))⟩
theorem Wt.string {t : TypeId} {b : List UInt8} (h : Wt P t (.lit (.string b) : DataW H)) : b.length ≤ 140737488351232 := h _ (by rw [DataW.weights]; simp)
/-- A struct's cells: every field's reading. -/
theorem read_fields {t : TypeId} {fs : Array Field} {n : Nat} {cs : List Value} {y : DataW H × List MemPlace} (hs : P.underlying t = some (.struct fs))
    (h : DataW.trod enc P W 0 (fun _ => true) true n t cs = some y) :
    cs.length = P.cellsOf t ∧ ∃ parts, y.1 = .agg parts ∧ ∀ (i : Nat) (ty : TypeId) (o : Nat), (fs[i]?.map fun f => (f.type, f.offset)) = some (ty, o) → ∃ n y, DataW.trod enc P W 0 (fun _ => true) true n ty ((cs.drop o).take (P.cellsOf ty)) = some y ∧ parts[i]? = some y.1 ∧ fs[i]?.map (·.type) = some ty := by
  obtain ⟨xs, n, _, rfl, hl, hlen, hfs⟩ := DataW.trod_struct hs h
  refine ⟨hl, _, rfl, fun i ty o hi => ?_⟩
  obtain ⟨f, hi2, he⟩ := Option.map_eq_some_iff.1 hi
  simp only [Prod.mk.injEq] at he
  obtain ⟨rfl, rfl⟩ := he
  have hlt : i < fs.size := by
    rcases Nat.lt_or_ge i fs.size with h | h
    · exact h
    · rw [Array.getElem?_eq_none h] at hi2; cases hi2
  refine ⟨n, xs[i]'(by omega), ?_, ?_, by rw [hi2]; rfl⟩
  · have := hfs i f hi2
    rwa [List.getElem?_eq_getElem (by omega)] at this
  · rw [List.getElem?_map, List.getElem?_eq_getElem (by omega)]; rfl
/-- A struct by value. -/
theorem open_fields {t : TypeId} {fs : Array Field} {v : Value} {d : DataW H} {ps : List MemPlace} (hs : P.underlying t = some (.struct fs))
    (hv : Value.okWide P W r base t v) (h : DataW.Trod enc P W 0 (fun _ => true) true t v d ps) :
    ∃ (cs : List Value) (parts : List (DataW H)), v = .agg cs.toArray ∧ cs.length = P.cellsOf t ∧ d = .agg parts ∧ ∀ (i : Nat) (ty : TypeId) (o : Nat), (fs[i]?.map fun f => (f.type, f.offset)) = some (ty, o) → ∃ n y, DataW.trod enc P W 0 (fun _ => true) true n ty ((cs.drop o).take (P.cellsOf ty)) = some y ∧ parts[i]? = some y.1 ∧ fs[i]?.map (·.type) = some ty := by
  obtain ⟨cs, rfl, hsz⟩ := okWide_struct hs hv
  obtain ⟨fuel, hq⟩ := h
  obtain ⟨h1, parts, h2, h3⟩ := read_fields hs hq
  exact ⟨cs.toList, parts, by simp, by simp [hsz], h2, h3⟩
end
end Go.Kit
