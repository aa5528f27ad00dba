/- Texts behind the law FrameWrites, part 4: contracts of the functions that it reaches; no condition of their own is left open in the row. -/
import Derived.RegionTactic
import Derived.Deep.RegionHeld3
import Derived.BigRegion
import Derived.Test.YtelfephmjkipoaaMgFrameWrites3
/-! The contract of the document's only. (mk_frza.py) -/
section
namespace Go.Kit
open Go.RowKit Go.Proofs.YtelfephmjkipoaaW.PrintWords
namespace Fr
theorem lim_splice (T : List Value) (hT : T.length = 32) (a b c d e x y z u v w : Value) (R : List Value) : ([a, b, c, d] ++ (T ++ ([e] ++ ([x, y, z] ++ R)))).take 37 ++ [u, v, w] ++ ([a, b, c, d] ++ (T ++ ([e] ++ ([x, y, z] ++ R)))).drop (37 + 3) = [a, b, c, d] ++ (T ++ ([e] ++ ([u, v, w] ++ R))) := by
  have h0 : ∀ l : List Value, [a, b, c, d] ++ (T ++ ([e] ++ l)) = ([a, b, c, d] ++ (T ++ [e])) ++ l := fun l => by simp
  have h1 : ([a, b, c, d] ++ (T ++ [e])).length = 37 := by simp; omega
  rw [h0, h0, List.take_append_of_le_length (by omega), List.take_of_length_le (by omega)]
  rw [show (37 + 3 : Nat) = ([a, b, c, d] ++ (T ++ [e])).length + 3 by rw [h1]]
  rw [List.drop_append]
  simp [h1]
end Fr
end Go.Kit
namespace Go.Proofs.Ytelfephmjkipoaa
open Go.RowKit Go.Kit Go.Proofs.YtelfephmjkipoaaW.PrintWords
theorem storeAt_part {P : Program} (W : World) (g o : Nat) (ty t : TypeId) (cells cur : Array Value) (hg : W.heap[g]? = some (.cells cur t (0, 0))) (hfit : o + cells.size ≤ cur.size) (hi : (P.info? ty).map (·.size) = some cells.size) (h1 : cells.all (·.oneCell') = true) :
    (Instr.storeAt ty (.pointer (some ⟨g, o, none⟩)) (.agg cells)).run P W = .ok () (W.setRow g (cur.toList.take o ++ cells.toList ++ cur.toList.drop (o + cells.size)).toArray) := by
  have hst := run_storeCells_at (P := P) g o t cells.toList 0 cur W hg (by simpa using hfit) (fun v hv => (Array.all_eq_true_iff_forall_mem.1 h1) v (by simpa using hv))
  simp only [Instr.storeAt, Instr.sureAddr, Sem.run_bind, Sem.run_pure, Result.andThen_ok]
  cases hq : P.info? ty with
  | none => simp [hq] at hi
  | some i =>
    have hs : cells.size = i.size := by simp [hq] at hi; omega
    simp only [Nat.add_zero] at hst
    simp [storeVar, sizeOf, typeInfo, hq, Value.cells, hs, hst]
theorem store_int (x : Int) (W : World) (a : Addr) (u : Value) (hc : W.cell? a = some u) (hf : W.frozen? a = false) : (Instr.storeAt 3 (.pointer (some a)) (.int .i64 x)).run Try.prog W = .ok () (W.setCell a (.int .i64 x)) := by go_simp
theorem store_u64 (x : Int) (W : World) (a : Addr) (u : Value) (hc : W.cell? a = some u) (hf : W.frozen? a = false) : (Instr.storeAt 22 (.pointer (some a)) (.int .u64 x)).run Try.prog W = .ok () (W.setCell a (.int .u64 x)) := by go_simp
theorem store_txts (A : Option Addr) (n c : Nat) (W : World) (a : Addr) (u : Value) (hc : W.cell? a = some u) (hf : W.frozen? a = false) : (Instr.storeAt 27 (.pointer (some a)) (.slice A n c)).run Try.prog W = .ok () (W.setCell a (.slice A n c)) := by go_simp
theorem store_str (s : ByteArray) (W : World) (a : Addr) (u : Value) (hc : W.cell? a = some u) (hf : W.frozen? a = false) : (Instr.storeAt 9 (.pointer (some a)) (.string s)).run Try.prog W = .ok () (W.setCell a (.string s)) := by go_simp
theorem store_tool {W : World} {g : Nat} {f : Fr} (h : f.at_ 29 W g) (ts : List Int) (hl : ts.length = 32) : ∃ W' : World, (Instr.storeAt 24 (.pointer (some ⟨g, 4, none⟩)) (.agg (nums .u8 ts).toArray)).run Try.prog W = .ok () W' ∧ ({ f with tool := ts } : Fr).at_ 29 W' g ∧ Only W W' (fun k => k = g) := by
  have h2 : (nums .u8 ts).toArray.size = 32 := by simp [nums, hl]
  refine ⟨_, storeAt_part W g 4 24 29 _ f.arr h.blk (by rw [h2, Fr.arr_size f h.tool]; omega) ?_ ?_, ?_, Fr.only_row _ _ _⟩
  · rw [h2]; kernel_rfl
  · exact all_oneCell_toArray (nums_one _ _)
  · have := h.tooled ts hl
    simpa [List.append_assoc] using this
theorem store_lim {W : World} {g : Nat} {f : Fr} (h : f.at_ 29 W g) (k : Fr) : ∃ W' : World, (Instr.storeAt 26 (.pointer (some ⟨g, 37, none⟩)) (.agg k.lim.toArray)).run Try.prog W = .ok () W' ∧ ({ f with mo := k.mo, fu := k.fu, di := k.di } : Fr).at_ 29 W' g ∧ Only W W' (fun k => k = g) := by
  refine ⟨_, storeAt_part W g 37 26 29 _ f.arr h.blk (by rw [Fr.arr_size f h.tool]; show 37 + 3 ≤ 42; omega) (by show _ = some 3; kernel_rfl) (by simp [Fr.lim, Value.oneCell']), ?_, Fr.only_row _ _ _⟩
  refine ⟨?_, h.tool⟩
  rw [setRow_heap W g _ _ _ _ h.blk]
  exact congrArg (fun l : List Value => some (Obj.cells l.toArray 29 (0, 0))) (Fr.lim_splice (nums .u8 f.tool) (Fr.len32 h) _ _ _ _ _ _ _ _ _ _ _ _)
theorem kF_built (k : Int) (W : World) : (Instr.build 29 #[(0, .int .i64 k)]).run Try.prog W = .ok (.agg (kF k).arr) W := built_of (by show _ = _; kernel_rfl)
theorem load_u64 {W : World} {a : Addr} {v : Value} (h : W.cell? a = some v) : (Instr.loadAt 22 (.pointer (some a))).run Try.prog W = .ok v W := by go_simp
theorem load_txts {W : World} {a : Addr} {v : Value} (h : W.cell? a = some v) : (Instr.loadAt 27 (.pointer (some a))).run Try.prog W = .ok v W := by go_simp
theorem own_tool {f : Fr} (hf : f.tool.length = 32) : (ownG f).tool.length = 32 := by
  unfold ownG onlyG
  dsimp only
  split
  · exact hf
  split
  · rfl
  split
  · rfl
  split
  · rfl
  split <;> rfl
theorem own_is1 {f : Fr} (h : f.k = 1) : ({ kF f.k with v := f.v, s := f.s, tool := f.tool } : Fr) = ownG f := by unfold ownG onlyG; simp [h, only1, kF]
theorem own_is2 {f : Fr} (h : f.k = 2) : ({ kF f.k with id := f.id, mo := f.mo, fu := f.fu, di := f.di, A := f.A, n := f.n, c := f.c, args := f.args, body := f.body } : Fr) = ownG f := by unfold ownG onlyG; simp [h, only2, kF]
theorem own_is3 {f : Fr} (h : f.k = 3) : ({ kF f.k with id := f.id, st := f.st, body := f.body } : Fr) = ownG f := by unfold ownG onlyG; simp [h, only3, kF]
theorem own_is4 {f : Fr} (h : f.k = 4) : ({ kF f.k with id := f.id } : Fr) = ownG f := by unfold ownG onlyG; simp [h, only4, kF]
theorem own_is6 {f : Fr} (h : f.k = 6) : ({ kF f.k with body := f.body } : Fr) = ownG f := by unfold ownG onlyG; simp [h, only6, kF]
theorem own_is5 {f : Fr} (h : f.k ≠ 1 ∧ f.k ≠ 2 ∧ f.k ≠ 3 ∧ f.k ≠ 4 ∧ f.k ≠ 6) (h5 : f.k = 5) : kF f.k = ownG f := by unfold ownG onlyG; simp [h5, kF, noF]
/-- The document's frame that is being filled in, beside the one that is read. -/
structure Two (w W : World) (g g2 g3 : Nat) (f h : Fr) : Prop where
  bel : Below w.heap.size w W
  f : f.at_ 29 W g
  h : h.at_ 29 W g3
  z : ∃ Z : Array Value, Z.size = 42 ∧ W.heap[g2]? = some (.cells Z 29 (0, 0))
  n1 : ¬ g = g3
  n2 : ¬ g2 = g3
  base : w.heap.size ≤ g3
theorem Two.drew {w W : World} {g g2 g3 : Nat} {f h : Fr} (t : Two w W g g2 g3 f h) : Two w W.drew g g2 g3 f h := by
  have hb : Below W.heap.size W W.drew := below_drew (Below.refl _ _)
  obtain ⟨Z, hz, hk⟩ := t.z
  exact ⟨below_step t.bel hb, t.f.below hb, t.h.below hb, ⟨Z, hz, (hb.block _ (lt_of_block hk)).trans hk⟩, t.n1, t.n2, t.base⟩
theorem Two.step {w W W1 : World} {g g2 g3 : Nat} {f h h1 : Fr} (t : Two w W g g2 g3 f h) (ho : Only W W1 (fun k => k = g3)) (hh : h1.at_ 29 W1 g3) : Two w W1 g g2 g3 f h1 := by
  obtain ⟨Z, hz, hk⟩ := t.z
  exact ⟨Below.only t.bel ho t.bel.size (fun k e => by rw [e]; exact t.base), t.f.only ho t.n1, hh, ⟨Z, hz, ho.kept hk t.n2⟩, t.n1, t.n2, t.base⟩
attribute [-go_sem] Instr.build Instr.loadAt Instr.storeAt
set_option maxHeartbeats 8000000 in
set_option maxRecDepth 100000 in
theorem ronly_any (f : Fr) (hf : f.tool.length = 32) (hk5 : f.k ≠ 1 → f.k ≠ 2 → f.k ≠ 3 → f.k ≠ 4 → f.k ≠ 6 → f.k = 5) (w : World) : Calls Try.prog 51 #[f.val] w fun e w' => e = .returned (.agg (ownG f).arr) ∧ Below w.heap.size w w' := by
  have hszK := size_of (kF f.k) rfl
  have honeK := arr_one (kF f.k)
  have hasK := Fr.arr_size (kF f.k) rfl
  have hbl := kF_built f.k
  have hb := below_alloc (Below.refl w.heap.size w) (.cells f.arr 29)
  have hF := boxed hf w
  show Calls Try.prog _ #[.agg f.arr] w _
  go_enter Try.func51, Try.ntmps51
  go_upto_region 1 with (fail)
  have hbz := below_alloc hb (.cells #[.int .i64 0, .int .u64 0, .int .i64 0, .int .i64 0, .int .u8 0, .int .u8 0, .int .u8 0, .int .u8 0, .int .u8 0, .int .u8 0, .int .u8 0, .int .u8 0, .int .u8 0, .int .u8 0, .int .u8 0, .int .u8 0, .int .u8 0, .int .u8 0, .int .u8 0, .int .u8 0, .int .u8 0, .int .u8 0, .int .u8 0, .int .u8 0, .int .u8 0, .int .u8 0, .int .u8 0, .int .u8 0, .int .u8 0, .int .u8 0, .int .u8 0, .int .u8 0, .int .u8 0, .int .u8 0, .int .u8 0, .int .u8 0, .int .i64 0, .int .i64 0, .int .i64 0, .int .i64 0, .slice none 0 0, .string ⟨#[]⟩] 29)
  have hblz : ((w.alloc (.cells f.arr 29)).alloc (.cells #[.int .i64 0, .int .u64 0, .int .i64 0, .int .i64 0, .int .u8 0, .int .u8 0, .int .u8 0, .int .u8 0, .int .u8 0, .int .u8 0, .int .u8 0, .int .u8 0, .int .u8 0, .int .u8 0, .int .u8 0, .int .u8 0, .int .u8 0, .int .u8 0, .int .u8 0, .int .u8 0, .int .u8 0, .int .u8 0, .int .u8 0, .int .u8 0, .int .u8 0, .int .u8 0, .int .u8 0, .int .u8 0, .int .u8 0, .int .u8 0, .int .u8 0, .int .u8 0, .int .u8 0, .int .u8 0, .int .u8 0, .int .u8 0, .int .i64 0, .int .i64 0, .int .i64 0, .int .i64 0, .slice none 0 0, .string ⟨#[]⟩] 29)).heap[w.heap.size + 1]? = some (.cells #[.int .i64 0, .int .u64 0, .int .i64 0, .int .i64 0, .int .u8 0, .int .u8 0, .int .u8 0, .int .u8 0, .int .u8 0, .int .u8 0, .int .u8 0, .int .u8 0, .int .u8 0, .int .u8 0, .int .u8 0, .int .u8 0, .int .u8 0, .int .u8 0, .int .u8 0, .int .u8 0, .int .u8 0, .int .u8 0, .int .u8 0, .int .u8 0, .int .u8 0, .int .u8 0, .int .u8 0, .int .u8 0, .int .u8 0, .int .u8 0, .int .u8 0, .int .u8 0, .int .u8 0, .int .u8 0, .int .u8 0, .int .u8 0, .int .i64 0, .int .i64 0, .int .i64 0, .int .i64 0, .slice none 0 0, .string ⟨#[]⟩] 29 (0, 0)) := heap_alloc2_new w _ _
  have hF2 := hF.below (below_alloc (Below.refl _ _) (.cells #[.int .i64 0, .int .u64 0, .int .i64 0, .int .i64 0, .int .u8 0, .int .u8 0, .int .u8 0, .int .u8 0, .int .u8 0, .int .u8 0, .int .u8 0, .int .u8 0, .int .u8 0, .int .u8 0, .int .u8 0, .int .u8 0, .int .u8 0, .int .u8 0, .int .u8 0, .int .u8 0, .int .u8 0, .int .u8 0, .int .u8 0, .int .u8 0, .int .u8 0, .int .u8 0, .int .u8 0, .int .u8 0, .int .u8 0, .int .u8 0, .int .u8 0, .int .u8 0, .int .u8 0, .int .u8 0, .int .u8 0, .int .u8 0, .int .i64 0, .int .i64 0, .int .i64 0, .int .i64 0, .slice none 0 0, .string ⟨#[]⟩] 29))
  clear hb hF
  generalize (w.alloc (.cells f.arr 29)).alloc (.cells #[.int .i64 0, .int .u64 0, .int .i64 0, .int .i64 0, .int .u8 0, .int .u8 0, .int .u8 0, .int .u8 0, .int .u8 0, .int .u8 0, .int .u8 0, .int .u8 0, .int .u8 0, .int .u8 0, .int .u8 0, .int .u8 0, .int .u8 0, .int .u8 0, .int .u8 0, .int .u8 0, .int .u8 0, .int .u8 0, .int .u8 0, .int .u8 0, .int .u8 0, .int .u8 0, .int .u8 0, .int .u8 0, .int .u8 0, .int .u8 0, .int .u8 0, .int .u8 0, .int .u8 0, .int .u8 0, .int .u8 0, .int .u8 0, .int .i64 0, .int .i64 0, .int .i64 0, .int .i64 0, .slice none 0 0, .string ⟨#[]⟩] 29) = w1 at *
  obtain ⟨g2, hg2⟩ : ∃ g2, w.heap.size + 1 = g2 := ⟨_, rfl⟩
  have hg2b : w.heap.size ≤ g2 := by omega
  obtain ⟨g, hg⟩ : ∃ g, w.heap.size = g := ⟨_, rfl⟩
  rw [hg2] at hblz ⊢
  rw [hg] at hF2 ⊢
  clear hg hg2
  have hbz3 := below_alloc (Below.refl w1.heap.size w1) (.cells #[.int .i64 0, .int .u64 0, .int .i64 0, .int .i64 0, .int .u8 0, .int .u8 0, .int .u8 0, .int .u8 0, .int .u8 0, .int .u8 0, .int .u8 0, .int .u8 0, .int .u8 0, .int .u8 0, .int .u8 0, .int .u8 0, .int .u8 0, .int .u8 0, .int .u8 0, .int .u8 0, .int .u8 0, .int .u8 0, .int .u8 0, .int .u8 0, .int .u8 0, .int .u8 0, .int .u8 0, .int .u8 0, .int .u8 0, .int .u8 0, .int .u8 0, .int .u8 0, .int .u8 0, .int .u8 0, .int .u8 0, .int .u8 0, .int .i64 0, .int .i64 0, .int .i64 0, .int .i64 0, .slice none 0 0, .string ⟨#[]⟩] 29)
  have hblk := heap_alloc_new w1 (.cells #[.int .i64 0, .int .u64 0, .int .i64 0, .int .i64 0, .int .u8 0, .int .u8 0, .int .u8 0, .int .u8 0, .int .u8 0, .int .u8 0, .int .u8 0, .int .u8 0, .int .u8 0, .int .u8 0, .int .u8 0, .int .u8 0, .int .u8 0, .int .u8 0, .int .u8 0, .int .u8 0, .int .u8 0, .int .u8 0, .int .u8 0, .int .u8 0, .int .u8 0, .int .u8 0, .int .u8 0, .int .u8 0, .int .u8 0, .int .u8 0, .int .u8 0, .int .u8 0, .int .u8 0, .int .u8 0, .int .u8 0, .int .u8 0, .int .i64 0, .int .i64 0, .int .i64 0, .int .i64 0, .slice none 0 0, .string ⟨#[]⟩] 29)
  have h42 : (#[.int .i64 0, .int .u64 0, .int .i64 0, .int .i64 0, .int .u8 0, .int .u8 0, .int .u8 0, .int .u8 0, .int .u8 0, .int .u8 0, .int .u8 0, .int .u8 0, .int .u8 0, .int .u8 0, .int .u8 0, .int .u8 0, .int .u8 0, .int .u8 0, .int .u8 0, .int .u8 0, .int .u8 0, .int .u8 0, .int .u8 0, .int .u8 0, .int .u8 0, .int .u8 0, .int .u8 0, .int .u8 0, .int .u8 0, .int .u8 0, .int .u8 0, .int .u8 0, .int .u8 0, .int .u8 0, .int .u8 0, .int .u8 0, .int .i64 0, .int .i64 0, .int .i64 0, .int .i64 0, .slice none 0 0, .string ⟨#[]⟩] : Array Value).size = (kF f.k).arr.size := by rw [hasK]; rfl
  have e0 := load_int hF2.c0
  go_upto_region 2 with ((with_reducible show wpList _ _ _ (Oper.mk none _ _ _ _ _ :: _) _ _); refine wpList_store_row rfl 29 (.tmp 3) (.tmp 6) rfl w1.heap.size (kF f.k).arr rfl rfl 29 _ hblk hszK h42 honeK ?_)
  have hge := hbz.size
  have hF3 := (hF2.below hbz3).only (Fr.only_row _ w1.heap.size (kF f.k).arr) (fun e => by have := hF2.lt; omega)
  have hZ3 := (Fr.only_row _ w1.heap.size (kF f.k).arr).kept ((hbz3.block _ (lt_of_block hblz)).trans hblz) (fun e => by have := lt_of_block hblz; omega)
  have hK3 : (kF f.k).at_ 29 _ w1.heap.size := ⟨setRow_heap _ w1.heap.size _ (kF f.k).arr _ _ hblk, rfl⟩
  have hb3 := below_setRow (below_step hbz hbz3) hge (kF f.k).arr
  have hn1 : ¬ g = w1.heap.size := fun e => by have := hF2.lt; omega
  have hn2 : ¬ g2 = w1.heap.size := fun e => by have := lt_of_block hblz; omega
  clear hbz hbz3 hblk h42 e0 hF2 hblz hszK honeK hasK hbl
  generalize (w1.alloc (.cells #[.int .i64 0, .int .u64 0, .int .i64 0, .int .i64 0, .int .u8 0, .int .u8 0, .int .u8 0, .int .u8 0, .int .u8 0, .int .u8 0, .int .u8 0, .int .u8 0, .int .u8 0, .int .u8 0, .int .u8 0, .int .u8 0, .int .u8 0, .int .u8 0, .int .u8 0, .int .u8 0, .int .u8 0, .int .u8 0, .int .u8 0, .int .u8 0, .int .u8 0, .int .u8 0, .int .u8 0, .int .u8 0, .int .u8 0, .int .u8 0, .int .u8 0, .int .u8 0, .int .u8 0, .int .u8 0, .int .u8 0, .int .u8 0, .int .i64 0, .int .i64 0, .int .i64 0, .int .i64 0, .slice none 0 0, .string ⟨#[]⟩] 29)).setRow w1.heap.size (kF f.k).arr = w3 at *
  generalize w1.heap.size = g3 at *
  have T : Two w w3 g g2 g3 f (kF f.k) := ⟨hb3, hF3, hK3, ⟨_, rfl, hZ3⟩, hn1, hn2, hge⟩
  clear hb3 hF3 hK3 hZ3 hn1 hn2 hge
  have e0 := load_int T.f.c0
  have hif : (Try.prog.info? 29).map (·.size) = some (ownG f).cells.length := by
    rw [frame_size]
    have hO : (ownG f).tool.length = 32 := own_tool hf
    have := Fr.arr_size (ownG f) hO; simp [Fr.arr] at this; rw [this]
  have hszO := size_of (ownG f) (own_tool hf)
  have honeO := arr_one (ownG f)
  have hasO := Fr.arr_size (ownG f) (own_tool hf)
  by_cases k1 : f.k = 1
  · have b1 : (f.k == 1) = true := by rw [beq_iff_eq]; exact k1
    have S0 := T.drew.f
    have l1 : ∀ W, f.at_ 29 W g → (Instr.loadAt 3 (.pointer (some ⟨g, 2, none⟩))).run Try.prog W = .ok (.int .i64 f.v) W := fun W h => load_int h.c2
    have l2 : ∀ W, f.at_ 29 W g → (Instr.loadAt 3 (.pointer (some ⟨g, 3, none⟩))).run Try.prog W = .ok (.int .i64 f.s) W := fun W h => load_int h.c3
    have l3 : ∀ W, f.at_ 29 W g → (Instr.loadAt 24 (.pointer (some ⟨g, 4, none⟩))).run Try.prog W = .ok (.agg (nums .u8 f.tool).toArray) W := fun W h => tool_at h
    have s1 := store_int f.v
    have q1 := T.h.c2
    have f1 := T.h.fz 2
    have T1 := T.step (Fr.only_at _ g3 2 (.int .i64 f.v)) (T.h.set2 f.v)
    have ST1 := T1.drew.f
    have ST1x := T1.f
    have s2 := store_int f.s
    have q2 := T1.h.c3
    have f2 := T1.h.fz 3
    have T2 := T1.step (Fr.only_at _ g3 3 (.int .i64 f.s)) (T1.h.set3 f.s)
    have ST2 := T2.drew.f
    have ST2x := T2.f
    have T3d := T2.drew
    have ST3d := T3d.f
    obtain ⟨W3, hst3, hA3, ho3⟩ := store_tool T3d.h f.tool hf
    have T3 := T3d.step ho3 hA3
    have ST3 := T3.drew.f
    have ST3x := T3.f
    have HE : Hid (_ = ownG f) := Lib.hid (own_is1 k1)
    have hl := load_frame (ownG f) hif _ g3 (HE.out ▸ T3.h)
    obtain ⟨Z, hZ, hblk⟩ := T3.z
    have hbel := T3.bel
    have hZs : Z.size = (ownG f).arr.size := by rw [hZ, hasO]
    clear hif HE hf T
    go_upto_region 4 with (fail)
    refine wp_region_held_drew (S := fun W => f.at_ 29 W g) (by kernel_rfl) (S0) (fun hHeld => ?_)
    refine wpAnyH_take (i := 0) (v := (.pointer (some ⟨g, 2, none⟩))) (oi := ⟨_, _, _, _, _, _⟩) rfl (by kernel_rfl) (by kernel_rfl) (by kernel_rfl) (fun _ _ _ h => h) (Or.inl ⟨by kernel_rfl, fun W hS => ?_⟩) (by assumption) ?_
    · dsimp only at hS; go_split_ands; go_simp
    simp only [Act.put, List.setIfInBounds_toArray, List.set_cons_zero, List.set_cons_succ]
    refine wpAnyH_take (i := 1) (v := (.int .i64 f.v)) (oi := ⟨_, _, _, _, _, _⟩) rfl (by kernel_rfl) (by kernel_rfl) (by kernel_rfl) (fun _ _ _ h => h) (Or.inl ⟨by kernel_rfl, fun W hS => ?_⟩) (by assumption) ?_
    · dsimp only at hS; go_split_ands; go_simp
    simp only [Act.put, List.setIfInBounds_toArray, List.set_cons_zero, List.set_cons_succ]
    refine wpAnyH_take (i := 2) (v := (.pointer (some ⟨g, 3, none⟩))) (oi := ⟨_, _, _, _, _, _⟩) rfl (by kernel_rfl) (by kernel_rfl) (by kernel_rfl) (fun _ _ _ h => h) (Or.inl ⟨by kernel_rfl, fun W hS => ?_⟩) (by assumption) ?_
    · dsimp only at hS; go_split_ands; go_simp
    simp only [Act.put, List.setIfInBounds_toArray, List.set_cons_zero, List.set_cons_succ]
    refine wpAnyH_take (i := 3) (v := (.int .i64 f.s)) (oi := ⟨_, _, _, _, _, _⟩) rfl (by kernel_rfl) (by kernel_rfl) (by kernel_rfl) (fun _ _ _ h => h) (Or.inl ⟨by kernel_rfl, fun W hS => ?_⟩) (by assumption) ?_
    · dsimp only at hS; go_split_ands; go_simp
    simp only [Act.put, List.setIfInBounds_toArray, List.set_cons_zero, List.set_cons_succ]
    refine wpAnyH_take (i := 4) (v := (.pointer (some ⟨g, 4, none⟩))) (oi := ⟨_, _, _, _, _, _⟩) rfl (by kernel_rfl) (by kernel_rfl) (by kernel_rfl) (fun _ _ _ h => h) (Or.inl ⟨by kernel_rfl, fun W hS => ?_⟩) (by assumption) ?_
    · dsimp only at hS; go_split_ands; go_simp
    simp only [Act.put, List.setIfInBounds_toArray, List.set_cons_zero, List.set_cons_succ]
    refine wpAnyH_take (i := 5) (v := (.agg (nums .u8 f.tool).toArray)) (oi := ⟨_, _, _, _, _, _⟩) rfl (by kernel_rfl) (by kernel_rfl) (by kernel_rfl) (fun _ _ _ h => h) (Or.inl ⟨by kernel_rfl, fun W hS => ?_⟩) (by assumption) ?_
    · dsimp only at hS; go_split_ands; go_simp
    simp only [Act.put, List.setIfInBounds_toArray, List.set_cons_zero, List.set_cons_succ]
    refine wpAnyH_take (i := 6) (v := (.pointer (some ⟨g3, 2, none⟩))) (oi := ⟨_, _, _, _, _, _⟩) rfl (by kernel_rfl) (by kernel_rfl) (by kernel_rfl) (fun _ _ _ h => h) (Or.inl ⟨by kernel_rfl, fun W hS => ?_⟩) (by assumption) ?_
    · dsimp only at hS; go_split_ands; go_simp
    simp only [Act.put, List.setIfInBounds_toArray, List.set_cons_zero, List.set_cons_succ]
    refine wpAnyH_ready (rs := [7]) (by kernel_rfl) (by decide) (AllReadyH.cons (o := ⟨_, _, _, _, _, _⟩) rfl (fun K hK => ?_) AllReadyH.nil)
    rw [if_pos (by kernel_rfl)]
    go_simp
    refine hK.out _ _ (ST1) (fun hHeld => ?_)
    clear hK K
    try simp only [Act.put, List.setIfInBounds_toArray, List.set_cons_zero, List.set_cons_succ]
    refine wpAnyH_take (i := 8) (v := (.pointer (some ⟨g3, 3, none⟩))) (oi := ⟨_, _, _, _, _, _⟩) rfl (by kernel_rfl) (by kernel_rfl) (by kernel_rfl) (fun _ _ _ h => h) (Or.inl ⟨by kernel_rfl, fun W hS => ?_⟩) (by assumption) ?_
    · dsimp only at hS; go_split_ands; go_simp
    simp only [Act.put, List.setIfInBounds_toArray, List.set_cons_zero, List.set_cons_succ]
    refine wpAnyH_ready (rs := [9]) (by kernel_rfl) (by decide) (AllReadyH.cons (o := ⟨_, _, _, _, _, _⟩) rfl (fun K hK => ?_) AllReadyH.nil)
    rw [if_pos (by kernel_rfl)]
    go_simp
    refine hK.out _ _ (ST2) (fun hHeld => ?_)
    clear hK K
    try simp only [Act.put, List.setIfInBounds_toArray, List.set_cons_zero, List.set_cons_succ]
    refine wpAnyH_take (i := 10) (v := (.pointer (some ⟨g3, 4, none⟩))) (oi := ⟨_, _, _, _, _, _⟩) rfl (by kernel_rfl) (by kernel_rfl) (by kernel_rfl) (fun _ _ _ h => h) (Or.inl ⟨by kernel_rfl, fun W hS => ?_⟩) (by assumption) ?_
    · dsimp only at hS; go_split_ands; go_simp
    simp only [Act.put, List.setIfInBounds_toArray, List.set_cons_zero, List.set_cons_succ]
    refine wpAnyH_ready (rs := [11]) (by kernel_rfl) (by decide) (AllReadyH.cons (o := ⟨_, _, _, _, _, _⟩) rfl (fun K hK => ?_) AllReadyH.nil)
    rw [if_pos (by kernel_rfl)]
    go_simp
    refine hK.out _ _ (ST3x) (fun hHeld => ?_)
    clear hK K
    try simp only [Act.put, List.setIfInBounds_toArray, List.set_cons_zero, List.set_cons_succ]
    refine wpAnyH_done (by kernel_rfl) ?_ _
    try simp only [Act.put, List.setIfInBounds_toArray, List.set_cons_zero, List.set_cons_succ]
    go_wp2_with ((with_reducible show wpList _ _ _ (Oper.mk none _ _ _ _ _ :: _) _ _); refine wpList_store_row rfl 29 (.tmp 2) (.tmp 55) rfl g2 (ownG f).arr rfl rfl 29 Z hblk hszO hZs honeO ?_)
    exact bodyPost_ret (v := .agg (ownG f).arr) (results_cell_row rfl _ _ g2 29 (ownG f).arr (0, 0) _ rfl (setRow_heap _ _ _ _ _ _ hblk) Try.underlying29 rfl hszO) rfl ⟨rfl, below_setRow hbel hg2b _⟩
  have b1 : (f.k == 1) = false := by rw [beq_eq_false_iff_ne]; exact k1
  by_cases k2 : f.k = 2
  · have b2 : (f.k == 2) = true := by rw [beq_iff_eq]; exact k2
    have S0 := T.drew.f
    have l1 : ∀ W, f.at_ 29 W g → (Instr.loadAt 22 (.pointer (some ⟨g, 1, none⟩))).run Try.prog W = .ok (.int .u64 f.id) W := fun W h => load_u64 h.c1
    have l2 : ∀ W, f.at_ 29 W g → (Instr.loadAt 26 (.pointer (some ⟨g, 37, none⟩))).run Try.prog W = .ok (.agg f.lim.toArray) W := fun W h => lim_at h
    have l3 : ∀ W, f.at_ 29 W g → (Instr.loadAt 27 (.pointer (some ⟨g, 40, none⟩))).run Try.prog W = .ok (.slice f.A f.n f.c) W := fun W h => load_txts h.c40
    have l4 : ∀ W, f.at_ 29 W g → (Instr.loadAt 9 (.pointer (some ⟨g, 41, none⟩))).run Try.prog W = .ok (.string f.body) W := fun W h => load_str h.c41
    have s1 := store_u64 f.id
    have q1 := T.h.c1
    have f1 := T.h.fz 1
    have T1 := T.step (Fr.only_at _ g3 1 (.int .u64 f.id)) (T.h.set1 f.id)
    have ST1 := T1.drew.f
    have ST1x := T1.f
    have T2d := T1.drew
    have ST2d := T2d.f
    obtain ⟨W2, hst2, hA2, ho2⟩ := store_lim T2d.h f
    have T2 := T2d.step ho2 hA2
    have ST2 := T2.drew.f
    have ST2x := T2.f
    have s3 := store_txts f.A f.n f.c
    have q3 := T2.h.c40
    have f3 := T2.h.fz 40
    have T3 := T2.step (Fr.only_at _ g3 40 (.slice f.A f.n f.c)) (T2.h.set40 f.A f.n f.c f.args)
    have ST3 := T3.drew.f
    have ST3x := T3.f
    have s4 := store_str f.body
    have q4 := T3.h.c41
    have f4 := T3.h.fz 41
    have T4 := T3.step (Fr.only_at _ g3 41 (.string f.body)) (T3.h.set41 f.body)
    have ST4 := T4.drew.f
    have ST4x := T4.f
    have HE : Hid (_ = ownG f) := Lib.hid (own_is2 k2)
    have hl := load_frame (ownG f) hif _ g3 (HE.out ▸ T4.h)
    obtain ⟨Z, hZ, hblk⟩ := T4.z
    have hbel := T4.bel
    have hZs : Z.size = (ownG f).arr.size := by rw [hZ, hasO]
    clear hif HE hf T
    go_upto_region 6 with (fail)
    refine wp_region_held_drew (S := fun W => f.at_ 29 W g) (by kernel_rfl) (S0) (fun hHeld => ?_)
    refine wpAnyH_take (i := 0) (v := (.pointer (some ⟨g, 1, none⟩))) (oi := ⟨_, _, _, _, _, _⟩) rfl (by kernel_rfl) (by kernel_rfl) (by kernel_rfl) (fun _ _ _ h => h) (Or.inl ⟨by kernel_rfl, fun W hS => ?_⟩) (by assumption) ?_
    · dsimp only at hS; go_split_ands; go_simp
    simp only [Act.put, List.setIfInBounds_toArray, List.set_cons_zero, List.set_cons_succ]
    refine wpAnyH_take (i := 1) (v := (.int .u64 f.id)) (oi := ⟨_, _, _, _, _, _⟩) rfl (by kernel_rfl) (by kernel_rfl) (by kernel_rfl) (fun _ _ _ h => h) (Or.inl ⟨by kernel_rfl, fun W hS => ?_⟩) (by assumption) ?_
    · dsimp only at hS; go_split_ands; go_simp
    simp only [Act.put, List.setIfInBounds_toArray, List.set_cons_zero, List.set_cons_succ]
    refine wpAnyH_take (i := 2) (v := (.pointer (some ⟨g, 37, none⟩))) (oi := ⟨_, _, _, _, _, _⟩) rfl (by kernel_rfl) (by kernel_rfl) (by kernel_rfl) (fun _ _ _ h => h) (Or.inl ⟨by kernel_rfl, fun W hS => ?_⟩) (by assumption) ?_
    · dsimp only at hS; go_split_ands; go_simp
    simp only [Act.put, List.setIfInBounds_toArray, List.set_cons_zero, List.set_cons_succ]
    refine wpAnyH_take (i := 3) (v := (.agg f.lim.toArray)) (oi := ⟨_, _, _, _, _, _⟩) rfl (by kernel_rfl) (by kernel_rfl) (by kernel_rfl) (fun _ _ _ h => h) (Or.inl ⟨by kernel_rfl, fun W hS => ?_⟩) (by assumption) ?_
    · dsimp only at hS; go_split_ands; go_simp
    simp only [Act.put, List.setIfInBounds_toArray, List.set_cons_zero, List.set_cons_succ]
    refine wpAnyH_take (i := 4) (v := (.pointer (some ⟨g, 40, none⟩))) (oi := ⟨_, _, _, _, _, _⟩) rfl (by kernel_rfl) (by kernel_rfl) (by kernel_rfl) (fun _ _ _ h => h) (Or.inl ⟨by kernel_rfl, fun W hS => ?_⟩) (by assumption) ?_
    · dsimp only at hS; go_split_ands; go_simp
    simp only [Act.put, List.setIfInBounds_toArray, List.set_cons_zero, List.set_cons_succ]
    refine wpAnyH_take (i := 5) (v := (.slice f.A f.n f.c)) (oi := ⟨_, _, _, _, _, _⟩) rfl (by kernel_rfl) (by kernel_rfl) (by kernel_rfl) (fun _ _ _ h => h) (Or.inl ⟨by kernel_rfl, fun W hS => ?_⟩) (by assumption) ?_
    · dsimp only at hS; go_split_ands; go_simp
    simp only [Act.put, List.setIfInBounds_toArray, List.set_cons_zero, List.set_cons_succ]
    refine wpAnyH_take (i := 6) (v := (.pointer (some ⟨g, 41, none⟩))) (oi := ⟨_, _, _, _, _, _⟩) rfl (by kernel_rfl) (by kernel_rfl) (by kernel_rfl) (fun _ _ _ h => h) (Or.inl ⟨by kernel_rfl, fun W hS => ?_⟩) (by assumption) ?_
    · dsimp only at hS; go_split_ands; go_simp
    simp only [Act.put, List.setIfInBounds_toArray, List.set_cons_zero, List.set_cons_succ]
    refine wpAnyH_take (i := 7) (v := (.string f.body)) (oi := ⟨_, _, _, _, _, _⟩) rfl (by kernel_rfl) (by kernel_rfl) (by kernel_rfl) (fun _ _ _ h => h) (Or.inl ⟨by kernel_rfl, fun W hS => ?_⟩) (by assumption) ?_
    · dsimp only at hS; go_split_ands; go_simp
    simp only [Act.put, List.setIfInBounds_toArray, List.set_cons_zero, List.set_cons_succ]
    refine wpAnyH_take (i := 8) (v := (.pointer (some ⟨g3, 1, none⟩))) (oi := ⟨_, _, _, _, _, _⟩) rfl (by kernel_rfl) (by kernel_rfl) (by kernel_rfl) (fun _ _ _ h => h) (Or.inl ⟨by kernel_rfl, fun W hS => ?_⟩) (by assumption) ?_
    · dsimp only at hS; go_split_ands; go_simp
    simp only [Act.put, List.setIfInBounds_toArray, List.set_cons_zero, List.set_cons_succ]
    refine wpAnyH_ready (rs := [9]) (by kernel_rfl) (by decide) (AllReadyH.cons (o := ⟨_, _, _, _, _, _⟩) rfl (fun K hK => ?_) AllReadyH.nil)
    rw [if_pos (by kernel_rfl)]
    go_simp
    refine hK.out _ _ (ST1) (fun hHeld => ?_)
    clear hK K
    try simp only [Act.put, List.setIfInBounds_toArray, List.set_cons_zero, List.set_cons_succ]
    refine wpAnyH_take (i := 10) (v := (.pointer (some ⟨g3, 37, none⟩))) (oi := ⟨_, _, _, _, _, _⟩) rfl (by kernel_rfl) (by kernel_rfl) (by kernel_rfl) (fun _ _ _ h => h) (Or.inl ⟨by kernel_rfl, fun W hS => ?_⟩) (by assumption) ?_
    · dsimp only at hS; go_split_ands; go_simp
    simp only [Act.put, List.setIfInBounds_toArray, List.set_cons_zero, List.set_cons_succ]
    refine wpAnyH_ready (rs := [11]) (by kernel_rfl) (by decide) (AllReadyH.cons (o := ⟨_, _, _, _, _, _⟩) rfl (fun K hK => ?_) AllReadyH.nil)
    rw [if_pos (by kernel_rfl)]
    go_simp
    refine hK.out _ _ (ST2x) (fun hHeld => ?_)
    clear hK K
    try simp only [Act.put, List.setIfInBounds_toArray, List.set_cons_zero, List.set_cons_succ]
    refine wpAnyH_take (i := 12) (v := (.pointer (some ⟨g3, 40, none⟩))) (oi := ⟨_, _, _, _, _, _⟩) rfl (by kernel_rfl) (by kernel_rfl) (by kernel_rfl) (fun _ _ _ h => h) (Or.inl ⟨by kernel_rfl, fun W hS => ?_⟩) (by assumption) ?_
    · dsimp only at hS; go_split_ands; go_simp
    simp only [Act.put, List.setIfInBounds_toArray, List.set_cons_zero, List.set_cons_succ]
    refine wpAnyH_ready (rs := [13]) (by kernel_rfl) (by decide) (AllReadyH.cons (o := ⟨_, _, _, _, _, _⟩) rfl (fun K hK => ?_) AllReadyH.nil)
    rw [if_pos (by kernel_rfl)]
    go_simp
    refine hK.out _ _ (ST3x) (fun hHeld => ?_)
    clear hK K
    try simp only [Act.put, List.setIfInBounds_toArray, List.set_cons_zero, List.set_cons_succ]
    refine wpAnyH_take (i := 14) (v := (.pointer (some ⟨g3, 41, none⟩))) (oi := ⟨_, _, _, _, _, _⟩) rfl (by kernel_rfl) (by kernel_rfl) (by kernel_rfl) (fun _ _ _ h => h) (Or.inl ⟨by kernel_rfl, fun W hS => ?_⟩) (by assumption) ?_
    · dsimp only at hS; go_split_ands; go_simp
    simp only [Act.put, List.setIfInBounds_toArray, List.set_cons_zero, List.set_cons_succ]
    refine wpAnyH_ready (rs := [15]) (by kernel_rfl) (by decide) (AllReadyH.cons (o := ⟨_, _, _, _, _, _⟩) rfl (fun K hK => ?_) AllReadyH.nil)
    rw [if_pos (by kernel_rfl)]
    go_simp
    refine hK.out _ _ (ST4x) (fun hHeld => ?_)
    clear hK K
    try simp only [Act.put, List.setIfInBounds_toArray, List.set_cons_zero, List.set_cons_succ]
    refine wpAnyH_done (by kernel_rfl) ?_ _
    try simp only [Act.put, List.setIfInBounds_toArray, List.set_cons_zero, List.set_cons_succ]
    go_wp2_with ((with_reducible show wpList _ _ _ (Oper.mk none _ _ _ _ _ :: _) _ _); refine wpList_store_row rfl 29 (.tmp 2) (.tmp 55) rfl g2 (ownG f).arr rfl rfl 29 Z hblk hszO hZs honeO ?_)
    exact bodyPost_ret (v := .agg (ownG f).arr) (results_cell_row rfl _ _ g2 29 (ownG f).arr (0, 0) _ rfl (setRow_heap _ _ _ _ _ _ hblk) Try.underlying29 rfl hszO) rfl ⟨rfl, below_setRow hbel hg2b _⟩
  have b2 : (f.k == 2) = false := by rw [beq_eq_false_iff_ne]; exact k2
  by_cases k3 : f.k = 3
  · have b3 : (f.k == 3) = true := by rw [beq_iff_eq]; exact k3
    have S0 := T.drew.f
    have l1 : ∀ W, f.at_ 29 W g → (Instr.loadAt 22 (.pointer (some ⟨g, 1, none⟩))).run Try.prog W = .ok (.int .u64 f.id) W := fun W h => load_u64 h.c1
    have l2 : ∀ W, f.at_ 29 W g → (Instr.loadAt 3 (.pointer (some ⟨g, 36, none⟩))).run Try.prog W = .ok (.int .i64 f.st) W := fun W h => load_int h.c36
    have l3 : ∀ W, f.at_ 29 W g → (Instr.loadAt 9 (.pointer (some ⟨g, 41, none⟩))).run Try.prog W = .ok (.string f.body) W := fun W h => load_str h.c41
    have s1 := store_u64 f.id
    have q1 := T.h.c1
    have f1 := T.h.fz 1
    have T1 := T.step (Fr.only_at _ g3 1 (.int .u64 f.id)) (T.h.set1 f.id)
    have ST1 := T1.drew.f
    have ST1x := T1.f
    have s2 := store_int f.st
    have q2 := T1.h.c36
    have f2 := T1.h.fz 36
    have T2 := T1.step (Fr.only_at _ g3 36 (.int .i64 f.st)) (T1.h.set36 f.st)
    have ST2 := T2.drew.f
    have ST2x := T2.f
    have s3 := store_str f.body
    have q3 := T2.h.c41
    have f3 := T2.h.fz 41
    have T3 := T2.step (Fr.only_at _ g3 41 (.string f.body)) (T2.h.set41 f.body)
    have ST3 := T3.drew.f
    have ST3x := T3.f
    have T9 := T3.drew
    have ST9 := T9.f
    have HE : Hid (_ = ownG f) := Lib.hid (own_is3 k3)
    have hl := load_frame (ownG f) hif _ g3 (HE.out ▸ T9.h)
    obtain ⟨Z, hZ, hblk⟩ := T9.z
    have hbel := T9.bel
    have hZs : Z.size = (ownG f).arr.size := by rw [hZ, hasO]
    clear hif HE hf T
    go_upto_region 8 with (fail)
    go_region_held3 (fun W => f.at_ 29 W g) (assumption) (fail)
    all_goals
      go_wp2_with ((with_reducible show wpList _ _ _ (Oper.mk none _ _ _ _ _ :: _) _ _); refine wpList_store_row rfl 29 (.tmp 2) (.tmp 55) rfl g2 (ownG f).arr rfl rfl 29 Z hblk hszO hZs honeO ?_)
      exact bodyPost_ret (v := .agg (ownG f).arr) (results_cell_row rfl _ _ g2 29 (ownG f).arr (0, 0) _ rfl (setRow_heap _ _ _ _ _ _ hblk) Try.underlying29 rfl hszO) rfl ⟨rfl, below_setRow hbel hg2b _⟩
  have b3 : (f.k == 3) = false := by rw [beq_eq_false_iff_ne]; exact k3
  by_cases k4 : f.k = 4
  · have b4 : (f.k == 4) = true := by rw [beq_iff_eq]; exact k4
    have l1 := load_u64 T.f.c1
    have s1 := store_u64 f.id
    have q1 := T.h.c1
    have f1 := T.h.fz 1
    have T1 := T.step (Fr.only_at _ g3 1 (.int .u64 f.id)) (T.h.set1 f.id)
    have HE : Hid (_ = ownG f) := Lib.hid (own_is4 k4)
    have hl := load_frame (ownG f) hif _ g3 (HE.out ▸ T1.h)
    obtain ⟨Z, hZ, hblk⟩ := T1.z
    have hbel := T1.bel
    have hZs : Z.size = (ownG f).arr.size := by rw [hZ, hasO]
    clear hif HE hf T
    go_wp2_with ((with_reducible show wpList _ _ _ (Oper.mk none _ _ _ _ _ :: _) _ _); refine wpList_store_row rfl 29 (.tmp 2) (.tmp 55) rfl g2 (ownG f).arr rfl rfl 29 Z hblk hszO hZs honeO ?_)
    exact bodyPost_ret (v := .agg (ownG f).arr) (results_cell_row rfl _ _ g2 29 (ownG f).arr (0, 0) _ rfl (setRow_heap _ _ _ _ _ _ hblk) Try.underlying29 rfl hszO) rfl ⟨rfl, below_setRow hbel hg2b _⟩
  have b4 : (f.k == 4) = false := by rw [beq_eq_false_iff_ne]; exact k4
  by_cases k6 : f.k = 6
  · have b6 : (f.k == 6) = true := by rw [beq_iff_eq]; exact k6
    have l1 := load_str T.f.c41
    have s1 := store_str f.body
    have q1 := T.h.c41
    have f1 := T.h.fz 41
    have T1 := T.step (Fr.only_at _ g3 41 (.string f.body)) (T.h.set41 f.body)
    have HE : Hid (_ = ownG f) := Lib.hid (own_is6 k6)
    have hl := load_frame (ownG f) hif _ g3 (HE.out ▸ T1.h)
    obtain ⟨Z, hZ, hblk⟩ := T1.z
    have hbel := T1.bel
    have hZs : Z.size = (ownG f).arr.size := by rw [hZ, hasO]
    clear hif HE hf T
    go_wp2_with ((with_reducible show wpList _ _ _ (Oper.mk none _ _ _ _ _ :: _) _ _); refine wpList_store_row rfl 29 (.tmp 2) (.tmp 55) rfl g2 (ownG f).arr rfl rfl 29 Z hblk hszO hZs honeO ?_)
    exact bodyPost_ret (v := .agg (ownG f).arr) (results_cell_row rfl _ _ g2 29 (ownG f).arr (0, 0) _ rfl (setRow_heap _ _ _ _ _ _ hblk) Try.underlying29 rfl hszO) rfl ⟨rfl, below_setRow hbel hg2b _⟩
  have b6 : (f.k == 6) = false := by rw [beq_eq_false_iff_ne]; exact k6
  have k5 := And.intro k1 (And.intro k2 (And.intro k3 (And.intro k4 k6)))
  have HE : Hid (_ = ownG f) := Lib.hid (own_is5 k5 (hk5 k1 k2 k3 k4 k6))
  have hl := load_frame (ownG f) hif _ g3 (HE.out ▸ T.h)
  obtain ⟨Z, hZ, hblk⟩ := T.z
  have hbel := T.bel
  have hZs : Z.size = (ownG f).arr.size := by rw [hZ, hasO]
  clear hif HE hf T
  go_wp2_with ((with_reducible show wpList _ _ _ (Oper.mk none _ _ _ _ _ :: _) _ _); refine wpList_store_row rfl 29 (.tmp 2) (.tmp 55) rfl g2 (ownG f).arr rfl rfl 29 Z hblk hszO hZs honeO ?_)
  exact bodyPost_ret (v := .agg (ownG f).arr) (results_cell_row rfl _ _ g2 29 (ownG f).arr (0, 0) _ rfl (setRow_heap _ _ _ _ _ _ hblk) Try.underlying29 rfl hszO) rfl ⟨rfl, below_setRow hbel hg2b _⟩
end Go.Proofs.Ytelfephmjkipoaa
end
/-! The contract of the document's body. (mk_frzb.py) -/
section
namespace Go.Proofs.Ytelfephmjkipoaa
open Go.RowKit Go.Kit Go.Proofs.YtelfephmjkipoaaW.PrintWords
theorem rUint_of (u : Int) (h0 : 0 ≤ u) (h1 : u ≤ 18446744073709551615) (w : World) : Calls Try.prog 39 #[.int .u64 u] w (Laid w (sh u.toNat)) := by
  have h := rUint_any u.toNat w (by omega)
  rw [Int.toNat_of_nonneg h0] at h
  exact h
theorem keepG {W w1 : World} {g base : Nat} {f : Fr} {v : Value} {xs : List Int} (hF : f.at_ 29 W g) (hO : OB 5 W base v xs) (hg : W.grownBy w1 v.ownBlock) : f.at_ 29 w1 g :=
  hF.only ((Only.refl W (rf v)).grown hg (fun k e => .inl e)) (hO.not_block hF.blk (by decide))
theorem lst_len (f : Fr) (h : (0 ≤ f.mo ∧ 0 ≤ f.fu ∧ 0 ≤ f.di) ∧ f.n ≤ 8 ∧ ∀ s ∈ f.args, s.size ≤ 4096) (hn : f.args.length = f.n) : (lst f.args).length ≤ 32858 := by
  have h1 := txts_length f.args 4096 (by omega) h.2.2
  have h2 := sh_ten (n := f.args.length) (by omega)
  have h4 : f.args.length * (10 + 4096) ≤ 8 * (10 + 4096) := Nat.mul_le_mul_right _ (by omega)
  unfold lst
  rw [List.length_append]
  omega
section
variable {f : Fr} {w : World}
set_option maxHeartbeats 16000000 in
set_option maxRecDepth 100000 in
theorem rbody_any (h1 : 1 ≤ f.k) (h6 : f.k ≤ 6) (hf : f.ok w) (hw : f.wf) (hL : LayOk f) : Calls Try.prog 38 #[f.val] w (Laid w (bodyF f)) := by
  have hb := below_alloc (Below.refl _ w) (.cells f.arr 29)
  have hF := boxed hf.tool w
  have hwk := u64_nn (x := f.k) (by omega) (by omega)
  have HWF := Lib.hid hw
  have HK := Lib.hid (And.intro h1 h6)
  have HL := Lib.hid hL
  have HT := Lib.hid hf.tool
  have HA := Lib.hid hf.args
  have HLK := Lib.hid (sh_ten (n := f.k.toNat) (by omega))
  clear hw hL hf h1 h6
  show Calls Try.prog _ #[.agg f.arr] w _
  go_enter Try.func38, Try.ntmps38
  go_upto_region 1 with (fail)
  generalize w.alloc (.cells f.arr 29) = w1 at *
  obtain ⟨g, hg⟩ : ∃ g, w.heap.size = g := ⟨_, rfl⟩
  rw [hg] at hF ⊢
  clear hg
  have q := hF.c0
  go_wp2_with fail
  refine (rUint_of f.k (by have := HK.out; omega) (by have := HK.out; omega) _).mono ?_
  rintro e w2 ⟨v2, rfl, hO2, hb2⟩
  have hF2 := hF.below hb2
  replace hb2 := below_step hb hb2
  replace hO2 := hO2.less hb.size
  clear hb hF q hwk
  have q := hF2.c0
  obtain ⟨a2, ha2⟩ : ∃ q, sh f.k.toNat = q := ⟨_, rfl⟩
  rw [ha2] at hO2
  have HA2 : Hid (a2 = sh f.k.toNat) := Lib.hid ha2.symm
  have HB2 : Hid (a2.length ≤ 10) := Lib.hid (by rw [← ha2]; exact HLK.out)
  clear ha2
  by_cases k1 : f.k = 1
  · have b1 : (f.k == 1) = true := by rw [beq_iff_eq]; exact k1
    have HKK := Lib.hid k1
    clear k1
    have q3 := hF2.c2
    have hwrv := u64_nn (x := f.v) ((HL.out.hello (HKK.out)).1) HWF.out.v.2
    go_wp2_with fail
    refine (rUint_of f.v ((HL.out.hello (HKK.out)).1) (by have := HWF.out.v.2; omega) _).mono ?_
    rintro e w3 ⟨v3, rfl, hP3, hc3⟩
    have hF3 := hF2.below hc3
    have hO3 := hO2.below hc3
    have hb3 := below_step hb2 hc3
    obtain ⟨A3, c3, rfl, hR3, _⟩ := hP3.reads'
    obtain ⟨y3, hy3⟩ : ∃ q, sh f.v.toNat = q := ⟨_, rfl⟩
    rw [hy3] at hR3 ⊢
    obtain ⟨n3, hn3⟩ : ∃ q, y3.length = q := ⟨_, rfl⟩
    rw [hn3] at hR3 ⊢
    have HN3 : Hid (n3 ≤ 10) := Lib.hid (by rw [← hn3, ← hy3]; exact sh_ten (by have := HWF.out.v.2; omega))
    have HLN3 : Hid (a2.length + n3 ≤ 140737488355328) := Lib.hid (by have := HN3.out; have := HB2.out; omega)
    have HY3 := Lib.hid hy3
    have HE3 := Lib.hid hn3
    clear hb2 hF2 hO2 hc3 hP3 q3 hy3 hn3
    go_wp2_with (at_builtin; refine push_row (w0 := w) w.heap.size rfl (.tmp 13) (.tmp 17) 38 y3 A3 n3 c3 rfl Try.underlying38 u8_info rfl rfl hO3 hR3 hb3 hb3.size HLN3.out ?_)
    intro v4 w4 hO4 hb4 hg4 _
    have hF4 := keepG hF3 hO3 hg4
    obtain ⟨a4, ha4⟩ : ∃ q, a2 ++ y3 = q := ⟨_, rfl⟩
    rw [ha4] at hO4
    have HB4 : Hid (a4.length ≤ 20) := Lib.hid (by rw [← ha4, List.length_append, HE3.out]; have := HN3.out; have := HB2.out; omega)
    have HA4 : Hid (a4 = a2 ++ sh f.v.toNat) := Lib.hid (by rw [← ha4, HY3.out])
    clear hF3 hO3 hb3 hR3 hg4 HLN3 ha4
    have q5 := hF4.c3
    have hwrs := u64_nn (x := f.s) ((HL.out.hello (HKK.out)).2) HWF.out.s.2
    go_wp2_with fail
    refine (rUint_of f.s ((HL.out.hello (HKK.out)).2) (by have := HWF.out.s.2; omega) _).mono ?_
    rintro e w5 ⟨v5, rfl, hP5, hc5⟩
    have hF5 := hF4.below hc5
    have hO5 := hO4.below hc5
    have hb5 := below_step hb4 hc5
    obtain ⟨A5, c5, rfl, hR5, _⟩ := hP5.reads'
    obtain ⟨y5, hy5⟩ : ∃ q, sh f.s.toNat = q := ⟨_, rfl⟩
    rw [hy5] at hR5 ⊢
    obtain ⟨n5, hn5⟩ : ∃ q, y5.length = q := ⟨_, rfl⟩
    rw [hn5] at hR5 ⊢
    have HN5 : Hid (n5 ≤ 10) := Lib.hid (by rw [← hn5, ← hy5]; exact sh_ten (by have := HWF.out.s.2; omega))
    have HLN5 : Hid (a4.length + n5 ≤ 140737488355328) := Lib.hid (by have := HN5.out; have := HB4.out; omega)
    have HY5 := Lib.hid hy5
    have HE5 := Lib.hid hn5
    clear hb4 hF4 hO4 hc5 hP5 q5 hy5 hn5
    go_wp2_with (at_builtin; refine push_row (w0 := w) w.heap.size rfl (.tmp 19) (.tmp 23) 38 y5 A5 n5 c5 rfl Try.underlying38 u8_info rfl rfl hO5 hR5 hb5 hb5.size HLN5.out ?_)
    intro v6 w6 hO6 hb6 hg6 _
    have hF6 := keepG hF5 hO5 hg6
    obtain ⟨a6, ha6⟩ : ∃ q, a4 ++ y5 = q := ⟨_, rfl⟩
    rw [ha6] at hO6
    have HB6 : Hid (a6.length ≤ 30) := Lib.hid (by rw [← ha6, List.length_append, HE5.out]; have := HN5.out; have := HB4.out; omega)
    have HA6 : Hid (a6 = a4 ++ sh f.s.toNat) := Lib.hid (by rw [← ha6, HY5.out])
    clear hF5 hO5 hb5 hR5 hg6 HLN5 ha6
    go_wp2_with fail
    go_loopg [3, 4] 32 (fun gk v3 v4 w' => ∃ k : Nat, v4 = .int .i64 (k : Int) ∧ OB 5 w' w.heap.size v3 (a6 ++ f.tool.take k) ∧ f.at_ 29 w' g ∧ Below w.heap.size w w' ∧ Hid (k + gk = 32))
    case atStart => exact ⟨0, rfl, by simpa using hO6, hF6, hb6, Lib.hid rfl⟩
    case round =>
      clear hO6 hF6 hb6
      obtain ⟨k, rfl, hO, hF, hb, HG⟩ := hrel
      by_cases hk : k < 32
      · have hk2 : (k : Int) < 32 := by omega
        obtain ⟨x, HX⟩ : ∃ x, Hid (f.tool[k]? = some x) := ⟨_, Lib.hid (List.getElem?_eq_getElem (by rw [HT.out]; exact hk))⟩
        have hx := HWF.out.byt x (List.mem_of_getElem? HX.out)
        have hcell : wr.cell? ⟨g, 4 + k, none⟩ = some (.int .u8 x) := hF.r4 k (.int .u8 x) (by simp [nums, HX.out])
        have hba := below_alloc (Below.refl wr.heap.size wr) (.cells #[.int .u8 x] 5)
        have hF2 := hF.below hba
        have hLL : Hid ((a6 ++ f.tool.take k).length + 1 ≤ 140737488355328) := Lib.hid (by
          have h1 : (f.tool.take k).length ≤ 32 := by rw [List.length_take]; omega
          have := HB6.out; rw [List.length_append]; omega)
        have hbs := hb.size
        go_wp2_with (at_builtin; refine push_byte (w0 := w) w.heap.size rfl (.tmp 29) (.tmp 34) 38 x rfl Try.underlying38 u8_info rfl rfl hO hb hbs hLL.out hx.1 hx.2 ?_)
        intro v5 w5 hO5 hb5 hg5 _
        have hF5 := keepG hF hO hg5
        go_wp2_with fail
        go_roundg (gk - 1)
        case measure => have := HG.out; omega
        case rel =>
          refine ⟨k + 1, by simp, ?_, hF5, hb5, Lib.hid (by have := HG.out; omega)⟩
          rw [snoc HX.out]
          first | exact hO5 | (rw [← List.append_assoc]; exact hO5)
      · have hk2 : ¬ (k : Int) < 32 := by omega
        have HE : Hid (a6 ++ f.tool.take k = bodyF f) := Lib.hid (by
          rw [List.take_of_length_le (by rw [HT.out]; omega)]
          rw [HA6.out, HA4.out, HA2.out]; unfold bodyF layF; rw [if_pos HKK.out]; simp only [List.append_assoc])
        rw [HE.out] at hO
        clear hk
        go_wp2_with fail
        go_ret
        exact ⟨_, rfl, hO, hb⟩
  have b1 : (f.k == 1) = false := by rw [beq_eq_false_iff_ne]; exact k1
  by_cases k2 : f.k = 2
  · have b2 : (f.k == 2) = true := by rw [beq_iff_eq]; exact k2
    have HKK := Lib.hid k2
    clear k2
    have q3 := hF2.c1
    go_wp2_with fail
    refine (rUint_of f.id (HWF.out.id0) (HWF.out.id1) _).mono ?_
    rintro e w3 ⟨v3, rfl, hP3, hc3⟩
    have hF3 := hF2.below hc3
    have hO3 := hO2.below hc3
    have hb3 := below_step hb2 hc3
    obtain ⟨A3, c3, rfl, hR3, _⟩ := hP3.reads'
    obtain ⟨y3, hy3⟩ : ∃ q, sh f.id.toNat = q := ⟨_, rfl⟩
    rw [hy3] at hR3 ⊢
    obtain ⟨n3, hn3⟩ : ∃ q, y3.length = q := ⟨_, rfl⟩
    rw [hn3] at hR3 ⊢
    have HN3 : Hid (n3 ≤ 10) := Lib.hid (by rw [← hn3, ← hy3]; exact sh_ten (by have := HWF.out.id1; omega))
    have HLN3 : Hid (a2.length + n3 ≤ 140737488355328) := Lib.hid (by have := HN3.out; have := HB2.out; omega)
    have HY3 := Lib.hid hy3
    have HE3 := Lib.hid hn3
    clear hb2 hF2 hO2 hc3 hP3 q3 hy3 hn3
    go_wp2_with (at_builtin; refine push_row (w0 := w) w.heap.size rfl (.tmp 38) (.tmp 41) 38 y3 A3 n3 c3 rfl Try.underlying38 u8_info rfl rfl hO3 hR3 hb3 hb3.size HLN3.out ?_)
    intro v4 w4 hO4 hb4 hg4 _
    have hF4 := keepG hF3 hO3 hg4
    obtain ⟨a4, ha4⟩ : ∃ q, a2 ++ y3 = q := ⟨_, rfl⟩
    rw [ha4] at hO4
    have HB4 : Hid (a4.length ≤ 20) := Lib.hid (by rw [← ha4, List.length_append, HE3.out]; have := HN3.out; have := HB2.out; omega)
    have HA4 : Hid (a4 = a2 ++ sh f.id.toNat) := Lib.hid (by rw [← ha4, HY3.out])
    clear hF3 hO3 hb3 hR3 hg4 HLN3 ha4
    have q5 := hF4.c37
    have hwrmo := u64_nn (x := f.mo) ((HL.out.req (HKK.out)).1.1) HWF.out.mo.2
    go_wp2_with fail
    refine (rUint_of f.mo ((HL.out.req (HKK.out)).1.1) (by have := HWF.out.mo.2; omega) _).mono ?_
    rintro e w5 ⟨v5, rfl, hP5, hc5⟩
    have hF5 := hF4.below hc5
    have hO5 := hO4.below hc5
    have hb5 := below_step hb4 hc5
    obtain ⟨A5, c5, rfl, hR5, _⟩ := hP5.reads'
    obtain ⟨y5, hy5⟩ : ∃ q, sh f.mo.toNat = q := ⟨_, rfl⟩
    rw [hy5] at hR5 ⊢
    obtain ⟨n5, hn5⟩ : ∃ q, y5.length = q := ⟨_, rfl⟩
    rw [hn5] at hR5 ⊢
    have HN5 : Hid (n5 ≤ 10) := Lib.hid (by rw [← hn5, ← hy5]; exact sh_ten (by have := HWF.out.mo.2; omega))
    have HLN5 : Hid (a4.length + n5 ≤ 140737488355328) := Lib.hid (by have := HN5.out; have := HB4.out; omega)
    have HY5 := Lib.hid hy5
    have HE5 := Lib.hid hn5
    clear hb4 hF4 hO4 hc5 hP5 q5 hy5 hn5
    go_wp2_with (at_builtin; refine push_row (w0 := w) w.heap.size rfl (.tmp 43) (.tmp 48) 38 y5 A5 n5 c5 rfl Try.underlying38 u8_info rfl rfl hO5 hR5 hb5 hb5.size HLN5.out ?_)
    intro v6 w6 hO6 hb6 hg6 _
    have hF6 := keepG hF5 hO5 hg6
    obtain ⟨a6, ha6⟩ : ∃ q, a4 ++ y5 = q := ⟨_, rfl⟩
    rw [ha6] at hO6
    have HB6 : Hid (a6.length ≤ 30) := Lib.hid (by rw [← ha6, List.length_append, HE5.out]; have := HN5.out; have := HB4.out; omega)
    have HA6 : Hid (a6 = a4 ++ sh f.mo.toNat) := Lib.hid (by rw [← ha6, HY5.out])
    clear hF5 hO5 hb5 hR5 hg6 HLN5 ha6
    have q7 := hF6.c38
    have hwrfu := u64_nn (x := f.fu) ((HL.out.req (HKK.out)).1.2.1) HWF.out.fu.2
    go_wp2_with fail
    refine (rUint_of f.fu ((HL.out.req (HKK.out)).1.2.1) (by have := HWF.out.fu.2; omega) _).mono ?_
    rintro e w7 ⟨v7, rfl, hP7, hc7⟩
    have hF7 := hF6.below hc7
    have hO7 := hO6.below hc7
    have hb7 := below_step hb6 hc7
    obtain ⟨A7, c7, rfl, hR7, _⟩ := hP7.reads'
    obtain ⟨y7, hy7⟩ : ∃ q, sh f.fu.toNat = q := ⟨_, rfl⟩
    rw [hy7] at hR7 ⊢
    obtain ⟨n7, hn7⟩ : ∃ q, y7.length = q := ⟨_, rfl⟩
    rw [hn7] at hR7 ⊢
    have HN7 : Hid (n7 ≤ 10) := Lib.hid (by rw [← hn7, ← hy7]; exact sh_ten (by have := HWF.out.fu.2; omega))
    have HLN7 : Hid (a6.length + n7 ≤ 140737488355328) := Lib.hid (by have := HN7.out; have := HB6.out; omega)
    have HY7 := Lib.hid hy7
    have HE7 := Lib.hid hn7
    clear hb6 hF6 hO6 hc7 hP7 q7 hy7 hn7
    go_wp2_with (at_builtin; refine push_row (w0 := w) w.heap.size rfl (.tmp 50) (.tmp 55) 38 y7 A7 n7 c7 rfl Try.underlying38 u8_info rfl rfl hO7 hR7 hb7 hb7.size HLN7.out ?_)
    intro v8 w8 hO8 hb8 hg8 _
    have hF8 := keepG hF7 hO7 hg8
    obtain ⟨a8, ha8⟩ : ∃ q, a6 ++ y7 = q := ⟨_, rfl⟩
    rw [ha8] at hO8
    have HB8 : Hid (a8.length ≤ 40) := Lib.hid (by rw [← ha8, List.length_append, HE7.out]; have := HN7.out; have := HB6.out; omega)
    have HA8 : Hid (a8 = a6 ++ sh f.fu.toNat) := Lib.hid (by rw [← ha8, HY7.out])
    clear hF7 hO7 hb7 hR7 hg8 HLN7 ha8
    have q9 := hF8.c39
    have hwrdi := u64_nn (x := f.di) ((HL.out.req (HKK.out)).1.2.2) HWF.out.di.2
    go_wp2_with fail
    refine (rUint_of f.di ((HL.out.req (HKK.out)).1.2.2) (by have := HWF.out.di.2; omega) _).mono ?_
    rintro e w9 ⟨v9, rfl, hP9, hc9⟩
    have hF9 := hF8.below hc9
    have hO9 := hO8.below hc9
    have hb9 := below_step hb8 hc9
    obtain ⟨A9, c9, rfl, hR9, _⟩ := hP9.reads'
    obtain ⟨y9, hy9⟩ : ∃ q, sh f.di.toNat = q := ⟨_, rfl⟩
    rw [hy9] at hR9 ⊢
    obtain ⟨n9, hn9⟩ : ∃ q, y9.length = q := ⟨_, rfl⟩
    rw [hn9] at hR9 ⊢
    have HN9 : Hid (n9 ≤ 10) := Lib.hid (by rw [← hn9, ← hy9]; exact sh_ten (by have := HWF.out.di.2; omega))
    have HLN9 : Hid (a8.length + n9 ≤ 140737488355328) := Lib.hid (by have := HN9.out; have := HB8.out; omega)
    have HY9 := Lib.hid hy9
    have HE9 := Lib.hid hn9
    clear hb8 hF8 hO8 hc9 hP9 q9 hy9 hn9
    go_wp2_with (at_builtin; refine push_row (w0 := w) w.heap.size rfl (.tmp 57) (.tmp 62) 38 y9 A9 n9 c9 rfl Try.underlying38 u8_info rfl rfl hO9 hR9 hb9 hb9.size HLN9.out ?_)
    intro v10 w10 hO10 hb10 hg10 _
    have hF10 := keepG hF9 hO9 hg10
    obtain ⟨a10, ha10⟩ : ∃ q, a8 ++ y9 = q := ⟨_, rfl⟩
    rw [ha10] at hO10
    have HB10 : Hid (a10.length ≤ 50) := Lib.hid (by rw [← ha10, List.length_append, HE9.out]; have := HN9.out; have := HB8.out; omega)
    have HA10 : Hid (a10 = a8 ++ sh f.di.toNat) := Lib.hid (by rw [← ha10, HY9.out])
    clear hF9 hO9 hb9 hR9 hg10 HLN9 ha10
    have q11 := hF10.c40
    go_wp2_with fail
    refine (rList_any (c := f.c) (HA.out.below hb10) 4096 (by omega) (HL.out.req (HKK.out)).2.2 (by have := (HL.out.req (HKK.out)).2.1; omega)).mono ?_
    rintro e w11 ⟨v11, rfl, hP11, hc11⟩
    have hF11 := hF10.below hc11
    have hO11 := hO10.below hc11
    have hb11 := below_step hb10 hc11
    obtain ⟨A11, c11, rfl, hR11, _⟩ := hP11.reads'
    obtain ⟨y11, hy11⟩ : ∃ q, lst f.args = q := ⟨_, rfl⟩
    rw [hy11] at hR11 ⊢
    obtain ⟨n11, hn11⟩ : ∃ q, y11.length = q := ⟨_, rfl⟩
    rw [hn11] at hR11 ⊢
    have HN11 : Hid (n11 ≤ 32858) := Lib.hid (by rw [← hn11, ← hy11]; exact lst_len f (HL.out.req (HKK.out)) HA.out.len)
    have HLN11 : Hid (a10.length + n11 ≤ 140737488355328) := Lib.hid (by have := HN11.out; have := HB10.out; omega)
    have HY11 := Lib.hid hy11
    have HE11 := Lib.hid hn11
    clear hb10 hF10 hO10 hc11 hP11 q11 hy11 hn11
    go_wp2_with (at_builtin; refine push_row (w0 := w) w.heap.size rfl (.tmp 64) (.tmp 67) 38 y11 A11 n11 c11 rfl Try.underlying38 u8_info rfl rfl hO11 hR11 hb11 hb11.size HLN11.out ?_)
    intro v12 w12 hO12 hb12 hg12 _
    have hF12 := keepG hF11 hO11 hg12
    obtain ⟨a12, ha12⟩ : ∃ q, a10 ++ y11 = q := ⟨_, rfl⟩
    rw [ha12] at hO12
    have HB12 : Hid (a12.length ≤ 32908) := Lib.hid (by rw [← ha12, List.length_append, HE11.out]; have := HN11.out; have := HB10.out; omega)
    have HA12 : Hid (a12 = a10 ++ lst f.args) := Lib.hid (by rw [← ha12, HY11.out])
    clear hF11 hO11 hb11 hR11 hg12 HLN11 ha12
    have q13 := hF12.c41
    go_wp2_with fail
    refine (rText_any f.body (by have := HL.out.body; omega)).mono ?_
    rintro e w13 ⟨v13, rfl, hP13, hc13⟩
    have hF13 := hF12.below hc13
    have hO13 := hO12.below hc13
    have hb13 := below_step hb12 hc13
    obtain ⟨A13, c13, rfl, hR13, _⟩ := hP13.reads'
    obtain ⟨y13, hy13⟩ : ∃ q, txt f.body = q := ⟨_, rfl⟩
    rw [hy13] at hR13 ⊢
    obtain ⟨n13, hn13⟩ : ∃ q, y13.length = q := ⟨_, rfl⟩
    rw [hn13] at hR13 ⊢
    have HN13 : Hid (n13 ≤ 2097162) := Lib.hid (by rw [← hn13, ← hy13]; exact Nat.le_trans (txt_length (by have := HL.out.body; omega)) (by have := HL.out.body; omega))
    have HLN13 : Hid (a12.length + n13 ≤ 140737488355328) := Lib.hid (by have := HN13.out; have := HB12.out; omega)
    have HY13 := Lib.hid hy13
    have HE13 := Lib.hid hn13
    clear hb12 hF12 hO12 hc13 hP13 q13 hy13 hn13
    go_wp2_with (at_builtin; refine push_row (w0 := w) w.heap.size rfl (.tmp 69) (.tmp 72) 38 y13 A13 n13 c13 rfl Try.underlying38 u8_info rfl rfl hO13 hR13 hb13 hb13.size HLN13.out ?_)
    intro v14 w14 hO14 hb14 hg14 _
    have hF14 := keepG hF13 hO13 hg14
    obtain ⟨a14, ha14⟩ : ∃ q, a12 ++ y13 = q := ⟨_, rfl⟩
    rw [ha14] at hO14
    have HB14 : Hid (a14.length ≤ 2130070) := Lib.hid (by rw [← ha14, List.length_append, HE13.out]; have := HN13.out; have := HB12.out; omega)
    have HA14 : Hid (a14 = a12 ++ txt f.body) := Lib.hid (by rw [← ha14, HY13.out])
    clear hF13 hO13 hb13 hR13 hg14 HLN13 ha14
    have HE : Hid (a14 = bodyF f) := Lib.hid (by rw [HA14.out, HA12.out, HA10.out, HA8.out, HA6.out, HA4.out, HA2.out]; unfold bodyF layF; rw [if_neg (by rw [HKK.out]; decide), if_pos HKK.out]; simp only [List.append_assoc])
    rw [HE.out] at hO14
    go_wp2_with fail
    go_ret
    exact ⟨_, rfl, hO14, hb14⟩
  have b2 : (f.k == 2) = false := by rw [beq_eq_false_iff_ne]; exact k2
  by_cases k3 : f.k = 3
  · have b3 : (f.k == 3) = true := by rw [beq_iff_eq]; exact k3
    have HKK := Lib.hid k3
    clear k3
    have q3 := hF2.c1
    go_wp2_with fail
    refine (rUint_of f.id (HWF.out.id0) (HWF.out.id1) _).mono ?_
    rintro e w3 ⟨v3, rfl, hP3, hc3⟩
    have hF3 := hF2.below hc3
    have hO3 := hO2.below hc3
    have hb3 := below_step hb2 hc3
    obtain ⟨A3, c3, rfl, hR3, _⟩ := hP3.reads'
    obtain ⟨y3, hy3⟩ : ∃ q, sh f.id.toNat = q := ⟨_, rfl⟩
    rw [hy3] at hR3 ⊢
    obtain ⟨n3, hn3⟩ : ∃ q, y3.length = q := ⟨_, rfl⟩
    rw [hn3] at hR3 ⊢
    have HN3 : Hid (n3 ≤ 10) := Lib.hid (by rw [← hn3, ← hy3]; exact sh_ten (by have := HWF.out.id1; omega))
    have HLN3 : Hid (a2.length + n3 ≤ 140737488355328) := Lib.hid (by have := HN3.out; have := HB2.out; omega)
    have HY3 := Lib.hid hy3
    have HE3 := Lib.hid hn3
    clear hb2 hF2 hO2 hc3 hP3 q3 hy3 hn3
    go_wp2_with (at_builtin; refine push_row (w0 := w) w.heap.size rfl (.tmp 76) (.tmp 79) 38 y3 A3 n3 c3 rfl Try.underlying38 u8_info rfl rfl hO3 hR3 hb3 hb3.size HLN3.out ?_)
    intro v4 w4 hO4 hb4 hg4 _
    have hF4 := keepG hF3 hO3 hg4
    obtain ⟨a4, ha4⟩ : ∃ q, a2 ++ y3 = q := ⟨_, rfl⟩
    rw [ha4] at hO4
    have HB4 : Hid (a4.length ≤ 20) := Lib.hid (by rw [← ha4, List.length_append, HE3.out]; have := HN3.out; have := HB2.out; omega)
    have HA4 : Hid (a4 = a2 ++ sh f.id.toNat) := Lib.hid (by rw [← ha4, HY3.out])
    clear hF3 hO3 hb3 hR3 hg4 HLN3 ha4
    have q5 := hF4.c36
    have hwrst := u64_nn (x := f.st) (HL.out.resp (HKK.out)) HWF.out.st.2
    go_wp2_with fail
    refine (rUint_of f.st (HL.out.resp (HKK.out)) (by have := HWF.out.st.2; omega) _).mono ?_
    rintro e w5 ⟨v5, rfl, hP5, hc5⟩
    have hF5 := hF4.below hc5
    have hO5 := hO4.below hc5
    have hb5 := below_step hb4 hc5
    obtain ⟨A5, c5, rfl, hR5, _⟩ := hP5.reads'
    obtain ⟨y5, hy5⟩ : ∃ q, sh f.st.toNat = q := ⟨_, rfl⟩
    rw [hy5] at hR5 ⊢
    obtain ⟨n5, hn5⟩ : ∃ q, y5.length = q := ⟨_, rfl⟩
    rw [hn5] at hR5 ⊢
    have HN5 : Hid (n5 ≤ 10) := Lib.hid (by rw [← hn5, ← hy5]; exact sh_ten (by have := HWF.out.st.2; omega))
    have HLN5 : Hid (a4.length + n5 ≤ 140737488355328) := Lib.hid (by have := HN5.out; have := HB4.out; omega)
    have HY5 := Lib.hid hy5
    have HE5 := Lib.hid hn5
    clear hb4 hF4 hO4 hc5 hP5 q5 hy5 hn5
    go_wp2_with (at_builtin; refine push_row (w0 := w) w.heap.size rfl (.tmp 81) (.tmp 85) 38 y5 A5 n5 c5 rfl Try.underlying38 u8_info rfl rfl hO5 hR5 hb5 hb5.size HLN5.out ?_)
    intro v6 w6 hO6 hb6 hg6 _
    have hF6 := keepG hF5 hO5 hg6
    obtain ⟨a6, ha6⟩ : ∃ q, a4 ++ y5 = q := ⟨_, rfl⟩
    rw [ha6] at hO6
    have HB6 : Hid (a6.length ≤ 30) := Lib.hid (by rw [← ha6, List.length_append, HE5.out]; have := HN5.out; have := HB4.out; omega)
    have HA6 : Hid (a6 = a4 ++ sh f.st.toNat) := Lib.hid (by rw [← ha6, HY5.out])
    clear hF5 hO5 hb5 hR5 hg6 HLN5 ha6
    have q7 := hF6.c41
    go_wp2_with fail
    refine (rText_any f.body (by have := HL.out.body; omega)).mono ?_
    rintro e w7 ⟨v7, rfl, hP7, hc7⟩
    have hF7 := hF6.below hc7
    have hO7 := hO6.below hc7
    have hb7 := below_step hb6 hc7
    obtain ⟨A7, c7, rfl, hR7, _⟩ := hP7.reads'
    obtain ⟨y7, hy7⟩ : ∃ q, txt f.body = q := ⟨_, rfl⟩
    rw [hy7] at hR7 ⊢
    obtain ⟨n7, hn7⟩ : ∃ q, y7.length = q := ⟨_, rfl⟩
    rw [hn7] at hR7 ⊢
    have HN7 : Hid (n7 ≤ 2097162) := Lib.hid (by rw [← hn7, ← hy7]; exact Nat.le_trans (txt_length (by have := HL.out.body; omega)) (by have := HL.out.body; omega))
    have HLN7 : Hid (a6.length + n7 ≤ 140737488355328) := Lib.hid (by have := HN7.out; have := HB6.out; omega)
    have HY7 := Lib.hid hy7
    have HE7 := Lib.hid hn7
    clear hb6 hF6 hO6 hc7 hP7 q7 hy7 hn7
    go_wp2_with (at_builtin; refine push_row (w0 := w) w.heap.size rfl (.tmp 87) (.tmp 90) 38 y7 A7 n7 c7 rfl Try.underlying38 u8_info rfl rfl hO7 hR7 hb7 hb7.size HLN7.out ?_)
    intro v8 w8 hO8 hb8 hg8 _
    have hF8 := keepG hF7 hO7 hg8
    obtain ⟨a8, ha8⟩ : ∃ q, a6 ++ y7 = q := ⟨_, rfl⟩
    rw [ha8] at hO8
    have HB8 : Hid (a8.length ≤ 2097192) := Lib.hid (by rw [← ha8, List.length_append, HE7.out]; have := HN7.out; have := HB6.out; omega)
    have HA8 : Hid (a8 = a6 ++ txt f.body) := Lib.hid (by rw [← ha8, HY7.out])
    clear hF7 hO7 hb7 hR7 hg8 HLN7 ha8
    have HE : Hid (a8 = bodyF f) := Lib.hid (by rw [HA8.out, HA6.out, HA4.out, HA2.out]; unfold bodyF layF; rw [if_neg (by rw [HKK.out]; decide), if_neg (by rw [HKK.out]; decide), if_pos HKK.out]; simp only [List.append_assoc])
    rw [HE.out] at hO8
    go_wp2_with fail
    go_ret
    exact ⟨_, rfl, hO8, hb8⟩
  have b3 : (f.k == 3) = false := by rw [beq_eq_false_iff_ne]; exact k3
  by_cases k4 : f.k = 4
  · have b4 : (f.k == 4) = true := by rw [beq_iff_eq]; exact k4
    have HKK := Lib.hid k4
    clear k4
    have q3 := hF2.c1
    go_wp2_with fail
    refine (rUint_of f.id (HWF.out.id0) (HWF.out.id1) _).mono ?_
    rintro e w3 ⟨v3, rfl, hP3, hc3⟩
    have hF3 := hF2.below hc3
    have hO3 := hO2.below hc3
    have hb3 := below_step hb2 hc3
    obtain ⟨A3, c3, rfl, hR3, _⟩ := hP3.reads'
    obtain ⟨y3, hy3⟩ : ∃ q, sh f.id.toNat = q := ⟨_, rfl⟩
    rw [hy3] at hR3 ⊢
    obtain ⟨n3, hn3⟩ : ∃ q, y3.length = q := ⟨_, rfl⟩
    rw [hn3] at hR3 ⊢
    have HN3 : Hid (n3 ≤ 10) := Lib.hid (by rw [← hn3, ← hy3]; exact sh_ten (by have := HWF.out.id1; omega))
    have HLN3 : Hid (a2.length + n3 ≤ 140737488355328) := Lib.hid (by have := HN3.out; have := HB2.out; omega)
    have HY3 := Lib.hid hy3
    have HE3 := Lib.hid hn3
    clear hb2 hF2 hO2 hc3 hP3 q3 hy3 hn3
    go_wp2_with (at_builtin; refine push_row (w0 := w) w.heap.size rfl (.tmp 94) (.tmp 97) 38 y3 A3 n3 c3 rfl Try.underlying38 u8_info rfl rfl hO3 hR3 hb3 hb3.size HLN3.out ?_)
    intro v4 w4 hO4 hb4 hg4 _
    have hF4 := keepG hF3 hO3 hg4
    obtain ⟨a4, ha4⟩ : ∃ q, a2 ++ y3 = q := ⟨_, rfl⟩
    rw [ha4] at hO4
    have HB4 : Hid (a4.length ≤ 20) := Lib.hid (by rw [← ha4, List.length_append, HE3.out]; have := HN3.out; have := HB2.out; omega)
    have HA4 : Hid (a4 = a2 ++ sh f.id.toNat) := Lib.hid (by rw [← ha4, HY3.out])
    clear hF3 hO3 hb3 hR3 hg4 HLN3 ha4
    have HE : Hid (a4 = bodyF f) := Lib.hid (by rw [HA4.out, HA2.out]; unfold bodyF layF; rw [if_neg (by rw [HKK.out]; decide), if_neg (by rw [HKK.out]; decide), if_neg (by rw [HKK.out]; decide), if_pos HKK.out])
    rw [HE.out] at hO4
    go_wp2_with fail
    go_ret
    exact ⟨_, rfl, hO4, hb4⟩
  have b4 : (f.k == 4) = false := by rw [beq_eq_false_iff_ne]; exact k4
  by_cases k6 : f.k = 6
  · have b6 : (f.k == 6) = true := by rw [beq_iff_eq]; exact k6
    have HKK := Lib.hid k6
    clear k6
    have q3 := hF2.c41
    go_wp2_with fail
    refine (rText_any f.body (by have := HL.out.body; omega)).mono ?_
    rintro e w3 ⟨v3, rfl, hP3, hc3⟩
    have hF3 := hF2.below hc3
    have hO3 := hO2.below hc3
    have hb3 := below_step hb2 hc3
    obtain ⟨A3, c3, rfl, hR3, _⟩ := hP3.reads'
    obtain ⟨y3, hy3⟩ : ∃ q, txt f.body = q := ⟨_, rfl⟩
    rw [hy3] at hR3 ⊢
    obtain ⟨n3, hn3⟩ : ∃ q, y3.length = q := ⟨_, rfl⟩
    rw [hn3] at hR3 ⊢
    have HN3 : Hid (n3 ≤ 2097162) := Lib.hid (by rw [← hn3, ← hy3]; exact Nat.le_trans (txt_length (by have := HL.out.body; omega)) (by have := HL.out.body; omega))
    have HLN3 : Hid (a2.length + n3 ≤ 140737488355328) := Lib.hid (by have := HN3.out; have := HB2.out; omega)
    have HY3 := Lib.hid hy3
    have HE3 := Lib.hid hn3
    clear hb2 hF2 hO2 hc3 hP3 q3 hy3 hn3
    go_wp2_with (at_builtin; refine push_row (w0 := w) w.heap.size rfl (.tmp 101) (.tmp 104) 38 y3 A3 n3 c3 rfl Try.underlying38 u8_info rfl rfl hO3 hR3 hb3 hb3.size HLN3.out ?_)
    intro v4 w4 hO4 hb4 hg4 _
    have hF4 := keepG hF3 hO3 hg4
    obtain ⟨a4, ha4⟩ : ∃ q, a2 ++ y3 = q := ⟨_, rfl⟩
    rw [ha4] at hO4
    have HB4 : Hid (a4.length ≤ 2097172) := Lib.hid (by rw [← ha4, List.length_append, HE3.out]; have := HN3.out; have := HB2.out; omega)
    have HA4 : Hid (a4 = a2 ++ txt f.body) := Lib.hid (by rw [← ha4, HY3.out])
    clear hF3 hO3 hb3 hR3 hg4 HLN3 ha4
    have HE : Hid (a4 = bodyF f) := Lib.hid (by rw [HA4.out, HA2.out]; unfold bodyF layF; rw [if_neg (by rw [HKK.out]; decide), if_neg (by rw [HKK.out]; decide), if_neg (by rw [HKK.out]; decide), if_neg (by rw [HKK.out]; decide), if_pos HKK.out])
    rw [HE.out] at hO4
    go_wp2_with fail
    go_ret
    exact ⟨_, rfl, hO4, hb4⟩
  have b6 : (f.k == 6) = false := by rw [beq_eq_false_iff_ne]; exact k6
  have HE : Hid (a2 = bodyF f) := Lib.hid (by rw [HA2.out]; unfold bodyF layF; rw [if_neg k1, if_neg k2, if_neg k3, if_neg k4, if_neg k6, List.append_nil])
  rw [HE.out] at hO2
  clear k1 k2 k3 k4 k6
  go_wp2_with fail
  go_ret
  exact ⟨_, rfl, hO2, hb2⟩
end
end Go.Proofs.Ytelfephmjkipoaa
end
/-! The contracts of what reads a kind's fields: hello, request. -/
section
namespace Go.Proofs.Ytelfephmjkipoaa
open Go.RowKit Go.Kit Go.Proofs.YtelfephmjkipoaaW.PrintWords
/-- A call of a region that draws its order, by a contract. -/
theorem at_call {P : Program} {ops : Array Oper} {o : Oper} {a : Act} {w : World} {K : Act → World → Prop} {Q : Exit → Act → World → Prop} {E : Prop} {f : FuncId} {args : Array Value} {R : Value → World → Prop} (hw : Region.wanted o (yielded ops a.tmps) = true)
    (he : (execOp a.eval o).run P w = .ok (.enter f args) w) (hc : Calls P f args w fun e w' => ∃ v, e = .returned v ∧ R v w') (hK : ∀ v w', R v w' → K (a.put o.dst v) w') : if Region.wanted o (yielded ops a.tmps) = true then Oper.wp P o a w K Q else E := by
  rw [if_pos hw]
  unfold Oper.wp
  rw [he, Oper.upon_enter]
  refine hc.mono ?_
  rintro e w' ⟨v, rfl, hR⟩
  exact hK v w' hR
/-- The tool copied out of what was read. -/
theorem at_copy_tool {ops : Array Oper} {o : Oper} {a : Act} {W : World} {K : Act → World → Prop} {Q : Exit → Act → World → Prop} {E : Prop} (x y : Operand) (hgd : o.guard = none)
    (ho : o.op = .call { callee := .builtin .copy, args := #[x, y], argTypes := #[38, 38] }) {g base : Nat} {v : Value} {ts : List Int} {F : Fr} (hd : a.eval x = .slice (some ⟨g, 4, none⟩) 32 32) (hs : a.eval y = v)
    (hO : OB 5 W base v ts) (hl : ts.length = 32 ∨ ts = []) (hF : F.at_ 29 W g)
    (hK : ∀ w' k, ({ F with tool := if ts.length = 32 then ts else F.tool } : Fr).at_ 29 w' g → Only W w' (fun k => k = g) → K (a.put o.dst (goInt k)) w') : if Region.wanted o (yielded ops a.tmps) = true then Oper.wp Try.prog o a W K Q else E := by
  refine at_list (by simp [Region.wanted, hgd]) (fun Q2 hQ => ?_)
  obtain ⟨A, c, hv, hr⟩ := hO.reads
  rcases hl with hl | hl
  · obtain ⟨ad, rfl, hc⟩ := hr.cells (by omega)
    have h32 : (nums .u8 ts).length = 32 := by rw [nums_length, hl]
    refine wpList_copy_own hgd x y 38 38 ho 5 Try.underlying38 u8_size g 4 32 32 ad ts.length c hd (hs.trans hv) F.arr 29 hF.blk (nums .u8 ts) (by rw [h32, hl]; rfl) hc (by rw [h32, Fr.arr_size F hF.tool]; omega) (nums_one _ _) ?_
    unfold wpList
    refine hQ _ _ (hK _ _ ?_ (Fr.only_row _ _ _))
    rw [if_pos hl]
    exact hF.tooled ts hl
  · subst hl
    refine wpList_copy_nothing hgd x y 38 38 ho 5 Try.underlying38 u8_size (some ⟨g, 4, none⟩) A 32 32 0 c hd (hs.trans hv) rfl ?_
    unfold wpList
    exact hQ _ _ (hK _ 0 hF (Only.refl _ _))
section
variable {w : World} {r g n c : Nat} {A : Option Addr} {D : Rd}
theorem rawS_len {D D1 : Rd} {ts : List Int} (hok : D.ok) (h : rawS D 32 = (D1, ts)) : ts.length = 32 ∨ ts = [] := by
  unfold rawS at h
  split at h
  · cases h; exact .inr rfl
  split at h
  · cases h; exact .inr rfl
  split at h
  · cases h; exact .inr rfl
  · have := hok.2.1
    cases h
    left
    rw [List.length_take, List.length_drop]
    omega
set_option maxHeartbeats 8000000 in
set_option maxRecDepth 100000 in
theorem hello_read (h : RS w r A n c D) (hF : (kF 1).at_ 29 w g) (hs : ¬ rdf r A g) : Calls Try.prog 76 #[.pointer (some ⟨r, 0, none⟩), .pointer (some ⟨g, 0, none⟩)] w (KindPost w r g n c A D 1) := by
  go_enter Try.func76, Try.ntmps76
  go_wp2_with fail
  refine (part_any h 1 (by omega)).mono ?_
  rintro e w2 ⟨D1, v, HC, hR, ho, (⟨HV, rfl⟩ | ⟨HV, rfl⟩)⟩
  · have hF2 := hF.only ho (notr hs)
    have q1 := hF2.c2
    have f1 := hF2.fz 2
    have ho2 := (Only.refl w (fun k => k = r ∨ k = g)).orr ho
    have hF3 := hF2.set2 (v : Int)
    have hR3 := hR.only (Fr.only_at w2 g 2 (.int .i64 (v : Int))) (sepg hs)
    have ho3 := ho2.org (Fr.only_at w2 g 2 (.int .i64 (v : Int)))
    clear hF hF2 hR ho ho2
    go_wp2_with fail
    generalize w2.setCell ⟨g, 2, none⟩ (.int .i64 (v : Int)) = w3 at *
    clear q1 f1
    refine (part_any hR3 64 (by omega)).mono ?_
    rintro e w4 ⟨D2, s, HC2, hR4, ho4, (⟨HV2, rfl⟩ | ⟨HV2, rfl⟩)⟩
    · have hF4 := hF3.only ho4 (notr hs)
      have q1 := hF4.c3
      have f1 := hF4.fz 3
      have ho5 := ho3.orr ho4
      have hF5 := hF4.set3 (s : Int)
      have hR5 := hR4.only (Fr.only_at w4 g 3 (.int .i64 (s : Int))) (sepg hs)
      have ho6 := ho5.org (Fr.only_at w4 g 3 (.int .i64 (s : Int)))
      clear hF3 hF4 hR3 hR4 ho3 ho4 ho5
      go_wp2_with fail
      generalize w4.setCell ⟨g, 3, none⟩ (.int .i64 (s : Int)) = w5 at *
      clear q1 f1
      have hb5 : Below w5.heap.size w5 w5.drew := below_drew (Below.refl _ _)
      have hF6 := hF5.below hb5
      have hR6 := hR5.below hb5
      have ho7 := ho6.below hb5
      clear hF5 hR5 ho6 hb5
      have hc : Calls Try.prog 69 #[.pointer (some ⟨r, 0, none⟩), .int .i64 32] w5.drew fun e w' => ∃ v, e = .returned v ∧ ∃ D3 ts, Hid (rawS D2 32 = (D3, ts)) ∧ OB 5 w' w5.drew.heap.size v ts ∧ RS w' r A n c D3 ∧ Only w5.drew w' (fun k => k = r) :=
        (Raw_any hR6 32 (by omega)).mono (fun e w7 ⟨D3, v7, ts, he, h7⟩ => ⟨v7, he, D3, ts, h7⟩)
      have hok := hR6.ok
      go_region_law (first
        | (refine at_call ?_ ?_ hc ?_; kernel_rfl; go_simp; rintro v7 w7 ⟨D3, ts, HT, hO7, hR7, ho8⟩; have hF7 := hF6.only ho8 (notr hs); have ho9 := ho7.orr ho8; have hts := rawS_len hok HT.out; clear hF6 hR6 ho7 ho8)
        | (refine at_copy_tool (.tmp 17) (.tmp 19) rfl rfl rfl rfl hO7 hts hF7 ?_; intro w8 k8 hF8 ho8))
      have hR8 := hR7.only ho8 (sepg hs)
      have ho10 := ho9.org ho8
      have HK : Hid (kindS D 1 = (D3, ({ kF 1 with v := (v : Int), s := (s : Int), tool := if ts.length = 32 then ts else z32 } : Fr).core)) := Lib.hid (by
        show helloS D = _
        unfold helloS; rw [someS_some HC.out HV.out]; dsimp only; rw [someS_some HC2.out HV2.out]; dsimp only; rw [HT.out]; rfl)
      clear hc hO7 hR7 hF7 ho9 ho8 hts hok
      go_wp2_with fail
      refine bodyPost_end (v := .tuple #[]) (by simp [results, Try.results76, go_sem]) rfl (.inl ⟨D3, _, rfl, HK, hR8, hF8, ⟨hF8.tool, rt_none _ rfl rfl rfl⟩, fun a e => ?_, ho10⟩)
      cases e
    · have ho5 := ho3.orr ho4
      have hF4 := hF3.only ho4 (notr hs)
      have HK : Hid ((kindS D 1).1 = D1.fail 70 D1.at_) := Lib.hid (by
        have hbad : (D1.fail 70 D1.at_).why ≠ 0 := by show (70 : Int) ≠ 0; decide
        show (helloS D).1 = _
        have h0 := HV2.out.2
        subst h0
        unfold helloS; rw [someS_some HC.out HV.out]; dsimp only; rw [someS_none HC2.out HV2.out.1]; dsimp only; rw [rawS_bad hbad])
      clear hF3 hR3 ho3 hR4 ho4
      refine ⟨rfl, .inr ⟨_, ?_, ?_, hF4, ho5⟩⟩
      · rw [HK.out]; rfl
      · exact Lib.hid (by rw [HK.out]; rfl)
  · have ho5 := (Only.refl w (fun k => k = r ∨ k = g)).orr ho
    have hF4 := hF.only ho (notr hs)
    have HK : Hid ((kindS D 1).1 = D.fail 70 D.at_) := Lib.hid (by
      have hbad : (D.fail 70 D.at_).why ≠ 0 := by show (70 : Int) ≠ 0; decide
      show (helloS D).1 = _
      have h0 := HV.out.2
      subst h0
      unfold helloS; rw [someS_none HC.out HV.out.1]; dsimp only; rw [someS_bad hbad]; dsimp only; rw [rawS_bad hbad])
    clear hF hR ho
    refine ⟨rfl, .inr ⟨_, ?_, ?_, hF4, ho5⟩⟩
    · rw [HK.out]; rfl
    · exact Lib.hid (by rw [HK.out]; rfl)
set_option maxHeartbeats 8000000 in
set_option maxRecDepth 100000 in
theorem request_read (h : RS w r A n c D) (hn : n ≤ 4398046511104) (hF : (kF 2).at_ 29 w g) (hs : ¬ rdf r A g) : Calls Try.prog 82 #[.pointer (some ⟨r, 0, none⟩), .pointer (some ⟨g, 0, none⟩)] w (KindPost w r g n c A D 2) := by
  go_enter Try.func82, Try.ntmps82
  have hoz := Only.refl w (fun k => k = r ∨ k = g)
  go_wp2_with fail
  refine (Uint_any h).mono ?_
  rintro e w2 ⟨D1, v1, rfl, H1, hR1a, ho1a⟩
  have hF1a := hF.only ho1a (notr hs)
  have q1 := hF1a.c1
  have f1 := hF1a.fz 1
  have ho1b := hoz.orr ho1a
  have hF1 := hF1a.set1 (v1 : Int)
  have hR1 := hR1a.only (Fr.only_at w2 g 1 (.int .u64 (v1 : Int))) (sepg hs)
  have ho1 := ho1b.org (Fr.only_at w2 g 1 (.int .u64 (v1 : Int)))
  clear h hF hoz hF1a hR1a ho1a ho1b
  go_wp2_with fail
  generalize w2.setCell ⟨g, 1, none⟩ (.int .u64 (v1 : Int)) = w3 at *
  clear q1 f1
  refine (Count_any hR1 2147483648 (by omega)).mono ?_
  rintro e w4 ⟨D2, v2, rfl, H2, hR2a, ho2a⟩
  have hF2a := hF1.only ho2a (notr hs)
  have q2 := hF2a.c37
  have f2 := hF2a.fz 37
  have ho2b := ho1.orr ho2a
  have hF2 := hF2a.set37 (v2 : Int)
  have hR2 := hR2a.only (Fr.only_at w4 g 37 (.int .i64 (v2 : Int))) (sepg hs)
  have ho2 := ho2b.org (Fr.only_at w4 g 37 (.int .i64 (v2 : Int)))
  clear hR1 hF1 ho1 hF2a hR2a ho2a ho2b
  go_wp2_with fail
  generalize w4.setCell ⟨g, 37, none⟩ (.int .i64 (v2 : Int)) = w5 at *
  clear q2 f2
  refine (Count_any hR2 2147483648 (by omega)).mono ?_
  rintro e w6 ⟨D3, v3, rfl, H3, hR3a, ho3a⟩
  have hF3a := hF2.only ho3a (notr hs)
  have q3 := hF3a.c38
  have f3 := hF3a.fz 38
  have ho3b := ho2.orr ho3a
  have hF3 := hF3a.set38 (v3 : Int)
  have hR3 := hR3a.only (Fr.only_at w6 g 38 (.int .i64 (v3 : Int))) (sepg hs)
  have ho3 := ho3b.org (Fr.only_at w6 g 38 (.int .i64 (v3 : Int)))
  clear hR2 hF2 ho2 hF3a hR3a ho3a ho3b
  go_wp2_with fail
  generalize w6.setCell ⟨g, 38, none⟩ (.int .i64 (v3 : Int)) = w7 at *
  clear q3 f3
  refine (Count_any hR3 2147483648 (by omega)).mono ?_
  rintro e w8 ⟨D4, v4, rfl, H4, hR4a, ho4a⟩
  have hF4a := hF3.only ho4a (notr hs)
  have q4 := hF4a.c39
  have f4 := hF4a.fz 39
  have ho4b := ho3.orr ho4a
  have hF4 := hF4a.set39 (v4 : Int)
  have hR4 := hR4a.only (Fr.only_at w8 g 39 (.int .i64 (v4 : Int))) (sepg hs)
  have ho4 := ho4b.org (Fr.only_at w8 g 39 (.int .i64 (v4 : Int)))
  clear hR3 hF3 ho3 hF4a hR4a ho4a ho4b
  go_wp2_with fail
  generalize w8.setCell ⟨g, 39, none⟩ (.int .i64 (v4 : Int)) = w9 at *
  clear q4 f4
  refine (List_any hR4 hn 8 4096 (by omega) (by omega)).mono ?_
  rintro e w10 ⟨D5, v5, l5, rfl, H5, hO5, hR5a, ho5a⟩
  obtain ⟨A5, c5, rfl, hT5, hc5, hA5⟩ := hO5.open_
  have hF5a := hF4.only ho5a (notr hs)
  have q5 := hF5a.c40
  have f5 := hF5a.fz 40
  have ho5b := ho4.orr ho5a
  have hF5 := hF5a.set40 A5 l5.length c5 l5
  have hR5 := hR5a.only (Fr.only_at w10 g 40 (.slice A5 l5.length c5)) (sepg hs)
  have ho5 := ho5b.org (Fr.only_at w10 g 40 (.slice A5 l5.length c5))
  have hb5 := ho4.size
  have hT5b := hT5.apart (Fr.only_at w10 g 40 (.slice A5 l5.length c5)) (fun a e hg => by have := (hA5 a e).1; have := hF4.lt; omega)
  replace hA5 : ∀ a, A5 = some a → w.heap.size ≤ a.block ∧ ¬ a.block = r ∧ ¬ a.block = g := fun a e => by
    have h1 := (hA5 a e).1
    have h2 := hF4.lt
    have h3 := lt_of_block hR4.rk
    exact ⟨by omega, by omega, by omega⟩
  clear hO5 hT5
  clear hR4 hF4 ho4 hF5a hR5a ho5a ho5b
  go_wp2_with fail
  generalize w10.setCell ⟨g, 40, none⟩ (.slice A5 l5.length c5) = w11 at *
  clear q5 f5
  refine (Text_any hR5 2097152 (by omega)).mono ?_
  rintro e w12 ⟨D6, v6, rfl, H6, hR6a, ho6a⟩
  have hF6a := hF5.only ho6a (notr hs)
  have q6 := hF6a.c41
  have f6 := hF6a.fz 41
  have ho6b := ho5.orr ho6a
  have hF6 := hF6a.set41 v6
  have hR6 := hR6a.only (Fr.only_at w12 g 41 (.string v6)) (sepg hs)
  have ho6 := ho6b.org (Fr.only_at w12 g 41 (.string v6))
  have hT6 := (hT5b.apart ho6a (fun a e => (hA5 a e).2.1)).apart (Fr.only_at w12 g 41 (.string v6)) (fun a e => (hA5 a e).2.2)
  clear hR5 hF5 ho5 hF6a hR6a ho6a ho6b
  have HK : Hid (kindS D 2 = (D6, ({ kF 2 with id := (v1 : Int), mo := (v2 : Int), fu := (v3 : Int), di := (v4 : Int), A := A5, n := l5.length, c := c5, args := l5, body := v6 } : Fr).core)) := Lib.hid (by
    show requestS D = _
    unfold requestS; rw [H1.out]; dsimp only; rw [H2.out]; dsimp only; rw [H3.out]; dsimp only; rw [H4.out]; dsimp only; rw [H5.out]; dsimp only; rw [H6.out]; rfl)
  go_wp2_with fail
  exact bodyPost_end (v := .tuple #[]) (by simp [results, Try.results82, go_sem]) rfl (.inl ⟨D6, _, rfl, HK, hR6, hF6, ⟨rfl, hT6⟩, fun a e => (hA5 a e).1, ho6⟩)
end
end Go.Proofs.Ytelfephmjkipoaa
end
