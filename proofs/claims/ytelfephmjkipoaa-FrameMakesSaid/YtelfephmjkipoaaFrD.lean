/- The contracts of frame's makers. -/
import Derived.Test.YtelfephmjkipoaaFrB
import Derived.Test.YtelfephmjkipoaaClone
import Derived.Deep.RegionWith
namespace Go.Proofs.Ytelfephmjkipoaa
open Go.RowKit Go.Kit Go.Proofs.YtelfephmjkipoaaW.PrintWords
def zero32 : List Int := List.replicate 32 0
def helloF (s : Int) (tool : List Int) : Fr := ⟨1, 0, 1, s, tool, 0, 0, 0, 0, none, 0, 0, [], ByteArray.empty⟩
def reqF (id mo fu di : Int) (A : Option Addr) (n c : Nat) (args : List ByteArray) (body : ByteArray) : Fr := ⟨2, id, 0, 0, zero32, 0, mo, fu, di, A, n, c, args, body⟩
def respF (id st : Int) (body : ByteArray) : Fr := ⟨3, id, 0, 0, zero32, st, 0, 0, 0, none, 0, 0, [], body⟩
def cancelF (id : Int) : Fr := ⟨4, id, 0, 0, zero32, 0, 0, 0, 0, none, 0, 0, [], ByteArray.empty⟩
def byeF : Fr := ⟨5, 0, 0, 0, zero32, 0, 0, 0, 0, none, 0, 0, [], ByteArray.empty⟩
def noteF (body : ByteArray) : Fr := ⟨6, 0, 0, 0, zero32, 0, 0, 0, 0, none, 0, 0, [], body⟩
def zeroF : Fr := ⟨0, 0, 0, 0, zero32, 0, 0, 0, 0, none, 0, 0, [], ByteArray.empty⟩
theorem frame_size : (Try.prog.info? 29).map (·.size) = some 42 := by kernel_rfl
theorem arr_one (f : Fr) : f.arr.all (·.oneCell') = true := by
  simp only [Fr.arr, Fr.cells, Fr.lim, List.all_toArray, List.all_append, Bool.and_eq_true, List.all_eq_true]
  refine ⟨?_, ?_, ?_, ?_, ?_⟩ <;> intro x hx
  · simp at hx; rcases hx with rfl | rfl | rfl | rfl <;> rfl
  · simp only [nums, List.mem_map] at hx; obtain ⟨q, _, rfl⟩ := hx; rfl
  all_goals simp at hx; rcases hx with rfl | rfl | rfl <;> rfl
theorem size_of (f : Fr) (h : f.tool.length = 32) : (Try.prog.info? 29).map (·.size) = some f.arr.size := by rw [frame_size, Fr.arr_size f h]
/-- What is built of some fields. -/
theorem built_of {w : World} {parts : Array (Nat × Value)} {cs : Array Value} (h : Try.prog.built 29 parts.toList = some cs) : (Instr.build 29 parts).run Try.prog w = .ok (.agg cs) w := run_build w _ _ _ h
theorem hello_built (s : Int) (tool : List Int) (h : tool.length = 32) (W : World) : (Instr.build 29 #[(0, .int .i64 1), (2, .int .i64 1), (3, .int .i64 s), (4, .agg (nums .u8 tool).toArray)]).run Try.prog W = .ok (.agg (helloF s tool).arr) W := by
  refine built_of ?_
  match tool, h with
  | [a0,a1,a2,a3,a4,a5,a6,a7,a8,a9,a10,a11,a12,a13,a14,a15,a16,a17,a18,a19,a20,a21,a22,a23,a24,a25,a26,a27,a28,a29,a30,a31], _ => show _ = _; kernel_rfl
theorem req_built (id mo fu di : Int) (A : Option Addr) (n c : Nat) (args : List ByteArray) (body : ByteArray) (W : World) : (Instr.build 29 #[(0, .int .i64 2), (1, .int .u64 id), (6, .agg #[.int .i64 mo, .int .i64 fu, .int .i64 di]), (7, .slice A n c), (8, .string body)]).run Try.prog W = .ok (.agg (reqF id mo fu di A n c args body).arr) W :=
  built_of (by show _ = _; kernel_rfl)
theorem resp_built (id st : Int) (body : ByteArray) (W : World) : (Instr.build 29 #[(0, .int .i64 3), (1, .int .u64 id), (5, .int .i64 st), (8, .string body)]).run Try.prog W = .ok (.agg (respF id st body).arr) W :=
  built_of (by show _ = _; kernel_rfl)
theorem cancel_built (id : Int) (W : World) : (Instr.build 29 #[(0, .int .i64 4), (1, .int .u64 id)]).run Try.prog W = .ok (.agg (cancelF id).arr) W :=
  built_of (by show _ = _; kernel_rfl)
theorem bye_built (W : World) : (Instr.build 29 #[(0, .int .i64 5)]).run Try.prog W = .ok (.agg byeF.arr) W :=
  built_of (by kernel_rfl)
theorem note_built (body : ByteArray) (W : World) : (Instr.build 29 #[(0, .int .i64 6), (8, .string body)]).run Try.prog W = .ok (.agg (noteF body).arr) W :=
  built_of (by show _ = _; kernel_rfl)
/-- The box of a frame that is to be returned. -/
structure Box (w w1 : World) (g : Nat) : Prop where
  blk : ∃ Z : Array Value, Z.size = 42 ∧ w1.heap[g]? = some (.cells Z 29 (0, 0))
  bel : Below w.heap.size w w1
  base : w.heap.size ≤ g
theorem box_of (w : World) : Box w (w.alloc (.cells zeroF.arr 29)) w.heap.size :=
  ⟨⟨zeroF.arr, by kernel_rfl, heap_alloc_new w _⟩, below_alloc (Below.refl _ w) _, Nat.le_refl _⟩
theorem box_of2 (w : World) (o : Obj) : Box w ((w.alloc o).alloc (.cells zeroF.arr 29)) (w.heap.size + 1) :=
  ⟨⟨zeroF.arr, by kernel_rfl, by simpa using heap_alloc_new (w.alloc o) (.cells zeroF.arr 29)⟩, below_alloc (below_alloc (Below.refl _ w) _) _, by omega⟩
attribute [-go_sem] Instr.build
set_option maxRecDepth 100000 in
theorem Bye_any (w : World) :
    Calls Try.prog 18 #[] w fun e w' => e = .returned (byeF).val ∧ Below w.heap.size w w' := by
  have hsz := size_of (byeF) rfl
  have hone := arr_one (byeF)
  have has := Fr.arr_size (byeF) rfl
  have hbl := bye_built
  unfold Fr.val
  generalize (byeF).arr = FA at *
  go_enter Try.func18, Try.ntmps18
  go_upto_region 1 with (fail)
  have hB := box_of w
  show Code.wp _ _ _ _ (w.alloc (.cells zeroF.arr 29))
  generalize w.alloc (.cells zeroF.arr 29) = w1 at *
  obtain ⟨⟨Z, hZ, hblk⟩, hbel, _⟩ := hB
  go_wp2_with (with_reducible show wpList _ _ _ (Oper.mk none _ _ _ _ _ :: _) _ _; refine wpList_store_row rfl 29 (.tmp 0) (.tmp 1) rfl w.heap.size FA rfl rfl 29 Z hblk hsz (by rw [hZ]; exact has.symm) hone ?_)
  exact bodyPost_ret (v := .agg FA) (results_cell_row rfl _ _ w.heap.size 29 FA (0, 0) _ rfl (setRow_heap _ _ _ _ _ _ hblk) Try.underlying29 rfl hsz) rfl ⟨rfl, below_setRow hbel (Nat.le_refl _) _⟩
set_option maxRecDepth 100000 in
theorem Note_any (body : ByteArray) (w : World) :
    Calls Try.prog 19 #[.string body] w fun e w' => e = .returned (noteF body).val ∧ Below w.heap.size w w' := by
  have hsz := size_of (noteF body) rfl
  have hone := arr_one (noteF body)
  have has := Fr.arr_size (noteF body) rfl
  have hbl := note_built body
  unfold Fr.val
  generalize (noteF body).arr = FA at *
  go_enter Try.func19, Try.ntmps19
  go_upto_region 1 with (fail)
  have hB := box_of w
  show Code.wp _ _ _ _ (w.alloc (.cells zeroF.arr 29))
  generalize w.alloc (.cells zeroF.arr 29) = w1 at *
  obtain ⟨⟨Z, hZ, hblk⟩, hbel, _⟩ := hB
  go_wp2_with (with_reducible show wpList _ _ _ (Oper.mk none _ _ _ _ _ :: _) _ _; refine wpList_store_row rfl 29 (.tmp 2) (.tmp 4) rfl w.heap.size FA rfl rfl 29 Z hblk hsz (by rw [hZ]; exact has.symm) hone ?_)
  exact bodyPost_ret (v := .agg FA) (results_cell_row rfl _ _ w.heap.size 29 FA (0, 0) _ rfl (setRow_heap _ _ _ _ _ _ hblk) Try.underlying29 rfl hsz) rfl ⟨rfl, below_setRow hbel (Nat.le_refl _) _⟩
set_option maxRecDepth 100000 in
theorem Cancel_any (id : Int) (w : World) :
    Calls Try.prog 17 #[.int .u64 id] w fun e w' => e = .returned (cancelF id).val ∧ Below w.heap.size w w' := by
  have hsz := size_of (cancelF id) rfl
  have hone := arr_one (cancelF id)
  have has := Fr.arr_size (cancelF id) rfl
  have hbl := cancel_built id
  unfold Fr.val
  generalize (cancelF id).arr = FA at *
  go_enter Try.func17, Try.ntmps17
  go_upto_region 1 with (fail)
  have hB := box_of w
  show Code.wp _ _ _ _ (w.alloc (.cells zeroF.arr 29))
  generalize w.alloc (.cells zeroF.arr 29) = w1 at *
  obtain ⟨⟨Z, hZ, hblk⟩, hbel, _⟩ := hB
  go_wp2_with (with_reducible show wpList _ _ _ (Oper.mk none _ _ _ _ _ :: _) _ _; refine wpList_store_row rfl 29 (.tmp 2) (.tmp 4) rfl w.heap.size FA rfl rfl 29 Z hblk hsz (by rw [hZ]; exact has.symm) hone ?_)
  exact bodyPost_ret (v := .agg FA) (results_cell_row rfl _ _ w.heap.size 29 FA (0, 0) _ rfl (setRow_heap _ _ _ _ _ _ hblk) Try.underlying29 rfl hsz) rfl ⟨rfl, below_setRow hbel (Nat.le_refl _) _⟩
set_option maxRecDepth 100000 in
theorem Response_any (id st : Int) (body : ByteArray) (w : World) :
    Calls Try.prog 16 #[.int .u64 id, .int .i64 st, .string body] w fun e w' => e = .returned (respF id st body).val ∧ Below w.heap.size w w' := by
  have hsz := size_of (respF id st body) rfl
  have hone := arr_one (respF id st body)
  have has := Fr.arr_size (respF id st body) rfl
  have hbl := resp_built id st body
  unfold Fr.val
  generalize (respF id st body).arr = FA at *
  go_enter Try.func16, Try.ntmps16
  go_upto_region 1 with (fail)
  have hB := box_of w
  show Code.wp _ _ _ _ (w.alloc (.cells zeroF.arr 29))
  generalize w.alloc (.cells zeroF.arr 29) = w1 at *
  obtain ⟨⟨Z, hZ, hblk⟩, hbel, _⟩ := hB
  go_wp2_with (with_reducible show wpList _ _ _ (Oper.mk none _ _ _ _ _ :: _) _ _; refine wpList_store_row rfl 29 (.tmp 6) (.tmp 10) rfl w.heap.size FA rfl rfl 29 Z hblk hsz (by rw [hZ]; exact has.symm) hone ?_)
  exact bodyPost_ret (v := .agg FA) (results_cell_row rfl _ _ w.heap.size 29 FA (0, 0) _ rfl (setRow_heap _ _ _ _ _ _ hblk) Try.underlying29 rfl hsz) rfl ⟨rfl, below_setRow hbel (Nat.le_refl _) _⟩
theorem grown_setRow (W : World) (g : Nat) (cs : Array Value) : W.grownBy (W.setRow g cs) (some g) :=
  ⟨rfl, rfl, rfl, Nat.le_of_eq (by simp [World.setRow]), fun k _ hk => by
    show (W.heap.modify g _)[k]? = _
    rw [Array.getElem?_modify, if_neg (fun e => hk (by rw [e]))]⟩
attribute [-go_sem] Instr.loadAt
set_option maxRecDepth 100000 in
theorem Hello_any (s : Int) (tool : List Int) (ht : tool.length = 32) (w : World) :
    Calls Try.prog 14 #[.int .i64 s, .agg (nums .u8 tool).toArray] w fun e w' => e = .returned (helloF s tool).val ∧ Below w.heap.size w w' := by
  have hsz := size_of (helloF s tool) ht
  have hone := arr_one (helloF s tool)
  have has := Fr.arr_size (helloF s tool) ht
  have hbl := hello_built s tool ht
  have hi : (Try.prog.info? 24).map (·.size) = some (nums .u8 tool).length := by rw [nums_length, ht]; kernel_rfl
  have hl : ∀ W : World, W.heap[w.heap.size]? = some (.cells (nums .u8 tool).toArray 24 (0, 0)) → (Instr.loadAt 24 (.pointer (some ⟨w.heap.size, 0, none⟩))).run Try.prog W = .ok (.agg (nums .u8 tool).toArray) W := fun W h =>
    run_loadAt_mid W _ 0 24 (nums .u8 tool) _ (fun j v hj => by rw [Nat.zero_add, cell_of_row W _ j _ _ _ h]; simpa using hj) Try.underlying24 rfl hi
  unfold Fr.val
  clear hi
  generalize (helloF s tool).arr = FA at *
  generalize (nums .u8 tool).toArray = TA at *
  go_enter Try.func14, Try.ntmps14
  go_upto_region 1 with (fail)
  have hB := box_of2 w (.cells TA 24)
  have hT : ((w.alloc (.cells TA 24)).alloc (.cells zeroF.arr 29)).heap[w.heap.size]? = some (.cells TA 24 (0, 0)) := (heap_alloc_old _ _ (by simp)).trans (heap_alloc_new w _)
  show Code.wp _ _ _ _ ((w.alloc (.cells TA 24)).alloc (.cells zeroF.arr 29))
  generalize (w.alloc (.cells TA 24)).alloc (.cells zeroF.arr 29) = w1 at *
  replace hl := hl w1 hT
  obtain ⟨⟨Z, hZ, hblk⟩, hbel, hge⟩ := hB
  clear hT
  generalize w.heap.size + 1 = g1 at *
  go_wp2_with (with_reducible show wpList _ _ _ (Oper.mk none _ _ _ _ _ :: _) _ _; refine wpList_store_row rfl 29 (.tmp 4) (.tmp 7) rfl g1 FA rfl rfl 29 Z hblk hsz (by rw [hZ]; exact has.symm) hone ?_)
  exact bodyPost_ret (v := .agg FA) (results_cell_row rfl _ _ g1 29 FA (0, 0) _ rfl (setRow_heap _ _ _ _ _ _ hblk) Try.underlying29 rfl hsz) rfl ⟨rfl, below_setRow hbel hge _⟩
attribute [-go_sem] Instr.storeAt
set_option maxHeartbeats 1000000 in
set_option maxRecDepth 100000 in
theorem Request_any (id mo fu di : Int) (A : Option Addr) (n c : Nat) (args : List ByteArray) (body : ByteArray) (w : World) (hx : RT w A n args) (hn : n * 16 ≤ 140737488351232) :
    Calls Try.prog 15 #[.int .u64 id, .agg #[.int .i64 mo, .int .i64 fu, .int .i64 di], .string body, .slice A n c] w fun e w' => ∃ A1 c1, e = .returned (reqF id mo fu di A1 n c1 args body).val ∧ OT 9 w' w.heap.size (.slice A1 n c1) args ∧ RT w' A1 n args ∧ Below w.heap.size w w' := by
  have hi : (Try.prog.info? 26).map (·.size) = some 3 := by kernel_rfl
  have hl : ∀ W : World, W.heap[w.heap.size]? = some (.cells #[.int .i64 mo, .int .i64 fu, .int .i64 di] 26 (0, 0)) → (Instr.loadAt 26 (.pointer (some ⟨w.heap.size, 0, none⟩))).run Try.prog W = .ok (.agg #[.int .i64 mo, .int .i64 fu, .int .i64 di]) W := fun W h =>
    run_loadAt_mid W _ 0 26 [.int .i64 mo, .int .i64 fu, .int .i64 di] _ (fun j v hj => by rw [Nat.zero_add, cell_of_row W _ j _ _ _ h]; simpa using hj) Try.underlying26 rfl hi
  obtain ⟨FA, hFA⟩ : ∃ FA : Option Addr → Nat → Array Value, ∀ A c, (reqF id mo fu di A n c args body).arr = FA A c := ⟨_, fun _ _ => rfl⟩
  have hbl := fun A c => req_built id mo fu di A n c args body
  have hsz := fun A c => size_of (reqF id mo fu di A n c args body) rfl
  have hst : ∀ (W : World) (g : Nat) (Z : Array Value) (A : Option Addr) (c : Nat), W.heap[g]? = some (.cells Z 29 (0, 0)) → Z.size = 42 → (Instr.storeAt 29 (.pointer (some ⟨g, 0, none⟩)) (.agg (FA A c))).run Try.prog W = .ok () (W.setRow g (FA A c)) := fun W g Z A c h hz => by
    rw [← hFA]
    simp only [Instr.storeAt, Instr.sureAddr, Sem.run_bind, Sem.run_pure, Result.andThen_ok, run_storeVar_row W g 29 29 Z _ h (hsz A c) (by rw [hz]; exact (Fr.arr_size (reqF id mo fu di A n c args body) rfl).symm) (arr_one _)]
  unfold Fr.val
  simp only [hFA] at hbl hsz ⊢
  clear hi hFA
  have HN := Lib.hid hn
  have HLn := Lib.hid hx.len
  clear hn
  go_enter Try.func15, Try.ntmps15
  go_upto_region 1 with (fail)
  have hB := box_of2 w (.cells #[.int .i64 mo, .int .i64 fu, .int .i64 di] 26)
  have hT : ((w.alloc (.cells #[.int .i64 mo, .int .i64 fu, .int .i64 di] 26)).alloc (.cells zeroF.arr 29)).heap[w.heap.size]? = some (.cells #[.int .i64 mo, .int .i64 fu, .int .i64 di] 26 (0, 0)) := (heap_alloc_old _ _ (by simp)).trans (heap_alloc_new w _)
  show Code.wp _ _ _ _ ((w.alloc (.cells #[.int .i64 mo, .int .i64 fu, .int .i64 di] 26)).alloc (.cells zeroF.arr 29))
  generalize (w.alloc (.cells #[.int .i64 mo, .int .i64 fu, .int .i64 di] 26)).alloc (.cells zeroF.arr 29) = w1 at *
  obtain ⟨⟨Z, hZ, hblk⟩, hbel, hge⟩ := hB
  have hx1 := hx.below hbel
  have hg1 : w.heap.size + 1 < w1.heap.size := by
    rcases Nat.lt_or_ge (w.heap.size + 1) w1.heap.size with h | h
    · exact h
    · rw [Array.getElem?_eq_none h] at hblk; cases hblk
  have hTd : w1.drew.heap[w.heap.size]? = some (.cells #[.int .i64 mo, .int .i64 fu, .int .i64 di] 26 (0, 0)) := hT
  generalize w.heap.size + 1 = g1 at *
  go_region_with (first
    | (go_at_call 33; refine (Clone_any A n c args _ (RT.drewN hx1 1) HN.out).mono ?_; rintro e w3 ⟨v3, rfl, hO3, hb3⟩; obtain ⟨A3, c3, hv3, hn3, hR3⟩ := own_reads_of_le (d := ByteArray.empty) hO3; rw [HLn.out] at hv3 hR3; subst hv3; have HN3 := Lib.hid hn3; clear hn3; have hT3 := (hb3.block _ (by show w.heap.size < w1.heap.size; omega)).trans hTd; have hB3 := (hb3.block g1 hg1).trans hblk))
  all_goals
    have hb4 : Below w.heap.size w w3 := below_step (pw_below_drewN hbel 1) hb3
    have hne : (Value.slice A3 n c3).ownBlock = none ∨ (Value.slice A3 n c3).ownBlock ≠ some g1 := by
      rcases hO3.2 with ⟨h1, h2⟩ | ⟨g, cap, cur, h1, hb, _⟩
      · left; rw [h1]; rfl
      · right; rw [h1]; intro e
        have e1 : g = g1 := Option.some.inj e
        have : w1.heap.size ≤ g := hb
        omega
    have hO4 := hO3.kept (grown_setRow w3 g1 (FA A3 c3)) hne
    have hO5 : OT 9 (w3.setRow g1 (FA A3 c3)) w.heap.size (.slice A3 n c3) args := own_less hO4 (by show w.heap.size ≤ w1.heap.size; omega)
    have hR5 : RT (w3.setRow g1 (FA A3 c3)) A3 n args := own_reads_of' (by have := hO5; unfold OT at this; rwa [HLn.out] at this)
    have HR : (w3.setRow g1 (FA A3 c3)).heap[g1]? = some (.cells (FA A3 c3) 29 (0, 0)) := setRow_heap _ _ _ _ _ _ hB3
    have hb5 := below_setRow hb4 hge (FA A3 c3)
    clear hb3 hO3 hR3 hT3 hne hO4
    go_wp2_with fail
    exact bodyPost_ret (v := .agg (FA A3 c3)) (results_cell_row rfl _ _ g1 29 (FA A3 c3) (0, 0) _ rfl HR Try.underlying29 rfl (hsz _ _)) rfl ⟨A3, c3, rfl, hO5, hR5, hb5⟩
end Go.Proofs.Ytelfephmjkipoaa
