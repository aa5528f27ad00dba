/- Ducts that no call made: what each method answers. -/
import Derived.Test.YtodhcgidmdeifaaDuF
import Derived.Test.YtodhcgidmdeifaaDuG
import Derived.Test.YtodhcgidmdeifaaWEqStruct
namespace Go.Proofs.Ytodhcgidmdeifaa
open Go.RowKit Go.Kit Go.Proofs.YtodhcgidmdeifaaW.PrintWords
/-- A duct that no call made: nil, or plain. -/
def Nu (w : World) (v : Value) : Prop := v = .pointer none ∨ ∃ g, v = .pointer (some ⟨g, 0, none⟩) ∧ w.heap[g]? = some (.cells #[.pointer none, .bool false, .int .i64 0, .int .i64 0, .int .i64 0, .int .i64 0] 63 (0, 0))
section
variable {w w1 : World} {v : Value}
theorem Nu.below (h : Nu w v) (hb : Below w.heap.size w w1) : Nu w1 v := h.imp id (fun ⟨g, e, hk⟩ => ⟨g, e, (hb.block g (lt_of_block hk)).trans hk⟩)
set_option maxHeartbeats 1000000 in
theorem made_nu (h : Nu w v) : Calls Try.prog 30 #[v] w fun e w' => e = .returned (.bool false) ∧ w' = w := by
  rcases h with rfl | ⟨g, rfl, hk⟩
  · go_enter Try.func30, Try.ntmps30
    go_wp2_with fail
    go_ret
    exact ⟨rfl, rfl⟩
  · have h0 := cell_of_row w g 0 _ _ _ hk
    simp only [List.getElem?_toArray, List.getElem?_cons_zero, List.getElem?_cons_succ] at h0
    go_enter Try.func30, Try.ntmps30
    go_wp2_with fail
    go_ret
    exact ⟨rfl, rfl⟩
set_option maxHeartbeats 1000000 in
theorem write_nu (h : Nu w v) (u : Value) : Calls Try.prog 12 #[v, u] w fun e w' => e = .returned (.tuple #[.int .i64 0, .int .i64 2]) ∧ w' = w := by
  go_enter Try.func12, Try.ntmps12
  go_wp2_with fail
  refine (made_nu h).mono ?_
  rintro e w2 ⟨rfl, rfl⟩
  go_wp2_with fail
  go_ret2
  exact ⟨rfl, rfl⟩
set_option maxHeartbeats 1000000 in
theorem lose_nu (h : Nu w v) (a b : Int) : Calls Try.prog 23 #[v, .int .i64 a, .int .i64 b] w fun e w' => e = .returned (.tuple #[.int .i64 0, .int .i64 2]) ∧ w' = w := by
  go_enter Try.func23, Try.ntmps23
  go_wp2_with fail
  refine (made_nu h).mono ?_
  rintro e w2 ⟨rfl, rfl⟩
  go_wp2_with fail
  go_ret2
  exact ⟨rfl, rfl⟩
set_option maxHeartbeats 1000000 in
theorem turn_nu (h : Nu w v) (a b : Int) : Calls Try.prog 16 #[v, .int .i64 a, .int .u8 b] w fun e w' => e = .returned (.int .i64 2) ∧ w' = w := by
  go_enter Try.func16, Try.ntmps16
  go_wp2_with fail
  refine (made_nu h).mono ?_
  rintro e w2 ⟨rfl, rfl⟩
  go_wp2_with fail
  go_ret
  exact ⟨rfl, rfl⟩
set_option maxHeartbeats 1000000 in
theorem shut_nu (h : Nu w v)  : Calls Try.prog 21 #[v] w fun e w' => e = .returned (.int .i64 2) ∧ w' = w := by
  go_enter Try.func21, Try.ntmps21
  go_wp2_with fail
  refine (made_nu h).mono ?_
  rintro e w2 ⟨rfl, rfl⟩
  go_wp2_with fail
  go_ret
  exact ⟨rfl, rfl⟩
set_option maxHeartbeats 1000000 in
theorem first_nu (h : Nu w v) (a : Int) : Calls Try.prog 31 #[v, .int .i64 a] w fun e w' => e = .returned (.int .i64 0) ∧ w' = w := by
  go_enter Try.func31, Try.ntmps31
  go_wp2_with fail
  refine (made_nu h).mono ?_
  rintro e w2 ⟨rfl, rfl⟩
  go_wp2_with fail
  go_ret
  exact ⟨rfl, rfl⟩
set_option maxHeartbeats 1000000 in
theorem len_nu (h : Nu w v)  : Calls Try.prog 20 #[v] w fun e w' => e = .returned (.int .i64 0) ∧ w' = w := by
  go_enter Try.func20, Try.ntmps20
  go_wp2_with fail
  refine (made_nu h).mono ?_
  rintro e w2 ⟨rfl, rfl⟩
  go_wp2_with fail
  go_ret
  exact ⟨rfl, rfl⟩
set_option maxHeartbeats 1000000 in
theorem room_nu (h : Nu w v)  : Calls Try.prog 19 #[v] w fun e w' => e = .returned (.int .i64 0) ∧ w' = w := by
  go_enter Try.func19, Try.ntmps19
  go_wp2_with fail
  refine (made_nu h).mono ?_
  rintro e w2 ⟨rfl, rfl⟩
  go_wp2_with fail
  go_ret
  exact ⟨rfl, rfl⟩
set_option maxHeartbeats 1000000 in
theorem done_nu (h : Nu w v)  : Calls Try.prog 28 #[v] w fun e w' => e = .returned (.bool false) ∧ w' = w := by
  go_enter Try.func28, Try.ntmps28
  go_wp2_with fail
  refine (made_nu h).mono ?_
  rintro e w2 ⟨rfl, rfl⟩
  go_wp2_with fail
  go_ret
  exact ⟨rfl, rfl⟩
set_option maxHeartbeats 1000000 in
theorem read_nu (h : Nu w v) (a : Int) : Calls Try.prog 15 #[v, .int .i64 a] w fun e w' => e = .returned (.slice none 0 0) ∧ w' = w := by
  go_enter Try.func15, Try.ntmps15
  go_wp2_with fail
  refine (first_nu h a).mono ?_
  rintro e w2 ⟨rfl, rfl⟩
  go_wp2_with fail
  go_ret
  exact ⟨rfl, rfl⟩
set_option maxHeartbeats 1000000 in
theorem peek_nu (h : Nu w v) (a : Int) : Calls Try.prog 14 #[v, .int .i64 a] w fun e w' => e = .returned (.slice none 0 0) ∧ w' = w := by
  go_enter Try.func14, Try.ntmps14
  go_wp2_with fail
  refine (first_nu h a).mono ?_
  rintro e w2 ⟨rfl, rfl⟩
  go_wp2_with fail
  go_ret
  exact ⟨rfl, rfl⟩
def zeroC : Array Value := #[.int .i64 0, .int .i64 0, .int .i64 0, .int .i64 0]
theorem zeroC_size : (Try.prog.info? 41).map (·.size) = some zeroC.size := by kernel_rfl
set_option maxHeartbeats 1000000 in
theorem count_nu (h : Nu w v) : Calls Try.prog 24 #[v] w fun e w' => e = .returned (.agg zeroC) ∧ Below w.heap.size w w' := by
  have H := Lib.hid h
  have hbel := below_alloc (Below.refl w.heap.size w) (.cells #[.int .i64 0, .int .i64 0, .int .i64 0, .int .i64 0] 41)
  have hz := heap_alloc_new w (.cells #[.int .i64 0, .int .i64 0, .int .i64 0, .int .i64 0] 41)
  clear h
  go_enter Try.func24, Try.ntmps24
  go_upto_region 1 with (fail)
  show Code.wp _ _ _ _ (w.alloc (.cells #[.int .i64 0, .int .i64 0, .int .i64 0, .int .i64 0] 41))
  generalize w.alloc (.cells #[.int .i64 0, .int .i64 0, .int .i64 0, .int .i64 0] 41) = w1 at *
  rcases H.out.below hbel with rfl | ⟨g, rfl, hk⟩
  · go_wp2_with (with_reducible show wpList _ _ _ (Oper.mk none _ _ _ _ _ :: _) _ _; refine wpList_store_row rfl 41 (.tmp 2) (.tmp 5) rfl w.heap.size zeroC rfl rfl 41 _ hz zeroC_size rfl (by simp [zeroC, Value.oneCell']) ?_)
    exact bodyPost_ret (v := .agg zeroC) (results_cell_row rfl _ _ w.heap.size 41 zeroC (0, 0) _ rfl (setRow_heap _ _ _ _ _ _ hz) Try.underlying41 rfl zeroC_size) rfl ⟨rfl, below_setRow hbel (Nat.le_refl _) _⟩
  · have h2 := cell_of_row w1 g 2 _ _ _ hk
    have h3 := cell_of_row w1 g 3 _ _ _ hk
    have h4 := cell_of_row w1 g 4 _ _ _ hk
    have h5 := cell_of_row w1 g 5 _ _ _ hk
    simp only [List.getElem?_toArray, List.getElem?_cons_zero, List.getElem?_cons_succ] at h2 h3 h4 h5
    go_wp2_with (with_reducible show wpList _ _ _ (Oper.mk none _ _ _ _ _ :: _) _ _; refine wpList_store_row rfl 41 (.tmp 2) (.tmp 9) rfl w.heap.size zeroC rfl rfl 41 _ hz zeroC_size rfl (by simp [zeroC, Value.oneCell']) ?_)
    exact bodyPost_ret (v := .agg zeroC) (results_cell_row rfl _ _ w.heap.size 41 zeroC (0, 0) _ rfl (setRow_heap _ _ _ _ _ _ hz) Try.underlying41 rfl zeroC_size) rfl ⟨rfl, below_setRow hbel (Nat.le_refl _) _⟩
theorem made_du {d : Nat} {F : Nat → Prop} {D : Dk} (h : Du w d F D) : Calls Try.prog 30 #[.pointer (some ⟨d, 0, none⟩)] w fun e w' => e = .returned (.bool true) ∧ w' = w := by
  obtain ⟨b, A, n, c, h1, rfl⟩ := h
  exact made_any h1
/-- A pair that no call made. -/
def NuP (w : World) (v : Value) : Prop := v = .pointer none ∨ ∃ g a b, v = .pointer (some ⟨g, 0, none⟩) ∧ w.heap[g]? = some (.cells #[a, b] 47 (0, 0)) ∧ ((Nu w a) ∨ ((∃ d F D, a = .pointer (some ⟨d, 0, none⟩) ∧ Du w d F D) ∧ Nu w b))
set_option maxHeartbeats 1000000 in
theorem pshut_nu (h : NuP w v) : Calls Try.prog 22 #[v] w fun e w' => e = .returned (.int .i64 2) ∧ w' = w := by
  rcases h with rfl | ⟨g, a, b, rfl, hk, h⟩
  · go_enter Try.func22, Try.ntmps22
    go_wp2_with fail
    go_ret
    exact ⟨rfl, rfl⟩
  · have h0 := cell_of_row w g 0 _ _ _ hk
    have h1 := cell_of_row w g 1 _ _ _ hk
    simp only [List.getElem?_toArray, List.getElem?_cons_zero, List.getElem?_cons_succ] at h0 h1
    rcases h with h | ⟨⟨d, F, D, rfl, hd⟩, h⟩
    · go_enter Try.func22, Try.ntmps22
      go_wp2_with fail
      refine (made_nu h).mono ?_
      rintro e w2 ⟨rfl, rfl⟩
      go_wp2_with fail
      go_ret
      exact ⟨rfl, rfl⟩
    · go_enter Try.func22, Try.ntmps22
      go_wp2_with fail
      refine (made_du hd).mono ?_
      rintro e w2 ⟨rfl, rfl⟩
      go_wp2_with fail
      refine (made_nu h).mono ?_
      rintro e w2 ⟨rfl, rfl⟩
      go_wp2_with fail
      go_ret
      exact ⟨rfl, rfl⟩
end
end Go.Proofs.Ytodhcgidmdeifaa
