/- The program's reader: Fail, At, Left, Fault, End, NewReader. -/
import Derived.Test.YtiadfmbddkcleaaWiU
namespace Go.Proofs.Ytiadfmbddkcleaa
open Go.RowKit Go.Kit Go.Proofs.YtiadfmbddkcleaaW.PrintWords
section
variable {w w1 : World} {r n c : Nat} {A : Option Addr} {D : Rd} {S : Nat → Prop}
set_option maxHeartbeats 1000000 in
theorem Fail_any (h : RS w r A n c D) (x : Int) : Calls Try.prog 60 #[.pointer (some ⟨r, 0, none⟩), .int .i64 x] w fun e w' => e = .returned (.tuple #[]) ∧ RS w' r A n c (failS D x) ∧ Only w w' (fun k => k = r) := by
  have h1 := h.r1
  by_cases hw : D.why = 0
  · have HW := Lib.hid hw
    by_cases hx : x = 0
    · have HF : failS D x = D := by unfold failS; rw [if_neg (by rw [hx]; simp)]
      rw [HF]
      have hxb : (x != 0) = false := by simp [hx]
      clear hx HF
      go_enter Try.func60, Try.ntmps60
      go_wp2_with fail
      refine (well_any h true (by simpa using hw)).mono ?_
      rintro e w2 ⟨rfl, rfl⟩
      clear hw
      go_wp2_with fail
      refine bodyPost_end (v := .tuple #[]) (by simp [results, Try.results60, go_sem]) rfl ⟨rfl, h, Only.refl _ _⟩
    · have HF : failS D x = D.fail x D.at_ := by unfold failS; rw [if_pos ⟨hw, hx⟩]
      rw [HF]
      have hxb : (x != 0) = true := by simp [hx]
      have HX := Lib.hid hx
      clear hx HF
      go_enter Try.func60, Try.ntmps60
      go_wp2_with fail
      refine (well_any h true (by simpa using hw)).mono ?_
      rintro e w2 ⟨rfl, rfl⟩
      clear hw
      go_wp2_with fail
      refine (fails_any h x D.at_ HX.out).mono ?_
      rintro e w4 ⟨rfl, hs, ho⟩
      go_wp2_with fail
      refine bodyPost_end (v := .tuple #[]) (by simp [results, Try.results60, go_sem]) rfl ⟨rfl, hs, ho⟩
  · have HF : failS D x = D := by unfold failS; rw [if_neg (by rintro ⟨h1, _⟩; exact hw h1)]
    rw [HF]
    clear HF
    go_enter Try.func60, Try.ntmps60
    go_wp2_with fail
    refine (well_any h false (by simpa using hw)).mono ?_
    rintro e w2 ⟨rfl, rfl⟩
    clear hw
    go_wp2_with fail
    refine bodyPost_end (v := .tuple #[]) (by simp [results, Try.results60, go_sem]) rfl ⟨rfl, h, Only.refl _ _⟩
set_option maxHeartbeats 1000000 in
theorem At_any (h : RS w r A n c D) : Calls Try.prog 28 #[.pointer (some ⟨r, 0, none⟩)] w fun e w' => e = .returned (.int .i64 (D.at_ : Int)) ∧ w' = w := by
  have h1 := h.r1
  go_enter Try.func28, Try.ntmps28
  go_wp2_with fail
  go_ret
  exact ⟨rfl, rfl⟩
set_option maxHeartbeats 1000000 in
theorem Left_any (h : RS w r A n c D) : Calls Try.prog 19 #[.pointer (some ⟨r, 0, none⟩)] w fun e w' => e = .returned (.int .i64 ((n : Int) - (D.at_ : Int))) ∧ ∃ k, w' = w.drewN k := by
  go_enter Try.func19, Try.ntmps19
  go_wp2_with fail
  refine (left_any h).mono ?_
  rintro e w2 ⟨rfl, k, rfl⟩
  go_wp2_with fail
  go_ret
  exact ⟨rfl, _, rfl⟩
def faultV (x y : Int) : Array Value := #[.int .i64 x, .int .i64 y]
theorem fault_size (x y : Int) : (Try.prog.info? 50).map (·.size) = some (faultV x y).size := by
  have h : (Try.prog.info? 50).map (·.size) = some 2 := by kernel_rfl
  exact h
set_option maxHeartbeats 2000000 in
theorem Fault_any (h : RS w r A n c D) : Calls Try.prog 27 #[.pointer (some ⟨r, 0, none⟩)] w fun e w' => e = .returned (.agg #[.int .i64 D.why, .int .i64 D.wat]) ∧ Below w.heap.size w w' := by
  have H := Lib.hid h
  have hbel := below_alloc (Below.refl w.heap.size w) (.cells #[.int .i64 0, .int .i64 0] 50)
  have hz := heap_alloc_new w (.cells #[.int .i64 0, .int .i64 0] 50)
  clear h
  go_enter Try.func27, Try.ntmps27
  go_upto_region 1 with (fail)
  show Code.wp _ _ _ _ (w.alloc (.cells #[.int .i64 0, .int .i64 0] 50))
  generalize w.alloc (.cells #[.int .i64 0, .int .i64 0] 50) = w1 at *
  have hS := H.out.below hbel
  have h2 := hS.r2
  have h3 := hS.r3
  have h4 := hS.r4
  clear hS
  go_wp2_with (with_reducible show wpList _ _ _ (Oper.mk none _ _ _ _ _ :: _) _ _; refine wpList_store_row rfl 50 (.tmp 2) (.tmp 17) rfl w.heap.size (faultV D.why D.wat) rfl rfl 50 _ hz (fault_size D.why D.wat) rfl (by simp [faultV, Value.oneCell']) ?_)
  exact bodyPost_ret (v := .agg (faultV D.why D.wat)) (results_cell_row rfl _ _ w.heap.size 50 (faultV D.why D.wat) (0, 0) _ rfl (setRow_heap _ _ _ _ _ _ hz) Try.underlying50 rfl (fault_size D.why D.wat)) rfl ⟨rfl, below_setRow hbel (Nat.le_refl _) _⟩
set_option maxHeartbeats 2000000 in
theorem End_any (h : RS w r A n c D) : Calls Try.prog 62 #[.pointer (some ⟨r, 0, none⟩)] w fun e w' => e = .returned (.agg #[.int .i64 (endS D).why, .int .i64 (endS D).wat]) ∧ RS w' r A n c (endS D) ∧ Only w w' (fun k => k = r) := by
  have H := Lib.hid h
  have hbel := below_alloc (Below.refl w.heap.size w) (.cells #[.int .i64 0, .int .i64 0] 50)
  have hz := heap_alloc_new w (.cells #[.int .i64 0, .int .i64 0] 50)
  have hre : r < w.heap.size := lt_of_block h.rk
  have hgA : ∀ a, A = some a → a.block ≠ w.heap.size := fun a e => Nat.ne_of_lt (h.old a e)
  have hL := h.row.len
  obtain ⟨D1, hD1⟩ : ∃ D1, endS D = D1 := ⟨_, rfl⟩
  rw [hD1]
  have HD := Lib.hid hD1
  clear h hD1
  go_enter Try.func62, Try.ntmps62
  go_upto_region 1 with (fail)
  show Code.wp _ _ _ _ (w.alloc (.cells #[.int .i64 0, .int .i64 0] 50))
  generalize hw1 : w.alloc (.cells #[.int .i64 0, .int .i64 0] 50) = w1 at *
  clear hw1
  have hS := H.out.below hbel
  have hgr : w.heap.size ≠ r := by omega
  have hbelw := hbel
  generalize hg : w.heap.size = g at hbel hz hre hgA hgr ⊢
  have HG := Lib.hid hg
  have HL := Lib.hid hL
  clear hg hL
  by_cases hw : D.why = 0
  · have HW := Lib.hid hw
    go_wp2_with fail
    refine (well_any hS true (by simpa using hw)).mono ?_
    rintro e w2 ⟨rfl, rfl⟩
    clear hw
    go_wp2_with fail
    refine (left_any hS).mono ?_
    rintro e w3 ⟨rfl, k, rfl⟩
    by_cases hl : D.at_ < n
    · obtain rfl : D1 = D.fail 6 D.at_ := HD.out.symm.trans (by unfold endS; rw [if_pos ⟨HW.out, by rw [HL.out]; exact hl⟩])
      have hl2 : (0 : Int) < (n : Int) - (D.at_ : Int) := by omega
      have hSk := hS.drewN k
      have h1 := hSk.r1
      clear hl
      go_wp2_with fail
      refine (fails_any hSk 6 D.at_ (by decide)).mono ?_
      rintro e w4 ⟨rfl, hs, ho⟩
      have hz4 : w4.heap[g]? = some (.cells #[.int .i64 0, .int .i64 0] 50 (0, 0)) := ho.kept hz hgr
      go_wp2_with fail
      refine (Fault_any hs).mono ?_
      rintro e w5 ⟨rfl, hb5⟩
      have hz5 : w5.heap[g]? = some (.cells #[.int .i64 0, .int .i64 0] 50 (0, 0)) := (hb5.block _ (lt_of_block hz4)).trans hz4
      go_wp2_with (with_reducible show wpList _ _ _ (Oper.mk none _ _ _ _ _ :: _) _ _; refine wpList_store_row rfl 50 (.tmp 2) (.tmp 20) rfl g (faultV 6 D.at_) rfl rfl 50 _ hz5 (fault_size _ _) rfl (by simp [faultV, Value.oneCell']) ?_)
      have hoA := (Only.of_below hbelw (fun k => k = r)).same (((Only.refl w2 (fun k => k = r)).drewN k).same ho)
      have hbg : Only w5 (w5.setRow g (faultV 6 D.at_)) (fun k => k = g) := ⟨rfl, rfl, rfl, by simp [World.setRow], fun k _ hk => setRow_other w5 g k _ hk⟩
      have hs5 := (hs.below hb5).only hbg (fun k hk e => by rcases hk with rfl | ⟨a, e1, rfl⟩; exact hgr e.symm; exact (hgA a e1) e)
      have ho5 : Only w (w5.setRow g (faultV 6 D.at_)) (fun k => k = r) := (hoA.below hb5).then_ hbg (fun k e => .inr (by rw [HG.out]; exact Nat.le_of_eq e.symm))
      exact bodyPost_ret (v := .agg (faultV 6 D.at_)) (results_cell_row rfl _ _ g 50 (faultV 6 D.at_) (0, 0) _ rfl (setRow_heap _ _ _ _ _ _ hz5) Try.underlying50 rfl (fault_size _ _)) rfl ⟨rfl, hs5, ho5⟩
    · obtain rfl : D1 = D := HD.out.symm.trans (by unfold endS; rw [if_neg (by rintro ⟨_, h2⟩; rw [HL.out] at h2; exact hl h2)])
      have hl2 : (n : Int) - (D1.at_ : Int) ≤ 0 := by omega
      have hs := hS.drewN k
      have hz4 : (w2.drewN k).heap[g]? = some (.cells #[.int .i64 0, .int .i64 0] 50 (0, 0)) := hz
      have hoA := ((Only.of_below hbelw (fun k => k = r))).drewN k
      clear hl
      go_wp2_with fail
      refine (Fault_any hs).mono ?_
      rintro e w5 ⟨rfl, hb5⟩
      have hz5 : w5.heap[g]? = some (.cells #[.int .i64 0, .int .i64 0] 50 (0, 0)) := (hb5.block _ (lt_of_block hz4)).trans hz4
      go_wp2_with (with_reducible show wpList _ _ _ (Oper.mk none _ _ _ _ _ :: _) _ _; refine wpList_store_row rfl 50 (.tmp 2) (.tmp 20) rfl g (faultV D1.why D1.wat) rfl rfl 50 _ hz5 (fault_size _ _) rfl (by simp [faultV, Value.oneCell']) ?_)
      have hbg : Only w5 (w5.setRow g (faultV D1.why D1.wat)) (fun k => k = g) := ⟨rfl, rfl, rfl, by simp [World.setRow], fun k _ hk => setRow_other w5 g k _ hk⟩
      have hs5 := (hs.below hb5).only hbg (fun k hk e => by rcases hk with rfl | ⟨a, e1, rfl⟩; exact hgr e.symm; exact (hgA a e1) e)
      have ho5 : Only w (w5.setRow g (faultV D1.why D1.wat)) (fun k => k = r) := (hoA.below hb5).then_ hbg (fun k e => .inr (by rw [HG.out]; exact Nat.le_of_eq e.symm))
      exact bodyPost_ret (v := .agg (faultV D1.why D1.wat)) (results_cell_row rfl _ _ g 50 (faultV D1.why D1.wat) (0, 0) _ rfl (setRow_heap _ _ _ _ _ _ hz5) Try.underlying50 rfl (fault_size _ _)) rfl ⟨rfl, hs5, ho5⟩
  · obtain rfl : D1 = D := HD.out.symm.trans (by unfold endS; rw [if_neg (by rintro ⟨h1, _⟩; exact hw h1)])
    have hs := hS
    have hoA := (Only.of_below hbelw (fun k => k = r))
    go_wp2_with fail
    refine (well_any hS false (by simpa using hw)).mono ?_
    rintro e w2 ⟨rfl, rfl⟩
    clear hw
    go_wp2_with fail
    refine (Fault_any hs).mono ?_
    rintro e w5 ⟨rfl, hb5⟩
    have hz5 : w5.heap[g]? = some (.cells #[.int .i64 0, .int .i64 0] 50 (0, 0)) := (hb5.block _ (lt_of_block hz)).trans hz
    go_wp2_with (with_reducible show wpList _ _ _ (Oper.mk none _ _ _ _ _ :: _) _ _; refine wpList_store_row rfl 50 (.tmp 2) (.tmp 20) rfl g (faultV D1.why D1.wat) rfl rfl 50 _ hz5 (fault_size _ _) rfl (by simp [faultV, Value.oneCell']) ?_)
    have hbg : Only w5 (w5.setRow g (faultV D1.why D1.wat)) (fun k => k = g) := ⟨rfl, rfl, rfl, by simp [World.setRow], fun k _ hk => setRow_other w5 g k _ hk⟩
    have hs5 := (hs.below hb5).only hbg (fun k hk e => by rcases hk with rfl | ⟨a, e1, rfl⟩; exact hgr e.symm; exact (hgA a e1) e)
    have ho5 : Only w (w5.setRow g (faultV D1.why D1.wat)) (fun k => k = r) := (hoA.below hb5).then_ hbg (fun k e => .inr (by rw [HG.out]; exact Nat.le_of_eq e.symm))
    exact bodyPost_ret (v := .agg (faultV D1.why D1.wat)) (results_cell_row rfl _ _ g 50 (faultV D1.why D1.wat) (0, 0) _ rfl (setRow_heap _ _ _ _ _ _ hz5) Try.underlying50 rfl (fault_size _ _)) rfl ⟨rfl, hs5, ho5⟩
end
end Go.Proofs.Ytiadfmbddkcleaa
