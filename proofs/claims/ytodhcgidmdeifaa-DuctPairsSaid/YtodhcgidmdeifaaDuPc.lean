/- DuctPairs, where there is no such room; a pair's argument opened. -/
import Derived.Test.YtodhcgidmdeifaaDuPa
import Derived.Test.YtodhcgidmdeifaaOpenSt
namespace Go.Proofs.Ytodhcgidmdeifaa
open Go.ChangeShapes Go.WideShapes Go.RowKit Go.Kit Go.Deep Go.Proofs.YtodhcgidmdeifaaW.PrintWords
set_option maxHeartbeats 4000000 in
set_option maxRecDepth 100000 in
theorem DuctPairs_bad (r first : Int) (A B : Option Addr) (lenA capA lenB capB : Nat) (w : World) (hr : ¬ (1 ≤ r ∧ r ≤ 4194304)) :
    Calls Try.prog 5 #[.agg #[.int .i64 r, .slice A lenA capA, .slice B lenB capB, .int .i64 first]] w fun e w' => e = .returned (.bool true) ∧ Below w.heap.size w w' := by
  have HR := Lib.hid hr
  clear hr
  go_enter Try.func5, Try.ntmps5
  have hba := below_alloc (Below.refl w.heap.size w) (.cells #[.int .i64 r, .slice A lenA capA, .slice B lenB capB, .int .i64 first] 36)
  have hbk := heap_alloc_new w (.cells #[.int .i64 r, .slice A lenA capA, .slice B lenB capB, .int .i64 first] 36)
  go_upto_region 1 with (fail)
  generalize w.alloc (.cells #[.int .i64 r, .slice A lenA capA, .slice B lenB capB, .int .i64 first] 36) = w0 at *
  have k0 := cell_of_row w0 _ 0 _ _ _ hbk
  have k1 := cell_of_row w0 _ 1 _ _ _ hbk
  have k2 := cell_of_row w0 _ 2 _ _ _ hbk
  have k3 := cell_of_row w0 _ 3 _ _ _ hbk
  simp only [List.getElem?_toArray, List.getElem?_cons_zero, List.getElem?_cons_succ] at k0 k1 k2 k3
  go_quiet (fail)
  have hbq := fun m => pw_below_drewN hba m
  clear hba hbk k0 k1 k2 k3
  go_wp2_with fail
  refine (pair_bad r HR.out _).mono ?_
  rintro e w1 ⟨rfl, rfl⟩
  go_wp2_with fail
  refine (rNew_bad r HR.out _).mono ?_
  rintro e w2 ⟨rfl, hb2⟩
  have hbr := below_alloc (Below.refl w2.heap.size w2) (.cells #[.int .i64 0, .slice none 0 0, .bool false, .int .i64 0, .int .i64 0, .int .i64 0, .int .i64 0] 43)
  go_wp2_with fail
  refine (alive_any _).mono ?_
  rintro e w4 ⟨rfl, hb4⟩
  have hbc := below_step (below_step (below_step (hbq _) hb2) hbr) hb4
  clear hb2 hbr hb4 hbq
  go_wp2_with fail
  go_ret
  exact ⟨rfl, hbc⟩
theorem read_bytesc {H : Type} {enc : TypeId × Value → H} {W : World} {n : Nat} {cs : List Value} {y : DataW H × List MemPlace}
    (h : DataW.trod enc Try.prog W 0 (fun _ => true) true n 22 cs = some y) : ∃ A len cap xs, cs = [.slice A len cap] ∧ RB W A len xs ∧ len ≤ cap := by
  rcases open_ints Try.underlying22 Try.underlying5 (by kernel_rfl) h with ⟨hcs, _⟩ | ⟨x, l, c, zs, hcs, _, hl, hm, hz, _, hcell, hwz⟩
  · exact ⟨none, 0, 0, [], hcs, RB.nil W, by omega⟩
  · simp only [if_true] at hz
    refine ⟨_, l, c, zs.take l, hcs, ⟨⟨by rw [List.length_take]; omega, by unfold maxLen at hm; omega, fun _ => ⟨x, rfl, fun j hj => ?_⟩⟩, (byt_of_wf hwz).take l⟩, hl⟩
    rw [hcell j (by omega)]
    simp [List.getD_eq_getElem?_getD, hj]
theorem open_two {H : Type} {enc : TypeId × Value → H} {W : World} {base : Nat} {r : Reach} {v : Value} {d : DataW H} {ps : List MemPlace}
    (hv : Value.okWide Try.prog W r base 36 v) (h : DataW.Trod enc Try.prog W 0 (fun _ => true) true 36 v d ps) :
    ∃ ro A n c xs B m e ys fi, v = .agg #[.int .i64 ro, .slice A n c, .slice B m e, .int .i64 fi] ∧ RB W A n xs ∧ n ≤ c ∧ RB W B m ys ∧ m ≤ e := by
  obtain ⟨cs, parts, rfl, hl, _, hfs⟩ := open_fields Try.underlying36 hv h
  rw [show Try.prog.cellsOf 36 = 4 from by kernel_rfl] at hl
  have c1 : Try.prog.cellsOf 3 = 1 := by kernel_rfl
  have c2 : Try.prog.cellsOf 22 = 1 := by kernel_rfl
  obtain ⟨n0, y0, z0, _, _⟩ := hfs 0 3 0 rfl
  obtain ⟨n1, y1, z1, _, _⟩ := hfs 1 22 1 rfl
  obtain ⟨n2, y2, z2, _, _⟩ := hfs 2 22 2 rfl
  obtain ⟨n3, y3, z3, _, _⟩ := hfs 3 3 3 rfl
  rw [c1] at z0 z3
  rw [c2] at z1 z2
  obtain ⟨ro, e0, _, _⟩ := DataW.trod_int Try.underlying3 z0
  obtain ⟨A, n, c, xs, e1, hr1, hc1⟩ := read_bytesc z1
  obtain ⟨B, m, e, ys, e2, hr2, hc2⟩ := read_bytesc z2
  obtain ⟨fi, e3, _, _⟩ := DataW.trod_int Try.underlying3 z3
  match cs, hl with
  | [x0, x1, x2, x3], _ =>
    simp at e0 e1 e2 e3
    subst e0 e1 e2 e3
    exact ⟨ro, A, n, c, xs, B, m, e, ys, fi, rfl, hr1, hc1, hr2, hc2⟩
end Go.Proofs.Ytodhcgidmdeifaa
