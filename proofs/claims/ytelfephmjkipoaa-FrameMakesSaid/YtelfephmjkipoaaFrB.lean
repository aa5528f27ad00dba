/- The contracts of frame's Same and the document's Same. (frsame.py) -/
import Derived.Test.YtelfephmjkipoaaFrA
import Derived.Test.YtelfephmjkipoaaWEqStruct
namespace Go.Proofs.Ytelfephmjkipoaa
open Go.RowKit Go.Kit Go.Proofs.YtelfephmjkipoaaW.PrintWords
theorem u8_info : (Try.prog.info? 5).map (fun i => (i.zero, i.size, i.bytes)) = some (some (.int .u8 0), 1, 1) := by kernel_rfl
theorem event_eq {P : Program} {ops : Array Oper} {rest : List Oper} {o : Oper} {a : Act} {Q : Exit → Act → World → Prop} {W : World} (hgd : o.guard = none) (t u : TypeId) (x y : Operand) (ho : o.op = .binOp .eql t x y u)
    (X Y : Array Value) (b : Bool) (hx : a.eval x = .agg X) (hy : a.eval y = .agg Y) (hm : P.eqGuardType P.depth t = false) (he : (Op.equalIn 10000 t (.agg X) (.agg Y)).run P W = .ok b W)
    (h : wpList P ops Q rest (a.put o.dst (.bool b)) W) : wpList P ops Q (o :: rest) a W := by
  refine Kd.event_run hgd (w1 := W) (v := .bool b) ?_ h
  unfold execOp
  simp only [ho, hx, hy]
  simp [run_eqGuard_agg W .eql t x y X Y hm, run_eql_struct W t X Y, he]
theorem lim_eq3 (a b c x y z : Int) (W : World) : (Op.equalIn 10000 26 (.agg #[.int .i64 a, .int .i64 b, .int .i64 c]) (.agg #[.int .i64 x, .int .i64 y, .int .i64 z])).run Try.prog W = .ok (a == x && (b == y && c == z)) W := by
  cases h0 : a == x <;> cases h1 : b == y <;> cases h2 : c == z <;> go_simp
theorem lim_eq (f g : Fr) : ∀ W, (Op.equalIn 10000 26 (.agg f.lim.toArray) (.agg g.lim.toArray)).run Try.prog W = .ok (f.mo == g.mo && (f.fu == g.fu && f.di == g.di)) W := fun W => lim_eq3 _ _ _ _ _ _ W
theorem tool_eq (x y : List Int) (hx : x.length = 32) (hy : y.length = 32) : ∀ W, (Op.equalIn 10000 24 (.agg (nums .u8 x).toArray) (.agg (nums .u8 y).toArray)).run Try.prog W = .ok (decide (x = y)) W := by
  intro W
  obtain ⟨i0, hi, hz0, hz1, hz2⟩ := info_parts u8_info
  exact run_equalIn_nums (P := Try.prog) (w := W) 9998 x y Try.underlying24 hi hz1 Try.underlying5 hx hy
theorem tool_size (f : Fr) (h : f.tool.length = 32) : (Try.prog.info? 24).map (·.size) = some (nums .u8 f.tool).length := by
  rw [show (nums .u8 f.tool).length = 32 from by simp [nums, h]]; kernel_rfl
set_option maxHeartbeats 8000000 in
set_option maxRecDepth 100000 in
theorem Same_any (f g : Fr) (w : World) (hf : f.ok w) (hg : g.ok w) :
    Calls Try.prog 12 #[f.val, g.val] w fun e w' => ∃ t, e = .returned (.bool t) ∧ Hid (t = f.same g) ∧ Below w.heap.size w w' := by
  have hT := tool_eq f.tool g.tool hf.tool hg.tool
  have hL := lim_eq f g
  have hs4 := tool_size f hf.tool
  have ht4 := tool_size g hg.tool
  have hq4 : Try.prog.eqGuardType Try.prog.depth 24 = false := by kernel_rfl
  have hq37 : Try.prog.eqGuardType Try.prog.depth 26 = false := by kernel_rfl
  have hsz : (Try.prog.info? 26).map (·.size) = some 3 := by kernel_rfl
  show Calls Try.prog _ #[.agg f.arr, .agg g.arr] w _
  go_enter Try.func12, Try.ntmps12
  have hF : f.at_ 29 ((w.alloc (.cells f.arr 29)).alloc (.cells g.arr 29)) w.heap.size := Fr.at_.below ⟨heap_alloc_new w _, hf.tool⟩ (below_alloc (Below.refl _ _) _)
  have hG : g.at_ 29 ((w.alloc (.cells f.arr 29)).alloc (.cells g.arr 29)) (w.heap.size + 1) := ⟨by simpa using heap_alloc_new (w.alloc (.cells f.arr 29)) (.cells g.arr 29), hg.tool⟩
  have hb := below_alloc (below_alloc (Below.refl _ w) (.cells f.arr 29)) (.cells g.arr 29)
  go_upto_region 1 with (fail)
  generalize (w.alloc (.cells f.arr 29)).alloc (.cells g.arr 29) = w2 at *
  generalize w.heap.size + 1 = g2 at *
  have rL := hF.r4
  have rM := hG.r4
  have rX := hF.r37
  have rY := hG.r37
  have hs37 : (Try.prog.info? 26).map (·.size) = some f.lim.length := hsz
  have ht37 : (Try.prog.info? 26).map (·.size) = some g.lim.length := hsz
  generalize nums .u8 f.tool = L at hT rL hs4
  generalize nums .u8 g.tool = M at hT rM ht4
  generalize f.lim = X at hL rX hs37
  generalize g.lim = Y at hL rY ht37
  have hf2 := hf.args.below hb
  have hg2 := hg.args.below hb
  have ac0 := hF.c0
  have bc0 := hG.c0
  have ac1 := hF.c1
  have bc1 := hG.c1
  have ac2 := hF.c2
  have bc2 := hG.c2
  have ac3 := hF.c3
  have bc3 := hG.c3
  have ac36 := hF.c36
  have bc36 := hG.c36
  have ac40 := hF.c40
  have bc40 := hG.c40
  have ac41 := hF.c41
  have bc41 := hG.c41
  cases h0 : f.k == g.k with
  | false =>
    have HS : Hid (false = f.same g) := Lib.hid (by simp only [Fr.same, h0, Bool.false_and])
    go_wp2_with fail
    go_ret
    exact ⟨_, rfl, HS, hb⟩
  | true =>
  cases h1 : f.id == g.id with
  | false =>
    have HS : Hid (false = f.same g) := Lib.hid (by simp only [Fr.same, h0, h1, Bool.true_and, Bool.false_and])
    go_wp2_with fail
    go_ret
    exact ⟨_, rfl, HS, hb⟩
  | true =>
  cases h2 : f.v == g.v with
  | false =>
    have HS : Hid (false = f.same g) := Lib.hid (by simp only [Fr.same, h0, h1, h2, Bool.true_and, Bool.false_and])
    go_wp2_with fail
    go_ret
    exact ⟨_, rfl, HS, hb⟩
  | true =>
  cases h3 : f.s == g.s with
  | false =>
    have HS : Hid (false = f.same g) := Lib.hid (by simp only [Fr.same, h0, h1, h2, h3, Bool.true_and, Bool.false_and])
    go_wp2_with fail
    go_ret
    exact ⟨_, rfl, HS, hb⟩
  | true =>
  cases h4 : decide (f.tool = g.tool) with
  | false =>
    have HS : Hid (false = f.same g) := Lib.hid (by simp only [Fr.same, h0, h1, h2, h3, h4, Bool.true_and, Bool.false_and])
    rw [h4] at hT
    go_wp2_with (first | (with_reducible show wpList _ _ _ (Oper.mk (some 33) _ _ _ _ _ :: _) _ _; refine gate_guard rfl ?_; refine wpList_load_mid rfl 24 (.tmp 32) rfl w.heap.size 4 rfl L _ rL Try.underlying24 rfl hs4 ?_) | (with_reducible show wpList _ _ _ (Oper.mk (some 35) _ _ _ _ _ :: _) _ _; refine gate_guard rfl ?_; refine wpList_load_mid rfl 24 (.tmp 34) rfl g2 4 rfl M _ rM Try.underlying24 rfl ht4 ?_) | (with_reducible show wpList _ _ _ (Oper.mk (some 36) _ _ _ _ _ :: _) _ _; refine gate_guard rfl ?_; refine event_eq rfl 24 24 (.tmp 33) (.tmp 35) rfl L.toArray M.toArray _ rfl rfl hq4 (hT _) ?_))
    go_ret
    exact ⟨_, rfl, HS, hb⟩
  | true =>
  rw [h4] at hT
  cases h5 : f.st == g.st with
  | false =>
    have HS : Hid (false = f.same g) := Lib.hid (by simp only [Fr.same, h0, h1, h2, h3, h4, h5, Bool.true_and, Bool.false_and])
    go_wp2_with (first | (with_reducible show wpList _ _ _ (Oper.mk (some 33) _ _ _ _ _ :: _) _ _; refine gate_guard rfl ?_; refine wpList_load_mid rfl 24 (.tmp 32) rfl w.heap.size 4 rfl L _ rL Try.underlying24 rfl hs4 ?_) | (with_reducible show wpList _ _ _ (Oper.mk (some 35) _ _ _ _ _ :: _) _ _; refine gate_guard rfl ?_; refine wpList_load_mid rfl 24 (.tmp 34) rfl g2 4 rfl M _ rM Try.underlying24 rfl ht4 ?_) | (with_reducible show wpList _ _ _ (Oper.mk (some 36) _ _ _ _ _ :: _) _ _; refine gate_guard rfl ?_; refine event_eq rfl 24 24 (.tmp 33) (.tmp 35) rfl L.toArray M.toArray _ rfl rfl hq4 (hT _) ?_))
    go_ret
    exact ⟨_, rfl, HS, hb⟩
  | true =>
  cases h6 : (f.mo == g.mo && (f.fu == g.fu && f.di == g.di)) with
  | false =>
    have HS : Hid (false = f.same g) := Lib.hid (by simp only [Fr.same, h0, h1, h2, h3, h4, h5, h6, Bool.true_and, Bool.false_and])
    rw [h6] at hL
    go_wp2_with (first | (with_reducible show wpList _ _ _ (Oper.mk (some 33) _ _ _ _ _ :: _) _ _; refine gate_guard rfl ?_; refine wpList_load_mid rfl 24 (.tmp 32) rfl w.heap.size 4 rfl L _ rL Try.underlying24 rfl hs4 ?_) | (with_reducible show wpList _ _ _ (Oper.mk (some 35) _ _ _ _ _ :: _) _ _; refine gate_guard rfl ?_; refine wpList_load_mid rfl 24 (.tmp 34) rfl g2 4 rfl M _ rM Try.underlying24 rfl ht4 ?_) | (with_reducible show wpList _ _ _ (Oper.mk (some 36) _ _ _ _ _ :: _) _ _; refine gate_guard rfl ?_; refine event_eq rfl 24 24 (.tmp 33) (.tmp 35) rfl L.toArray M.toArray _ rfl rfl hq4 (hT _) ?_) | (with_reducible show wpList _ _ _ (Oper.mk (some 47) _ _ _ _ _ :: _) _ _; refine gate_guard rfl ?_; refine wpList_load_mid rfl 26 (.tmp 46) rfl w.heap.size 37 rfl X _ rX Try.underlying26 rfl hs37 ?_) | (with_reducible show wpList _ _ _ (Oper.mk (some 49) _ _ _ _ _ :: _) _ _; refine gate_guard rfl ?_; refine wpList_load_mid rfl 26 (.tmp 48) rfl g2 37 rfl Y _ rY Try.underlying26 rfl ht37 ?_) | (with_reducible show wpList _ _ _ (Oper.mk (some 50) _ _ _ _ _ :: _) _ _; refine gate_guard rfl ?_; refine event_eq rfl 26 26 (.tmp 47) (.tmp 49) rfl X.toArray Y.toArray _ rfl rfl hq37 (hL _) ?_))
    go_ret
    exact ⟨_, rfl, HS, hb⟩
  | true =>
  rw [h6] at hL
  go_wp2_with (first | (with_reducible show wpList _ _ _ (Oper.mk (some 33) _ _ _ _ _ :: _) _ _; refine gate_guard rfl ?_; refine wpList_load_mid rfl 24 (.tmp 32) rfl w.heap.size 4 rfl L _ rL Try.underlying24 rfl hs4 ?_) | (with_reducible show wpList _ _ _ (Oper.mk (some 35) _ _ _ _ _ :: _) _ _; refine gate_guard rfl ?_; refine wpList_load_mid rfl 24 (.tmp 34) rfl g2 4 rfl M _ rM Try.underlying24 rfl ht4 ?_) | (with_reducible show wpList _ _ _ (Oper.mk (some 36) _ _ _ _ _ :: _) _ _; refine gate_guard rfl ?_; refine event_eq rfl 24 24 (.tmp 33) (.tmp 35) rfl L.toArray M.toArray _ rfl rfl hq4 (hT _) ?_) | (with_reducible show wpList _ _ _ (Oper.mk (some 47) _ _ _ _ _ :: _) _ _; refine gate_guard rfl ?_; refine wpList_load_mid rfl 26 (.tmp 46) rfl w.heap.size 37 rfl X _ rX Try.underlying26 rfl hs37 ?_) | (with_reducible show wpList _ _ _ (Oper.mk (some 49) _ _ _ _ _ :: _) _ _; refine gate_guard rfl ?_; refine wpList_load_mid rfl 26 (.tmp 48) rfl g2 37 rfl Y _ rY Try.underlying26 rfl ht37 ?_) | (with_reducible show wpList _ _ _ (Oper.mk (some 50) _ _ _ _ _ :: _) _ _; refine gate_guard rfl ?_; refine event_eq rfl 26 26 (.tmp 47) (.tmp 49) rfl X.toArray Y.toArray _ rfl rfl hq37 (hL _) ?_))
  refine (SEq_any f.A g.A f.n g.n f.c g.c f.args g.args w2 hf2 hg2).mono ?_
  rintro e w3 ⟨t7, rfl, h7, hb7⟩
  have a41 := (hF.below hb7).c41
  have b41 := (hG.below hb7).c41
  replace hb := below_step hb hb7
  cases t7
  · have HS : Hid (false = f.same g) := Lib.hid (by simp only [Fr.same, h0, h1, h2, h3, h4, h5, h6, ← h7.out, Bool.true_and, Bool.false_and])
    go_wp2_with fail
    go_ret
    exact ⟨_, rfl, HS, hb⟩
  · have HS : Hid ((f.body.toList == g.body.toList) = f.same g) := Lib.hid (by simp only [Fr.same, h0, h1, h2, h3, h4, h5, h6, ← h7.out, Bool.true_and])
    go_wp2_with fail
    go_ret
    exact ⟨_, rfl, HS, hb⟩
set_option maxHeartbeats 8000000 in
set_option maxRecDepth 100000 in
theorem rSame_any (f g : Fr) (w : World) (hf : f.ok w) (hg : g.ok w) :
    Calls Try.prog 13 #[f.val, g.val] w fun e w' => ∃ t, e = .returned (.bool t) ∧ Hid (t = f.same g) ∧ Below w.heap.size w w' := by
  have hT := tool_eq f.tool g.tool hf.tool hg.tool
  have hL := lim_eq f g
  have hs4 := tool_size f hf.tool
  have ht4 := tool_size g hg.tool
  have hq4 : Try.prog.eqGuardType Try.prog.depth 24 = false := by kernel_rfl
  have hq37 : Try.prog.eqGuardType Try.prog.depth 26 = false := by kernel_rfl
  have hsz : (Try.prog.info? 26).map (·.size) = some 3 := by kernel_rfl
  show Calls Try.prog _ #[.agg f.arr, .agg g.arr] w _
  go_enter Try.func13, Try.ntmps13
  have hF : f.at_ 29 ((w.alloc (.cells f.arr 29)).alloc (.cells g.arr 29)) w.heap.size := Fr.at_.below ⟨heap_alloc_new w _, hf.tool⟩ (below_alloc (Below.refl _ _) _)
  have hG : g.at_ 29 ((w.alloc (.cells f.arr 29)).alloc (.cells g.arr 29)) (w.heap.size + 1) := ⟨by simpa using heap_alloc_new (w.alloc (.cells f.arr 29)) (.cells g.arr 29), hg.tool⟩
  have hb := below_alloc (below_alloc (Below.refl _ w) (.cells f.arr 29)) (.cells g.arr 29)
  go_upto_region 1 with (fail)
  generalize (w.alloc (.cells f.arr 29)).alloc (.cells g.arr 29) = w2 at *
  generalize w.heap.size + 1 = g2 at *
  have rL := hF.r4
  have rM := hG.r4
  have rX := hF.r37
  have rY := hG.r37
  have hs37 : (Try.prog.info? 26).map (·.size) = some f.lim.length := hsz
  have ht37 : (Try.prog.info? 26).map (·.size) = some g.lim.length := hsz
  generalize nums .u8 f.tool = L at hT rL hs4
  generalize nums .u8 g.tool = M at hT rM ht4
  generalize f.lim = X at hL rX hs37
  generalize g.lim = Y at hL rY ht37
  have hf2 := hf.args.below hb
  have hg2 := hg.args.below hb
  have ac0 := hF.c0
  have bc0 := hG.c0
  have ac1 := hF.c1
  have bc1 := hG.c1
  have ac2 := hF.c2
  have bc2 := hG.c2
  have ac3 := hF.c3
  have bc3 := hG.c3
  have ac36 := hF.c36
  have bc36 := hG.c36
  have ac40 := hF.c40
  have bc40 := hG.c40
  have ac41 := hF.c41
  have bc41 := hG.c41
  cases h0 : f.k == g.k with
  | false =>
    have HS : Hid (false = f.same g) := Lib.hid (by simp only [Fr.same, h0, Bool.false_and])
    go_wp2_with fail
    go_ret
    exact ⟨_, rfl, HS, hb⟩
  | true =>
  cases h1 : f.id == g.id with
  | false =>
    have HS : Hid (false = f.same g) := Lib.hid (by simp only [Fr.same, h0, h1, Bool.true_and, Bool.false_and])
    go_wp2_with fail
    go_ret
    exact ⟨_, rfl, HS, hb⟩
  | true =>
  cases h2 : f.v == g.v with
  | false =>
    have HS : Hid (false = f.same g) := Lib.hid (by simp only [Fr.same, h0, h1, h2, Bool.true_and, Bool.false_and])
    go_wp2_with fail
    go_ret
    exact ⟨_, rfl, HS, hb⟩
  | true =>
  cases h3 : f.s == g.s with
  | false =>
    have HS : Hid (false = f.same g) := Lib.hid (by simp only [Fr.same, h0, h1, h2, h3, Bool.true_and, Bool.false_and])
    go_wp2_with fail
    go_ret
    exact ⟨_, rfl, HS, hb⟩
  | true =>
  cases h4 : decide (f.tool = g.tool) with
  | false =>
    have HS : Hid (false = f.same g) := Lib.hid (by simp only [Fr.same, h0, h1, h2, h3, h4, Bool.true_and, Bool.false_and])
    rw [h4] at hT
    go_wp2_with (first | (with_reducible show wpList _ _ _ (Oper.mk (some 33) _ _ _ _ _ :: _) _ _; refine gate_guard rfl ?_; refine wpList_load_mid rfl 24 (.tmp 32) rfl w.heap.size 4 rfl L _ rL Try.underlying24 rfl hs4 ?_) | (with_reducible show wpList _ _ _ (Oper.mk (some 35) _ _ _ _ _ :: _) _ _; refine gate_guard rfl ?_; refine wpList_load_mid rfl 24 (.tmp 34) rfl g2 4 rfl M _ rM Try.underlying24 rfl ht4 ?_) | (with_reducible show wpList _ _ _ (Oper.mk (some 36) _ _ _ _ _ :: _) _ _; refine gate_guard rfl ?_; refine event_eq rfl 24 24 (.tmp 33) (.tmp 35) rfl L.toArray M.toArray _ rfl rfl hq4 (hT _) ?_))
    go_ret
    exact ⟨_, rfl, HS, hb⟩
  | true =>
  rw [h4] at hT
  cases h5 : f.st == g.st with
  | false =>
    have HS : Hid (false = f.same g) := Lib.hid (by simp only [Fr.same, h0, h1, h2, h3, h4, h5, Bool.true_and, Bool.false_and])
    go_wp2_with (first | (with_reducible show wpList _ _ _ (Oper.mk (some 33) _ _ _ _ _ :: _) _ _; refine gate_guard rfl ?_; refine wpList_load_mid rfl 24 (.tmp 32) rfl w.heap.size 4 rfl L _ rL Try.underlying24 rfl hs4 ?_) | (with_reducible show wpList _ _ _ (Oper.mk (some 35) _ _ _ _ _ :: _) _ _; refine gate_guard rfl ?_; refine wpList_load_mid rfl 24 (.tmp 34) rfl g2 4 rfl M _ rM Try.underlying24 rfl ht4 ?_) | (with_reducible show wpList _ _ _ (Oper.mk (some 36) _ _ _ _ _ :: _) _ _; refine gate_guard rfl ?_; refine event_eq rfl 24 24 (.tmp 33) (.tmp 35) rfl L.toArray M.toArray _ rfl rfl hq4 (hT _) ?_))
    go_ret
    exact ⟨_, rfl, HS, hb⟩
  | true =>
  cases h6 : (f.mo == g.mo && (f.fu == g.fu && f.di == g.di)) with
  | false =>
    have HS : Hid (false = f.same g) := Lib.hid (by simp only [Fr.same, h0, h1, h2, h3, h4, h5, h6, Bool.true_and, Bool.false_and])
    rw [h6] at hL
    go_wp2_with (first | (with_reducible show wpList _ _ _ (Oper.mk (some 33) _ _ _ _ _ :: _) _ _; refine gate_guard rfl ?_; refine wpList_load_mid rfl 24 (.tmp 32) rfl w.heap.size 4 rfl L _ rL Try.underlying24 rfl hs4 ?_) | (with_reducible show wpList _ _ _ (Oper.mk (some 35) _ _ _ _ _ :: _) _ _; refine gate_guard rfl ?_; refine wpList_load_mid rfl 24 (.tmp 34) rfl g2 4 rfl M _ rM Try.underlying24 rfl ht4 ?_) | (with_reducible show wpList _ _ _ (Oper.mk (some 36) _ _ _ _ _ :: _) _ _; refine gate_guard rfl ?_; refine event_eq rfl 24 24 (.tmp 33) (.tmp 35) rfl L.toArray M.toArray _ rfl rfl hq4 (hT _) ?_) | (with_reducible show wpList _ _ _ (Oper.mk (some 47) _ _ _ _ _ :: _) _ _; refine gate_guard rfl ?_; refine wpList_load_mid rfl 26 (.tmp 46) rfl w.heap.size 37 rfl X _ rX Try.underlying26 rfl hs37 ?_) | (with_reducible show wpList _ _ _ (Oper.mk (some 49) _ _ _ _ _ :: _) _ _; refine gate_guard rfl ?_; refine wpList_load_mid rfl 26 (.tmp 48) rfl g2 37 rfl Y _ rY Try.underlying26 rfl ht37 ?_) | (with_reducible show wpList _ _ _ (Oper.mk (some 50) _ _ _ _ _ :: _) _ _; refine gate_guard rfl ?_; refine event_eq rfl 26 26 (.tmp 47) (.tmp 49) rfl X.toArray Y.toArray _ rfl rfl hq37 (hL _) ?_))
    go_ret
    exact ⟨_, rfl, HS, hb⟩
  | true =>
  rw [h6] at hL
  go_wp2_with (first | (with_reducible show wpList _ _ _ (Oper.mk (some 33) _ _ _ _ _ :: _) _ _; refine gate_guard rfl ?_; refine wpList_load_mid rfl 24 (.tmp 32) rfl w.heap.size 4 rfl L _ rL Try.underlying24 rfl hs4 ?_) | (with_reducible show wpList _ _ _ (Oper.mk (some 35) _ _ _ _ _ :: _) _ _; refine gate_guard rfl ?_; refine wpList_load_mid rfl 24 (.tmp 34) rfl g2 4 rfl M _ rM Try.underlying24 rfl ht4 ?_) | (with_reducible show wpList _ _ _ (Oper.mk (some 36) _ _ _ _ _ :: _) _ _; refine gate_guard rfl ?_; refine event_eq rfl 24 24 (.tmp 33) (.tmp 35) rfl L.toArray M.toArray _ rfl rfl hq4 (hT _) ?_) | (with_reducible show wpList _ _ _ (Oper.mk (some 47) _ _ _ _ _ :: _) _ _; refine gate_guard rfl ?_; refine wpList_load_mid rfl 26 (.tmp 46) rfl w.heap.size 37 rfl X _ rX Try.underlying26 rfl hs37 ?_) | (with_reducible show wpList _ _ _ (Oper.mk (some 49) _ _ _ _ _ :: _) _ _; refine gate_guard rfl ?_; refine wpList_load_mid rfl 26 (.tmp 48) rfl g2 37 rfl Y _ rY Try.underlying26 rfl ht37 ?_) | (with_reducible show wpList _ _ _ (Oper.mk (some 50) _ _ _ _ _ :: _) _ _; refine gate_guard rfl ?_; refine event_eq rfl 26 26 (.tmp 47) (.tmp 49) rfl X.toArray Y.toArray _ rfl rfl hq37 (hL _) ?_))
  refine (RSame_any f.A g.A f.n g.n f.c g.c f.args g.args w2 hf2 hg2).mono ?_
  rintro e w3 ⟨t7, rfl, h7, hb7⟩
  have a41 := (hF.below hb7).c41
  have b41 := (hG.below hb7).c41
  replace hb := below_step hb hb7
  cases t7
  · have HS : Hid (false = f.same g) := Lib.hid (by simp only [Fr.same, h0, h1, h2, h3, h4, h5, h6, ← h7.out, Bool.true_and, Bool.false_and])
    go_wp2_with fail
    go_ret
    exact ⟨_, rfl, HS, hb⟩
  · have HS : Hid ((f.body.toList == g.body.toList) = f.same g) := Lib.hid (by simp only [Fr.same, h0, h1, h2, h3, h4, h5, h6, ← h7.out, Bool.true_and])
    go_wp2_with fail
    go_ret
    exact ⟨_, rfl, HS, hb⟩
end Go.Proofs.Ytelfephmjkipoaa
