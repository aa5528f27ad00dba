/- Contracts of functions that the law reaches (texts laid together, part 5): each says of its call what it answers and what it leaves of memory; the conditions stand in each statement. -/
import Derived.Test.YtpjpgcjhdbiepaaGreatMpStreamFrames4
import Derived.Test.YtpjpgcjhdbiepaaGreatWWords
import Derived.WalkKit
import Derived.Lib.Hide
import Derived.Laws.BitsAllLaws
import Derived.Deep.WholeRow
import Derived.Deep.CutBlock
import Derived.Deep.Cut
import Derived.Deep.LoopGhost
import Derived.Laws.CopyOwn
import Derived.Lib.SlBytesConst
import Derived.ChangeKeysEq
import Derived.Laws.StructEq
import Derived.Test.YtpjpgcjhdbiepaaGreatWMore
import Derived.Laws.Bits64b
import Derived.IntWalk
import Derived.Test.YtpjpgcjhdbiepaaGreatProg
import Derived.Test.YtpjpgcjhdbiepaaGreatWGuard
import Derived.Deep.MidRow
import Derived.Deep.RegionHeld3
import Derived.Deep.RegionLaw
import Derived.Deep.DeepMust
import Derived.Laws.Cover3
import Derived.Test.YtpjpgcjhdbiepaaGreatWEqStruct
import Derived.StillTailTactics
import Derived.Recover
import Derived.WalkLawsBesides
import Derived.Deep.RegionWith
import Derived.Laws.CopyRow
import Derived.RegionTactic
import Derived.BigRegion
import Derived.Deep.QuietTactic
import Derived.BigQuiet
import Derived.ProofKit
import Derived.OpenShut
import Derived.SizedLaws
import Derived.Deep.Matrix
import Derived.Lib.SmallJoins
import Derived.Test.YtpjpgcjhdbiepaaGreatWSized
import Derived.Deep.Strs
import Derived.Test.YtpjpgcjhdbiepaaGreatRows
set_option linter.unusedVariables false
/-! The contract of frame.Decode. (mk_frzj.py) -/
section
namespace Go.Proofs.YtpjpgcjhdbiepaaGreat
open Go.RowKit Go.Kit Go.Proofs.YtpjpgcjhdbiepaaGreatW.PrintWords
/-- The frame that bytes say, why not, and where. -/
def decF (xs : List Int) : Fr × Int × Int :=
  if (needF xs).2.2 ≠ 0 then (noF, (needF xs).2.2, 0) else if (needF xs).1 = 0 ∨ xs.length < (needF xs).1 then (noF, 4, (xs.length : Int)) else if (needF xs).1 < xs.length then (noF, 6, ((needF xs).1 : Int))
  else if (openR xs).2 ≠ 0 then (noF, 71, ((needF xs).1 : Int) - 4) else readF (openR xs).1 (needF xs).2.1
def DecPost (w : World) (xs : List Int) (e : Ending) (w' : World) : Prop :=
  ∃ (F : Fr) (x y : Int), e = .returned (.tuple #[.agg F.arr, .agg (fv x y)]) ∧ Hid ((decF xs).2 = (x, y) ∧ F.core = (decF xs).1) ∧ F.ok w' ∧ OwnA w' w.heap.size F ∧ Below w.heap.size w w'
theorem two_new (W : World) : Below W.heap.size W ((W.alloc (.cells #[.int .i64 0, .int .u64 0, .int .i64 0, .int .i64 0, .int .u8 0, .int .u8 0, .int .u8 0, .int .u8 0, .int .u8 0, .int .u8 0, .int .u8 0, .int .u8 0, .int .u8 0, .int .u8 0, .int .u8 0, .int .u8 0, .int .u8 0, .int .u8 0, .int .u8 0, .int .u8 0, .int .u8 0, .int .u8 0, .int .u8 0, .int .u8 0, .int .u8 0, .int .u8 0, .int .u8 0, .int .u8 0, .int .u8 0, .int .u8 0, .int .u8 0, .int .u8 0, .int .u8 0, .int .u8 0, .int .u8 0, .int .u8 0, .int .i64 0, .int .i64 0, .int .i64 0, .int .i64 0, .slice none 0 0, .string ⟨#[]⟩] 48)).alloc (.cells #[.int .i64 0, .int .i64 0] 28)) ∧
    (kF 0).at_ 48 ((W.alloc (.cells #[.int .i64 0, .int .u64 0, .int .i64 0, .int .i64 0, .int .u8 0, .int .u8 0, .int .u8 0, .int .u8 0, .int .u8 0, .int .u8 0, .int .u8 0, .int .u8 0, .int .u8 0, .int .u8 0, .int .u8 0, .int .u8 0, .int .u8 0, .int .u8 0, .int .u8 0, .int .u8 0, .int .u8 0, .int .u8 0, .int .u8 0, .int .u8 0, .int .u8 0, .int .u8 0, .int .u8 0, .int .u8 0, .int .u8 0, .int .u8 0, .int .u8 0, .int .u8 0, .int .u8 0, .int .u8 0, .int .u8 0, .int .u8 0, .int .i64 0, .int .i64 0, .int .i64 0, .int .i64 0, .slice none 0 0, .string ⟨#[]⟩] 48)).alloc (.cells #[.int .i64 0, .int .i64 0] 28)) W.heap.size ∧
    ((W.alloc (.cells #[.int .i64 0, .int .u64 0, .int .i64 0, .int .i64 0, .int .u8 0, .int .u8 0, .int .u8 0, .int .u8 0, .int .u8 0, .int .u8 0, .int .u8 0, .int .u8 0, .int .u8 0, .int .u8 0, .int .u8 0, .int .u8 0, .int .u8 0, .int .u8 0, .int .u8 0, .int .u8 0, .int .u8 0, .int .u8 0, .int .u8 0, .int .u8 0, .int .u8 0, .int .u8 0, .int .u8 0, .int .u8 0, .int .u8 0, .int .u8 0, .int .u8 0, .int .u8 0, .int .u8 0, .int .u8 0, .int .u8 0, .int .u8 0, .int .i64 0, .int .i64 0, .int .i64 0, .int .i64 0, .slice none 0 0, .string ⟨#[]⟩] 48)).alloc (.cells #[.int .i64 0, .int .i64 0] 28)).heap[W.heap.size + 1]? = some (.cells (fv 0 0) 28 (0, 0)) := by
  refine ⟨below_alloc (below_alloc (Below.refl _ W) _) _, ⟨(heap_alloc_old _ _ (by simp)).trans (heap_alloc_new W _), rfl⟩, ?_⟩
  have := heap_alloc_new (W.alloc (.cells #[.int .i64 0, .int .u64 0, .int .i64 0, .int .i64 0, .int .u8 0, .int .u8 0, .int .u8 0, .int .u8 0, .int .u8 0, .int .u8 0, .int .u8 0, .int .u8 0, .int .u8 0, .int .u8 0, .int .u8 0, .int .u8 0, .int .u8 0, .int .u8 0, .int .u8 0, .int .u8 0, .int .u8 0, .int .u8 0, .int .u8 0, .int .u8 0, .int .u8 0, .int .u8 0, .int .u8 0, .int .u8 0, .int .u8 0, .int .u8 0, .int .u8 0, .int .u8 0, .int .u8 0, .int .u8 0, .int .u8 0, .int .u8 0, .int .i64 0, .int .i64 0, .int .i64 0, .int .i64 0, .slice none 0 0, .string ⟨#[]⟩] 48)) (.cells #[.int .i64 0, .int .i64 0] 28)
  simpa [fv] using this
theorem put_fault {W : World} {g : Nat} {x y : Int} (a b : Int) (h : W.heap[g]? = some (.cells (fv x y) 28 (0, 0))) : (Instr.storeAt 28 (.pointer (some ⟨g, 0, none⟩)) (.agg #[.int .i64 a, .int .i64 b])).run Tryz.prog W = .ok () (W.setRow g (fv a b)) :=
  storeAt_all (P := Tryz.prog) W g 28 28 (fv a b) (fv x y) h rfl (fv_size a b) (fv_one a b)
theorem put_frame {W : World} {g : Nat} {F : Fr} (f : Fr) (hf : f.tool.length = 32) (h : F.at_ 48 W g) : (Instr.storeAt 48 (.pointer (some ⟨g, 0, none⟩)) (.agg f.arr)).run Tryz.prog W = .ok () (W.setRow g f.arr) :=
  storeAt_all (P := Tryz.prog) W g 48 48 f.arr F.arr h.blk (by rw [Fr.arr_size F h.tool, Fr.arr_size f hf]) (by rw [Fr.arr_size f hf]; kernel_rfl) (arr_one f)
theorem put_at {W : World} {g : Nat} {F : Fr} (f : Fr) (hf : f.tool.length = 32) (h : F.at_ 48 W g) : f.at_ 48 (W.setRow g f.arr) g := ⟨setRow_heap _ _ _ _ _ _ h.blk, hf⟩
theorem get_fault {W : World} {g : Nat} {a b : Int} (h : W.heap[g]? = some (.cells (fv a b) 28 (0, 0))) : (Instr.loadAt 28 (.pointer (some ⟨g, 0, none⟩))).run Tryz.prog W = .ok (.agg #[.int .i64 a, .int .i64 b]) W := load_fault h
theorem get_frame {W : World} {g : Nat} {F : Fr} (h : F.at_ 48 W g) : (Instr.loadAt 48 (.pointer (some ⟨g, 0, none⟩))).run Tryz.prog W = .ok (.agg F.arr) W :=
  load_frame F (by have := Fr.arr_size F h.tool; rw [frame_size]; simp [Fr.arr] at this; rw [this]) W g h
theorem keep_fault {W W1 : World} {g : Nat} {a b : Int} {S : Nat → Prop} (h : W.heap[g]? = some (.cells (fv a b) 28 (0, 0))) (ho : Only W W1 S) (hs : ¬ S g) : W1.heap[g]? = some (.cells (fv a b) 28 (0, 0)) := ho.kept h hs
theorem set_fault {W : World} {g : Nat} {x y : Int} (a b : Int) (h : W.heap[g]? = some (.cells (fv x y) 28 (0, 0))) : (W.setRow g (fv a b)).heap[g]? = some (.cells (fv a b) 28 (0, 0)) := setRow_heap _ _ _ _ _ _ h
set_option maxRecDepth 100000 in
theorem same_zero {W : World} {g : Nat} (h : (kF 0).at_ 48 W g) : (Instr.storeAt 48 (.pointer (some ⟨g, 0, none⟩)) (.agg #[.int .i64 0, .int .u64 0, .int .i64 0, .int .i64 0, .int .u8 0, .int .u8 0, .int .u8 0, .int .u8 0, .int .u8 0, .int .u8 0, .int .u8 0, .int .u8 0, .int .u8 0, .int .u8 0, .int .u8 0, .int .u8 0, .int .u8 0, .int .u8 0, .int .u8 0, .int .u8 0, .int .u8 0, .int .u8 0, .int .u8 0, .int .u8 0, .int .u8 0, .int .u8 0, .int .u8 0, .int .u8 0, .int .u8 0, .int .u8 0, .int .u8 0, .int .u8 0, .int .u8 0, .int .u8 0, .int .u8 0, .int .u8 0, .int .i64 0, .int .i64 0, .int .i64 0, .int .i64 0, .slice none 0 0, .string ⟨#[]⟩])).run Tryz.prog W = .ok () W := same_frame h
theorem zero_frame (W : World) : (Instr.build 48 #[]).run Tryz.prog W = .ok (.agg (kF 0).arr) W := by kernel_rfl
theorem run_fault_ne (x y : Int) (b : Bool) (hb : ((x == 0) && (y == 0)) = b) (W : World) : (binOp .neq 28 (.agg #[.int .i64 x, .int .i64 y]) (.agg #[.int .i64 0, .int .i64 0])).run Tryz.prog W = .ok (.bool !b) W := by
  have he : (Op.equalIn 10000 28 (.agg #[.int .i64 x, .int .i64 y]) (.agg #[.int .i64 0, .int .i64 0])).run Tryz.prog W = .ok b W := by
    subst hb
    by_cases h1 : x = 0 <;> by_cases h2 : y = 0 <;> go_simp
  simp [run_neq_struct W 28 _ _, he]
theorem need_head {xs : List Int} {m k : Nat} (h : needF xs = (m, k, 0)) (hm : m ≠ 0) : ∃ m0, headF xs = (m0, k, 0) ∧ m = m0 + k + 4 := by
  unfold needF at h
  split at h
  · exact absurd (congrArg Prod.fst h).symm hm
  · next hn =>
    have h0 : (headF xs).2.2 = 0 := Classical.byContradiction fun e => hn (.inl e)
    simp only [Prod.mk.injEq] at h
    obtain ⟨h1, h2, _⟩ := h
    exact ⟨(headF xs).1, Prod.ext rfl (Prod.ext h2 h0), by omega⟩
theorem readF_none {p : List Int} {head : Nat} (h : (readF p head).2.1 ≠ 0) : (readF p head).1 = noF := by
  unfold readF at h ⊢
  split at h
  · next D f he =>
    split at h
    · next hc => rw [if_pos hc]
    · exact absurd rfl h
theorem open_take {xs ys : List Int} (h : openR xs = (ys, 0)) : ys = xs.take (xs.length - 4) ∧ ¬ xs.length < 4 := by
  unfold openR at h
  split at h
  · cases h
  split at h
  · next h4 _ => cases h; exact ⟨rfl, h4⟩
  · cases h
theorem two_put (W : World) (F : Fr) (hT : F.tool.length = 32) (x y : Int) : ∃ W1 W2 W3 : World, (W.alloc (.cells #[.int .i64 0, .int .u64 0, .int .i64 0, .int .i64 0, .int .u8 0, .int .u8 0, .int .u8 0, .int .u8 0, .int .u8 0, .int .u8 0, .int .u8 0, .int .u8 0, .int .u8 0, .int .u8 0, .int .u8 0, .int .u8 0, .int .u8 0, .int .u8 0, .int .u8 0, .int .u8 0, .int .u8 0, .int .u8 0, .int .u8 0, .int .u8 0, .int .u8 0, .int .u8 0, .int .u8 0, .int .u8 0, .int .u8 0, .int .u8 0, .int .u8 0, .int .u8 0, .int .u8 0, .int .u8 0, .int .u8 0, .int .u8 0, .int .i64 0, .int .i64 0, .int .i64 0, .int .i64 0, .slice none 0 0, .string ⟨#[]⟩] 48)).alloc (.cells #[.int .i64 0, .int .i64 0] 28) = W1 ∧
    (Instr.storeAt 48 (.pointer (some ⟨W.heap.size, 0, none⟩)) (.agg F.arr)).run Tryz.prog W1 = .ok () W2 ∧
    (Instr.storeAt 28 (.pointer (some ⟨W.heap.size + 1, 0, none⟩)) (.agg (fv x y))).run Tryz.prog W2 = .ok () W3 ∧
    F.at_ 48 W3 W.heap.size ∧ W3.heap[W.heap.size + 1]? = some (.cells (fv x y) 28 (0, 0)) ∧ Below W.heap.size W W3 := by
  obtain ⟨hbn, hFz, hXz⟩ := two_new W
  obtain ⟨W1, h1⟩ : ∃ W1, (W.alloc (.cells #[.int .i64 0, .int .u64 0, .int .i64 0, .int .i64 0, .int .u8 0, .int .u8 0, .int .u8 0, .int .u8 0, .int .u8 0, .int .u8 0, .int .u8 0, .int .u8 0, .int .u8 0, .int .u8 0, .int .u8 0, .int .u8 0, .int .u8 0, .int .u8 0, .int .u8 0, .int .u8 0, .int .u8 0, .int .u8 0, .int .u8 0, .int .u8 0, .int .u8 0, .int .u8 0, .int .u8 0, .int .u8 0, .int .u8 0, .int .u8 0, .int .u8 0, .int .u8 0, .int .u8 0, .int .u8 0, .int .u8 0, .int .u8 0, .int .i64 0, .int .i64 0, .int .i64 0, .int .i64 0, .slice none 0 0, .string ⟨#[]⟩] 48)).alloc (.cells #[.int .i64 0, .int .i64 0] 28) = W1 := ⟨_, rfl⟩
  rw [h1] at hbn hFz hXz
  refine ⟨W1, W1.setRow W.heap.size F.arr, (W1.setRow W.heap.size F.arr).setRow (W.heap.size + 1) (fv x y), h1, ?_⟩
  clear h1
  have hFa := put_at F hT hFz
  have ho1 := Fr.only_row W1 W.heap.size F.arr
  have hXa := keep_fault hXz ho1 (fun e => by omega)
  have ho2 := Fr.only_row (W1.setRow W.heap.size F.arr) (W.heap.size + 1) (fv x y)
  exact ⟨put_frame F hT hFz, put_fault x y hXa, hFa.only ho2 (fun e => by omega), set_fault x y hXa, below_setRow (below_setRow hbn (Nat.le_refl _) _) (Nat.le_succ _) _⟩
theorem dec_ret {W : World} {g g2 : Nat} {tmps : Array Value} {F : Fr} {x y : Int} (hp : tmps.getD 2 undef = .pointer (some ⟨g, 0, none⟩)) (hq : tmps.getD 3 undef = .pointer (some ⟨g2, 0, none⟩)) (hF : F.at_ 48 W g) (hX : W.heap[g2]? = some (.cells (fv x y) 28 (0, 0))) :
    (results Tryz.f56 tmps).run Tryz.prog W = .ok (.tuple #[.agg F.arr, .agg (fv x y)]) W :=
  results_cell_row2 (P := Tryz.prog) (fn := Tryz.f56) (p := 2) (q := 3) rfl tmps W g g2 48 28 F.arr (fv x y) (0, 0) (0, 0) _ _ hp hF.blk Tryz.underlying48 rfl (by rw [Fr.arr_size F hF.tool]; kernel_rfl) hq hX Tryz.underlying28 rfl (fv_size x y)
theorem dec_bad {w W : World} {xs : List Int} {x y : Int} (h : Hid (decF xs = (noF, x, y))) (hb : Below w.heap.size w W) : DecPost w xs (.returned (.tuple #[.agg (kF 0).arr, .agg (fv x y)])) W :=
  ⟨kF 0, x, y, rfl, Lib.hid ⟨by rw [h.out], by rw [h.out]; rfl⟩, ⟨rfl, rt_none _ rfl rfl rfl⟩, OwnA.none _ _ ⟨rfl, rfl, rfl, rfl⟩, hb⟩
attribute [-go_sem] Instr.loadAt Instr.storeAt
section
variable {A : Option Addr} {n cap : Nat} {xs : List Int} {w : World}
set_option maxHeartbeats 8000000 in
set_option maxRecDepth 100000 in
theorem Decode_any (hx : RB w A n xs) (hc : n ≤ cap) : Calls Tryz.prog 56 #[.slice A n cap] w (DecPost w xs) := by
  have HXL := Lib.hid hx.len
  have HBY := Lib.hid hx.byt
  obtain ⟨hb0, hF0, hf0⟩ := two_new w
  have hbd : ∀ (x : Int) (W : World), (Instr.build 28 #[(0, .int .i64 x)]).run Tryz.prog W = .ok (.agg #[.int .i64 x, .int .i64 0]) W := fun x W => by kernel_rfl
  have hb2 : ∀ (x y : Int) (W : World), (Instr.build 28 #[(0, .int .i64 x), (1, .int .i64 y)]).run Tryz.prog W = .ok (.agg #[.int .i64 x, .int .i64 y]) W := fun x y W => by kernel_rfl
  have hz : ∀ W : World, (Instr.build 28 #[]).run Tryz.prog W = .ok (.agg #[.int .i64 0, .int .i64 0]) W := fun W => by kernel_rfl
  go_enter Tryz.func56, Tryz.ntmps56
  go_upto_region 1 with (fail)
  generalize (w.alloc (.cells #[.int .i64 0, .int .u64 0, .int .i64 0, .int .i64 0, .int .u8 0, .int .u8 0, .int .u8 0, .int .u8 0, .int .u8 0, .int .u8 0, .int .u8 0, .int .u8 0, .int .u8 0, .int .u8 0, .int .u8 0, .int .u8 0, .int .u8 0, .int .u8 0, .int .u8 0, .int .u8 0, .int .u8 0, .int .u8 0, .int .u8 0, .int .u8 0, .int .u8 0, .int .u8 0, .int .u8 0, .int .u8 0, .int .u8 0, .int .u8 0, .int .u8 0, .int .u8 0, .int .u8 0, .int .u8 0, .int .u8 0, .int .u8 0, .int .i64 0, .int .i64 0, .int .i64 0, .int .i64 0, .slice none 0 0, .string ⟨#[]⟩] 48)).alloc (.cells #[.int .i64 0, .int .i64 0] 28) = w1 at *
  obtain ⟨g, hg⟩ : ∃ g, w.heap.size = g := ⟨_, rfl⟩
  obtain ⟨g2, hg2⟩ : ∃ g2, w.heap.size + 1 = g2 := ⟨_, rfl⟩
  have HG := Lib.hid hg
  have HG2 := Lib.hid hg2
  have hgg : g ≠ g2 := by omega
  rw [hg] at hF0
  rw [hg2] at hf0
  rw [hg2, hg]
  have hxb := hx.below hb0
  clear hg hg2 hx
  go_wp2_with fail
  refine (Need_any A n cap xs _ hxb hc).mono ?_
  rintro e w2 ⟨m, k, x, rfl, HN, hb1⟩
  have hF1 := hF0.below hb1
  have hX1 := (hb1.block _ (lt_of_block hf0)).trans hf0
  have hbw := below_step hb0 hb1
  have hx1 := hxb.below hb1
  have HWX := hbw.size
  clear hb0 hb1 hf0 hF0 hxb
  by_cases h0 : x = 0
  · subst h0
    by_cases hm : m = 0 ∨ n < m
    · have hdm : decide ((n : Int) < (m : Int)) = decide (n < m) := by simp
      have HD : Hid (decF xs = (noF, 4, (n : Int))) := Lib.hid (by unfold decF; rw [HN.out, if_neg (by simp), if_pos (by rw [HXL.out]; exact hm), HXL.out])
      have sF := same_zero hF1
      have sX := put_fault 4 (n : Int) hX1
      have hXn := set_fault 4 (n : Int) hX1
      have hFn := hF1.only (Fr.only_row w2 g2 (fv 4 (n : Int))) hgg
      have hbn := below_setRow (cs := fv 4 (n : Int)) hbw (g := g2) (by have := HG2.out; omega)
      by_cases hm0 : m = 0
      · have bm : ((m : Int) == 0) = true := by rw [beq_iff_eq]; omega
        clear hm hm0 hdm
        go_wp2_with fail
        try simp only [Exit.inBlock, Exit.then]
        exact bodyPost_ret (v := .tuple #[.agg (kF 0).arr, .agg (fv 4 (n : Int))]) (dec_ret rfl rfl hFn hXn) rfl (dec_bad HD hbn)
      · have bm : ((m : Int) == 0) = false := by rw [beq_eq_false_iff_ne]; omega
        have hlt : (n : Int) < (m : Int) := by omega
        clear hm hm0 hdm
        go_wp2_with fail
        try simp only [Exit.inBlock, Exit.then]
        exact bodyPost_ret (v := .tuple #[.agg (kF 0).arr, .agg (fv 4 (n : Int))]) (dec_ret rfl rfl hFn hXn) rfl (dec_bad HD hbn)
    · have bm : ((m : Int) == 0) = false := by rw [beq_eq_false_iff_ne]; omega
      have hlt : ¬ (n : Int) < (m : Int) := by omega
      by_cases hm2 : m < n
      · have hgt : (n : Int) > (m : Int) := by omega
        have HD : Hid (decF xs = (noF, 6, (m : Int))) := Lib.hid (by unfold decF; rw [HN.out, if_neg (by simp), if_neg (by rw [HXL.out]; exact hm), if_pos (by rw [HXL.out]; exact hm2)])
        have sF := same_zero hF1
        have sX := put_fault 6 (m : Int) hX1
        have hXn := set_fault 6 (m : Int) hX1
        have hFn := hF1.only (Fr.only_row w2 g2 (fv 6 (m : Int))) hgg
        have hbn := below_setRow (cs := fv 6 (m : Int)) hbw (g := g2) (by have := HG2.out; omega)
        clear hm hm2
        go_wp2_with fail
        try simp only [Exit.inBlock, Exit.then]
        exact bodyPost_ret (v := .tuple #[.agg (kF 0).arr, .agg (fv 6 (m : Int))]) (dec_ret rfl rfl hFn hXn) rfl (dec_bad HD hbn)
      · have hmn : m = n := by omega
        have hgt : ¬ (n : Int) > (m : Int) := by omega
        have hl : n ≤ 140737488355000 := by
          obtain ⟨m0, hh0, hm0⟩ := need_head HN.out (fun e => hm (.inl e))
          have := headF_facts HBY.out hh0
          omega
        have HM := Lib.hid hm
        have HMN := Lib.hid hmn
        clear hm hm2 hmn
        go_wp2_with fail
        refine (Open_any A n cap xs _ hx1 hc hl).mono ?_
        rintro e w3 ⟨v, ys, x, rfl, hO, HO, hb3⟩
        have hF2 := hF1.below hb3
        have hX2 := (hb3.block _ (lt_of_block hX1)).trans hX1
        have hbx := below_step hbw hb3
        have hx2 := hx1.below hb3
        clear hF1 hX1 hx1
        by_cases h1 : x = 0
        · subst h1
          obtain ⟨A2, c2, rfl, hR2, hc2⟩ := hO.reads'
          have HOT := Lib.hid (open_take HO.out.symm)
          obtain ⟨N, hN⟩ : ∃ N, ys.length = N := ⟨_, rfl⟩
          have HNL := Lib.hid hN
          rw [hN] at hR2 hc2 ⊢
          clear hO hN
          go_wp2_with fail
          refine (head_any A n cap xs _ hx2 hc).mono ?_
          rintro e w4 ⟨m1, k1, x1, rfl, HH, hb4⟩
          obtain ⟨m0, hh0, hm0⟩ := need_head HN.out (fun e => HM.out (.inl e))
          have he := HH.out.symm.trans hh0
          cases he
          have hfa := headF_facts HBY.out HH.out
          have hF3 := hF2.below hb4
          have hX3 := (hb4.block _ (lt_of_block hX2)).trans hX2
          have hby := below_step hbx hb4
          have hR3 := hR2.below hb4
          have hyl : N = n - 4 := by rw [← HNL.out]; have e := HOT.out; rw [HXL.out] at e; rw [e.1, List.length_take, HXL.out]; omega
          have hk2 : k ≤ N := by have := HMN.out; omega
          have hn2 : N ≤ 4194304 := by have := HMN.out; omega
          clear hF2 hX2 hbx hx2 hR2 hfa hm0 hh0 hb4 hyl
          go_wp2_with fail
          refine (read_any hR3 hn2 k hk2).mono ?_
          rintro e w5 ⟨F, x, y, rfl, hT, HRD, hok, hb5⟩
          obtain ⟨w6, w7, w8, s0, s1, s2, hFb, hXb, hbq⟩ := two_put w5 F hT x y
          have HFB := Lib.hid hFb
          have HXB := Lib.hid hXb
          have HBQ := Lib.hid hbq
          clear hFb hXb hbq
          go_upto_region 13 with (fail)
          clear s0 s1 s2
          have hbq := HBQ.out
          have hgl := hF3.lt
          have hF4 := (hF3.below hb5).below hbq
          have hbz := below_step (below_step hby hb5) hbq
          have hX4a := (hb5.block _ (lt_of_block hX3)).trans hX3
          have hX4 := (hbq.block _ (lt_of_block hX4a)).trans hX4a
          clear hX4a hF3 hX3
          have hF5 := HFB.out
          have hX5 := HXB.out
          have hg3 : ¬ w5.heap.size + 1 = g := by have := hb5.size; omega
          have HD : Hid (decF xs = readF ys k) := Lib.hid (by
            have e := HO.out
            unfold decF; rw [HN.out, if_neg (by simp), if_neg (by rw [HXL.out]; exact HM.out), if_neg (by rw [HXL.out, HMN.out]; simp), ← e, if_neg (by simp)])
          have hok2 : x = 0 → F.ok w8 ∧ OwnA w8 w.heap.size F ∧ (∀ a, F.A = some a → ¬ a.block = g) := fun h0 => ⟨(hok h0).1.below hbq, ((hok h0).2.below hbq).less hby.size, fun a e => by have := (hok h0).2.fresh a e; have := hby.size; omega⟩
          have HOK := Lib.hid hok2
          obtain ⟨g3, hg3e⟩ : ∃ g3, w5.heap.size = g3 := ⟨_, rfl⟩
          obtain ⟨g4, hg4e⟩ : ∃ g4, w5.heap.size + 1 = g4 := ⟨_, rfl⟩
          rw [hg4e] at hX5 hg3
          rw [hg3e] at hF5
          rw [hg4e, hg3e]
          clear HFB HXB HBQ hbq hok hok2 hb5 hby hR3 hgl hg3e hg4e hk2 hn2
          have hdr := below_drew (Below.refl w8.heap.size w8)
          have eX0 := get_fault hX5
          have hF4d := hF4.below hdr
          have hX4d := (hdr.block _ (lt_of_block hX4)).trans hX4
          have hF5d := hF5.below hdr
          have hX5d := (hdr.block _ (lt_of_block hX5)).trans hX5
          have hbzd := below_step hbz hdr
          have hg2g : g2 ≠ g := fun e => hgg e.symm
          by_cases hx0 : x = 0
          · have hy0 : y = 0 := (HRD.out.2 hx0).2
            have HRR := Lib.hid (HRD.out.2 hx0).1
            have HR2 := HRD
            have hok3 := HOK.out hx0
            subst hx0
            subst hy0
            have heq := run_fault_ne 0 0 true rfl
            have e1 := get_frame hF5d
            have e2 := get_fault hX5d
            have s1 := put_frame F hT hF4d
            have sX : (Instr.storeAt 28 (.pointer (some ⟨g2, 0, none⟩)) (.agg #[.int .i64 0, .int .i64 0])).run Tryz.prog w8.drew = .ok () w8.drew := same_fault hX4d
            have ho1 := Fr.only_row w8.drew g F.arr
            have hXg4 := keep_fault hX5d ho1 hg3
            have hXg2 := keep_fault hX4d ho1 hg2g
            have e3 := get_fault hXg4
            have sX2 : (Instr.storeAt 28 (.pointer (some ⟨g2, 0, none⟩)) (.agg #[.int .i64 0, .int .i64 0])).run Tryz.prog (w8.drew.setRow g F.arr) = .ok () (w8.drew.setRow g F.arr) := same_fault hXg2
            have hFg := put_at F hT hF4d
            have hbg := below_setRow (cs := F.arr) hbzd (g := g) (by have := HG.out; omega)
            have hokg : F.ok (w8.drew.setRow g F.arr) := ⟨hT, (hok3.1.below hdr).args.apart ho1 hok3.2.2⟩
            have HP : Hid (DecPost w xs (.returned (.tuple #[.agg F.arr, .agg (fv 0 0)])) (w8.drew.setRow g F.arr)) := Lib.hid ⟨F, 0, 0, rfl, Lib.hid ⟨by rw [HD.out]; exact HR2.out.1, by rw [HD.out]; exact HRR.out⟩, hokg, (hok3.2.1.below hdr).only ho1 hok3.2.2, hbg⟩
            clear hok3 hokg ho1 HOK
            generalize w8.drew.setRow g F.arr = w9 at *
            go_wp2_with fail
            go_region_law (fail)
            all_goals
              try go_wp2_with fail
              try simp only [Exit.inBlock, Exit.then]
              exact bodyPost_ret (v := .tuple #[.agg F.arr, .agg (fv 0 0)]) (dec_ret rfl rfl hFg hXg2) rfl HP.out
          · have heq := run_fault_ne x y false (by rw [Bool.and_eq_false_iff]; left; rw [beq_eq_false_iff_ne]; exact hx0)
            have HD2 : Hid (decF xs = (noF, x, y)) := Lib.hid (by
              rw [HD.out]
              have e := HRD.out.1
              refine Prod.ext ?_ e
              have hh := readF_none (p := ys) (head := k) (by rw [e]; exact hx0)
              exact hh)
            have e2 := get_fault hX5d
            have sF := same_zero hF4d
            have s1 := put_fault x y hX4d
            have ho1 := Fr.only_row w8.drew g2 (fv x y)
            have hFq := hF4d.only ho1 hgg
            have sF2 := same_zero hFq
            have hXq := set_fault x y hX4d
            have hbq := below_setRow (cs := fv x y) hbzd (g := g2) (by have := HG2.out; omega)
            have HP : Hid (DecPost w xs (.returned (.tuple #[.agg (kF 0).arr, .agg (fv x y)])) (w8.drew.setRow g2 (fv x y))) := Lib.hid (dec_bad HD2 hbq)
            clear hx0 ho1 HOK
            generalize w8.drew.setRow g2 (fv x y) = w9 at *
            go_wp2_with fail
            go_region_law (fail)
            all_goals
              try go_wp2_with fail
              try simp only [Exit.inBlock, Exit.then]
              exact bodyPost_ret (v := .tuple #[.agg (kF 0).arr, .agg (fv x y)]) (dec_ret rfl rfl hFq hXq) rfl HP.out
        · have b1 : (x != 0) = true := by simpa using h1
          have HD : Hid (decF xs = (noF, 71, (m : Int) - 4)) := Lib.hid (by
            have e := HO.out
            unfold decF; rw [HN.out, if_neg (by simp), if_neg (by rw [HXL.out]; exact HM.out), if_neg (by rw [HXL.out, HMN.out]; simp), if_pos (by rw [← e]; exact h1)])
          have hwr : IntKind.i64.wrap ((m : Int) - 4) = (m : Int) - 4 := IntWalk.i64_in _ ⟨by have := HMN.out; omega, by have := HMN.out; omega⟩
          have sF := same_zero hF2
          have sX := put_fault 71 ((m : Int) - 4) hX2
          have hXn := set_fault 71 ((m : Int) - 4) hX2
          have hFn := hF2.only (Fr.only_row w3 g2 (fv 71 ((m : Int) - 4))) hgg
          have hbn := below_setRow (cs := fv 71 ((m : Int) - 4)) hbx (g := g2) (by have := HG2.out; omega)
          clear h1
          go_wp2_with fail
          try simp only [Exit.inBlock, Exit.then]
          exact bodyPost_ret (v := .tuple #[.agg (kF 0).arr, .agg (fv 71 ((m : Int) - 4))]) (dec_ret rfl rfl hFn hXn) rfl (dec_bad HD hbn)
  · have b0 : (x != 0) = true := by simpa using h0
    have HD : Hid (decF xs = (noF, x, 0)) := Lib.hid (by unfold decF; rw [HN.out, if_pos h0])
    have sF := same_zero hF1
    have sX := put_fault x 0 hX1
    have hXn := set_fault x 0 hX1
    have hFn := hF1.only (Fr.only_row w2 g2 (fv x 0)) hgg
    have hbn := below_setRow (cs := fv x 0) hbw (g := g2) (by have := HG2.out; omega)
    clear h0
    go_wp2_with fail
    try simp only [Exit.inBlock, Exit.then]
    exact bodyPost_ret (v := .tuple #[.agg (kF 0).arr, .agg (fv x 0)]) (dec_ret rfl rfl hFn hXn) rfl (dec_bad HD hbn)
end
end Go.Proofs.YtpjpgcjhdbiepaaGreat
end
/-! A frame in a new block of its own; cells written and read. -/
section
namespace Go.Proofs.YtpjpgcjhdbiepaaGreat
open Go.RowKit Go.Kit Go.Proofs.YtpjpgcjhdbiepaaGreatW.PrintWords
theorem one_new (W : World) : (kF 0).at_ 48 (W.alloc (.cells #[.int .i64 0, .int .u64 0, .int .i64 0, .int .i64 0, .int .u8 0, .int .u8 0, .int .u8 0, .int .u8 0, .int .u8 0, .int .u8 0, .int .u8 0, .int .u8 0, .int .u8 0, .int .u8 0, .int .u8 0, .int .u8 0, .int .u8 0, .int .u8 0, .int .u8 0, .int .u8 0, .int .u8 0, .int .u8 0, .int .u8 0, .int .u8 0, .int .u8 0, .int .u8 0, .int .u8 0, .int .u8 0, .int .u8 0, .int .u8 0, .int .u8 0, .int .u8 0, .int .u8 0, .int .u8 0, .int .u8 0, .int .u8 0, .int .i64 0, .int .i64 0, .int .i64 0, .int .i64 0, .slice none 0 0, .string ⟨#[]⟩] 48)) W.heap.size ∧ Below W.heap.size W (W.alloc (.cells #[.int .i64 0, .int .u64 0, .int .i64 0, .int .i64 0, .int .u8 0, .int .u8 0, .int .u8 0, .int .u8 0, .int .u8 0, .int .u8 0, .int .u8 0, .int .u8 0, .int .u8 0, .int .u8 0, .int .u8 0, .int .u8 0, .int .u8 0, .int .u8 0, .int .u8 0, .int .u8 0, .int .u8 0, .int .u8 0, .int .u8 0, .int .u8 0, .int .u8 0, .int .u8 0, .int .u8 0, .int .u8 0, .int .u8 0, .int .u8 0, .int .u8 0, .int .u8 0, .int .u8 0, .int .u8 0, .int .u8 0, .int .u8 0, .int .i64 0, .int .i64 0, .int .i64 0, .int .i64 0, .slice none 0 0, .string ⟨#[]⟩] 48)) := ⟨⟨heap_alloc_new W _, rfl⟩, below_alloc (Below.refl _ W) _⟩
theorem frame_put (W : World) (F : Fr) (hT : F.tool.length = 32) : ∃ W1 W2 : World, W.alloc (.cells #[.int .i64 0, .int .u64 0, .int .i64 0, .int .i64 0, .int .u8 0, .int .u8 0, .int .u8 0, .int .u8 0, .int .u8 0, .int .u8 0, .int .u8 0, .int .u8 0, .int .u8 0, .int .u8 0, .int .u8 0, .int .u8 0, .int .u8 0, .int .u8 0, .int .u8 0, .int .u8 0, .int .u8 0, .int .u8 0, .int .u8 0, .int .u8 0, .int .u8 0, .int .u8 0, .int .u8 0, .int .u8 0, .int .u8 0, .int .u8 0, .int .u8 0, .int .u8 0, .int .u8 0, .int .u8 0, .int .u8 0, .int .u8 0, .int .i64 0, .int .i64 0, .int .i64 0, .int .i64 0, .slice none 0 0, .string ⟨#[]⟩] 48) = W1 ∧
    (Instr.storeAt 48 (.pointer (some ⟨W.heap.size, 0, none⟩)) (.agg F.arr)).run Tryz.prog W1 = .ok () W2 ∧ F.at_ 48 W2 W.heap.size ∧ Below W.heap.size W W2 := by
  obtain ⟨hF, hb⟩ := one_new W
  exact ⟨_, _, rfl, put_frame F hT hF, put_at F hT hF, below_setRow hb (Nat.le_refl _) _⟩
theorem frame_new (W : World) : ∃ W1 : World, W.alloc (.cells #[.int .i64 0, .int .u64 0, .int .i64 0, .int .i64 0, .int .u8 0, .int .u8 0, .int .u8 0, .int .u8 0, .int .u8 0, .int .u8 0, .int .u8 0, .int .u8 0, .int .u8 0, .int .u8 0, .int .u8 0, .int .u8 0, .int .u8 0, .int .u8 0, .int .u8 0, .int .u8 0, .int .u8 0, .int .u8 0, .int .u8 0, .int .u8 0, .int .u8 0, .int .u8 0, .int .u8 0, .int .u8 0, .int .u8 0, .int .u8 0, .int .u8 0, .int .u8 0, .int .u8 0, .int .u8 0, .int .u8 0, .int .u8 0, .int .i64 0, .int .i64 0, .int .i64 0, .int .i64 0, .slice none 0 0, .string ⟨#[]⟩] 48) = W1 ∧ (kF 0).at_ 48 W1 W.heap.size ∧ Below W.heap.size W W1 := by
  obtain ⟨hF, hb⟩ := one_new W
  exact ⟨_, rfl, hF, hb⟩
theorem build_kind (k : Int) (W : World) : (Instr.build 48 #[(0, .int .i64 k)]).run Tryz.prog W = .ok (.agg (kF k).arr) W := by kernel_rfl
theorem _root_.Go.Kit.OB.reads_from {e : TypeId} {w : World} {base : Nat} {v : Value} {xs : List Int} (h : OB e w base v xs) : ∃ A c, v = .slice A xs.length c ∧ RB w A xs.length xs ∧ xs.length ≤ c ∧ ∀ a, A = some a → base ≤ a.block := by
  obtain ⟨A, c, hv, hr, hc⟩ := h.reads'
  refine ⟨A, c, hv, hr, hc, fun a e => ?_⟩
  rcases h.own.2 with ⟨h1, h2⟩ | ⟨g, cap, cur, h1, h2, _⟩
  · rw [hv] at h1
    injection h1 with h3
    rw [h3] at e; cases e
  · rw [hv] at h1
    injection h1 with h3
    rw [h3] at e; cases e; exact h2
theorem load_cell_u8 {W : World} {a : Addr} {v : Value} (h : W.cell? a = some v) : (Instr.loadAt 5 (.pointer (some a))).run Tryz.prog W = .ok v W := by go_simp
theorem put_cell_int (y : Int) (W : World) (a : Addr) (u : Value) (hc : W.cell? a = some u) (hf : W.frozen? a = false) : (Instr.storeAt 3 (.pointer (some a)) (.int .i64 y)).run Tryz.prog W = .ok () (W.setCell a (.int .i64 y)) := by go_simp
theorem load_cell_int {W : World} {a : Addr} {v : Value} (h : W.cell? a = some v) : (Instr.loadAt 3 (.pointer (some a))).run Tryz.prog W = .ok v W := by go_simp
end Go.Proofs.YtpjpgcjhdbiepaaGreat
end
/-! Rows of frames; the contracts of All and of the document's All; the walk of FrameAll. -/
section
namespace Go.Kit
open Go.RowKit Go.Proofs.YtpjpgcjhdbiepaaGreatW.PrintWords
/-- A row of frames that is read. -/
structure RF (w : World) (A : Option Addr) (n : Nat) (L : List Fr) : Prop where
  len : L.length = n
  max : n ≤ 9223372036854775807
  at0 : ∀ i, i < n → ∃ ad f, A = some ad ∧ (∀ j v, f.cells[j]? = some v → w.cell? ((ad.add (i * 42)).add j) = some v) ∧ L[i]? = some f ∧ f.ok w ∧ f.wf ∧ (∀ s ∈ f.args, s.size ≤ 9223372036854775807)
theorem RF.below {w w1 : World} {A : Option Addr} {n : Nat} {L : List Fr} (h : RF w A n L) (hb : Below w.heap.size w w1) : RF w1 A n L :=
  ⟨h.len, h.max, fun i hi => by
    obtain ⟨ad, f, e, hc, hl, ho, hw, ha⟩ := h.at0 i hi
    exact ⟨ad, f, e, fun j v hj => pw_cell_below hb (hc j v hj), hl, ho.below hb, hw, ha⟩⟩
end Go.Kit
namespace Go.Proofs.YtpjpgcjhdbiepaaGreat
open Go.RowKit Go.Kit Go.Proofs.YtpjpgcjhdbiepaaGreatW.PrintWords
theorem load_frame_at (f : Fr) (hf : f.tool.length = 32) (W : World) (a : Addr) (h : ∀ j v, f.cells[j]? = some v → W.cell? (a.add j) = some v) :
    (Instr.loadAt 48 (.pointer (some a))).run Tryz.prog W = .ok (.agg f.arr) W := by
  have hi : (Tryz.prog.info? 48).map (·.size) = some f.cells.length := by rw [frame_size]; have := Fr.arr_size f hf; simp [Fr.arr] at this; rw [this]
  have hl : (loadCells a f.cells.length).run Tryz.prog W = .ok f.cells.toArray W := run_loadCells_list (P := Tryz.prog) W a f.cells h
  simp only [Instr.loadAt, Instr.sureAddr, Sem.run_bind, Sem.run_pure, Result.andThen_ok]
  cases hq : Tryz.prog.info? 48 with
  | none => simp [hq] at hi
  | some i =>
    have hs : i.size = f.cells.length := by simpa [hq] using hi
    have hagg : (isAgg 48).run Tryz.prog W = .ok true W := by
      unfold isAgg
      rw [Sem.run_bind, run_underlying Tryz.underlying48 W]
      rfl
    simp [loadVar, Sem.run_bind, hagg, sizeOf, typeInfo, hq, hs, hl, Fr.arr]
def encs_ (L : List Fr) : List Int := (L.map encF).flatten
theorem enc_len (f : Fr) : (encF f).length ≤ 2097176 := by
  unfold encF
  split
  · simp
  · next h =>
    have h1 := (chk_facts (by simpa using h)).2.2
    have h2 := sh_ten (n := (bodyF f).length) (by omega)
    rw [sealed_length, List.length_append]
    omega
theorem encs_len (L : List Fr) : (encs_ L).length ≤ 2097176 * L.length := by
  induction L with
  | nil => simp [encs_]
  | cons f r ih =>
    have := enc_len f
    simp only [encs_, List.map_cons, List.flatten_cons, List.length_append, List.length_cons] at ih ⊢
    omega
attribute [-go_sem] Instr.loadAt Instr.storeAt
section
variable {A : Option Addr} {n c : Nat} {L : List Fr} {w : World}
end
end Go.Proofs.YtpjpgcjhdbiepaaGreat
end
/-! A row of frames, opened, with its bulk. -/
section
namespace Go.Proofs.YtpjpgcjhdbiepaaGreat
open Go.ChangeShapes Go.WideShapes Go.RowKit Go.Kit Go.Deep Go.Proofs.YtpjpgcjhdbiepaaGreatW.PrintWords
instance : Inhabited Fr := ⟨noF⟩
set_option maxRecDepth 100000 in
theorem read_frame {H : Type} {enc : TypeId × Value → H} {W : World} {n : Nat} {cs : List Value} {y : DataW H × List MemPlace} (ht : DataW.trod enc Tryz.prog W 0 (fun _ => true) true n 48 cs = some y) :
    ∃ f : Fr, cs = f.cells ∧ f.ok W ∧ f.wf ∧ tw f.args + 1 ≤ Rows.uptoBulk y.1 ∧ 9 ≤ Rows.uptoBulk y.1 := by
  obtain ⟨hl, parts, hagg, hf⟩ := read_fields Tryz.underlying48 ht
  rw [show Tryz.prog.cellsOf 48 = 42 from by kernel_rfl] at hl
  have c1 : Tryz.prog.cellsOf 3 = 1 := by kernel_rfl
  have c2 : Tryz.prog.cellsOf 41 = 1 := by kernel_rfl
  have c3 : Tryz.prog.cellsOf 43 = 32 := by kernel_rfl
  have c4 : Tryz.prog.cellsOf 45 = 3 := by kernel_rfl
  have c5 : Tryz.prog.cellsOf 46 = 1 := by kernel_rfl
  have c6 : Tryz.prog.cellsOf 9 = 1 := by kernel_rfl
  obtain ⟨n0, y0, h0, p0, _⟩ := hf 0 3 0 rfl
  obtain ⟨n1, y1, h1, p1, _⟩ := hf 1 41 1 rfl
  obtain ⟨n2, y2, h2, p2, _⟩ := hf 2 3 2 rfl
  obtain ⟨n3, y3, h3, p3, _⟩ := hf 3 3 3 rfl
  obtain ⟨n4, y4, h4, p4, _⟩ := hf 4 43 4 rfl
  obtain ⟨n5, y5, h5, p5, _⟩ := hf 5 3 36 rfl
  obtain ⟨n6, y6, h6, p6, _⟩ := hf 6 45 37 rfl
  obtain ⟨n7, y7, h7, p7, _⟩ := hf 7 46 40 rfl
  obtain ⟨n8, y8, h8, p8, _⟩ := hf 8 9 41 rfl
  rw [c1] at h0 h2 h3 h5
  rw [c2] at h1
  rw [c3] at h4
  rw [c4] at h6
  rw [c5] at h7
  rw [c6] at h8
  obtain ⟨k, e0, _, we0⟩ := DataW.trod_int Tryz.underlying3 h0
  obtain ⟨id, e1, _, we1⟩ := DataW.trod_int Tryz.underlying41 h1
  obtain ⟨v, e2, _, we2⟩ := DataW.trod_int Tryz.underlying3 h2
  obtain ⟨s, e3, _, we3⟩ := DataW.trod_int Tryz.underlying3 h3
  obtain ⟨tool, e4, ht, hby⟩ := read_bytes Tryz.underlying43 Tryz.underlying5 (by kernel_rfl) c3 h4
  obtain ⟨st, e5, _, we5⟩ := DataW.trod_int Tryz.underlying3 h5
  obtain ⟨A, n, c, args, e7, hr, hbk, _⟩ := read_texts_bulk Tryz.underlying46 Tryz.underlying9 c6 h7
  obtain ⟨body, e8, ey8, _⟩ := DataW.trod_string Tryz.underlying9 h8
  obtain ⟨hl6, _, _, hf6⟩ := read_fields Tryz.underlying45 h6
  obtain ⟨m0, w0, z0, _, _⟩ := hf6 0 3 0 rfl
  obtain ⟨m1, w1, z1, _, _⟩ := hf6 1 3 1 rfl
  obtain ⟨m2, w2, z2, _, _⟩ := hf6 2 3 2 rfl
  rw [c1] at z0 z1 z2
  obtain ⟨mo, g0, _, wg0⟩ := DataW.trod_int Tryz.underlying3 z0
  obtain ⟨fu, g1, _, wg1⟩ := DataW.trod_int Tryz.underlying3 z1
  obtain ⟨di, g2, _, wg2⟩ := DataW.trod_int Tryz.underlying3 z2
  have e6 : (cs.drop 37).take 3 = [.int .i64 mo, .int .i64 fu, .int .i64 di] := by
    generalize (cs.drop 37).take 3 = l at *
    rw [c4] at hl6
    match l, hl6 with
    | [x, y, z], _ => simp at g0 g1 g2; rw [g0, g1, g2]
  have hbg := bulk_agg (List.mem_of_getElem? p7)
  rw [hagg]
  refine ⟨⟨k, id, v, s, tool, st, mo, fu, di, A, n, c, args, body⟩, ?_, ⟨ht, hr⟩, ?_, by show tw args + 1 ≤ _; omega, ?_⟩
  · show cs = Fr.cells _
    rw [split9 cs hl, e0, e1, e2, e3, e4, e5, e6, e7, e8]
    rfl
  · have a0 := bounds_i64 we0
    have a1 := bounds_u64 we1
    have a2 := bounds_i64 we2
    have a3 := bounds_i64 we3
    have a5 := bounds_i64 we5
    have b0 := bounds_i64 wg0
    have b1 := bounds_i64 wg1
    have b2 := bounds_i64 wg2
    exact ⟨a1.1, a1.2, a0, a2, a3, a5, b0, b1, b2, hby⟩
  · have h1 := (List.getElem?_eq_some_iff.1 p8).1
    have h2 := bulk_ints (H := H) parts
    simp only [Rows.uptoBulk]
    exact Nat.le_trans (Nat.le_trans h1 h2) (by omega)
set_option maxRecDepth 100000 in
theorem open_frames {H : Type} {enc : TypeId × Value → H} {W : World} {base : Nat} {r : Reach} {v : Value} {d : DataW H} {ps : List MemPlace}
    (hv : Value.okWide Tryz.prog W r base 34 v) (h : DataW.Trod enc Tryz.prog W 0 (fun _ => true) true 34 v d ps) (hB : Rows.uptoBulk d ≤ 1048576) : ∃ A n c L, v = .slice A n c ∧ RF W A n L ∧ n ≤ 1048576 ∧ n * 9 ≤ 1048576 := by
  obtain ⟨A, n, c, rfl⟩ := okWide_slice Tryz.underlying34 hv
  obtain ⟨fuel, hf⟩ := h
  rcases open_slice Tryz.underlying34 hf with ⟨h0, h1⟩ | ⟨a, len, cap, m, k, D, Pl, hcs, _, hl, hm, hmm, hxx, hx⟩
  · simp [Value.cells] at h0
    obtain ⟨rfl, rfl, rfl⟩ := h0
    exact ⟨none, 0, 0, [], rfl, ⟨rfl, by omega, fun i hi => absurd hi (by omega)⟩, by omega, by omega⟩
  · simp [Value.cells] at hcs
    obtain ⟨rfl, rfl, rfl⟩ := hcs
    simp only [if_true] at hmm
    have c4 : Tryz.prog.cellsOf 48 = 42 := by kernel_rfl
    have each : ∀ i, i < n → ∃ f : Fr, (∀ j v, f.cells[j]? = some v → W.cell? ((a.add (i * 42)).add j) = some v) ∧ f.ok W ∧ f.wf ∧ tw f.args + 1 ≤ Rows.uptoBulk (D i) ∧ 9 ≤ Rows.uptoBulk (D i) := by
      intro i hi
      obtain ⟨cs, hc, ht⟩ := hx i (by omega)
      rw [c4] at hc
      obtain ⟨hcl, _, hcell⟩ := World.cells?_some hc
      obtain ⟨f, rfl, hok, hwf, hb⟩ := read_frame ht
      refine ⟨f, fun j v hj => ?_, hok, hwf, hb⟩
      have hlt : j < f.cells.length := by
        rcases Nat.lt_or_ge j f.cells.length with h | h
        · exact h
        · rw [List.getElem?_eq_none h] at hj; cases hj
      have hlen : f.cells.length = 42 := by have := Fr.arr_size f hok.tool; simpa [Fr.arr] using this
      have q := hcell j (by omega)
      rw [← hj]; simpa using q
    obtain ⟨y, hy⟩ := choose_lt each
    simp only [Prod.mk.injEq] at hxx
    have hsum9 : n * 9 ≤ Rows.uptoBulk d := by
      rw [hxx.1]
      refine Nat.le_trans ?_ (Nat.le_trans (Nat.le_add_right _ 1) (bulk_slice _ _))
      have h1 := bulk_sum D (fun _ => 9) (List.range n) (fun i hi => (hy i (List.mem_range.1 hi)).2.2.2.2)
      have h2 : ∀ l : List Nat, (l.map fun _ => 9).sum = l.length * 9 := fun l => by
        induction l with
        | nil => rfl
        | cons x r ih => rw [List.map_cons, List.sum_cons, ih, List.length_cons]; omega
      rw [h2, List.length_range] at h1
      exact h1
    have hsum : n ≤ Rows.uptoBulk d := by
      rw [hxx.1]
      refine Nat.le_trans ?_ (Nat.le_trans (Nat.le_add_right _ 1) (bulk_slice _ _))
      have h1 := bulk_ints ((List.range n).map D)
      simpa using h1
    have hbi : ∀ i, i < n → Rows.uptoBulk (D i) ≤ Rows.uptoBulk d := fun i hi => by
      rw [hxx.1]
      refine Nat.le_trans ?_ (Nat.le_trans (Nat.le_add_right _ 1) (bulk_slice _ _))
      exact bulk_part (List.mem_map.2 ⟨i, List.mem_range.2 hi, rfl⟩)
    refine ⟨_, n, c, (List.range n).map y, rfl, ⟨by simp, by omega, fun i hi => ?_⟩, by omega, by omega⟩
    obtain ⟨q0, q1, q2, q3, _⟩ := hy i hi
    refine ⟨a, y i, rfl, q0, by simp [hi], q1, q2, fun s hs => ?_⟩
    have := tw_mem hs
    have := hbi i hi
    omega
end Go.Proofs.YtpjpgcjhdbiepaaGreat
end
/-! What a reader has eaten is what it says: the plain law of frames' one form. No program in it. -/
section
namespace Go.Kit
open Go.RowKit Go.Proofs.YtpjpgcjhdbiepaaGreatW.PrintWords
/-- From one state to the next just these bytes were read, without a fault. -/
structure Ate (D D1 : Rd) (l : List Int) : Prop where
  why : D.why = 0
  bs : D1.bs = D.bs
  pos : D1.at_ = D.at_ + l.length
  eq : D.bs.drop D.at_ = l ++ D.bs.drop D1.at_
theorem Ate.then_ {D D1 D2 : Rd} {l m : List Int} (h : Ate D D1 l) (h2 : Ate D1 D2 m) : Ate D D2 (l ++ m) :=
  ⟨h.why, h2.bs.trans h.bs, by rw [h2.pos, h.pos, List.length_append]; omega, by rw [h.eq, ← h.bs, h2.eq, List.append_assoc]⟩
theorem Ate.nil (D : Rd) (h : D.why = 0) : Ate D D [] := ⟨h, rfl, rfl, rfl⟩
theorem eat {bs : List Int} {a k : Nat} {l : List Int} (h : (bs.drop a).take k = l) : bs.drop a = l ++ bs.drop (a + k) := by
  rw [← h, ← List.drop_drop, List.take_append_drop]
section
variable {D D1 : Rd}
theorem ate_uint (hb : Byt D.bs) {v : Nat} (h : uintS D = (D1, v)) (hw : D1.why = 0) : Ate D D1 (sh v) := by
  obtain ⟨m, k, x, hN⟩ : ∃ m k x, num D.bs D.at_ = (m, k, x) := ⟨_, _, _, rfl⟩
  unfold uintS at h
  rw [hN] at h
  split at h
  · next h0 => cases h; exact absurd hw h0
  · next h0 =>
    have h0 := Classical.not_not.mp h0
    dsimp only at h
    split at h
    · next hx => cases h; exact absurd hw hx
    · next hx =>
      have hx := Classical.not_not.mp hx
      subst hx
      cases h
      obtain ⟨g1, g2⟩ := num_form hb hN
      exact ⟨h0, rfl, by show _ + k = _; rw [g2], eat g1⟩
theorem uint_lt (hb : Byt D.bs) (ha : D.at_ ≤ D.bs.length) {v : Nat} (h : uintS D = (D1, v)) : v < 18446744073709551616 := by
  have hf := (num_facts hb ha).1
  unfold uintS at h
  split at h
  · cases h; decide
  split at h
  · cases h; decide
  · cases h; exact hf
theorem ate_count (hb : Byt D.bs) {most : Int} {v : Nat} (h : countS D most = (D1, v)) (hw : D1.why = 0) : Ate D D1 (sh v) ∧ (v : Int) ≤ most := by
  obtain ⟨m, k, x, hN⟩ : ∃ m k x, num D.bs D.at_ = (m, k, x) := ⟨_, _, _, rfl⟩
  unfold countS at h
  rw [hN] at h
  split at h
  · next h0 => cases h; exact absurd hw h0
  · next h0 =>
    have h0 := Classical.not_not.mp h0
    split at h
    · cases h; exact absurd hw (by show (1 : Int) ≠ 0; decide)
    · dsimp only at h
      split at h
      · next hx => cases h; exact absurd hw hx
      · next hx =>
        have hx := Classical.not_not.mp hx
        subst hx
        split at h
        · cases h; exact absurd hw (by show (11 : Int) ≠ 0; decide)
        · next hm =>
          cases h
          obtain ⟨g1, g2⟩ := num_form hb hN
          exact ⟨⟨h0, rfl, by show _ + k = _; rw [g2], eat g1⟩, by omega⟩
theorem ate_some (hb : Byt D.bs) {most : Int} {v : Nat} (h : someS D most = (D1, v)) (hw : D1.why = 0) : Ate D D1 (sh v) ∧ (v : Int) ≤ most ∧ 0 < v := by
  unfold someS at h
  split at h
  · cases h; exact absurd hw (by show (70 : Int) ≠ 0; decide)
  · next hn =>
    have h1 := ate_count hb h hw
    rw [h] at hn
    exact ⟨h1.1, h1.2, Nat.pos_of_ne_zero (fun e => hn ⟨hw, e⟩)⟩
theorem ate_raw {k : Nat} {t : List Int} (h : rawS D (k : Int) = (D1, t)) (hw : D1.why = 0) (ha : D.at_ ≤ D.bs.length) : Ate D D1 t ∧ t.length = k := by
  unfold rawS at h
  split at h
  · next h0 => cases h; exact absurd hw h0
  · next h0 =>
    have h0 := Classical.not_not.mp h0
    split at h
    · omega
    · split at h
      · cases h; exact absurd hw (by show (4 : Int) ≠ 0; decide)
      · next hl =>
        cases h
        have hk : (k : Int).toNat = k := by omega
        rw [hk]
        have hlen : ((D.bs.drop D.at_).take k).length = k := by rw [List.length_take, List.length_drop]; omega
        exact ⟨⟨h0, rfl, by show _ + k = _; rw [hlen], eat rfl⟩, hlen⟩
theorem ate_text (hb : Byt D.bs) {most : Int} {s : ByteArray} (h : textS D most = (D1, s)) (hw : D1.why = 0) : Ate D D1 (txt s) := by
  obtain ⟨s', en, x, hT⟩ : ∃ s' en x, textAt D.bs D.at_ most = (s', en, x) := ⟨_, _, _, rfl⟩
  unfold textS at h
  rw [hT] at h
  split at h
  · next h0 => cases h; exact absurd hw h0
  · next h0 =>
    have h0 := Classical.not_not.mp h0
    split at h
    · cases h; exact absurd hw (by show (1 : Int) ≠ 0; decide)
    · dsimp only at h
      split at h
      · next hx => cases h; exact absurd hw hx
      · next hx =>
        have hx := Classical.not_not.mp hx
        subst hx
        cases h
        obtain ⟨g1, g2⟩ := txt_of_textAt hb hT
        have hk : en - D.at_ = (txt s).length := by omega
        exact ⟨h0, rfl, g2, by
          have := eat g1
          rwa [show D.at_ + (en - D.at_) = en by omega] at this⟩
theorem back_count {m : Int} {v : Nat} (h : countS D m = (D1, v)) (hw : D1.why = 0) : D.why = 0 := Classical.byContradiction fun e => by rw [countS_bad e] at h; cases h; exact e hw
theorem back_some {m : Int} {v : Nat} (h : someS D m = (D1, v)) (hw : D1.why = 0) : D.why = 0 := Classical.byContradiction fun e => by rw [someS_bad e] at h; cases h; exact e hw
theorem back_raw {m : Int} {v : List Int} (h : rawS D m = (D1, v)) (hw : D1.why = 0) : D.why = 0 := Classical.byContradiction fun e => by rw [rawS_bad e] at h; cases h; exact e hw
theorem back_text {m : Int} {v : ByteArray} (h : textS D m = (D1, v)) (hw : D1.why = 0) : D.why = 0 := Classical.byContradiction fun e => by rw [textS_bad e] at h; cases h; exact e hw
theorem back_list {m c : Int} {v : List ByteArray} (h : listS D m c = (D1, v)) (hw : D1.why = 0) : D.why = 0 := Classical.byContradiction fun e => by rw [listS_bad e] at h; cases h; exact e hw
theorem Ate.low {l : List Int} (h : Ate D D1 l) (ha : D.at_ ≤ D.bs.length) : D1.at_ ≤ D1.bs.length := by
  have e := congrArg List.length h.eq
  rw [List.length_append, List.length_drop, List.length_drop, h.pos] at e
  rw [h.pos, h.bs]
  omega
theorem Ate.byt {l : List Int} (h : Ate D D1 l) (hb : Byt D.bs) : Byt D1.bs := by rw [h.bs]; exact hb
theorem strOf_size (l : List Int) : (strOfNums l).size = l.length := by
  unfold strOfNums
  simp [ByteArray.size]
theorem textAt_le {bs : List Int} {a en : Nat} {most : Int} {s : ByteArray} (h : textAt bs a most = (s, en, 0)) : (s.size : Int) ≤ most := by
  unfold textAt at h
  split at h
  · next hx => exact absurd (congrArg (fun p => p.2.2) h) hx
  split at h
  · exact absurd (congrArg (fun p => p.2.2) h) (by show ¬ (3 : Int) = 0; decide)
  split at h
  · exact absurd (congrArg (fun p => p.2.2) h) (by show ¬ (4 : Int) = 0; decide)
  · have e := congrArg Prod.fst h
    dsimp only at e
    rw [← e, strOf_size, List.length_take]
    omega
theorem lstR_le {bs : List Int} {each : Int} : ∀ (n a : Nat) (acc l : List ByteArray) (en : Nat), lstR bs each n a acc = (l, en, 0) → (∀ s ∈ acc, (s.size : Int) ≤ each) → ∀ s ∈ l, (s.size : Int) ≤ each
  | 0, a, acc, l, en, h, ha => by
    have e := congrArg Prod.fst h
    dsimp only [lstR] at e
    rw [← e]; exact ha
  | n + 1, a, acc, l, en, h, ha => by
    unfold lstR at h
    split at h
    · next hx => exact absurd (congrArg (fun p => p.2.2) h) hx
    · next hx =>
      refine lstR_le n _ _ l en h (fun s hs => ?_)
      rcases List.mem_append.mp hs with hs | hs
      · exact ha s hs
      · rw [List.mem_singleton.mp hs]
        exact textAt_le (bs := bs) (a := a) (en := (textAt bs a each).2.1) (by
          have := Classical.not_not.mp hx
          rw [← this])
theorem ate_list (hb : Byt D.bs) (ha : D.at_ ≤ D.bs.length) {most each : Int} {l : List ByteArray} (h : listS D most each = (D1, l)) (hw : D1.why = 0) : Ate D D1 (lst l) ∧ (l.length : Int) ≤ most ∧ ∀ s ∈ l, (s.size : Int) ≤ each := by
  obtain ⟨m, k, x, hN⟩ : ∃ m k x, num D.bs D.at_ = (m, k, x) := ⟨_, _, _, rfl⟩
  have hfa := num_facts hb ha
  rw [hN] at hfa
  unfold listS at h
  rw [hN] at h
  split at h
  · next h0 => cases h; exact absurd hw h0
  · next h0 =>
    have h0 := Classical.not_not.mp h0
    split at h
    · cases h; exact absurd hw (by show (1 : Int) ≠ 0; decide)
    · dsimp only at h hfa
      split at h
      · next hx => cases h; exact absurd hw hx
      · next hx =>
        have hx := Classical.not_not.mp hx
        subst hx
        split at h
        · cases h; exact absurd hw (by show (11 : Int) ≠ 0; decide)
        · next hm =>
          obtain ⟨L, en, y, hL⟩ : ∃ L en y, lstR D.bs each m (D.at_ + k) [] = (L, en, y) := ⟨_, _, _, rfl⟩
          rw [hL] at h
          dsimp only at h
          split at h
          · next hy => cases h; exact absurd hw hy
          · next hy =>
            have hy := Classical.not_not.mp hy
            subst hy
            cases h
            obtain ⟨g1, g2⟩ := num_form hb hN
            obtain ⟨l', e1, e2, e3, e4, e5⟩ := txts_of_lstR hb each m (D.at_ + k) [] l en hfa.2.1 hL
            rw [List.nil_append] at e1
            subst e1
            have hle := lstR_le m (D.at_ + k) [] l en hL (fun s hs => by cases hs)
            have q1 := eat g1
            have q2 := eat e3
            rw [show D.at_ + k + (en - (D.at_ + k)) = en by omega] at q2
            refine ⟨⟨h0, rfl, ?_, ?_⟩, by omega, hle⟩
            · show en = _
              unfold lst
              rw [List.length_append, e2, ← g2, e4]; omega
            · show _ = _ ++ D.bs.drop en
              unfold lst
              rw [q1, q2, e2, List.append_assoc]
end
/-- What a read frame's fields keep. -/
structure ReadOk (f : Fr) : Prop where
  core : f.core = f
  only : f.core = onlyF f
  many : f.args.length ≤ 8
  mo : 0 ≤ f.mo ∧ f.mo ≤ 2147483648
  fu : 0 ≤ f.fu ∧ f.fu ≤ 2147483648
  di : 0 ≤ f.di ∧ f.di ≤ 2147483648
  hello : f.k = 1 → f.v = 1 ∧ 1 ≤ f.s ∧ f.s ≤ 64
  resp : f.k = 3 → 1 ≤ f.st ∧ f.st ≤ 3
  each : ∀ s ∈ f.args, s.size ≤ 4096
  id : 0 ≤ f.id ∧ f.id ≤ 18446744073709551615
  byt : Byt f.tool
theorem z32_byt : Byt z32 := fun x hx => by
  have := (List.mem_replicate.1 hx).2
  omega
end Go.Kit
end
/-! Frames' one form: what is read without a fault is what would be written. No program in it. -/
section
namespace Go.Kit
open Go.RowKit Go.Proofs.YtpjpgcjhdbiepaaGreatW.PrintWords
section
variable {D D1 : Rd}
theorem ate_hello (hb : Byt D.bs) (ha : D.at_ ≤ D.bs.length) {f : Fr} (h : helloS D = (D1, f)) (hw : D1.why = 0) : Ate D D1 (layF f) ∧ f.k = 1 ∧ ReadOk f := by
  rcases q1 : someS D 1 with ⟨Da, v⟩
  rcases q2 : someS Da 64 with ⟨Db, s⟩
  rcases q3 : rawS Db 32 with ⟨Dc, t⟩
  unfold helloS at h
  rw [q1] at h; dsimp only at h; rw [q2] at h; dsimp only at h; rw [q3] at h; dsimp only at h
  cases h
  have w2 := back_raw q3 hw
  have w1 := back_some q2 w2
  obtain ⟨a1, v1, v0⟩ := ate_some hb q1 w1
  obtain ⟨a2, s1, s0⟩ := ate_some (a1.byt hb) q2 w2
  obtain ⟨a3, ht⟩ := ate_raw (k := 32) q3 hw (a2.low (a1.low ha))
  have hbt : Byt (if t.length = 32 then t else z32) := by
    rw [if_pos ht]
    have e := a3.eq
    intro x hx
    exact (a2.byt (a1.byt hb)) x (List.mem_of_mem_drop (by rw [e]; exact List.mem_append_left _ hx))
  refine ⟨?_, rfl, ⟨rfl, rfl, by simp, by simp, by simp, by simp, fun _ => ⟨by show (v : Int) = 1; omega, by show (1 : Int) ≤ (s : Int); omega, s1⟩, fun e => absurd e (by show ¬ (1 : Int) = 3; decide), fun s hs => (by cases hs), by simp, hbt⟩⟩
  have e : layF ⟨1, 0, (v : Int), (s : Int), if t.length = 32 then t else z32, 0, 0, 0, 0, none, 0, 0, [], ByteArray.empty⟩ = sh v ++ sh s ++ t := by simp [layF, ht]
  rw [e]
  exact (a1.then_ a2).then_ a3
theorem ate_request (hb : Byt D.bs) (ha : D.at_ ≤ D.bs.length) {f : Fr} (h : requestS D = (D1, f)) (hw : D1.why = 0) : Ate D D1 (layF f) ∧ f.k = 2 ∧ ReadOk f := by
  rcases q1 : uintS D with ⟨Da, id⟩
  rcases q2 : countS Da 2147483648 with ⟨Db, mo⟩
  rcases q3 : countS Db 2147483648 with ⟨Dc, fu⟩
  rcases q4 : countS Dc 2147483648 with ⟨Dd, di⟩
  rcases q5 : listS Dd 8 4096 with ⟨De, l⟩
  rcases q6 : textS De 2097152 with ⟨Df, s⟩
  unfold requestS at h
  rw [q1] at h; dsimp only at h; rw [q2] at h; dsimp only at h; rw [q3] at h; dsimp only at h; rw [q4] at h; dsimp only at h; rw [q5] at h; dsimp only at h; rw [q6] at h; dsimp only at h
  cases h
  have w5 := back_text q6 hw
  have w4 := back_list q5 w5
  have w3 := back_count q4 w4
  have w2 := back_count q3 w3
  have w1 := back_count q2 w2
  have a1 := ate_uint hb q1 w1
  have hid := uint_lt hb ha q1
  obtain ⟨a2, m2⟩ := ate_count (a1.byt hb) q2 w2
  obtain ⟨a3, m3⟩ := ate_count (a2.byt (a1.byt hb)) q3 w3
  obtain ⟨a4, m4⟩ := ate_count (a3.byt (a2.byt (a1.byt hb))) q4 w4
  have hb4 := a4.byt (a3.byt (a2.byt (a1.byt hb)))
  obtain ⟨a5, m5, m6⟩ := ate_list hb4 (a4.low (a3.low (a2.low (a1.low ha)))) q5 w5
  have a6 := ate_text (a5.byt hb4) q6 hw
  refine ⟨?_, rfl, ⟨rfl, rfl, by show l.length ≤ 8; omega, ⟨by show (0 : Int) ≤ (mo : Int); omega, m2⟩, ⟨by show (0 : Int) ≤ (fu : Int); omega, m3⟩, ⟨by show (0 : Int) ≤ (di : Int); omega, m4⟩, fun e => absurd e (by show ¬ (2 : Int) = 1; decide), fun e => absurd e (by show ¬ (2 : Int) = 3; decide), fun s hs => (by have := m6 s hs; omega), ⟨by show (0 : Int) ≤ (id : Int); omega, by show (id : Int) ≤ _; omega⟩, z32_byt⟩⟩
  have e : layF ⟨2, (id : Int), 0, 0, z32, 0, (mo : Int), (fu : Int), (di : Int), none, 0, 0, l, s⟩ = sh id ++ sh mo ++ sh fu ++ sh di ++ lst l ++ txt s := by simp [layF]
  rw [e]
  exact ((((a1.then_ a2).then_ a3).then_ a4).then_ a5).then_ a6
theorem ate_response (hb : Byt D.bs) (ha : D.at_ ≤ D.bs.length) {f : Fr} (h : responseS D = (D1, f)) (hw : D1.why = 0) : Ate D D1 (layF f) ∧ f.k = 3 ∧ ReadOk f := by
  rcases q1 : uintS D with ⟨Da, id⟩
  rcases q2 : someS Da 3 with ⟨Db, st⟩
  rcases q3 : textS Db 2097152 with ⟨Dc, s⟩
  unfold responseS at h
  rw [q1] at h; dsimp only at h; rw [q2] at h; dsimp only at h; rw [q3] at h; dsimp only at h
  cases h
  have w2 := back_text q3 hw
  have w1 := back_some q2 w2
  have a1 := ate_uint hb q1 w1
  have hid := uint_lt hb ha q1
  obtain ⟨a2, m2, m0⟩ := ate_some (a1.byt hb) q2 w2
  have a3 := ate_text (a2.byt (a1.byt hb)) q3 hw
  refine ⟨?_, rfl, ⟨rfl, rfl, by simp, by simp, by simp, by simp, fun e => absurd e (by show ¬ (3 : Int) = 1; decide), fun _ => ⟨by show (1 : Int) ≤ (st : Int); omega, m2⟩, fun s hs => (by cases hs), ⟨by show (0 : Int) ≤ (id : Int); omega, by show (id : Int) ≤ _; omega⟩, z32_byt⟩⟩
  have e : layF ⟨3, (id : Int), 0, 0, z32, (st : Int), 0, 0, 0, none, 0, 0, [], s⟩ = sh id ++ sh st ++ txt s := by simp [layF]
  rw [e]
  exact (a1.then_ a2).then_ a3
theorem ate_cancel (hb : Byt D.bs) (ha : D.at_ ≤ D.bs.length) {f : Fr} (h : cancelS D = (D1, f)) (hw : D1.why = 0) : Ate D D1 (layF f) ∧ f.k = 4 ∧ ReadOk f := by
  rcases q1 : uintS D with ⟨Da, id⟩
  unfold cancelS at h
  rw [q1] at h; dsimp only at h
  cases h
  have a1 := ate_uint hb q1 hw
  have hid := uint_lt hb ha q1
  refine ⟨?_, rfl, ⟨rfl, rfl, by simp, by simp, by simp, by simp, fun e => absurd e (by show ¬ (4 : Int) = 1; decide), fun e => absurd e (by show ¬ (4 : Int) = 3; decide), fun s hs => (by cases hs), ⟨by show (0 : Int) ≤ (id : Int); omega, by show (id : Int) ≤ _; omega⟩, z32_byt⟩⟩
  have e : layF ⟨4, (id : Int), 0, 0, z32, 0, 0, 0, 0, none, 0, 0, [], ByteArray.empty⟩ = sh id := by simp [layF]
  rw [e]
  exact a1
theorem ate_note (hb : Byt D.bs) {f : Fr} (h : noteS D = (D1, f)) (hw : D1.why = 0) : Ate D D1 (layF f) ∧ f.k = 6 ∧ ReadOk f := by
  rcases q1 : textS D 2097152 with ⟨Da, s⟩
  unfold noteS at h
  rw [q1] at h; dsimp only at h
  cases h
  have a1 := ate_text hb q1 hw
  refine ⟨?_, rfl, ⟨rfl, rfl, by simp, by simp, by simp, by simp, fun e => absurd e (by show ¬ (6 : Int) = 1; decide), fun e => absurd e (by show ¬ (6 : Int) = 3; decide), fun s hs => (by cases hs), by simp, z32_byt⟩⟩
  have e : layF ⟨6, 0, 0, 0, z32, 0, 0, 0, 0, none, 0, 0, [], s⟩ = txt s := by simp [layF]
  rw [e]
  exact a1
theorem ate_kind (hb : Byt D.bs) (ha : D.at_ ≤ D.bs.length) (k : Nat) (h1 : 1 ≤ k) (h6 : k ≤ 6) {f : Fr} (h : kindS D k = (D1, f)) (hw : D1.why = 0) : Ate D D1 (layF f) ∧ f.k = (k : Int) ∧ ReadOk f := by
  rcases (by omega : k = 1 ∨ k = 2 ∨ k = 3 ∨ k = 4 ∨ k = 5 ∨ k = 6) with rfl | rfl | rfl | rfl | rfl | rfl
  · exact ate_hello hb ha h hw
  · exact ate_request hb ha h hw
  · exact ate_response hb ha h hw
  · exact ate_cancel hb ha h hw
  · unfold kindS at h
    simp only [show ¬ (5 = 1) by decide, show ¬ (5 = 2) by decide, show ¬ (5 = 3) by decide, show ¬ (5 = 4) by decide, show ¬ (5 = 6) by decide, if_false] at h
    cases h
    exact ⟨Ate.nil _ hw, rfl, ⟨rfl, rfl, by simp, by simp, by simp, by simp, fun e => absurd e (by decide), fun e => absurd e (by decide), fun s hs => (by cases hs), by simp, z32_byt⟩⟩
  · exact ate_note hb h hw
theorem ate_fields (hb : Byt D.bs) (ha : D.at_ ≤ D.bs.length) {f : Fr} (h : fieldsS D = (D1, f)) (hw : D1.why = 0) : Ate D D1 (bodyF f) ∧ ReadOk f ∧ 1 ≤ f.k ∧ f.k ≤ 6 := by
  rcases q1 : someS D 6 with ⟨Da, k⟩
  unfold fieldsS at h
  rw [q1] at h
  have w1 : Da.why = 0 := Classical.byContradiction fun e => by
    have := kindS_bad e k
    rw [h] at this
    have t : D1 = Da := this
    rw [t] at hw
    exact e hw
  obtain ⟨a1, k6, k1⟩ := ate_some hb q1 w1
  obtain ⟨a2, e, ho⟩ := ate_kind (a1.byt hb) (a1.low ha) k k1 (by omega) h hw
  refine ⟨?_, ho, by omega, by omega⟩
  have e2 : bodyF f = sh k ++ layF f := by unfold bodyF; rw [e, Int.toNat_natCast]
  rw [e2]
  exact a1.then_ a2
end
/-- What is read of a body without a fault has one form, and may be. -/
theorem read_form {ys : List Int} {head : Nat} (hb : Byt ys) (hh : head ≤ ys.length) {f : Fr} {y : Int} (h : readF ys head = (f, 0, y)) : ys.drop head = bodyF f ∧ May f ∧ ReadOk f := by
  rcases q : fieldsS ((Rd.new ys).to head) with ⟨D, g⟩
  rw [readF_of q] at h
  by_cases hf : (finS D g head).1 = 0
  · rw [if_neg (by simpa using hf)] at h
    cases h
    have hend : (endS D).why = 0 := by
      unfold finS at hf
      split at hf
      · exact absurd hf (by show ¬ (70 : Int) = 0; decide)
      · exact hf
    have hD : D.why = 0 := Classical.byContradiction fun e => by rw [endS_bad e] at hend; exact e hend
    obtain ⟨a, ho, k1, k6⟩ := ate_fields (D := (Rd.new ys).to head) hb hh q hD
    have hat : ¬ D.at_ < D.bs.length := fun e => by
      unfold endS at hend
      rw [if_pos ⟨hD, e⟩] at hend
      exact absurd hend (by show ¬ (6 : Int) = 0; decide)
    have hbs : D.bs = ys := a.bs
    have hdrop : ys.drop D.at_ = [] := List.drop_eq_nil_of_le (by rw [hbs] at hat; omega)
    refine ⟨by have e := a.eq; rw [show ((Rd.new ys).to head).bs = ys from rfl, show ((Rd.new ys).to head).at_ = head from rfl, hdrop, List.append_nil] at e; exact e, ⟨k1, k6, ho.only, ho.many, ho.mo.1, ho.fu.1, ho.di.1, ho.hello, fun e => ⟨(ho.resp e).1, (ho.resp e).2, fun hs => Classical.byContradiction fun hz => ?_⟩, ho.each⟩, ho⟩
    unfold finS at hf
    rw [if_pos ⟨hend, e, hs, hz⟩] at hf
    exact absurd hf (by show ¬ (70 : Int) = 0; decide)
  · rw [if_pos hf] at h
    have e : (finS D g head).1 = 0 := congrArg (fun p => p.2.1) h
    exact absurd e hf
theorem body_le (f : Fr) (hm : May f) : f.body.size ≤ (bodyF f).length := by
  have hc := hm.only
  have hk1 := hm.k1
  have hk6 := hm.k6
  have hb : f.body = (onlyF f).body := by have t := congrArg Fr.body hc; exact t
  have ht : (txt f.body).length = (sh f.body.size).length + f.body.size := by unfold txt; rw [List.length_append, bytesOf_len]
  unfold bodyF layF
  rcases (by omega : f.k = 1 ∨ f.k = 2 ∨ f.k = 3 ∨ f.k = 4 ∨ f.k = 5 ∨ f.k = 6) with e | e | e | e | e | e
  · rw [hb]; simp [onlyF, e]
  · simp [e]; omega
  · simp [e]; omega
  · rw [hb]; simp [onlyF, e]
  · rw [hb]; simp [onlyF, e]
  · simp [e]; omega
end Go.Kit
end
/-! Decoded bytes are the one form of the frame that they say: the plain law. -/
section
namespace Go.Proofs.YtpjpgcjhdbiepaaGreat
open Go.RowKit Go.Kit CrcM Go.Proofs.YtpjpgcjhdbiepaaGreatW.PrintWords
theorem head_num {xs : List Int} {m k : Nat} (h : headF xs = (m, k, 0)) (hk : k ≠ 0 ∨ m ≠ 0) : num xs 0 = (m, k, 0) ∧ m ≤ 2097152 ∧ m ≠ 0 := by
  obtain ⟨p, q, x, hN⟩ : ∃ p q x, num xs 0 = (p, q, x) := ⟨_, _, _, rfl⟩
  unfold headF at h
  rw [hN] at h
  dsimp only at h
  split at h
  · cases h; omega
  split at h
  · next h0 => exact absurd (congrArg (fun p => p.2.2) h) h0
  · next h0 =>
    have h0 := Classical.not_not.mp h0
    split at h
    · exact absurd (congrArg (fun p => p.2.2) h) (by show ¬ (3 : Int) = 0; decide)
    split at h
    · exact absurd (congrArg (fun p => p.2.2) h) (by show ¬ (70 : Int) = 0; decide)
    · cases h
      exact ⟨by rw [hN, h0], by omega, by assumption⟩
theorem need_k {xs : List Int} {m k : Nat} (h : needF xs = (m, k, 0)) (hm : m ≠ 0) : k ≠ 0 := by
  unfold needF at h
  split at h
  · exact absurd (congrArg Prod.fst h).symm hm
  · next hn =>
    have e : (headF xs).2.1 = k := congrArg (fun p => p.2.1) h
    rw [← e]
    exact fun e => hn (.inr e)
theorem seal_of_open {xs ys : List Int} (h : openR xs = (ys, 0)) : xs = sealed ys := by
  unfold openR at h
  split at h
  · cases h
  split at h
  · next h4 he => cases h; unfold sealed; rw [he, List.take_append_drop]
  · cases h
theorem dec_form {xs : List Int} (hb : Byt xs) {f : Fr} {y : Int} (h : decF xs = (f, 0, y)) : chkF f = 0 ∧ encF f = xs ∧ ReadOk f := by
  obtain ⟨m, k, e, hN⟩ : ∃ m k e, needF xs = (m, k, e) := ⟨_, _, _, rfl⟩
  obtain ⟨ys, er, hO⟩ : ∃ ys er, openR xs = (ys, er) := ⟨_, _, rfl⟩
  unfold decF at h
  rw [hN, hO] at h
  dsimp only at h
  split at h
  · next h0 => exact absurd (congrArg (fun p => p.2.1) h) h0
  next h0 =>
  have h0 := Classical.not_not.mp h0
  subst h0
  split at h
  · exact absurd (congrArg (fun p => p.2.1) h) (by show ¬ (4 : Int) = 0; decide)
  next hm =>
  split at h
  · exact absurd (congrArg (fun p => p.2.1) h) (by show ¬ (6 : Int) = 0; decide)
  next hm2 =>
  split at h
  · exact absurd (congrArg (fun p => p.2.1) h) (by show ¬ (71 : Int) = 0; decide)
  next h1 =>
  have h1 := Classical.not_not.mp h1
  subst h1
  obtain ⟨m0, hh, hm0⟩ := need_head hN (fun e => hm (.inl e))
  have hs := seal_of_open hO
  obtain ⟨ht, h4⟩ := open_take hO
  have hyb : Byt ys := by rw [ht]; exact hb.take _
  have hyl : ys.length = xs.length - 4 := by rw [ht, List.length_take]; omega
  have hk : k ≤ ys.length := by omega
  have hm0' : k ≠ 0 ∨ m0 ≠ 0 := by
    exact .inl (need_k hN (fun e => hm (.inl e)))
  obtain ⟨hn, hn1, hn2⟩ := head_num hh hm0'
  obtain ⟨g1, g2⟩ := num_form hb hn
  obtain ⟨hd, hmay, hro⟩ := read_form hyb hk h
  rw [List.drop_zero] at g1
  have htk : ys.take k = sh m0 := by rw [ht, List.take_take, Nat.min_eq_left (by omega)]; exact g1
  have hy : ys = sh m0 ++ bodyF f := by rw [← htk, ← hd, List.take_append_drop]
  have hlen : (bodyF f).length = m0 := by rw [← hd, List.length_drop]; omega
  have hc : chkF f = 0 := chk_ok hmay (by have := body_le f hmay; omega)
  refine ⟨hc, ?_, hro⟩
  unfold encF
  rw [if_neg (by rw [hc]; decide), hlen, ← hy, ← hs]
theorem core_wf {f g : Fr} (h : g.core = f) (ho : ReadOk f) (hk : 1 ≤ f.k ∧ f.k ≤ 6) : g.wf := by
  subst h
  have h1 := ho.hello
  have h2 := ho.resp
  have e := ho.only
  have hv : g.core.v = (onlyF g.core).v := by have t := congrArg Fr.v e; exact t
  have hs : g.core.s = (onlyF g.core).s := by have t := congrArg Fr.s e; exact t
  have ht : g.core.st = (onlyF g.core).st := by have t := congrArg Fr.st e; exact t
  have b1 : -9223372036854775808 ≤ g.core.v ∧ g.core.v ≤ 9223372036854775807 := by
    by_cases hc : g.core.k = 1
    · have := h1 hc; omega
    · rw [hv, show (onlyF g.core).v = if g.core.k = 1 then g.core.v else 0 from rfl, if_neg hc]; omega
  have b2 : -9223372036854775808 ≤ g.core.s ∧ g.core.s ≤ 9223372036854775807 := by
    by_cases hc : g.core.k = 1
    · have := h1 hc; omega
    · rw [hs, show (onlyF g.core).s = if g.core.k = 1 then g.core.s else 0 from rfl, if_neg hc]; omega
  have b3 : -9223372036854775808 ≤ g.core.st ∧ g.core.st ≤ 9223372036854775807 := by
    by_cases hc : g.core.k = 3
    · have := h2 hc; omega
    · rw [ht, show (onlyF g.core).st = if g.core.k = 3 then g.core.st else 0 from rfl, if_neg hc]; omega
  have m1 := ho.mo
  have m2 := ho.fu
  have m3 := ho.di
  exact ⟨ho.id.1, ho.id.2, ⟨by show _ ≤ g.core.k; omega, by show g.core.k ≤ _; omega⟩, b1, b2, b3, ⟨by show _ ≤ g.core.mo; omega, by show g.core.mo ≤ _; omega⟩, ⟨by show _ ≤ g.core.fu; omega, by show g.core.fu ≤ _; omega⟩, ⟨by show _ ≤ g.core.di; omega, by show g.core.di ≤ _; omega⟩, ho.byt⟩
end Go.Proofs.YtpjpgcjhdbiepaaGreat
end
/-! The length with which a frame begins: its bytes, and what they say; frames whose sum is wrong. No program in it. -/
section
namespace Go.Proofs.YtpjpgcjhdbiepaaGreat
open Go.RowKit Go.Kit CrcM Go.Proofs.YtpjpgcjhdbiepaaGreatW.PrintWords
theorem head_of {L : Nat} (rest : List Int) (h1 : 1 ≤ L) (h2 : L ≤ 2097152) : headF (sh L ++ rest) = (L, (sh L).length, 0) := by
  have hn := num_sh [] rest L (by omega)
  rw [List.nil_append] at hn
  unfold headF
  rw [show ([] : List Int).length = 0 from rfl] at hn
  rw [hn]
  dsimp only
  rw [if_neg (by decide), if_neg (by simp), if_neg (by omega), if_neg (by omega)]
theorem need_of' {L : Nat} (rest : List Int) (h1 : 1 ≤ L) (h2 : L ≤ 2097152) : needF (sh L ++ rest) = (L + (sh L).length + 4, (sh L).length, 0) := by
  have hp := sh_pos L
  unfold needF
  rw [head_of rest h1 h2]
  dsimp only
  rw [if_neg (by omega)]
end Go.Proofs.YtpjpgcjhdbiepaaGreat
end
/-! The walk of CrcSeals. -/
section
namespace Go.Proofs.YtpjpgcjhdbiepaaGreat
open Go.RowKit Go.Kit CrcM Go.Proofs.YtpjpgcjhdbiepaaGreatW.PrintWords

theorem open_sealed (xs : List Int) : openR (sealed xs) = (xs, 0) := by
  have hl : (sealed xs).length = xs.length + 4 := sealed_length xs
  have h := openR_good (xs := sealed xs) (N := xs.length) hl (by unfold sealed; rw [List.take_left, List.drop_left])
  rw [h]; unfold sealed; rw [List.take_left]
end Go.Proofs.YtpjpgcjhdbiepaaGreat
end
/-! What was laid down as a frame is read back, and no beginning of it is a frame: the plain law. No program in it. -/
section
namespace Go.Proofs.YtpjpgcjhdbiepaaGreat
open Go.RowKit Go.Kit CrcM Go.Proofs.YtpjpgcjhdbiepaaGreatW.PrintWords
/-- A reader without a fault, ahead of these bytes. -/
structure Has (D : Rd) (l : List Int) : Prop where
  why : D.why = 0
  wat : D.wat = 0
  le : D.at_ ≤ D.bs.length
  eq : D.bs.drop D.at_ = l
section
variable {D : Rd} {ys : List Int}
theorem Has.num {n : Nat} (h : Has D (sh n ++ ys)) (hn : n < 18446744073709551616) : num D.bs D.at_ = (n, (sh n).length, 0) := by
  unfold Go.Kit.num
  rw [h.eq, numR_sh n 0 0 ys (by omega) (by omega) (by omega)]
  simp
theorem Has.to {l : List Int} (h : Has D (l ++ ys)) : Has (D.to (D.at_ + l.length)) ys := by
  have hl := congrArg List.length h.eq
  rw [List.length_drop, List.length_append] at hl
  have := h.le
  refine ⟨h.why, h.wat, ?_, ?_⟩
  · show D.at_ + l.length ≤ D.bs.length
    omega
  · show D.bs.drop (D.at_ + l.length) = ys
    rw [← List.drop_drop, h.eq, List.drop_left]
theorem Has.uint {n : Nat} (h : Has D (sh n ++ ys)) (hn : n < 18446744073709551616) : ∃ D1, uintS D = (D1, n) ∧ Has D1 ys := by
  refine ⟨_, ?_, h.to⟩
  unfold uintS
  rw [if_neg (by simp [h.why]), h.num hn]
  dsimp only
  rw [if_neg (by simp)]
theorem Has.count {n : Nat} {most : Int} (h : Has D (sh n ++ ys)) (hn : n < 18446744073709551616) (hm : (n : Int) ≤ most) : ∃ D1, countS D most = (D1, n) ∧ Has D1 ys := by
  refine ⟨_, ?_, h.to⟩
  unfold countS
  rw [if_neg (by simp [h.why]), if_neg (by omega), h.num hn]
  dsimp only
  rw [if_neg (by simp), if_neg (by omega)]
theorem Has.over {n : Nat} {most : Int} (h : Has D (sh n ++ ys)) (hn : n < 18446744073709551616) (h0 : 0 ≤ most) (hm : most < (n : Int)) : ∃ D1, countS D most = (D1, 0) ∧ D1.why = 11 := by
  refine ⟨D.fail 11 D.at_, ?_, rfl⟩
  unfold countS
  rw [if_neg (by simp [h.why]), if_neg (by omega), h.num hn]
  dsimp only
  rw [if_neg (by simp), if_pos hm]
theorem Has.some_ {n : Nat} {most : Int} (h : Has D (sh n ++ ys)) (hn : n < 18446744073709551616) (hm : (n : Int) ≤ most) (h0 : 0 < n) : ∃ D1, someS D most = (D1, n) ∧ Has D1 ys := by
  obtain ⟨D1, e, h1⟩ := h.count hn hm
  exact ⟨D1, someS_some e (by omega), h1⟩
theorem Has.raw {t : List Int} {k : Int} (h : Has D (t ++ ys)) (hk : k = (t.length : Int)) : ∃ D1, rawS D k = (D1, t) ∧ Has D1 ys := by
  have hl := congrArg List.length h.eq
  rw [List.length_drop, List.length_append] at hl
  have := h.le
  refine ⟨_, ?_, h.to⟩
  unfold rawS
  rw [if_neg (by simp [h.why]), if_neg (by omega), if_neg (by omega), hk, Int.toNat_natCast, h.eq, List.take_left]
theorem Has.cut (h : Has D ys) : D.bs = D.bs.take D.at_ ++ ys ∧ (D.bs.take D.at_).length = D.at_ := by
  have := h.le
  exact ⟨by rw [← h.eq, List.take_append_drop], by rw [List.length_take]; omega⟩
theorem Has.text {s : ByteArray} {most : Int} (h : Has D (txt s ++ ys)) (hs : s.size < 18446744073709551616) (hm : (s.size : Int) ≤ most) : ∃ D1, textS D most = (D1, s) ∧ Has D1 ys := by
  refine ⟨_, ?_, h.to⟩
  obtain ⟨e, hl⟩ := h.cut
  have ht := textAt_txt (D.bs.take D.at_) ys s most hs hm
  rw [← e, hl] at ht
  unfold textS
  rw [if_neg (by simp [h.why]), if_neg (by omega), ht]
  dsimp only
  rw [if_neg (by simp)]
theorem Has.list {l : List ByteArray} {most each : Int} (h : Has D (lst l ++ ys)) (hl : l.length < 18446744073709551616) (hm : (l.length : Int) ≤ most) (he : 0 ≤ each) (hs : ∀ s ∈ l, s.size < 18446744073709551616 ∧ (s.size : Int) ≤ each) : ∃ D1, listS D most each = (D1, l) ∧ Has D1 ys := by
  have h' : Has D (sh l.length ++ (txts l ++ ys)) := by
    have e : lst l ++ ys = sh l.length ++ (txts l ++ ys) := by unfold lst; rw [List.append_assoc]
    rwa [e] at h
  have hN := h'.num hl
  have h2 := h'.to
  obtain ⟨e, hl2⟩ := h2.cut
  have hT := lstR_txts each l ((D.to (D.at_ + (sh l.length).length)).bs.take (D.to (D.at_ + (sh l.length).length)).at_) ys [] hs
  rw [← e, hl2] at hT
  have hT' : lstR D.bs each l.length (D.at_ + (sh l.length).length) [] = (l, D.at_ + (sh l.length).length + (txts l).length, 0) := hT
  refine ⟨_, ?_, h2.to⟩
  unfold listS
  rw [if_neg (by simp [h.why]), if_neg (by omega), hN]
  dsimp only
  rw [if_neg (by simp), if_neg (by omega), hT']
  dsimp only
  rw [if_neg (by simp)]
  rfl
theorem Has.end_ (h : Has D []) : endS D = D := by
  have hl := congrArg List.length h.eq
  rw [List.length_drop, List.length_nil] at hl
  unfold endS
  rw [if_neg (by omega)]
end
theorem nat_of {x : Int} (h : 0 ≤ x) : ((x.toNat : Nat) : Int) = x := Int.toNat_of_nonneg h
section
variable {D : Rd} {ys : List Int} {f : Fr}
/-- The numbers of a frame's limits may be read. -/
def Lim (f : Fr) : Prop := f.mo ≤ 2147483648 ∧ f.fu ≤ 2147483648 ∧ f.di ≤ 2147483648
theorem kind_has (hm : May f) (hw : f.wf) (hs : f.body.size ≤ 2097152) (hl : Lim f) (ht : f.tool.length = 32) (h : Has D (layF f ++ ys)) : ∃ D1, kindS D f.k.toNat = (D1, f.core) ∧ Has D1 ys := by
  have a0 := hw.id0
  have a1 := hw.id1
  have k1 := hm.k1
  have k6 := hm.k6
  have hb := hm.mo
  have hc := hm.fu
  have hd := hm.di
  rw [hm.only]
  rcases (by omega : f.k = 1 ∨ f.k = 2 ∨ f.k = 3 ∨ f.k = 4 ∨ f.k = 5 ∨ f.k = 6) with hk | hk | hk | hk | hk | hk
  · obtain ⟨v1, s1, s64⟩ := hm.hello hk
    have e : layF f ++ ys = sh f.v.toNat ++ (sh f.s.toNat ++ (f.tool ++ ys)) := by unfold layF; rw [if_pos hk]; simp only [List.append_assoc]
    rw [e] at h
    obtain ⟨D1, e1, h⟩ := h.some_ (most := 1) (by omega) (by omega) (by omega)
    obtain ⟨D2, e2, h⟩ := h.some_ (most := 64) (by omega) (by omega) (by omega)
    obtain ⟨D3, e3, h⟩ := h.raw (k := 32) (by omega)
    refine ⟨D3, ?_, h⟩
    rw [hk]
    show helloS D = _
    unfold helloS
    rw [e1]; dsimp only
    rw [e2]; dsimp only
    rw [e3]; dsimp only
    unfold onlyF
    simp [hk, ht, nat_of (show 0 ≤ f.v by omega), nat_of (show 0 ≤ f.s by omega)]
  · have e : layF f ++ ys = sh f.id.toNat ++ (sh f.mo.toNat ++ (sh f.fu.toNat ++ (sh f.di.toNat ++ (lst f.args ++ (txt f.body ++ ys))))) := by unfold layF; rw [if_neg (by omega), if_pos hk]; simp only [List.append_assoc]
    rw [e] at h
    have hmany := hm.many
    obtain ⟨l1, l2, l3⟩ := hl
    obtain ⟨D1, e1, h⟩ := h.uint (by omega)
    obtain ⟨D2, e2, h⟩ := h.count (most := 2147483648) (by omega) (by omega)
    obtain ⟨D3, e3, h⟩ := h.count (most := 2147483648) (by omega) (by omega)
    obtain ⟨D4, e4, h⟩ := h.count (most := 2147483648) (by omega) (by omega)
    obtain ⟨D5, e5, h⟩ := h.list (most := 8) (each := 4096) (by omega) (by omega) (by omega) (fun s hs => by have := hm.each s hs; omega)
    obtain ⟨D6, e6, h⟩ := h.text (most := 2097152) (by omega) (by omega)
    refine ⟨D6, ?_, h⟩
    rw [hk]
    show requestS D = _
    unfold requestS
    rw [e1]; dsimp only
    rw [e2]; dsimp only
    rw [e3]; dsimp only
    rw [e4]; dsimp only
    rw [e5]; dsimp only
    rw [e6]; dsimp only
    unfold onlyF
    simp [hk, nat_of a0, nat_of hb, nat_of hc, nat_of hd]
  · have e : layF f ++ ys = sh f.id.toNat ++ (sh f.st.toNat ++ (txt f.body ++ ys)) := by unfold layF; rw [if_neg (by omega), if_neg (by omega), if_pos hk]; simp only [List.append_assoc]
    rw [e] at h
    obtain ⟨r1, r3, _⟩ := hm.resp hk
    obtain ⟨D1, e1, h⟩ := h.uint (by omega)
    obtain ⟨D2, e2, h⟩ := h.some_ (most := 3) (by omega) (by omega) (by omega)
    obtain ⟨D3, e3, h⟩ := h.text (most := 2097152) (by omega) (by omega)
    refine ⟨D3, ?_, h⟩
    rw [hk]
    show responseS D = _
    unfold responseS
    rw [e1]; dsimp only
    rw [e2]; dsimp only
    rw [e3]; dsimp only
    unfold onlyF
    simp [hk, nat_of a0, nat_of (show 0 ≤ f.st by omega)]
  · have e : layF f ++ ys = sh f.id.toNat ++ ys := by unfold layF; rw [if_neg (by omega), if_neg (by omega), if_neg (by omega), if_pos hk]
    rw [e] at h
    obtain ⟨D1, e1, h⟩ := h.uint (by omega)
    refine ⟨D1, ?_, h⟩
    rw [hk]
    show cancelS D = _
    unfold cancelS
    rw [e1]; dsimp only
    unfold onlyF
    simp [hk, nat_of a0]
  · have e : layF f ++ ys = ys := by unfold layF; rw [if_neg (by omega), if_neg (by omega), if_neg (by omega), if_neg (by omega), if_neg (by omega), List.nil_append]
    rw [e] at h
    refine ⟨D, ?_, h⟩
    rw [hk]
    show (D, _) = _
    unfold onlyF
    simp [hk]
  · have e : layF f ++ ys = txt f.body ++ ys := by unfold layF; rw [if_neg (by omega), if_neg (by omega), if_neg (by omega), if_neg (by omega), if_pos hk]
    rw [e] at h
    obtain ⟨D1, e1, h⟩ := h.text (most := 2097152) (by omega) (by omega)
    refine ⟨D1, ?_, h⟩
    rw [hk]
    show noteS D = _
    unfold noteS
    rw [e1]; dsimp only
    unfold onlyF
    simp [hk]
theorem new_has (L : Nat) (l : List Int) : Has ((Rd.new (sh L ++ l)).to (sh L).length) l :=
  ⟨rfl, rfl, by show (sh L).length ≤ (sh L ++ l).length; rw [List.length_append]; omega, by show (sh L ++ l).drop (sh L).length = l; rw [List.drop_left]⟩
theorem fields_has (hm : May f) (h : Has D (bodyF f ++ ys)) : ∃ D1, fieldsS D = kindS D1 f.k.toNat ∧ Has D1 (layF f ++ ys) := by
  have k1 := hm.k1
  have k6 := hm.k6
  have e : bodyF f ++ ys = sh f.k.toNat ++ (layF f ++ ys) := by unfold bodyF; rw [List.append_assoc]
  rw [e] at h
  obtain ⟨D1, e1, h⟩ := h.some_ (most := 6) (by omega) (by omega) (by omega)
  exact ⟨D1, by unfold fieldsS; rw [e1], h⟩
/-- A frame that may be is read back. -/
theorem read_back (hm : May f) (hw : f.wf) (hs : f.body.size ≤ 2097152) (hl : Lim f) (ht : f.tool.length = 32) (L : Nat) : readF (sh L ++ bodyF f) (sh L).length = (f.core, 0, 0) := by
  have h0 := new_has L (bodyF f)
  rw [← List.append_nil (bodyF f)] at h0
  obtain ⟨D1, e1, h1⟩ := fields_has (ys := []) hm h0
  obtain ⟨D2, e2, h2⟩ := kind_has hm hw hs hl ht h1
  rw [List.append_nil] at e1
  rw [readF_of (e1.trans e2)]
  have hf : finS D2 f.core (sh L).length = (0, 0) := by
    unfold finS
    rw [h2.end_, if_neg, h2.why, h2.wat]
    rintro ⟨_, k3, s1, b0⟩
    exact b0 ((hm.resp k3).2.2 s1)
  rw [hf, if_neg (by simp)]
end
theorem len_enc {f : Fr} (hc : chkF f = 0) : 1 ≤ (bodyF f).length ∧ (bodyF f).length ≤ 2097152 ∧ encF f = sealed (sh (bodyF f).length ++ bodyF f) ∧ (encF f).length = (bodyF f).length + (sh (bodyF f).length).length + 4 := by
  obtain ⟨hm, hs, hl⟩ := chk_facts hc
  have h1 : 1 ≤ (bodyF f).length := by unfold bodyF; rw [List.length_append]; have := sh_pos f.k.toNat; omega
  have e : encF f = sealed (sh (bodyF f).length ++ bodyF f) := by unfold encF; rw [if_neg (by rw [hc]; decide)]
  exact ⟨h1, hl, e, by rw [e, sealed_length, List.length_append]; omega⟩
theorem sealed_apart (xs rest : List Int) : sealed xs ++ rest = xs ++ (b4 (more 0#32 xs) ++ rest) := by unfold sealed; rw [List.append_assoc]
theorem need_enc {f : Fr} (hc : chkF f = 0) (rest : List Int) : needF (encF f ++ rest) = ((encF f).length, (sh (bodyF f).length).length, 0) := by
  obtain ⟨h1, h2, e, hl⟩ := len_enc hc
  rw [hl, e, sealed_apart, List.append_assoc, need_of' _ h1 h2]
theorem dec_enc_of {f : Fr} (hc : chkF f = 0) : decF (encF f) = readF (sh (bodyF f).length ++ bodyF f) (sh (bodyF f).length).length := by
  obtain ⟨h1, h2, e, hl⟩ := len_enc hc
  have hn := need_enc hc []
  rw [List.append_nil] at hn
  have ho : openR (encF f) = (sh (bodyF f).length ++ bodyF f, 0) := by rw [e, open_sealed]
  unfold decF
  rw [hn, ho]
  dsimp only
  rw [if_neg (by simp), if_neg (by omega), if_neg (by omega), if_neg (by simp)]
/-- A frame that was written is read back. -/
theorem dec_enc {f : Fr} (hw : f.wf) (ht : f.tool.length = 32) (hc : chkF f = 0) (hl : Lim f) : decF (encF f) = (f.core, 0, 0) := by
  obtain ⟨hm, hs, _⟩ := chk_facts hc
  rw [dec_enc_of hc, read_back hm hw hs hl ht]
theorem numR_cut : ∀ (n k acc j : Nat), k ≤ 9 → acc + n * 128 ^ k < 18446744073709551616 → j < (sh n).length → numR ((sh n).take j) k acc = (0, 0, 4) := by
  intro n
  induction n using Nat.strongRecOn with
  | ind n ih =>
    intro k acc j hk hlt hj
    have e9 : (128 : Nat) ^ 9 = 9223372036854775808 := by decide
    cases j with
    | zero => rw [List.take_zero, numR]
    | succ j =>
      rcases Nat.lt_or_ge n 128 with h | h
      · rw [sh_small h] at hj; simp at hj
      · rw [sh_big h] at hj ⊢
        rw [List.length_cons] at hj
        have hk9 : k < 9 := by
          rcases Nat.lt_or_ge k 9 with h9 | h9
          · exact h9
          · have : k = 9 := by omega
            subst this
            rw [e9] at hlt
            omega
        have h1 : (((n % 128 + 128 : Nat) : Int).toNat) % 128 = n % 128 := by omega
        have h2 : acc + n % 128 * 128 ^ k + n / 128 * 128 ^ (k + 1) = acc + n * 128 ^ k := by
          have h3 : n * 128 ^ k = (n % 128 + 128 * (n / 128)) * 128 ^ k := by rw [Nat.mod_add_div]
          rw [h3, Nat.add_mul, Nat.pow_succ, Nat.mul_comm 128 (n / 128), Nat.mul_assoc, Nat.mul_comm (128 ^ k) 128]
          omega
        rw [List.take_succ_cons, numR, if_neg (by omega), if_neg (by omega), h1, ih (n / 128) (by omega) (k + 1) _ j (by omega) (by rw [h2]; exact hlt) (by omega)]
end Go.Proofs.YtpjpgcjhdbiepaaGreat
end
/-! Frames out of bytes that come in any pieces: the plain law. No program in it. -/
section
namespace Go.Proofs.YtpjpgcjhdbiepaaGreat
open Go.RowKit Go.Kit CrcM Go.Proofs.YtpjpgcjhdbiepaaGreatW.PrintWords
/-- A decoder's state. -/
structure Sm where
  most : Nat
  rest : List Int
  came : Nat
  whole : Nat
  why : Int
  wat : Int
def Sm.new (most : Nat) : Sm := ⟨most, [], 0, 0, 0, 0⟩
/-- How many bytes the frame has with which bytes begin (0: it can't be told yet), and the error. -/
def needS (most : Nat) (xs : List Int) : Nat × Int :=
  if (needF xs).2.2 ≠ 0 then (0, (needF xs).2.2) else if most + (needF xs).2.1 + 4 < (needF xs).1 then (0, 3) else ((needF xs).1, 0)
/-- The state with a byte more. -/
def Sm.put (s : Sm) (c : Int) : Sm := { s with rest := s.rest ++ [c], came := s.came + 1 }
/-- Poisoned, at a place of the rest. -/
def Sm.bad (s : Sm) (e a : Int) : Sm := { s with why := e, wat := (s.came : Int) - s.rest.length + a }
/-- A frame is whole. -/
def Sm.done (s : Sm) : Sm := { s with rest := [], whole := s.whole + 1 }
def takeS (s : Sm) (c : Int) : Sm × List Fr :=
  if (needS s.most (s.rest ++ [c])).2 ≠ 0 then ((s.put c).bad (needS s.most (s.rest ++ [c])).2 0, [])
  else if (needS s.most (s.rest ++ [c])).1 = 0 ∨ (s.rest ++ [c]).length < (needS s.most (s.rest ++ [c])).1 then (s.put c, [])
  else if (decF (s.rest ++ [c])).2.1 ≠ 0 then ((s.put c).bad (decF (s.rest ++ [c])).2.1 (decF (s.rest ++ [c])).2.2, [])
  else ((s.put c).done, [(decF (s.rest ++ [c])).1])
/-- Bytes taken, until n frames were whole, k of them being told: the state, the frames, how many bytes. -/
def someR (n : Int) : List Int → Sm → Nat → Sm × List Fr × Nat
  | [], s, _ => (s, [], 0)
  | c :: r, s, k => if n ≤ (k : Int) ∨ s.why ≠ 0 then (s, [], 0) else
      match takeS s c with
      | (t, l) => match someR n r t (k + l.length) with
        | (u, m, j) => (u, l ++ m, j + 1)
/-- Bytes taken, without end. -/
def feedS : List Int → Sm → Sm × List Fr
  | [], s => (s, [])
  | c :: r, s => if s.why ≠ 0 then (s, []) else
      match takeS s c with
      | (t, l) => match feedS r t with
        | (u, m) => (u, l ++ m)
theorem take_len (s : Sm) (c : Int) : (takeS s c).2.length ≤ 1 := by
  unfold takeS
  split
  · simp
  split
  · simp
  split
  · simp
  · simp
theorem take_most (s : Sm) (c : Int) : (takeS s c).1.most = s.most := by
  unfold takeS
  split
  · rfl
  split
  · rfl
  split
  · rfl
  · rfl
theorem take_came (s : Sm) (c : Int) : (takeS s c).1.came = s.came + 1 := by
  unfold takeS
  split
  · rfl
  split
  · rfl
  split
  · rfl
  · rfl
theorem feed_bad {s : Sm} (h : s.why ≠ 0) (xs : List Int) : feedS xs s = (s, []) := by
  cases xs with
  | nil => rfl
  | cons c r => unfold feedS; rw [if_pos h]
theorem feed_cons {s t : Sm} {c : Int} {l : List Fr} (r : List Int) (h : s.why = 0) (ht : takeS s c = (t, l)) : feedS (c :: r) s = ((feedS r t).1, l ++ (feedS r t).2) := by
  rw [feedS, if_neg (by simp [h]), ht]
theorem feed_append (xs ys : List Int) : ∀ s : Sm, feedS (xs ++ ys) s = ((feedS ys (feedS xs s).1).1, (feedS xs s).2 ++ (feedS ys (feedS xs s).1).2) := by
  induction xs with
  | nil => intro s; rfl
  | cons c r ih =>
    intro s
    by_cases h : s.why = 0
    · obtain ⟨t, l, ht⟩ : ∃ t l, takeS s c = (t, l) := ⟨_, _, rfl⟩
      rw [List.cons_append, feed_cons _ h ht, feed_cons _ h ht, ih t]
      simp only [List.append_assoc]
    · rw [feed_bad h, feed_bad h, feed_bad h]; rfl
theorem feed_snoc {s : Sm} {xs : List Int} {c : Int} : feedS (xs ++ [c]) s = if (feedS xs s).1.why ≠ 0 then feedS xs s else ((takeS (feedS xs s).1 c).1, (feedS xs s).2 ++ (takeS (feedS xs s).1 c).2) := by
  rw [feed_append]
  split
  · next h => rw [feed_bad h, List.append_nil]
  · next h =>
    have h := Classical.not_not.mp h
    obtain ⟨t, l, ht⟩ : ∃ t l, takeS (feedS xs s).1 c = (t, l) := ⟨_, _, rfl⟩
    rw [feed_cons [] h ht, ht, feedS, List.append_nil]
/-- Where no limit of frames can be met. -/
theorem some_feed (n : Int) : ∀ (xs : List Int) (s : Sm) (k : Nat), (k + xs.length : Nat) ≤ n → (someR n xs s k).1 = (feedS xs s).1 ∧ (someR n xs s k).2.1 = (feedS xs s).2
  | [], s, k, _ => ⟨rfl, rfl⟩
  | c :: r, s, k, h => by
    rw [List.length_cons] at h
    by_cases hw : s.why = 0
    · obtain ⟨t, l, ht⟩ : ∃ t l, takeS s c = (t, l) := ⟨_, _, rfl⟩
      have hl := take_len s c
      rw [ht] at hl
      have ih := some_feed n r t (k + l.length) (by dsimp only at hl; omega)
      rw [someR, if_neg (by simp [hw]; omega), ht, feed_cons r hw ht]
      exact ⟨ih.1, by rw [← ih.2]⟩
    · rw [someR, if_pos (.inr hw), feed_bad hw]; exact ⟨rfl, rfl⟩
/-! The length with which bytes begin, once it is told, stays. -/
theorem numR_more : ∀ (l : List Int) (k acc : Nat) (ys : List Int) {m j : Nat} {e : Int}, numR l k acc = (m, j, e) → e ≠ 4 → numR (l ++ ys) k acc = (m, j, e)
  | [], k, acc, ys, m, j, e, h, he => by
    rw [numR] at h; cases h; exact absurd rfl he
  | c :: l, k, acc, ys, m, j, e, h, he => by
    rw [List.cons_append, numR]
    rw [numR] at h
    split
    · next h1 => rw [if_pos h1] at h; exact h
    · next h1 =>
      rw [if_neg h1] at h
      split
      · next h2 => rw [if_pos h2] at h; exact h
      · next h2 =>
        rw [if_neg h2] at h
        exact numR_more l _ _ ys h he
theorem num_more {xs : List Int} (ys : List Int) {m j : Nat} {e : Int} (h : num xs 0 = (m, j, e)) (he : e ≠ 4) : num (xs ++ ys) 0 = (m, j, e) := by
  unfold Go.Kit.num at h ⊢
  rw [List.drop_zero] at h ⊢
  exact numR_more xs 0 0 ys h he
theorem head_more {xs : List Int} (ys : List Int) {m j : Nat} {e : Int} (h : headF xs = (m, j, e)) (hn : e ≠ 0 ∨ m ≠ 0) : headF (xs ++ ys) = (m, j, e) := by
  obtain ⟨p, q, x, hN⟩ : ∃ p q x, num xs 0 = (p, q, x) := ⟨_, _, _, rfl⟩
  have hx : x ≠ 4 := by
    intro hx
    unfold headF at h
    rw [hN, if_pos hx] at h
    cases h; simp at hn
  have hN2 := num_more ys hN hx
  unfold headF at h ⊢
  rw [hN] at h
  rw [hN2]
  exact h
theorem need_more {xs : List Int} (ys : List Int) {m k : Nat} {e : Int} (h : needF xs = (m, k, e)) (hn : e ≠ 0 ∨ m ≠ 0) : needF (xs ++ ys) = (m, k, e) := by
  obtain ⟨p, q, x, hH⟩ : ∃ p q x, headF xs = (p, q, x) := ⟨_, _, _, rfl⟩
  unfold needF at h
  rw [hH] at h
  dsimp only at h
  by_cases hc : x ≠ 0 ∨ q = 0
  · rw [if_pos hc] at h
    cases h
    have hx : e ≠ 0 := by rcases hn with h | h; exact h; exact absurd rfl h
    have := head_more ys hH (.inl hx)
    unfold needF
    rw [this]
    dsimp only
    rw [if_pos (.inl hx)]
  · rw [if_neg hc] at h
    cases h
    have hp : p ≠ 0 := by
      intro hp
      unfold headF at hH
      split at hH
      · cases hH; omega
      split at hH
      · cases hH; omega
      split at hH
      · cases hH; omega
      split at hH
      · cases hH; omega
      · cases hH; omega
    have := head_more ys hH (.inr hp)
    unfold needF
    rw [this]
    dsimp only
    rw [if_neg hc]
theorem needS_more {most : Nat} {xs : List Int} (ys : List Int) {m : Nat} {e : Int} (h : needS most xs = (m, e)) (hn : e ≠ 0 ∨ m ≠ 0) : needS most (xs ++ ys) = (m, e) := by
  obtain ⟨p, q, x, hN⟩ : ∃ p q x, needF xs = (p, q, x) := ⟨_, _, _, rfl⟩
  have hc : x ≠ 0 ∨ p ≠ 0 := by
    unfold needS at h
    rw [hN] at h
    dsimp only at h
    split at h
    · next hx => exact .inl hx
    split at h
    · right; omega
    · next hx _ =>
      cases h
      rcases hn with h | h
      · exact absurd rfl h
      · exact .inr h
  have := need_more ys hN hc
  unfold needS at h ⊢
  rw [hN] at h
  rw [this]
  exact h
/-! What holds of states. -/
/-- The bounds of a decoder's state. -/
structure Sm.ok (s : Sm) : Prop where
  byt : Byt s.rest
  len : s.rest.length ≤ s.came
  one : 1 ≤ s.most
  two : s.most ≤ 2097152
  low : s.why = 0 → s.wat = 0 ∧ (needS s.most s.rest).2 = 0 ∧ ((needS s.most s.rest).1 ≠ 0 → s.rest.length < (needS s.most s.rest).1) ∧ ((needS s.most s.rest).1 = 0 → s.rest.length ≤ 10)
theorem numR_pos : ∀ (l : List Int) (k acc : Nat) {m j : Nat} {x : Int}, numR l k acc = (m, j, x) → x = 0 → 0 < j
  | [], k, acc, m, j, x, h, hx => by rw [numR] at h; cases h; exact absurd hx (by decide)
  | c :: l, k, acc, m, j, x, h, hx => by
    rw [numR] at h
    split at h
    · cases h; exact absurd hx (by decide)
    split at h
    · split at h
      · cases h; exact absurd hx (by decide)
      · cases h; omega
    · exact numR_pos l _ _ h hx
theorem needS_facts {most : Nat} {xs : List Int} (hb : Byt xs) : (needS most xs).1 ≤ most + 14 ∧ ((needS most xs).2 ≠ 0 → (needS most xs).1 = 0) := by
  obtain ⟨p, q, x, hN⟩ : ∃ p q x, needF xs = (p, q, x) := ⟨_, _, _, rfl⟩
  obtain ⟨p1, q1, x1, hH⟩ : ∃ p q x, headF xs = (p, q, x) := ⟨_, _, _, rfl⟩
  have h8 := headF_facts hb hH
  have hq : q ≤ 10 := by
    unfold needF at hN
    rw [hH] at hN
    dsimp only at hN
    split at hN
    · cases hN; omega
    · cases hN; omega
  unfold needS
  rw [hN]
  dsimp only
  split
  · exact ⟨by simp, fun _ => rfl⟩
  split
  · exact ⟨by simp, fun _ => rfl⟩
  · exact ⟨by dsimp only; omega, fun h => absurd rfl h⟩
theorem numR_short : ∀ (l : List Int) (k acc : Nat) {m j : Nat}, k ≤ 9 → numR l k acc = (m, j, 4) → l.length + k ≤ 9 ∨ l.length = 0
  | [], k, acc, m, j, _, _ => .inr rfl
  | c :: l, k, acc, m, j, hk, h => by
    rw [numR] at h
    split at h
    · cases h
    split at h
    · split at h
      · cases h
      · cases h
    · next h1 h2 =>
      by_cases hk9 : k = 9
      · omega
      · have := numR_short l (k + 1) _ (by omega) h
        rw [List.length_cons]
        omega
theorem need_short {xs : List Int} (h0 : (needF xs).1 = 0) (h1 : (needF xs).2.2 = 0) : xs.length ≤ 9 := by
  obtain ⟨p, q, x, hN⟩ : ∃ p q x, num xs 0 = (p, q, x) := ⟨_, _, _, rfl⟩
  have hx : x = 4 := by
    refine Classical.byContradiction fun hx => ?_
    have hH : (∃ e, e ≠ 0 ∧ headF xs = (0, 0, e)) ∨ (0 < q ∧ headF xs = (p, q, 0)) := by
      unfold headF
      rw [hN]
      dsimp only
      rw [if_neg hx]
      split
      · next h => exact .inl ⟨x, h, rfl⟩
      · next h =>
        split
        · exact .inl ⟨3, by decide, rfl⟩
        split
        · exact .inl ⟨70, by decide, rfl⟩
        · exact .inr ⟨numR_pos _ _ _ (show numR (xs.drop 0) 0 0 = (p, q, x) from hN) (Classical.not_not.mp h), rfl⟩
    unfold needF at h0 h1
    rcases hH with ⟨e, he, hH⟩ | ⟨hq, hH⟩
    · rw [hH] at h1
      dsimp only at h1
      rw [if_pos (.inl he)] at h1
      exact he h1
    · rw [hH] at h0
      dsimp only at h0
      rw [if_neg (by omega)] at h0
      dsimp only at h0
      omega
  subst hx
  have := numR_short _ _ _ (by omega) (show numR (xs.drop 0) 0 0 = (p, q, 4) from hN)
  rw [List.drop_zero] at this
  omega
theorem take_ok {s : Sm} (h : s.ok) (hw : s.why = 0) {c : Int} (h0 : 0 ≤ c) (h1 : c < 256) : (takeS s c).1.ok := by
  have hb : Byt (s.rest ++ [c]) := h.byt.append (Byt.one h0 h1)
  have hl : (s.rest ++ [c]).length = s.rest.length + 1 := by simp
  have hlen := h.len
  obtain ⟨n, e, hN⟩ : ∃ n e, needS s.most (s.rest ++ [c]) = (n, e) := ⟨_, _, rfl⟩
  unfold takeS
  rw [hN]
  dsimp only
  split
  · next he => exact ⟨hb, by show (s.rest ++ [c]).length ≤ s.came + 1; omega, h.one, h.two, fun e' => absurd e' he⟩
  · next he =>
    have he := Classical.not_not.mp he
    subst he
    split
    · next hn =>
      refine ⟨hb, by show (s.rest ++ [c]).length ≤ s.came + 1; omega, h.one, h.two, fun _ => ⟨(h.low hw).1, by show (needS s.most (s.rest ++ [c])).2 = 0; rw [hN], fun hne => ?_, fun hz => ?_⟩⟩
      · show (s.rest ++ [c]).length < (needS s.most (s.rest ++ [c])).1
        have hne' : (needS s.most (s.rest ++ [c])).1 ≠ 0 := hne
        rw [hN] at hne' ⊢
        rcases hn with hn | hn
        · exact absurd hn hne'
        · exact hn
      · show (s.rest ++ [c]).length ≤ 10
        have hz' : (needS s.most (s.rest ++ [c])).1 = 0 := hz
        obtain ⟨p, q, x, hNF⟩ : ∃ p q x, needF (s.rest ++ [c]) = (p, q, x) := ⟨_, _, _, rfl⟩
        unfold needS at hN hz'
        rw [hNF] at hN hz'
        dsimp only at hN hz'
        split at hN
        · next hx => cases hN; exact absurd rfl hx
        · next hx =>
          split at hN
          · exact absurd (congrArg Prod.snd hN) (by show ¬ (3 : Int) = 0; decide)
          · next hx2 =>
            rw [if_neg hx, if_neg hx2] at hz'
            have := need_short (xs := s.rest ++ [c]) (by rw [hNF]; exact hz') (by rw [hNF]; exact Classical.not_not.mp hx)
            omega
    · next hn =>
      split
      · next hd => exact ⟨hb, by show (s.rest ++ [c]).length ≤ s.came + 1; omega, h.one, h.two, fun e' => absurd e' hd⟩
      · refine ⟨Byt.nil, Nat.zero_le _, h.one, h.two, fun _ => ⟨(h.low hw).1, ?_, fun hne => ?_, fun _ => Nat.zero_le _⟩⟩
        · rfl
        · exact absurd rfl hne
theorem new_ok {most : Nat} (h1 : 1 ≤ most) (h2 : most ≤ 2097152) : (Sm.new most).ok := ⟨Byt.nil, Nat.zero_le _, h1, h2, fun _ => ⟨rfl, rfl, fun h => absurd rfl h, fun _ => Nat.zero_le _⟩⟩
end Go.Proofs.YtpjpgcjhdbiepaaGreat
end
/-! What a decoder tells is what came: the plain law. No program in it. -/
section
namespace Go.Proofs.YtpjpgcjhdbiepaaGreat
open Go.RowKit Go.Kit CrcM Go.Proofs.YtpjpgcjhdbiepaaGreatW.PrintWords
/-- Frames' bytes, one behind the other. -/
def sentS (l : List Fr) : List Int := (l.map encF).flatten
theorem sent_append (l m : List Fr) : sentS (l ++ m) = sentS l ++ sentS m := by simp [sentS]
/-- Frames that were read. -/
def Told (f : Fr) : Prop := chkF f = 0 ∧ ReadOk f
theorem take_sent {s : Sm} (h : s.ok) {c : Int} (h0 : 0 ≤ c) (h1 : c < 256) : sentS (takeS s c).2 ++ (takeS s c).1.rest = s.rest ++ [c] ∧ ∀ f ∈ (takeS s c).2, Told f := by
  have hb : Byt (s.rest ++ [c]) := h.byt.append (Byt.one h0 h1)
  unfold takeS
  split
  · exact ⟨rfl, by simp⟩
  split
  · exact ⟨rfl, by simp⟩
  split
  · exact ⟨rfl, by simp⟩
  · next hd =>
    have hd := Classical.not_not.mp hd
    obtain ⟨f, e, y, hD⟩ : ∃ f e y, decF (s.rest ++ [c]) = (f, e, y) := ⟨_, _, _, rfl⟩
    rw [hD] at hd
    dsimp only at hd
    subst hd
    obtain ⟨a, b, r⟩ := dec_form hb hD
    rw [hD]
    refine ⟨?_, fun g hg => ?_⟩
    · show (encF f ++ []) ++ [] = _
      rw [List.append_nil, List.append_nil, b]
    · simp at hg; subst hg; exact ⟨a, r⟩
theorem feed_sent : ∀ (xs : List Int) {s : Sm}, s.ok → Byt xs → ∃ ys, (∃ zs, xs = ys ++ zs) ∧ ((feedS xs s).1.why = 0 → ys = xs) ∧ sentS (feedS xs s).2 ++ (feedS xs s).1.rest = s.rest ++ ys ∧ ∀ f ∈ (feedS xs s).2, Told f
  | [], s, h, _ => ⟨[], ⟨[], rfl⟩, fun _ => rfl, by simp [feedS, sentS], by simp [feedS]⟩
  | c :: r, s, h, hb => by
    have hc := hb c List.mem_cons_self
    by_cases hw : s.why = 0
    · obtain ⟨t, l, ht⟩ : ∃ t l, takeS s c = (t, l) := ⟨_, _, rfl⟩
      have h2 := take_ok h hw hc.1 hc.2
      obtain ⟨h3, h4⟩ := take_sent h hc.1 hc.2
      rw [ht] at h2 h3 h4
      dsimp only at h2 h3 h4
      obtain ⟨ys, ⟨zs, hz⟩, g1, g2, g3⟩ := feed_sent r h2 (fun x hx => hb x (List.mem_cons_of_mem _ hx))
      rw [feed_cons r hw ht]
      refine ⟨c :: ys, ⟨zs, by rw [hz]; rfl⟩, fun e => by rw [g1 e], ?_, ?_⟩
      · show sentS (l ++ _) ++ _ = _
        rw [sent_append, List.append_assoc, g2, ← List.append_assoc, h3, List.append_assoc]
        rfl
      · intro f hf
        rcases List.mem_append.1 hf with hf | hf
        · exact h4 f hf
        · exact g3 f hf
    · rw [feed_bad hw]
      exact ⟨[], ⟨c :: r, rfl⟩, fun e => absurd e hw, by simp [sentS], by simp⟩
/-- The rest is never longer than one frame may be. -/
theorem take_rest {s : Sm} (h : s.ok) (hw : s.why = 0) (c : Int) : (takeS s c).1.rest.length ≤ s.most + 14 := by
  obtain ⟨_, _, l3, l4⟩ := h.low hw
  have hf := (needS_facts (most := s.most) h.byt).1
  have hl : (s.rest ++ [c]).length ≤ s.most + 14 := by
    rw [List.length_append, List.length_singleton]
    have := h.one
    by_cases hz : (needS s.most s.rest).1 = 0
    · have := l4 hz; omega
    · have := l3 hz; omega
  unfold takeS
  split
  · exact hl
  split
  · exact hl
  split
  · exact hl
  · exact Nat.zero_le _
/-! A frame's bytes, byte by byte. -/
theorem need_cut {f : Fr} (hc : chkF f = 0) (j : Nat) : (needF ((encF f).take j)).2.2 = 0 ∧ ((needF ((encF f).take j)).1 = 0 ∨ needF ((encF f).take j) = ((encF f).length, (sh (bodyF f).length).length, 0)) := by
  obtain ⟨h1, h2, e, hl⟩ := len_enc hc
  rcases Nat.lt_or_ge j (sh (bodyF f).length).length with h | h
  · have hnum : num ((encF f).take j) 0 = (0, 0, 4) := by
      unfold Go.Kit.num
      rw [List.drop_zero, e, show sealed (sh (bodyF f).length ++ bodyF f) = sh (bodyF f).length ++ (bodyF f ++ b4 (more 0#32 (sh (bodyF f).length ++ bodyF f))) by unfold sealed; rw [List.append_assoc], List.take_append_of_le_length (by omega)]
      exact numR_cut _ 0 0 j (by omega) (by omega) h
    have hh : headF ((encF f).take j) = (0, 0, 0) := by unfold headF; rw [hnum]; dsimp only; rw [if_pos rfl]
    have hne : needF ((encF f).take j) = (0, 0, 0) := by unfold needF; rw [hh]; dsimp only; rw [if_pos (.inr rfl)]
    rw [hne]; exact ⟨rfl, .inl rfl⟩
  · have ht : (encF f).take j = sh (bodyF f).length ++ (bodyF f ++ b4 (more 0#32 (sh (bodyF f).length ++ bodyF f))).take (j - (sh (bodyF f).length).length) := by
      rw [e, show sealed (sh (bodyF f).length ++ bodyF f) = sh (bodyF f).length ++ (bodyF f ++ b4 (more 0#32 (sh (bodyF f).length ++ bodyF f))) by unfold sealed; rw [List.append_assoc], List.take_append, List.take_of_length_le h]
    rw [ht, need_of' _ h1 h2]
    exact ⟨rfl, .inr (by rw [hl])⟩
/-- While a frame's bytes come, nothing is told; with the last one it is. -/
theorem feed_part {f : Fr} (hc : chkF f = 0) (s : Sm) (hw : s.why = 0) (hr : s.rest = []) (hm : (bodyF f).length ≤ s.most) : ∀ j, j < (encF f).length → feedS ((encF f).take j) s = ({ s with rest := (encF f).take j, came := s.came + j }, [])
  | 0, _ => by
    rw [List.take_zero, feedS]
    cases s; dsimp only at hr; subst hr; rfl
  | j + 1, hj => by
    have ih := feed_part hc s hw hr hm j (by omega)
    have hg : (encF f)[j]? = some (encF f)[j] := List.getElem?_eq_getElem (by omega)
    obtain ⟨n1, n2⟩ := need_cut hc (j + 1)
    obtain ⟨_, _, _, hl⟩ := len_enc hc
    rw [snoc hg] at n1 n2 ⊢
    rw [feed_snoc, ih]
    dsimp only
    rw [if_neg (by simp [hw])]
    have hN : needS s.most ((encF f).take j ++ [(encF f)[j]]) = ((needF ((encF f).take j ++ [(encF f)[j]])).1, 0) := by
      unfold needS
      rw [if_neg (fun h => h n1), if_neg]
      rcases n2 with n2 | n2
      · omega
      · rw [n2]; dsimp only; omega
    have ht : takeS { s with rest := (encF f).take j, came := s.came + j } (encF f)[j] = ({ s with rest := (encF f).take j ++ [(encF f)[j]], came := s.came + (j + 1) }, []) := by
      unfold takeS
      dsimp only
      rw [hN]
      dsimp only
      rw [if_neg (by simp), if_pos]
      · rfl
      · rcases n2 with n2 | n2
        · exact .inl n2
        · right
          rw [n2, List.length_append, List.length_take, List.length_singleton]
          dsimp only
          omega
    rw [ht]
    rfl
theorem feed_whole {f : Fr} (hw' : f.wf) (ht : f.tool.length = 32) (hc : chkF f = 0) (hlim : Lim f) (s : Sm) (hw : s.why = 0) (hr : s.rest = []) (hm : (bodyF f).length ≤ s.most) :
    feedS (encF f) s = ({ s with rest := [], came := s.came + (encF f).length, whole := s.whole + 1 }, [f.core]) := by
  obtain ⟨h1, h2, e, hl⟩ := len_enc hc
  obtain ⟨n, hn⟩ : ∃ n, (encF f).length = n + 1 := ⟨(encF f).length - 1, by omega⟩
  have hg : (encF f)[n]? = some (encF f)[n] := List.getElem?_eq_getElem (by omega)
  have hall : (encF f).take n ++ [(encF f)[n]] = encF f := by rw [← snoc hg, List.take_of_length_le (by omega)]
  have ih := feed_part hc s hw hr hm n (by omega)
  have hsn := feed_snoc (s := s) (xs := (encF f).take n) (c := (encF f)[n])
  rw [hall, ih] at hsn
  dsimp only at hsn
  rw [if_neg (by simp [hw])] at hsn
  have hne := need_enc hc []
  rw [List.append_nil] at hne
  have hN : needS s.most (encF f) = ((encF f).length, 0) := by
    unfold needS
    rw [hne, if_neg (by simp), if_neg]
    dsimp only; omega
  have hd := dec_enc hw' ht hc hlim
  have htk : takeS { s with rest := (encF f).take n, came := s.came + n } (encF f)[n] = ({ s with rest := [], came := s.came + (n + 1), whole := s.whole + 1 }, [f.core]) := by
    unfold takeS
    dsimp only
    rw [hall, hN]
    dsimp only
    rw [if_neg (by simp), if_neg (by omega), hd, if_neg (by simp)]
    rfl
  rw [hsn, htk, hn]
  rfl
/-- Frames that are sent one behind the other come out one by one. -/
theorem feed_frames : ∀ (L : List Fr) (s : Sm), (∀ f ∈ L, f.wf ∧ f.tool.length = 32 ∧ chkF f = 0 ∧ Lim f) → s.why = 0 → s.rest = [] → s.most = 2097152 →
    feedS (sentS L) s = ({ s with rest := [], came := s.came + (sentS L).length, whole := s.whole + L.length }, L.map Fr.core)
  | [], s, _, _, hr, _ => by
    cases s; dsimp only at hr; subst hr; rfl
  | f :: L, s, h, hw, hr, hm => by
    obtain ⟨a, b, c, d⟩ := h f List.mem_cons_self
    obtain ⟨h1, h2, _, _⟩ := len_enc c
    have e : sentS (f :: L) = encF f ++ sentS L := by simp [sentS]
    rw [e, feed_append, feed_whole a b c d s hw hr (by omega)]
    dsimp only
    have ih := feed_frames L { s with rest := [], came := s.came + (encF f).length, whole := s.whole + 1 } (fun g hg => h g (List.mem_cons_of_mem _ hg)) hw rfl hm
    rw [ih]
    simp only [List.length_append, List.length_cons, List.map_cons, List.singleton_append]
    congr 2
    all_goals omega
end Go.Proofs.YtpjpgcjhdbiepaaGreat
end
/-! How many bytes a length takes; a decoder's numbers: the plain law. No program in it. -/
section
namespace Go.Proofs.YtpjpgcjhdbiepaaGreat
open Go.RowKit Go.Kit CrcM Go.Proofs.YtpjpgcjhdbiepaaGreatW.PrintWords
/-- How many bytes of 128 and more stand ahead, and one. -/
def headsN (xs : List Int) : Nat := (xs.takeWhile fun x => decide (128 ≤ x)).length + 1
theorem heads_le (xs : List Int) : headsN xs ≤ xs.length + 1 := by
  unfold headsN
  have := (List.takeWhile_prefix (l := xs) (fun x => decide (128 ≤ x))).length_le
  omega
theorem heads_cons_big {c : Int} (l : List Int) (h : 128 ≤ c) : headsN (c :: l) = headsN l + 1 := by
  unfold headsN; rw [List.takeWhile_cons_of_pos (by simpa using h), List.length_cons]
theorem heads_cons_small {c : Int} (l : List Int) (h : ¬ 128 ≤ c) : headsN (c :: l) = 1 := by
  unfold headsN; rw [List.takeWhile_cons_of_neg (by simpa using h)]; rfl
theorem heads_take {xs : List Int} {n : Nat} (h : ∀ j, j < n → ∃ x, xs[j]? = some x ∧ 128 ≤ x) (he : n = xs.length ∨ ∃ x, xs[n]? = some x ∧ x < 128) : headsN xs = n + 1 := by
  induction xs generalizing n with
  | nil =>
    cases n with
    | zero => rfl
    | succ n => obtain ⟨x, hx, _⟩ := h 0 (by omega); simp at hx
  | cons c l ih =>
    cases n with
    | zero =>
      rcases he with he | ⟨x, hx, h1⟩
      · simp at he
      · simp at hx; subst hx; exact heads_cons_small l (by omega)
    | succ n =>
      obtain ⟨x, hx, h1⟩ := h 0 (by omega)
      simp at hx; subst hx
      rw [heads_cons_big l h1, ih (n := n) (fun j hj => by
        obtain ⟨x, hx, h2⟩ := h (j + 1) (by omega)
        exact ⟨x, by simpa using hx, h2⟩) (he.elim (fun e => .inl (by simpa using e)) (fun ⟨x, hx, h2⟩ => .inr ⟨x, by simpa using hx, h2⟩))]
theorem numR_heads : ∀ (l : List Int) (k acc : Nat) {m j : Nat}, numR l k acc = (m, j, 0) → j = k + headsN l
  | [], k, acc, m, j, h => by rw [numR] at h; cases h
  | c :: l, k, acc, m, j, h => by
    rw [numR] at h
    split at h
    · cases h
    split at h
    · next h2 =>
      split at h
      · cases h
      · cases h; rw [heads_cons_small l (by omega)]
    · next h2 =>
      have := numR_heads l _ _ h
      rw [heads_cons_big l (by omega)]
      omega
theorem need_heads {xs : List Int} {n k : Nat} (h : needF xs = (n, k, 0)) (hn : n ≠ 0) : k = headsN xs := by
  obtain ⟨m0, hh, _⟩ := need_head h hn
  have hk := need_k h hn
  obtain ⟨h1, _, _⟩ := head_num hh (.inl hk)
  have := numR_heads _ _ _ (show numR (xs.drop 0) 0 0 = (m0, k, 0) from h1)
  rw [List.drop_zero] at this
  omega
/-- The error that the program finds, with the bytes that the length takes counted. -/
theorem needS_prog (most : Nat) (xs : List Int) {n k : Nat} {e : Int} (h : needF xs = (n, k, e)) :
    needS most xs = if e ≠ 0 then (0, e) else if 0 < n ∧ (most : Int) < (n : Int) - 4 - (headsN xs : Int) then (0, 3) else (n, 0) := by
  unfold needS
  rw [h]
  dsimp only
  by_cases he : e = 0
  · subst he
    simp only [ne_eq, not_true_eq_false, if_false]
    by_cases hn : n = 0
    · rw [if_neg (by omega), if_neg (by omega)]
    · have hk := need_heads h hn
      by_cases hc : most + k + 4 < n
      · rw [if_pos hc, if_pos (by omega)]
      · rw [if_neg hc, if_neg (by omega)]
  · rw [if_pos he, if_pos he]
theorem feed_came : ∀ (xs : List Int) (s : Sm), (feedS xs s).1.came ≤ s.came + xs.length ∧ s.came ≤ (feedS xs s).1.came ∧ (feedS xs s).1.most = s.most ∧ (feedS xs s).1.whole ≤ s.whole + xs.length ∧ (feedS xs s).2.length ≤ xs.length
  | [], s => ⟨by simp [feedS], Nat.le_refl _, rfl, by simp [feedS], by simp [feedS]⟩
  | c :: r, s => by
    by_cases hw : s.why = 0
    · obtain ⟨t, l, ht⟩ : ∃ t l, takeS s c = (t, l) := ⟨_, _, rfl⟩
      have h1 := take_came s c
      have h2 := take_most s c
      have h3 := take_len s c
      have h4 : (takeS s c).1.whole ≤ s.whole + 1 := by
        unfold takeS
        split
        · exact Nat.le_succ _
        split
        · exact Nat.le_succ _
        split
        · exact Nat.le_succ _
        · exact Nat.le_refl _
      rw [ht] at h1 h2 h3 h4
      dsimp only at h1 h2 h3 h4
      rw [feed_cons r hw ht]
      obtain ⟨g1, g2, g3, g4, g5⟩ := feed_came r t
      refine ⟨?_, ?_, g3.trans h2, ?_, ?_⟩
      all_goals simp only [List.length_cons, List.length_append]; omega
    · rw [feed_bad hw]
      refine ⟨Nat.le_add_right _ _, Nat.le_refl _, rfl, Nat.le_add_right _ _, Nat.zero_le _⟩
end Go.Proofs.YtpjpgcjhdbiepaaGreat
end
/-! Rows of texts: cut, laid behind one another, written. -/
section
namespace Go.Proofs.YtpjpgcjhdbiepaaGreat
open Go.RowKit Go.Kit Go.Proofs.YtpjpgcjhdbiepaaGreatW.PrintWords
theorem RT.take_ {w : World} {A : Option Addr} {n : Nat} {xs : List ByteArray} (h : RT w A n xs) (k : Nat) (hk : k ≤ n) : RT w A k (xs.take k) := by
  have hl := h.len
  refine ⟨by rw [List.length_take]; omega, by have := h.max; omega, fun hp => ?_⟩
  obtain ⟨a, e, hc⟩ := h.2.2 (by omega)
  refine ⟨a, e, fun j hj => ?_⟩
  rw [hc j (by omega)]
  simp [List.getD_eq_getElem?_getD, List.getElem?_take, hj]
section
variable {ops : Array Oper} {rest : List Oper} {o : Oper} {a : Act} {Q : Exit → Act → World → Prop} {w0 W : World} {v : Value} {xs ys : List ByteArray}
end
section
variable {e : TypeId} {w : World} {base n c : Nat} {A : Option Addr} {xs : List ByteArray}
theorem _root_.Go.Kit.OT.at_ {g : Nat} (h : OT e w base (.slice (some ⟨g, 0, none⟩) n c) xs) (hn : n = xs.length) (i : Nat) (hi : i < n) : ∃ x, w.cell? ⟨g, i, none⟩ = some (.string x) ∧ w.frozen? ⟨g, i, none⟩ = false := by
  subst hn
  have := own_at_of (d := ByteArray.empty) h (i : Int) (by omega) (by omega)
  exact ⟨_, this.1, this.2⟩
end
end Go.Proofs.YtpjpgcjhdbiepaaGreat
end
/-! Rows of frames of the call's own; a decoder in memory. -/
section
namespace Go.Proofs.YtpjpgcjhdbiepaaGreat
open Go.RowKit Go.Kit CrcM Go.Proofs.YtpjpgcjhdbiepaaGreatW.PrintWords
/-- A block whose cells are not of a row's elements is none of its blocks. -/
theorem own_not {w : World} {b : Nat} {e : TypeId} {z n k : Nat} {v : Value} {xs : List Value} {cs : Array Value} {t : TypeId} {fr : Nat × Nat} (h : w.ownsRow b e z v n xs) (hk : w.heap[k]? = some (.cells cs t fr)) (ht : t ≠ e) : ¬ rf v k := fun hr => by
  rcases h.2 with ⟨rfl, _⟩ | ⟨g, cap, cur, rfl, _, hh, _⟩
  · cases hr
  · have : g = k := by simpa [rf, Value.ownBlock] using hr
    subst this
    rw [hk] at hh
    injection hh with h1
    injection h1 with _ h2
    exact ht h2
theorem own_typed {w : World} {b : Nat} {e : TypeId} {z n k : Nat} {v : Value} {xs : List Value} (h : w.ownsRow b e z v n xs) (hr : rf v k) : ∃ cs, w.heap[k]? = some (.cells cs e (0, 0)) := by
  rcases h.2 with ⟨rfl, _⟩ | ⟨g, cap, cur, rfl, _, hh, _⟩
  · cases hr
  · have : g = k := by simpa [rf, Value.ownBlock] using hr
    subst this
    exact ⟨_, hh⟩
theorem own_only {w w1 : World} {b : Nat} {e : TypeId} {z n : Nat} {v : Value} {xs : List Value} {S : Nat → Prop} (h : w.ownsRow b e z v n xs) (ho : Only w w1 S) (hs : Sep (rf v) S) : w1.ownsRow b e z v n xs := by
  obtain ⟨h1, h2⟩ := h
  refine ⟨h1, ?_⟩
  rcases h2 with h2 | ⟨g, cap, cur, h3, hg, hh, r⟩
  · exact .inl h2
  · exact .inr ⟨g, cap, cur, h3, hg, ho.kept hh (hs g (by rw [h3]; rfl)), r⟩
theorem own_new {w : World} {b : Nat} {e : TypeId} {z n : Nat} {v : Value} {xs : List Value} (h : w.ownsRow b e z v n xs) : ∀ k, rf v k → b ≤ k ∧ k < w.heap.size := fun k hk => World.ownsRow.lt h k hk
section
variable {P : Program} {ops : Array Oper} {rest : List Oper} {o : Oper} {a : Act} {Q : Exit → Act → World → Prop}
/-- append(v, ys...), elements of several cells. -/
theorem push_cells {w0 W : World} (base : Nat) (hgd : o.guard = none) (s x : Operand) (t e : TypeId) (z : Value) (size bytes : Nat)
    (ho : o.op = .call { callee := .builtin .append, args := #[s, x], argTypes := #[t, t] })
    (ht : P.underlying t = some (.slice e)) (hinfo : (P.info? e).map (fun i => (i.zero, i.size, i.bytes)) = some (some z, size, bytes)) (hz : z.cells.size = size) (hs0 : 0 < size) (hb0 : 0 < bytes)
    (v v2 : Value) (n m : Nat) (xs ys : List Value) (hs : a.eval s = v) (hx : a.eval x = v2) (h1 : ∀ u ∈ ys, u.oneCell' = true) {b2 : Nat}
    (HO : W.ownsRow base e size v n xs) (HR : W.ownsRow b2 e size v2 m ys) (HB : Below base w0 W) (hbase : base ≤ W.heap.size) (hl : (n + m) * bytes ≤ 140737488355328)
    (h : ∀ v1 w1, w1.ownsRow base e size v1 (n + m) (xs ++ ys) → Below base w0 w1 → W.grownBy w1 v.ownBlock → (v1.ownBlock = v.ownBlock ∨ ∃ b, v1.ownBlock = some b ∧ W.heap.size ≤ b) → wpList P ops Q rest (a.put o.dst v1) w1) :
    wpList P ops Q (o :: rest) a W := by
  obtain ⟨i0, hi, hzz⟩ := Option.map_eq_some_iff.1 hinfo
  simp only [Prod.mk.injEq] at hzz
  obtain ⟨hz0, hz1, hz2⟩ := hzz
  have hlen : n + m ≤ 140737488355328 := Nat.le_trans (Nat.le_mul_of_pos_right _ hb0) hl
  have hrun : ∃ v1 w1, (Builtin.append_ #[t, t] o.type #[v, v2]).run P W = .ok v1 w1 ∧ w1.ownsRow base e size v1 (n + m) (xs ++ ys) ∧ W.grownBy w1 v.ownBlock ∧ (v1.ownBlock = v.ownBlock ∨ v1.ownBlock = some W.heap.size) := by
    rcases HR.2 with ⟨rfl, hm⟩ | ⟨g, cap, cur, rfl, _, hh, hnc, hcm, hsz, htk⟩
    · subst hm
      obtain rfl : ys = [] := List.eq_nil_of_length_eq_zero (by rw [HR.1]; simp)
      refine ⟨v, W, ?_, by simpa using HO, World.grownBy.refl W _, .inl rfl⟩
      rcases HO.2 with ⟨rfl, hn⟩ | ⟨g, cap, cur, rfl, _, _, hnc, _⟩
      · simp [Builtin.append_, run_underlying ht, sizeOf, typeInfo, hi, Builtin.lenOf, Builtin.firstCells]
      · simp [Builtin.append_, run_underlying ht, sizeOf, typeInfo, hi, Builtin.lenOf, Builtin.firstCells, hnc, storeCells]
    · obtain ⟨v1, w1, hr, h2, h3, _, h5⟩ := run_append_own_at (P := P) W base t o.type e i0 z size bytes ht hi hz0 hz1 hz2 hz hs0 v n xs HO ⟨g, 0, none⟩ m cap ys HR.1 (World.ownsRow.cells HR rfl) h1 (by simp only [maxLen]; omega) hl hbase
      exact ⟨v1, w1, hr, h2, h3, h5⟩
  obtain ⟨v1, w1, hr, hown, hg, hat⟩ := hrun
  refine wpList_plain hgd fun K hK => ?_
  unfold Oper.wp execOp
  simp only [ho, resolve, invoke, builtin, Sem.run_bind, Sem.run_pure, Result.andThen_ok, List.map_toArray, List.map_cons, List.map_nil, hs, hx, hr]
  refine hK _ _ (h v1 w1 hown (HB.grown hg hbase (own_base HO)) hg ?_)
  rcases hat with hat | hat
  · exact .inl hat
  · exact .inr ⟨_, hat, Nat.le_refl _⟩
end
/-- Frames' cells, one behind the other. -/
def fcells (L : List Fr) : List Value := L.flatMap Fr.cells
theorem fcells_append (L M : List Fr) : fcells (L ++ M) = fcells L ++ fcells M := by simp [fcells]
theorem fcells_one (L : List Fr) : ∀ u ∈ fcells L, u.oneCell' = true := fun u hu => by
  obtain ⟨f, _, hf⟩ := List.mem_flatMap.1 hu
  exact (Array.all_eq_true_iff_forall_mem.1 (arr_one f)) u (by simpa [Fr.arr] using hf)
theorem cells_len {f : Fr} (h : f.tool.length = 32) : f.cells.length = 42 := by have := Fr.arr_size f h; simpa [Fr.arr] using this
theorem frame_info : (Tryz.prog.info? 48).map (fun i => (i.zero, i.size, i.bytes)) = some (some (.agg (kF 0).arr), 42, 136) := by kernel_rfl
/-- A row of frames of the call's own, and their texts' rows. -/
structure OFs (w : World) (base : Nat) (v : Value) (L : List Fr) : Prop where
  row : w.ownsRow base 48 42 v L.length (fcells L)
  each : ∀ f ∈ L, f.tool.length = 32 ∧ OwnA w base f
theorem OwnA.ok {w : World} {base : Nat} {F : Fr} (h : OwnA w base F) (hT : F.tool.length = 32) : F.ok w := by
  obtain ⟨A, c, hv, hr, _, _⟩ := OT.open_ h
  injection hv with h1 h2 h3
  exact ⟨hT, by rw [h1, h2]; exact hr⟩
section
variable {w w1 : World} {base : Nat} {v : Value} {L : List Fr} {F : Fr} {S : Nat → Prop}
theorem OwnA.kept (h : OwnA w base F) {row : Option Nat} (hg : w.grownBy w1 row) (hne : ∀ k, row = some k → ∃ cs t, w.heap[k]? = some (.cells cs t (0, 0)) ∧ t ≠ 9) : OwnA w1 base F := by
  unfold OwnA at h ⊢
  refine OT.kept h hg ?_
  cases hr : (Value.slice F.A F.n F.c).ownBlock with
  | none => exact .inl rfl
  | some k =>
    right
    intro e
    obtain ⟨cs, t, hk, ht⟩ := hne k e.symm
    exact own_not h hk ht hr
theorem OwnA.typed (h : OwnA w base F) (ho : Only w w1 S) (hS : ∀ k, S k → ∃ cs t, w.heap[k]? = some (.cells cs t (0, 0)) ∧ t ≠ 9) : OwnA w1 base F :=
  ot_only h ho (fun k hk hs => by
    obtain ⟨cs, t, hc, ht⟩ := hS k hs
    exact own_not h hc ht hk)
theorem OFs.nil (w : World) (base : Nat) : OFs w base (.slice none 0 0) [] := ⟨World.ownsRow_nil _ _ _ _, by simp⟩
theorem OFs.below (h : OFs w base v L) (hb : Below w.heap.size w w1) : OFs w1 base v L := ⟨pw_own_below h.row hb, fun f hf => ⟨(h.each f hf).1, (h.each f hf).2.below hb⟩⟩
theorem OFs.less (h : OFs w base v L) {b : Nat} (hle : b ≤ base) : OFs w b v L := ⟨own_weaken h.row hle, fun f hf => ⟨(h.each f hf).1, (h.each f hf).2.less hle⟩⟩
theorem OFs.only (h : OFs w base v L) (ho : Only w w1 S) (hS : ∀ k, S k → ∃ cs t, w.heap[k]? = some (.cells cs t (0, 0)) ∧ t ≠ 48 ∧ t ≠ 9) : OFs w1 base v L :=
  ⟨own_only h.row ho (fun k hk hs => by obtain ⟨cs, t, hc, ht, _⟩ := hS k hs; exact own_not h.row hc ht hk), fun f hf => ⟨(h.each f hf).1, (h.each f hf).2.typed ho (fun k hk => by obtain ⟨cs, t, hc, _, ht⟩ := hS k hk; exact ⟨cs, t, hc, ht⟩)⟩⟩
theorem OFs.form (h : OFs w base v L) : ∃ A c, v = .slice A L.length c := by
  rcases h.row.2 with ⟨h1, h2⟩ | ⟨g, cap, cur, h1, _⟩
  · exact ⟨none, 0, by rw [h1, h2]⟩
  · exact ⟨_, _, h1⟩
theorem fcells_at : ∀ (L : List Fr) (i : Nat) (f : Fr) (j : Nat) (u : Value), (∀ f ∈ L, f.tool.length = 32) → L[i]? = some f → f.cells[j]? = some u → (fcells L)[i * 42 + j]? = some u
  | [], i, f, j, u, _, h, _ => by simp at h
  | g :: r, 0, f, j, u, hT, h, hj => by
    simp at h
    subst h
    have hl := cells_len (hT g List.mem_cons_self)
    have hlt : j < g.cells.length := by
      rcases Nat.lt_or_ge j g.cells.length with h | h
      · exact h
      · rw [List.getElem?_eq_none h] at hj; cases hj
    show (g.cells ++ fcells r)[0 * 42 + j]? = some u
    rw [Nat.zero_mul, Nat.zero_add, List.getElem?_append_left hlt]; exact hj
  | g :: r, i + 1, f, j, u, hT, h, hj => by
    have hl := cells_len (hT g List.mem_cons_self)
    show (g.cells ++ fcells r)[(i + 1) * 42 + j]? = some u
    rw [List.getElem?_append_right (by omega), hl, show (i + 1) * 42 + j - 42 = i * 42 + j by omega]
    exact fcells_at r i f j u (fun f hf => hT f (List.mem_cons_of_mem _ hf)) (by simpa using h) hj
/-- One frame of the row. -/
theorem OFs.at_ {A : Option Addr} {n c : Nat} (h : OFs w base (.slice A n c) L) (hn : n = L.length) (i : Nat) (hi : i < n) : ∃ g f, A = some ⟨g, 0, none⟩ ∧ L[i]? = some f ∧ f.tool.length = 32 ∧ OwnA w base f ∧ base ≤ g ∧ g < w.heap.size ∧ ∀ j u, f.cells[j]? = some u → w.cell? ⟨g, i * 42 + j, none⟩ = some u := by
  subst hn
  obtain ⟨g, cap, hv, hb, hl⟩ := World.ownsRow.form h.row (by omega)
  injection hv with h1 h2 h3
  subst h1
  have hf : L[i]? = some L[i] := List.getElem?_eq_getElem hi
  have he := h.each L[i] (List.getElem_mem hi)
  refine ⟨g, L[i], rfl, hf, he.1, he.2, hb, hl, fun j u hj => ?_⟩
  have := World.ownsRow.cells h.row (g := g) rfl (i * 42 + j) u (fcells_at L i L[i] j u (fun f hf => (h.each f hf).1) hf hj)
  rwa [add_plain] at this
end
section
variable {ops : Array Oper} {rest : List Oper} {o : Oper} {a : Act} {Q : Exit → Act → World → Prop} {w0 W : World} {v v2 : Value} {L M : List Fr}
/-- append(l, f). -/
theorem push_frame (base : Nat) (hgd : o.guard = none) (s x : Operand) (F : Fr) (hT : F.tool.length = 32)
    (ho : o.op = .call { callee := .builtin .append, args := #[s, x], argTypes := #[34, 34] }) (hs : a.eval s = v) (hx : a.eval x = .slice (some ⟨W.heap.size, 0, none⟩) 1 1)
    (HO : OFs W base v L) (HF : OwnA W base F) (HB : Below base w0 W) (hbase : base ≤ W.heap.size) (hl : (L.length + 1) * 136 ≤ 140737488355328)
    (h : ∀ v1 w1, OFs w1 base v1 (L ++ [F]) → Below base w0 w1 → W.grownBy w1 v.ownBlock → (v1.ownBlock = v.ownBlock ∨ ∃ b, v1.ownBlock = some b ∧ W.heap.size ≤ b) → wpList Tryz.prog ops Q rest (a.put o.dst v1) w1) :
    wpList Tryz.prog ops Q (o :: rest) a (W.alloc (.cells F.arr 48)) := by
  refine print_append_cells (ys := F.cells) base hgd s x 34 48 (.agg (kF 0).arr) 42 136 ho Tryz.underlying34 frame_info (by rfl) (by decide) (by decide) v L.length (fcells L) hs hx (cells_len hT) (fun u hu => (Array.all_eq_true_iff_forall_mem.1 (arr_one F)) u (by simpa [Fr.arr] using hu)) HO.row HB hbase hl (fun v1 w1 hown hB hg hat => ?_)
  have hk : ∀ k, v.ownBlock = some k → ∃ cs t, W.heap[k]? = some (.cells cs t (0, 0)) ∧ t ≠ 9 := fun k hk => by
    obtain ⟨cs, hc⟩ := own_typed HO.row hk
    exact ⟨cs, _, hc, by decide⟩
  refine h v1 w1 ⟨by simpa [fcells] using hown, fun f hf => ?_⟩ hB hg hat
  rcases List.mem_append.1 hf with hf | hf
  · exact ⟨(HO.each f hf).1, (HO.each f hf).2.kept hg hk⟩
  · simp at hf; subst hf; exact ⟨hT, HF.kept hg hk⟩
/-- append(l, m...). -/
theorem push_frames (base : Nat) (hgd : o.guard = none) (s x : Operand)
    (ho : o.op = .call { callee := .builtin .append, args := #[s, x], argTypes := #[34, 34] }) (hs : a.eval s = v) (hx : a.eval x = v2)
    (HO : OFs W base v L) (HF : OFs W base v2 M) (HB : Below base w0 W) (hbase : base ≤ W.heap.size) (hl : (L.length + M.length) * 136 ≤ 140737488355328)
    (h : ∀ v1 w1, OFs w1 base v1 (L ++ M) → Below base w0 w1 → W.grownBy w1 v.ownBlock → (v1.ownBlock = v.ownBlock ∨ ∃ b, v1.ownBlock = some b ∧ W.heap.size ≤ b) → wpList Tryz.prog ops Q rest (a.put o.dst v1) w1) :
    wpList Tryz.prog ops Q (o :: rest) a W := by
  refine push_cells base hgd s x 34 48 (.agg (kF 0).arr) 42 136 ho Tryz.underlying34 frame_info (by rfl) (by decide) (by decide) v v2 L.length M.length (fcells L) (fcells M) hs hx (fcells_one M) HO.row HF.row HB hbase hl (fun v1 w1 hown hB hg hat => ?_)
  have hk : ∀ k, v.ownBlock = some k → ∃ cs t, W.heap[k]? = some (.cells cs t (0, 0)) ∧ t ≠ 9 := fun k hk => by
    obtain ⟨cs, hc⟩ := own_typed HO.row hk
    exact ⟨cs, _, hc, by decide⟩
  refine h v1 w1 ⟨by rw [List.length_append, fcells_append]; exact hown, fun f hf => ?_⟩ hB hg hat
  rcases List.mem_append.1 hf with hf | hf
  · exact ⟨(HO.each f hf).1, (HO.each f hf).2.kept hg hk⟩
  · exact ⟨(HF.each f hf).1, (HF.each f hf).2.kept hg hk⟩
end
end Go.Proofs.YtpjpgcjhdbiepaaGreat
end
/-! The walk of FrameForm. (mk_frfo) -/
section
namespace Go.Proofs.YtpjpgcjhdbiepaaGreat
open Go.RowKit Go.Kit Go.Proofs.YtpjpgcjhdbiepaaGreatW.PrintWords
theorem load_errno {W : World} {a : Addr} {v : Value} (h : W.cell? a = some v) : (Instr.loadAt 24 (.pointer (some a))).run Tryz.prog W = .ok v W := by go_simp
theorem load_why {W : World} {g : Nat} {a b : Int} (h : W.heap[g]? = some (.cells (fv a b) 28 (0, 0))) : (Instr.loadAt 24 (.pointer (some ⟨g, 0, none⟩))).run Tryz.prog W = .ok (.int .i64 a) W := load_errno (by rw [cell_of_row W g 0 _ _ _ h]; rfl)
attribute [-go_sem] Instr.loadAt Instr.storeAt Instr.build
section
variable {A : Option Addr} {n cap : Nat} {xs : List Int} {w : World}
end
end Go.Proofs.YtpjpgcjhdbiepaaGreat
end
/-! The walk of FrameBack. -/
section
namespace Go.Proofs.YtpjpgcjhdbiepaaGreat
open Go.RowKit Go.Kit CrcM Go.Proofs.YtpjpgcjhdbiepaaGreatW.PrintWords
attribute [local go_sem] Go.Proofs.YtpjpgcjhdbiepaaGreatW.PrintMore.max_two Go.Proofs.YtpjpgcjhdbiepaaGreatW.PrintMore.min_two Go.Proofs.YtpjpgcjhdbiepaaGreatW.PrintMore.max_three
attribute [-go_sem] Instr.loadAt Instr.storeAt Instr.build run_slice_h run_slice_any
end Go.Proofs.YtpjpgcjhdbiepaaGreat
end
/-! A decoder in memory; what it says of itself. -/
section
namespace Go.Proofs.YtpjpgcjhdbiepaaGreat
open Go.RowKit Go.Kit CrcM Go.Proofs.YtpjpgcjhdbiepaaGreatW.PrintWords
def dV (s : Sm) (want : Int) (v : Value) : Array Value := #[.int .i64 (s.most : Int), .int .i64 want, v, .int .i64 (s.came : Int), .int .i64 (s.whole : Int), .int .i64 s.why, .int .i64 s.wat]
/-- A decoder at d, its rest in the row v. -/
structure Db (w : World) (d : Nat) (v : Value) (want : Int) (s : Sm) : Prop where
  blk : w.heap[d]? = some (.cells (dV s want v) 76 (0, 0))
  row : OB 5 w 0 v s.rest
/-- .. between two calls. -/
structure Dc (w : World) (d : Nat) (v : Value) (want : Int) (s : Sm) : Prop extends Db w d v want s where
  ok : s.ok
  wnt : s.why = 0 → want = ((needS s.most s.rest).1 : Int)
  many : s.rest.length ≤ s.most + 14
/-- Its footprint. -/
def dfp (d : Nat) (v : Value) (k : Nat) : Prop := k = d ∨ rf v k
section
variable {w w1 : World} {d : Nat} {v : Value} {want : Int} {s : Sm} {S : Nat → Prop}
theorem Db.c0 (h : Db w d v want s) : w.cell? ⟨d, 0, none⟩ = some (.int .i64 (s.most : Int)) := cell_of_row w d 0 _ _ _ h.blk
theorem Db.c1 (h : Db w d v want s) : w.cell? ⟨d, 1, none⟩ = some (.int .i64 want) := cell_of_row w d 1 _ _ _ h.blk
theorem Db.c2 (h : Db w d v want s) : w.cell? ⟨d, 2, none⟩ = some v := cell_of_row w d 2 _ _ _ h.blk
theorem Db.c3 (h : Db w d v want s) : w.cell? ⟨d, 3, none⟩ = some (.int .i64 (s.came : Int)) := cell_of_row w d 3 _ _ _ h.blk
theorem Db.c4 (h : Db w d v want s) : w.cell? ⟨d, 4, none⟩ = some (.int .i64 (s.whole : Int)) := cell_of_row w d 4 _ _ _ h.blk
theorem Db.c5 (h : Db w d v want s) : w.cell? ⟨d, 5, none⟩ = some (.int .i64 s.why) := cell_of_row w d 5 _ _ _ h.blk
theorem Db.c6 (h : Db w d v want s) : w.cell? ⟨d, 6, none⟩ = some (.int .i64 s.wat) := cell_of_row w d 6 _ _ _ h.blk
theorem Db.fz (h : Db w d v want s) (j : Nat) : w.frozen? ⟨d, j, none⟩ = false := frozen_of_row w d j _ _ h.blk
theorem Db.poison (h : Db w d v want s) : (Instr.loadAt 28 (.pointer (some ⟨d, 5, none⟩))).run Tryz.prog w = .ok (.agg #[.int .i64 s.why, .int .i64 s.wat]) w :=
  run_loadAt_mid w d 5 28 [.int .i64 s.why, .int .i64 s.wat] _ (fun j u hj => by
    match j, hj with
    | 0, hj => simp at hj; subst hj; exact h.c5
    | 1, hj => simp at hj; subst hj; exact h.c6
    | j + 2, hj => simp at hj) Tryz.underlying28 rfl (fv_size s.why s.wat)
theorem Db.typed (h : Db w d v want s) : ∀ k, dfp d v k → ∃ cs t, w.heap[k]? = some (.cells cs t (0, 0)) ∧ t ≠ 48 ∧ t ≠ 9 := fun k hk => by
  rcases hk with rfl | hk
  · exact ⟨_, _, h.blk, by decide, by decide⟩
  · obtain ⟨cs, hc⟩ := own_typed h.row.own hk
    exact ⟨cs, _, hc, by decide, by decide⟩
theorem Db.apart (h : Db w d v want s) : ¬ rf v d := own_not h.row.own h.blk (by decide)
theorem Db.old (h : Db w d v want s) : Old w (dfp d v) := fun k hk => by
  rcases hk with rfl | hk
  · exact lt_of_block h.blk
  · exact (own_new h.row.own k hk).2
theorem Db.only (h : Db w d v want s) (ho : Only w w1 S) (hs : Sep (dfp d v) S) : Db w1 d v want s := ⟨ho.kept h.blk (hs d (.inl rfl)), h.row.only ho (fun k hk => hs k (.inr hk))⟩
theorem Db.below (h : Db w d v want s) (hb : Below w.heap.size w w1) : Db w1 d v want s := ⟨(hb.block _ (lt_of_block h.blk)).trans h.blk, h.row.below hb⟩
theorem Dc.only (h : Dc w d v want s) (ho : Only w w1 S) (hs : Sep (dfp d v) S) : Dc w1 d v want s := ⟨h.toDb.only ho hs, h.ok, h.wnt, h.many⟩
theorem Dc.below (h : Dc w d v want s) (hb : Below w.heap.size w w1) : Dc w1 d v want s := ⟨h.toDb.below hb, h.ok, h.wnt, h.many⟩
theorem storeAt_mid {P : Program} (W : World) (g o : Nat) (ty t : TypeId) (cells cur : Array Value) (hg : W.heap[g]? = some (.cells cur t (0, 0))) (hfit : o + cells.size ≤ cur.size) (hi : (P.info? ty).map (·.size) = some cells.size) (h1 : cells.all (·.oneCell') = true) :
    (Instr.storeAt ty (.pointer (some ⟨g, o, none⟩)) (.agg cells)).run P W = .ok () (W.setRow g (cur.toList.take o ++ cells.toList ++ cur.toList.drop (o + cells.size)).toArray) := by
  have hst := run_storeCells_at (P := P) g o t cells.toList 0 cur W hg (by simpa using hfit) (fun v hv => (Array.all_eq_true_iff_forall_mem.1 h1) v (by simpa using hv))
  simp only [Nat.add_zero, Array.length_toList] at hst
  simp only [Instr.storeAt, Instr.sureAddr, Sem.run_bind, Sem.run_pure, Result.andThen_ok]
  cases hq : P.info? ty with
  | none => simp [hq] at hi
  | some i =>
    have hs : cells.size = i.size := by simp [hq] at hi; omega
    simp [storeVar, sizeOf, typeInfo, hq, Value.cells, hs, hst]
theorem Db.spoil (h : Db w d v want s) (e a : Int) : (Instr.storeAt 28 (.pointer (some ⟨d, 5, none⟩)) (.agg #[.int .i64 e, .int .i64 ((s.came : Int) - s.rest.length + a)])).run Tryz.prog w = .ok () (w.setRow d (dV (s.bad e a) want v)) :=
  storeAt_mid (P := Tryz.prog) w d 5 28 76 #[.int .i64 e, .int .i64 ((s.came : Int) - s.rest.length + a)] _ h.blk (by simp [dV]) (fv_size e _) (by simp [Value.oneCell'])
end
theorem neq_fault (x y : Int) (b : Bool) (hb : ((x == 0) && (y == 0)) = b) (W : World) : (binOp .neq 28 (.agg #[.int .i64 x, .int .i64 y]) (.agg #[.int .i64 0, .int .i64 0])).run Tryz.prog W = .ok (.bool !b) W := run_fault_ne x y b hb W
section
variable {w : World} {d : Nat} {v : Value} {want : Int} {s : Sm}
theorem dmade_any (h : Dc w d v want s) : Calls Tryz.prog 25 #[.pointer (some ⟨d, 0, none⟩)] w fun e w' => e = .returned (.bool true) ∧ w' = w := by
  have h0 := h.toDb.c0
  have h1 : decide (0 < s.most) = true := decide_eq_true h.ok.one
  clear h
  go_enter Tryz.func25, Tryz.ntmps25
  go_wp2_with fail
  go_ret
  exact ⟨rfl, rfl⟩
theorem dhead_any (A : Option Addr) (n c : Nat) (xs : List Int) (w : World) (hx : RB w A n xs) (hn : n ≤ 140737488355328) : Calls Tryz.prog 54 #[.slice A n c] w fun e w' => e = .returned (.int .i64 (headsN xs : Int)) ∧ w' = w := by
  have HX := Lib.hid hx
  have HL := Lib.hid hx.len
  clear hx
  go_enter Tryz.func54, Tryz.ntmps54
  go_wp2_with fail
  go_loopg [3] n (fun gk v3 w' => ∃ i : Nat, v3 = .int .i64 (i : Int) ∧ w' = w ∧ Hid (i + gk = n ∧ ∀ j, j < i → ∃ x, xs[j]? = some x ∧ 128 ≤ x))
  case atStart => exact ⟨0, rfl, rfl, Lib.hid ⟨by omega, fun j hj => by omega⟩⟩
  case round =>
    obtain ⟨i, rfl, rfl, HG⟩ := hrel
    by_cases hi : i < n
    · obtain ⟨ad, x, rfl, hc, hx0, hx1, HXi⟩ := HX.out.at_ i hi
      have hi2 : (i : Int) < (n : Int) := by omega
      by_cases h128 : 128 ≤ x
      · go_wp2_with fail
        go_roundg (gk - 1)
        case measure => have := HG.out.1; omega
        case rel =>
          refine ⟨i + 1, by simp, rfl, Lib.hid ⟨by have := HG.out.1; omega, fun j hj => ?_⟩⟩
          rcases Nat.lt_succ_iff_lt_or_eq.1 hj with h | h
          · exact HG.out.2 j h
          · subst h; exact ⟨x, HXi.out, h128⟩
      · have HR : Hid (headsN xs = i + 1) := Lib.hid (heads_take HG.out.2 (.inr ⟨x, HXi.out, by omega⟩))
        clear hi
        go_wp2_with fail
        go_ret
        exact ⟨by rw [HR.out]; rfl, rfl⟩
    · have hi2 : ¬ (i : Int) < (n : Int) := by omega
      have HR : Hid (headsN xs = i + 1) := Lib.hid (heads_take HG.out.2 (.inl (by have := HG.out.1; have := HL.out; omega)))
      have hin : i ≤ n := by have := HG.out.1; omega
      clear hi
      go_wp2_with fail
      go_ret
      exact ⟨by rw [HR.out]; rfl, rfl⟩
end
end Go.Proofs.YtpjpgcjhdbiepaaGreat
end
/-! A decoder poisoned; a byte taken. -/
section
namespace Go.Proofs.YtpjpgcjhdbiepaaGreat
open Go.RowKit Go.Kit CrcM Go.Proofs.YtpjpgcjhdbiepaaGreatW.PrintWords
theorem load_bytes_cell {W : World} {a : Addr} {v : Value} (h : W.cell? a = some v) : (Instr.loadAt 22 (.pointer (some a))).run Tryz.prog W = .ok v W := by go_simp
theorem put_bytes_cell (A : Option Addr) (n c : Nat) (W : World) (a : Addr) (u : Value) (hc : W.cell? a = some u) (hf : W.frozen? a = false) : (Instr.storeAt 22 (.pointer (some a)) (.slice A n c)).run Tryz.prog W = .ok () (W.setCell a (.slice A n c)) := by go_simp
theorem build_fault (x y : Int) (W : World) : (Instr.build 28 #[(0, .int .i64 x), (1, .int .i64 y)]).run Tryz.prog W = .ok (.agg #[.int .i64 x, .int .i64 y]) W := by kernel_rfl
theorem build_fault0 (W : World) : (Instr.build 28 #[]).run Tryz.prog W = .ok (.agg #[.int .i64 0, .int .i64 0]) W := by kernel_rfl
attribute [-go_sem] Instr.loadAt Instr.storeAt Instr.build
section
variable {w : World} {d : Nat} {v : Value} {want : Int} {s : Sm}
theorem Db.bad (h : Db w d v want s) (e a : Int) : Db (w.setRow d (dV (s.bad e a) want v)) d v want (s.bad e a) ∧ Only w (w.setRow d (dV (s.bad e a) want v)) (fun k => k = d) :=
  ⟨⟨setRow_heap _ _ _ _ _ _ h.blk, h.row.only (Fr.only_row w d _) (fun k hk e => h.apart (e ▸ hk))⟩, Fr.only_row w d _⟩
set_option maxHeartbeats 4000000 in
set_option maxRecDepth 100000 in
theorem spoil_any (h : Db w d v want s) (hl : s.rest.length ≤ s.came) (hc : s.came ≤ 1152921504606846976) (e a : Int) (ha : 0 ≤ a) (ha2 : a ≤ 1152921504606846976) :
    Calls Tryz.prog 55 #[.pointer (some ⟨d, 0, none⟩), .int .i64 e, .int .i64 a] w fun x w' => x = .returned (.tuple #[]) ∧ Db w' d v want (s.bad e a) ∧ Only w w' (fun k => k = d) := by
  have hdr := below_drew (Below.refl w.heap.size w)
  have hd := h.below hdr
  obtain ⟨hb1, hb2⟩ := hd.bad e a
  have HB := Lib.hid hb1
  have HO := Lib.hid ((Only.of_below hdr (fun k => k = d)).same hb2)
  have sp := hd.spoil e a
  obtain ⟨A, c, rfl, hR, _⟩ := h.row.reads'
  have e3 := load_cell_int hd.c3
  have e2 := load_bytes_cell hd.c2
  obtain ⟨w1, hw1⟩ : ∃ w1, w.drew.setRow d (dV (s.bad e a) want (.slice A s.rest.length c)) = w1 := ⟨_, rfl⟩
  rw [hw1] at HB HO sp
  clear hw1
  obtain ⟨n, hn⟩ : ∃ n, s.rest.length = n := ⟨_, rfl⟩
  obtain ⟨m, hm⟩ : ∃ m, s.came = m := ⟨_, rfl⟩
  rw [hn, hm] at hl sp
  rw [hm] at hc e3
  rw [hn] at e2
  have hbf := build_fault
  have k1 : IntKind.i64.wrap ((m : Int) - (n : Int)) = (m : Int) - (n : Int) := by rw [IntKind.wrap_i64]; omega
  have k2 : IntKind.i64.wrap ((m : Int) - (n : Int) + a) = (m : Int) - (n : Int) + a := by rw [IntKind.wrap_i64]; omega
  clear h hR hb1 hb2 hn hm hd hdr
  go_enter Tryz.func55, Tryz.ntmps55
  go_wp2_with fail
  go_region_law (fail)
  all_goals
    go_wp2_with fail
    refine bodyPost_end (v := .tuple #[]) (by simp [results, Tryz.results55, go_sem]) rfl ⟨rfl, HB.out, HO.out⟩
end
end Go.Proofs.YtpjpgcjhdbiepaaGreat
end
/-! Where a fault stands: within the bytes. The plain law. No program in it. -/
section
namespace Go.Proofs.YtpjpgcjhdbiepaaGreat
open Go.RowKit Go.Kit CrcM Go.Proofs.YtpjpgcjhdbiepaaGreatW.PrintWords
/-- A reader's place, and its fault's, are within the bytes. -/
structure Wat (D : Rd) (bs : List Int) : Prop where
  same : D.bs = bs
  byt : Byt bs
  low : D.at_ ≤ bs.length
  wat0 : 0 ≤ D.wat
  wat1 : D.wat ≤ bs.length
section
variable {D : Rd} {bs : List Int}
theorem Wat.fail (h : Wat D bs) (e : Int) {a : Nat} (ha : a ≤ bs.length) : Wat (D.fail e a) bs := ⟨h.same, h.byt, h.low, by show (0 : Int) ≤ (a : Int); omega, by show (a : Int) ≤ _; omega⟩
theorem Wat.to (h : Wat D bs) {a : Nat} (ha : a ≤ bs.length) : Wat (D.to a) bs := ⟨h.same, h.byt, ha, h.wat0, h.wat1⟩
theorem Wat.num (h : Wat D bs) : D.at_ + (num D.bs D.at_).2.1 ≤ bs.length := by
  have := (num_facts (bs := D.bs) (by rw [h.same]; exact h.byt) (a := D.at_) (by rw [h.same]; exact h.low)).2.1
  rw [h.same] at this ⊢; exact this
theorem Wat.uint (h : Wat D bs) : Wat (uintS D).1 bs := by
  unfold uintS
  split
  · exact h
  split
  · exact h.fail _ h.low
  · exact h.to h.num
theorem Wat.count (h : Wat D bs) (m : Int) : Wat (countS D m).1 bs := by
  unfold countS
  split
  · exact h
  split
  · exact h.fail _ h.low
  split
  · exact h.fail _ h.low
  split
  · exact h.fail _ h.low
  · exact h.to h.num
theorem Wat.some_ (h : Wat D bs) (m : Int) : Wat (someS D m).1 bs := by
  unfold someS
  split
  · exact h.fail _ h.low
  · exact h.count m
theorem Wat.raw (h : Wat D bs) (n : Int) : Wat (rawS D n).1 bs := by
  unfold rawS
  split
  · exact h
  split
  · exact h.fail _ h.low
  split
  · exact h.fail _ h.low
  · next h1 h2 h3 => exact h.to (by rw [h.same] at h3; omega)
theorem Wat.text (h : Wat D bs) (m : Int) : Wat (textS D m).1 bs := by
  unfold textS
  split
  · exact h
  split
  · exact h.fail _ h.low
  obtain ⟨s, en, x, hT⟩ : ∃ s en x, textAt D.bs D.at_ m = (s, en, x) := ⟨_, _, _, rfl⟩
  split
  · exact h.fail _ h.low
  · next h3 =>
    have h3 := Classical.not_not.mp h3
    rw [hT] at h3 ⊢
    have hT2 := hT
    rw [h.same] at hT2
    exact h.to ((textAt_facts h.byt h.low hT2).1 h3).1
theorem lstR_at {bs : List Int} (hb : Byt bs) (each : Int) : ∀ (n a : Nat) (acc : List ByteArray), a ≤ bs.length → (lstR bs each n a acc).2.1 ≤ bs.length
  | 0, a, acc, ha => ha
  | n + 1, a, acc, ha => by
    obtain ⟨s, en, x, hT⟩ : ∃ s en x, textAt bs a each = (s, en, x) := ⟨_, _, _, rfl⟩
    rw [lstR, hT]
    split
    · exact ha
    · next h =>
      have h := Classical.not_not.mp h
      exact lstR_at hb each n en _ ((textAt_facts hb ha hT).1 h).1
theorem Wat.list (h : Wat D bs) (m e : Int) : Wat (listS D m e).1 bs := by
  unfold listS
  split
  · exact h
  split
  · exact h.fail _ h.low
  split
  · exact h.fail _ h.low
  split
  · exact h.fail _ h.low
  have hl : (lstR D.bs e (Go.Kit.num D.bs D.at_).1 (D.at_ + (Go.Kit.num D.bs D.at_).2.1) []).2.1 ≤ bs.length := by
    have h1 := h.num
    rw [h.same] at h1 ⊢
    exact lstR_at h.byt e _ _ _ h1
  split
  · exact h.fail _ hl
  · exact h.to hl
theorem Wat.end_ (h : Wat D bs) : Wat (endS D) bs := by
  unfold endS
  split
  · exact h.fail _ h.low
  · exact h
theorem Wat.kind (h : Wat D bs) (k : Nat) : Wat (kindS D k).1 bs := by
  unfold kindS
  split
  · unfold helloS; exact ((h.some_ 1).some_ 64).raw 32
  split
  · unfold requestS; exact ((((h.uint.count 2147483648).count 2147483648).count 2147483648).list 8 4096).text 2097152
  split
  · unfold responseS; exact (h.uint.some_ 3).text 2097152
  split
  · unfold cancelS; exact h.uint
  split
  · unfold noteS; exact h.text 2097152
  · exact h
end
theorem read_at {p : List Int} {head : Nat} (hb : Byt p) (hh : head ≤ p.length) : 0 ≤ (readF p head).2.2 ∧ (readF p head).2.2 ≤ p.length := by
  have h0 : Wat ((Rd.new p).to head) p := ⟨rfl, hb, hh, by show (0 : Int) ≤ 0; omega, by show (0 : Int) ≤ _; omega⟩
  have h1 : Wat (fieldsS ((Rd.new p).to head)).1 p := (h0.some_ 6).kind _
  obtain ⟨D, f, hF⟩ : ∃ D f, fieldsS ((Rd.new p).to head) = (D, f) := ⟨_, _, rfl⟩
  rw [hF] at h1
  have h2 := h1.end_
  rw [readF_of hF]
  unfold finS
  have w0 := h2.wat0
  have w1 := h2.wat1
  by_cases hc : (endS D).why = 0 ∧ f.k = 3 ∧ f.st ≠ 1 ∧ f.body.size ≠ 0
  · rw [if_pos hc, if_pos (by show (70 : Int) ≠ 0; decide)]
    dsimp only; omega
  · rw [if_neg hc]
    dsimp only
    split
    · exact ⟨w0, w1⟩
    · dsimp only; omega
theorem dec_zero2 {xs : List Int} : (decF xs).2.1 = 0 → (decF xs).2.2 = 0 := by
  unfold decF
  split
  · exact fun _ => rfl
  split
  · exact fun e => absurd e (by show ¬ (4 : Int) = 0; decide)
  split
  · exact fun e => absurd e (by show ¬ (6 : Int) = 0; decide)
  split
  · exact fun e => absurd e (by show ¬ (71 : Int) = 0; decide)
  · obtain ⟨D, f, hF⟩ : ∃ D f, fieldsS ((Rd.new (openR xs).1).to (needF xs).2.1) = (D, f) := ⟨_, _, rfl⟩
    rw [readF_of hF]
    split
    · next h => exact fun e => absurd e h
    · exact fun _ => rfl
theorem dec_at {xs : List Int} (hb : Byt xs) : 0 ≤ (decF xs).2.2 ∧ (decF xs).2.2 ≤ xs.length := by
  obtain ⟨m, k, e, hN⟩ : ∃ m k e, needF xs = (m, k, e) := ⟨_, _, _, rfl⟩
  unfold decF
  rw [hN]
  dsimp only
  split
  · dsimp only; omega
  next he =>
  have he := Classical.not_not.mp he
  subst he
  split
  · dsimp only; omega
  next h1 =>
  split
  · dsimp only; omega
  next h2 =>
  obtain ⟨m0, hh, hm0⟩ := need_head hN (fun e => h1 (.inl e))
  split
  · dsimp only; omega
  · next ho =>
    have ho := Classical.not_not.mp ho
    obtain ⟨ys, er, hO⟩ : ∃ ys er, openR xs = (ys, er) := ⟨_, _, rfl⟩
    rw [hO] at ho ⊢
    dsimp only at ho ⊢
    subst ho
    obtain ⟨ht, h4⟩ := open_take hO
    have hyl : ys.length = xs.length - 4 := by rw [ht, List.length_take]; omega
    have := read_at (p := ys) (head := k) (by rw [ht]; exact hb.take _) (by omega)
    omega
end Go.Proofs.YtpjpgcjhdbiepaaGreat
end
