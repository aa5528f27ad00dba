/- Contracts of functions that the law reaches (texts laid together, part 4): each says of its call what it answers and what it leaves of memory; the conditions stand in each statement. -/
import Derived.Test.YtpjpgcjhdbiepaaMpStreamCuts3
import Derived.Test.YtpjpgcjhdbiepaaWWords
import Derived.WalkKit
import Derived.Lib.Hide
import Derived.Laws.BitsAllLaws
import Derived.Deep.WholeRow
import Derived.Deep.CutBlock
import Derived.Deep.Cut
import Derived.Deep.LoopGhost
import Derived.Laws.CopyOwn
import Derived.Lib.SlBytesConst
import Derived.ChangeKeysEq
import Derived.Laws.StructEq
import Derived.Test.YtpjpgcjhdbiepaaWMore
import Derived.Laws.Bits64b
import Derived.IntWalk
import Derived.Test.YtpjpgcjhdbiepaaProg
import Derived.Test.YtpjpgcjhdbiepaaWGuard
import Derived.Deep.MidRow
import Derived.Deep.RegionHeld3
import Derived.Deep.RegionLaw
import Derived.Deep.DeepMust
import Derived.Laws.Cover3
import Derived.Test.YtpjpgcjhdbiepaaWEqStruct
import Derived.StillTailTactics
import Derived.Recover
import Derived.WalkLawsBesides
import Derived.Deep.RegionWith
import Derived.RegionTactic
import Derived.BigRegion
import Derived.Deep.QuietTactic
import Derived.BigQuiet
import Derived.Laws.CopyRow
set_option linter.unusedVariables false
/-! The contract of the document's body. (mk_frzb.py) -/
section
namespace Go.Proofs.Ytpjpgcjhdbiepaa
open Go.RowKit Go.Kit Go.Proofs.YtpjpgcjhdbiepaaW.PrintWords
theorem rUint_of (u : Int) (h0 : 0 ≤ u) (h1 : u ≤ 18446744073709551615) (w : World) : Calls Try.prog 24 #[.int .u64 u] w (Laid w (sh u.toNat)) := by
  have h := rUint_any u.toNat w (by omega)
  rw [Int.toNat_of_nonneg h0] at h
  exact h
theorem keepG {W w1 : World} {g base : Nat} {f : Fr} {v : Value} {xs : List Int} (hF : f.at_ 42 W g) (hO : OB 5 W base v xs) (hg : W.grownBy w1 v.ownBlock) : f.at_ 42 w1 g :=
  hF.only ((Only.refl W (rf v)).grown hg (fun k e => .inl e)) (hO.not_block hF.blk (by decide))
theorem lst_len (f : Fr) (h : (0 ≤ f.mo ∧ 0 ≤ f.fu ∧ 0 ≤ f.di) ∧ f.n ≤ 8 ∧ ∀ s ∈ f.args, s.size ≤ 4096) (hn : f.args.length = f.n) : (lst f.args).length ≤ 32858 := by
  have h1 := txts_length f.args 4096 (by omega) h.2.2
  have h2 := sh_ten (n := f.args.length) (by omega)
  have h4 : f.args.length * (10 + 4096) ≤ 8 * (10 + 4096) := Nat.mul_le_mul_right _ (by omega)
  unfold lst
  rw [List.length_append]
  omega
section
variable {f : Fr} {w : World}
set_option maxHeartbeats 16000000 in
set_option maxRecDepth 100000 in
theorem rbody_any (h1 : 1 ≤ f.k) (h6 : f.k ≤ 6) (hf : f.ok w) (hw : f.wf) (hL : LayOk f) : Calls Try.prog 23 #[f.val] w (Laid w (bodyF f)) := by
  have hb := below_alloc (Below.refl _ w) (.cells f.arr 42)
  have hF := boxed hf.tool w
  have hwk := u64_nn (x := f.k) (by omega) (by omega)
  have HWF := Lib.hid hw
  have HK := Lib.hid (And.intro h1 h6)
  have HL := Lib.hid hL
  have HT := Lib.hid hf.tool
  have HA := Lib.hid hf.args
  have HLK := Lib.hid (sh_ten (n := f.k.toNat) (by omega))
  clear hw hL hf h1 h6
  show Calls Try.prog _ #[.agg f.arr] w _
  go_enter Try.func23, Try.ntmps23
  go_upto_region 1 with (fail)
  generalize w.alloc (.cells f.arr 42) = w1 at *
  obtain ⟨g, hg⟩ : ∃ g, w.heap.size = g := ⟨_, rfl⟩
  rw [hg] at hF ⊢
  clear hg
  have q := hF.c0
  go_wp2_with fail
  refine (rUint_of f.k (by have := HK.out; omega) (by have := HK.out; omega) _).mono ?_
  rintro e w2 ⟨v2, rfl, hO2, hb2⟩
  have hF2 := hF.below hb2
  replace hb2 := below_step hb hb2
  replace hO2 := hO2.less hb.size
  clear hb hF q hwk
  have q := hF2.c0
  obtain ⟨a2, ha2⟩ : ∃ q, sh f.k.toNat = q := ⟨_, rfl⟩
  rw [ha2] at hO2
  have HA2 : Hid (a2 = sh f.k.toNat) := Lib.hid ha2.symm
  have HB2 : Hid (a2.length ≤ 10) := Lib.hid (by rw [← ha2]; exact HLK.out)
  clear ha2
  by_cases k1 : f.k = 1
  · have b1 : (f.k == 1) = true := by rw [beq_iff_eq]; exact k1
    have HKK := Lib.hid k1
    clear k1
    have q3 := hF2.c2
    have hwrv := u64_nn (x := f.v) ((HL.out.hello (HKK.out)).1) HWF.out.v.2
    go_wp2_with fail
    refine (rUint_of f.v ((HL.out.hello (HKK.out)).1) (by have := HWF.out.v.2; omega) _).mono ?_
    rintro e w3 ⟨v3, rfl, hP3, hc3⟩
    have hF3 := hF2.below hc3
    have hO3 := hO2.below hc3
    have hb3 := below_step hb2 hc3
    obtain ⟨A3, c3, rfl, hR3, _⟩ := hP3.reads'
    obtain ⟨y3, hy3⟩ : ∃ q, sh f.v.toNat = q := ⟨_, rfl⟩
    rw [hy3] at hR3 ⊢
    obtain ⟨n3, hn3⟩ : ∃ q, y3.length = q := ⟨_, rfl⟩
    rw [hn3] at hR3 ⊢
    have HN3 : Hid (n3 ≤ 10) := Lib.hid (by rw [← hn3, ← hy3]; exact sh_ten (by have := HWF.out.v.2; omega))
    have HLN3 : Hid (a2.length + n3 ≤ 140737488355328) := Lib.hid (by have := HN3.out; have := HB2.out; omega)
    have HY3 := Lib.hid hy3
    have HE3 := Lib.hid hn3
    clear hb2 hF2 hO2 hc3 hP3 q3 hy3 hn3
    go_wp2_with (at_builtin; refine push_row (w0 := w) w.heap.size rfl (.tmp 13) (.tmp 17) 23 y3 A3 n3 c3 rfl Try.underlying23 u8_info rfl rfl hO3 hR3 hb3 hb3.size HLN3.out ?_)
    intro v4 w4 hO4 hb4 hg4 _
    have hF4 := keepG hF3 hO3 hg4
    obtain ⟨a4, ha4⟩ : ∃ q, a2 ++ y3 = q := ⟨_, rfl⟩
    rw [ha4] at hO4
    have HB4 : Hid (a4.length ≤ 20) := Lib.hid (by rw [← ha4, List.length_append, HE3.out]; have := HN3.out; have := HB2.out; omega)
    have HA4 : Hid (a4 = a2 ++ sh f.v.toNat) := Lib.hid (by rw [← ha4, HY3.out])
    clear hF3 hO3 hb3 hR3 hg4 HLN3 ha4
    have q5 := hF4.c3
    have hwrs := u64_nn (x := f.s) ((HL.out.hello (HKK.out)).2) HWF.out.s.2
    go_wp2_with fail
    refine (rUint_of f.s ((HL.out.hello (HKK.out)).2) (by have := HWF.out.s.2; omega) _).mono ?_
    rintro e w5 ⟨v5, rfl, hP5, hc5⟩
    have hF5 := hF4.below hc5
    have hO5 := hO4.below hc5
    have hb5 := below_step hb4 hc5
    obtain ⟨A5, c5, rfl, hR5, _⟩ := hP5.reads'
    obtain ⟨y5, hy5⟩ : ∃ q, sh f.s.toNat = q := ⟨_, rfl⟩
    rw [hy5] at hR5 ⊢
    obtain ⟨n5, hn5⟩ : ∃ q, y5.length = q := ⟨_, rfl⟩
    rw [hn5] at hR5 ⊢
    have HN5 : Hid (n5 ≤ 10) := Lib.hid (by rw [← hn5, ← hy5]; exact sh_ten (by have := HWF.out.s.2; omega))
    have HLN5 : Hid (a4.length + n5 ≤ 140737488355328) := Lib.hid (by have := HN5.out; have := HB4.out; omega)
    have HY5 := Lib.hid hy5
    have HE5 := Lib.hid hn5
    clear hb4 hF4 hO4 hc5 hP5 q5 hy5 hn5
    go_wp2_with (at_builtin; refine push_row (w0 := w) w.heap.size rfl (.tmp 19) (.tmp 23) 23 y5 A5 n5 c5 rfl Try.underlying23 u8_info rfl rfl hO5 hR5 hb5 hb5.size HLN5.out ?_)
    intro v6 w6 hO6 hb6 hg6 _
    have hF6 := keepG hF5 hO5 hg6
    obtain ⟨a6, ha6⟩ : ∃ q, a4 ++ y5 = q := ⟨_, rfl⟩
    rw [ha6] at hO6
    have HB6 : Hid (a6.length ≤ 30) := Lib.hid (by rw [← ha6, List.length_append, HE5.out]; have := HN5.out; have := HB4.out; omega)
    have HA6 : Hid (a6 = a4 ++ sh f.s.toNat) := Lib.hid (by rw [← ha6, HY5.out])
    clear hF5 hO5 hb5 hR5 hg6 HLN5 ha6
    go_wp2_with fail
    go_loopg [3, 4] 32 (fun gk v3 v4 w' => ∃ k : Nat, v4 = .int .i64 (k : Int) ∧ OB 5 w' w.heap.size v3 (a6 ++ f.tool.take k) ∧ f.at_ 42 w' g ∧ Below w.heap.size w w' ∧ Hid (k + gk = 32))
    case atStart => exact ⟨0, rfl, by simpa using hO6, hF6, hb6, Lib.hid rfl⟩
    case round =>
      clear hO6 hF6 hb6
      obtain ⟨k, rfl, hO, hF, hb, HG⟩ := hrel
      by_cases hk : k < 32
      · have hk2 : (k : Int) < 32 := by omega
        obtain ⟨x, HX⟩ : ∃ x, Hid (f.tool[k]? = some x) := ⟨_, Lib.hid (List.getElem?_eq_getElem (by rw [HT.out]; exact hk))⟩
        have hx := HWF.out.byt x (List.mem_of_getElem? HX.out)
        have hcell : wr.cell? ⟨g, 4 + k, none⟩ = some (.int .u8 x) := hF.r4 k (.int .u8 x) (by simp [nums, HX.out])
        have hba := below_alloc (Below.refl wr.heap.size wr) (.cells #[.int .u8 x] 5)
        have hF2 := hF.below hba
        have hLL : Hid ((a6 ++ f.tool.take k).length + 1 ≤ 140737488355328) := Lib.hid (by
          have h1 : (f.tool.take k).length ≤ 32 := by rw [List.length_take]; omega
          have := HB6.out; rw [List.length_append]; omega)
        have hbs := hb.size
        go_wp2_with (at_builtin; refine push_byte (w0 := w) w.heap.size rfl (.tmp 29) (.tmp 34) 23 x rfl Try.underlying23 u8_info rfl rfl hO hb hbs hLL.out hx.1 hx.2 ?_)
        intro v5 w5 hO5 hb5 hg5 _
        have hF5 := keepG hF hO hg5
        go_wp2_with fail
        go_roundg (gk - 1)
        case measure => have := HG.out; omega
        case rel =>
          refine ⟨k + 1, by simp, ?_, hF5, hb5, Lib.hid (by have := HG.out; omega)⟩
          rw [snoc HX.out]
          first | exact hO5 | (rw [← List.append_assoc]; exact hO5)
      · have hk2 : ¬ (k : Int) < 32 := by omega
        have HE : Hid (a6 ++ f.tool.take k = bodyF f) := Lib.hid (by
          rw [List.take_of_length_le (by rw [HT.out]; omega)]
          rw [HA6.out, HA4.out, HA2.out]; unfold bodyF layF; rw [if_pos HKK.out]; simp only [List.append_assoc])
        rw [HE.out] at hO
        clear hk
        go_wp2_with fail
        go_ret
        exact ⟨_, rfl, hO, hb⟩
  have b1 : (f.k == 1) = false := by rw [beq_eq_false_iff_ne]; exact k1
  by_cases k2 : f.k = 2
  · have b2 : (f.k == 2) = true := by rw [beq_iff_eq]; exact k2
    have HKK := Lib.hid k2
    clear k2
    have q3 := hF2.c1
    go_wp2_with fail
    refine (rUint_of f.id (HWF.out.id0) (HWF.out.id1) _).mono ?_
    rintro e w3 ⟨v3, rfl, hP3, hc3⟩
    have hF3 := hF2.below hc3
    have hO3 := hO2.below hc3
    have hb3 := below_step hb2 hc3
    obtain ⟨A3, c3, rfl, hR3, _⟩ := hP3.reads'
    obtain ⟨y3, hy3⟩ : ∃ q, sh f.id.toNat = q := ⟨_, rfl⟩
    rw [hy3] at hR3 ⊢
    obtain ⟨n3, hn3⟩ : ∃ q, y3.length = q := ⟨_, rfl⟩
    rw [hn3] at hR3 ⊢
    have HN3 : Hid (n3 ≤ 10) := Lib.hid (by rw [← hn3, ← hy3]; exact sh_ten (by have := HWF.out.id1; omega))
    have HLN3 : Hid (a2.length + n3 ≤ 140737488355328) := Lib.hid (by have := HN3.out; have := HB2.out; omega)
    have HY3 := Lib.hid hy3
    have HE3 := Lib.hid hn3
    clear hb2 hF2 hO2 hc3 hP3 q3 hy3 hn3
    go_wp2_with (at_builtin; refine push_row (w0 := w) w.heap.size rfl (.tmp 38) (.tmp 41) 23 y3 A3 n3 c3 rfl Try.underlying23 u8_info rfl rfl hO3 hR3 hb3 hb3.size HLN3.out ?_)
    intro v4 w4 hO4 hb4 hg4 _
    have hF4 := keepG hF3 hO3 hg4
    obtain ⟨a4, ha4⟩ : ∃ q, a2 ++ y3 = q := ⟨_, rfl⟩
    rw [ha4] at hO4
    have HB4 : Hid (a4.length ≤ 20) := Lib.hid (by rw [← ha4, List.length_append, HE3.out]; have := HN3.out; have := HB2.out; omega)
    have HA4 : Hid (a4 = a2 ++ sh f.id.toNat) := Lib.hid (by rw [← ha4, HY3.out])
    clear hF3 hO3 hb3 hR3 hg4 HLN3 ha4
    have q5 := hF4.c37
    have hwrmo := u64_nn (x := f.mo) ((HL.out.req (HKK.out)).1.1) HWF.out.mo.2
    go_wp2_with fail
    refine (rUint_of f.mo ((HL.out.req (HKK.out)).1.1) (by have := HWF.out.mo.2; omega) _).mono ?_
    rintro e w5 ⟨v5, rfl, hP5, hc5⟩
    have hF5 := hF4.below hc5
    have hO5 := hO4.below hc5
    have hb5 := below_step hb4 hc5
    obtain ⟨A5, c5, rfl, hR5, _⟩ := hP5.reads'
    obtain ⟨y5, hy5⟩ : ∃ q, sh f.mo.toNat = q := ⟨_, rfl⟩
    rw [hy5] at hR5 ⊢
    obtain ⟨n5, hn5⟩ : ∃ q, y5.length = q := ⟨_, rfl⟩
    rw [hn5] at hR5 ⊢
    have HN5 : Hid (n5 ≤ 10) := Lib.hid (by rw [← hn5, ← hy5]; exact sh_ten (by have := HWF.out.mo.2; omega))
    have HLN5 : Hid (a4.length + n5 ≤ 140737488355328) := Lib.hid (by have := HN5.out; have := HB4.out; omega)
    have HY5 := Lib.hid hy5
    have HE5 := Lib.hid hn5
    clear hb4 hF4 hO4 hc5 hP5 q5 hy5 hn5
    go_wp2_with (at_builtin; refine push_row (w0 := w) w.heap.size rfl (.tmp 43) (.tmp 48) 23 y5 A5 n5 c5 rfl Try.underlying23 u8_info rfl rfl hO5 hR5 hb5 hb5.size HLN5.out ?_)
    intro v6 w6 hO6 hb6 hg6 _
    have hF6 := keepG hF5 hO5 hg6
    obtain ⟨a6, ha6⟩ : ∃ q, a4 ++ y5 = q := ⟨_, rfl⟩
    rw [ha6] at hO6
    have HB6 : Hid (a6.length ≤ 30) := Lib.hid (by rw [← ha6, List.length_append, HE5.out]; have := HN5.out; have := HB4.out; omega)
    have HA6 : Hid (a6 = a4 ++ sh f.mo.toNat) := Lib.hid (by rw [← ha6, HY5.out])
    clear hF5 hO5 hb5 hR5 hg6 HLN5 ha6
    have q7 := hF6.c38
    have hwrfu := u64_nn (x := f.fu) ((HL.out.req (HKK.out)).1.2.1) HWF.out.fu.2
    go_wp2_with fail
    refine (rUint_of f.fu ((HL.out.req (HKK.out)).1.2.1) (by have := HWF.out.fu.2; omega) _).mono ?_
    rintro e w7 ⟨v7, rfl, hP7, hc7⟩
    have hF7 := hF6.below hc7
    have hO7 := hO6.below hc7
    have hb7 := below_step hb6 hc7
    obtain ⟨A7, c7, rfl, hR7, _⟩ := hP7.reads'
    obtain ⟨y7, hy7⟩ : ∃ q, sh f.fu.toNat = q := ⟨_, rfl⟩
    rw [hy7] at hR7 ⊢
    obtain ⟨n7, hn7⟩ : ∃ q, y7.length = q := ⟨_, rfl⟩
    rw [hn7] at hR7 ⊢
    have HN7 : Hid (n7 ≤ 10) := Lib.hid (by rw [← hn7, ← hy7]; exact sh_ten (by have := HWF.out.fu.2; omega))
    have HLN7 : Hid (a6.length + n7 ≤ 140737488355328) := Lib.hid (by have := HN7.out; have := HB6.out; omega)
    have HY7 := Lib.hid hy7
    have HE7 := Lib.hid hn7
    clear hb6 hF6 hO6 hc7 hP7 q7 hy7 hn7
    go_wp2_with (at_builtin; refine push_row (w0 := w) w.heap.size rfl (.tmp 50) (.tmp 55) 23 y7 A7 n7 c7 rfl Try.underlying23 u8_info rfl rfl hO7 hR7 hb7 hb7.size HLN7.out ?_)
    intro v8 w8 hO8 hb8 hg8 _
    have hF8 := keepG hF7 hO7 hg8
    obtain ⟨a8, ha8⟩ : ∃ q, a6 ++ y7 = q := ⟨_, rfl⟩
    rw [ha8] at hO8
    have HB8 : Hid (a8.length ≤ 40) := Lib.hid (by rw [← ha8, List.length_append, HE7.out]; have := HN7.out; have := HB6.out; omega)
    have HA8 : Hid (a8 = a6 ++ sh f.fu.toNat) := Lib.hid (by rw [← ha8, HY7.out])
    clear hF7 hO7 hb7 hR7 hg8 HLN7 ha8
    have q9 := hF8.c39
    have hwrdi := u64_nn (x := f.di) ((HL.out.req (HKK.out)).1.2.2) HWF.out.di.2
    go_wp2_with fail
    refine (rUint_of f.di ((HL.out.req (HKK.out)).1.2.2) (by have := HWF.out.di.2; omega) _).mono ?_
    rintro e w9 ⟨v9, rfl, hP9, hc9⟩
    have hF9 := hF8.below hc9
    have hO9 := hO8.below hc9
    have hb9 := below_step hb8 hc9
    obtain ⟨A9, c9, rfl, hR9, _⟩ := hP9.reads'
    obtain ⟨y9, hy9⟩ : ∃ q, sh f.di.toNat = q := ⟨_, rfl⟩
    rw [hy9] at hR9 ⊢
    obtain ⟨n9, hn9⟩ : ∃ q, y9.length = q := ⟨_, rfl⟩
    rw [hn9] at hR9 ⊢
    have HN9 : Hid (n9 ≤ 10) := Lib.hid (by rw [← hn9, ← hy9]; exact sh_ten (by have := HWF.out.di.2; omega))
    have HLN9 : Hid (a8.length + n9 ≤ 140737488355328) := Lib.hid (by have := HN9.out; have := HB8.out; omega)
    have HY9 := Lib.hid hy9
    have HE9 := Lib.hid hn9
    clear hb8 hF8 hO8 hc9 hP9 q9 hy9 hn9
    go_wp2_with (at_builtin; refine push_row (w0 := w) w.heap.size rfl (.tmp 57) (.tmp 62) 23 y9 A9 n9 c9 rfl Try.underlying23 u8_info rfl rfl hO9 hR9 hb9 hb9.size HLN9.out ?_)
    intro v10 w10 hO10 hb10 hg10 _
    have hF10 := keepG hF9 hO9 hg10
    obtain ⟨a10, ha10⟩ : ∃ q, a8 ++ y9 = q := ⟨_, rfl⟩
    rw [ha10] at hO10
    have HB10 : Hid (a10.length ≤ 50) := Lib.hid (by rw [← ha10, List.length_append, HE9.out]; have := HN9.out; have := HB8.out; omega)
    have HA10 : Hid (a10 = a8 ++ sh f.di.toNat) := Lib.hid (by rw [← ha10, HY9.out])
    clear hF9 hO9 hb9 hR9 hg10 HLN9 ha10
    have q11 := hF10.c40
    go_wp2_with fail
    refine (rList_any (c := f.c) (HA.out.below hb10) 4096 (by omega) (HL.out.req (HKK.out)).2.2 (by have := (HL.out.req (HKK.out)).2.1; omega)).mono ?_
    rintro e w11 ⟨v11, rfl, hP11, hc11⟩
    have hF11 := hF10.below hc11
    have hO11 := hO10.below hc11
    have hb11 := below_step hb10 hc11
    obtain ⟨A11, c11, rfl, hR11, _⟩ := hP11.reads'
    obtain ⟨y11, hy11⟩ : ∃ q, lst f.args = q := ⟨_, rfl⟩
    rw [hy11] at hR11 ⊢
    obtain ⟨n11, hn11⟩ : ∃ q, y11.length = q := ⟨_, rfl⟩
    rw [hn11] at hR11 ⊢
    have HN11 : Hid (n11 ≤ 32858) := Lib.hid (by rw [← hn11, ← hy11]; exact lst_len f (HL.out.req (HKK.out)) HA.out.len)
    have HLN11 : Hid (a10.length + n11 ≤ 140737488355328) := Lib.hid (by have := HN11.out; have := HB10.out; omega)
    have HY11 := Lib.hid hy11
    have HE11 := Lib.hid hn11
    clear hb10 hF10 hO10 hc11 hP11 q11 hy11 hn11
    go_wp2_with (at_builtin; refine push_row (w0 := w) w.heap.size rfl (.tmp 64) (.tmp 67) 23 y11 A11 n11 c11 rfl Try.underlying23 u8_info rfl rfl hO11 hR11 hb11 hb11.size HLN11.out ?_)
    intro v12 w12 hO12 hb12 hg12 _
    have hF12 := keepG hF11 hO11 hg12
    obtain ⟨a12, ha12⟩ : ∃ q, a10 ++ y11 = q := ⟨_, rfl⟩
    rw [ha12] at hO12
    have HB12 : Hid (a12.length ≤ 32908) := Lib.hid (by rw [← ha12, List.length_append, HE11.out]; have := HN11.out; have := HB10.out; omega)
    have HA12 : Hid (a12 = a10 ++ lst f.args) := Lib.hid (by rw [← ha12, HY11.out])
    clear hF11 hO11 hb11 hR11 hg12 HLN11 ha12
    have q13 := hF12.c41
    go_wp2_with fail
    refine (rText_any f.body (by have := HL.out.body; omega)).mono ?_
    rintro e w13 ⟨v13, rfl, hP13, hc13⟩
    have hF13 := hF12.below hc13
    have hO13 := hO12.below hc13
    have hb13 := below_step hb12 hc13
    obtain ⟨A13, c13, rfl, hR13, _⟩ := hP13.reads'
    obtain ⟨y13, hy13⟩ : ∃ q, txt f.body = q := ⟨_, rfl⟩
    rw [hy13] at hR13 ⊢
    obtain ⟨n13, hn13⟩ : ∃ q, y13.length = q := ⟨_, rfl⟩
    rw [hn13] at hR13 ⊢
    have HN13 : Hid (n13 ≤ 2097162) := Lib.hid (by rw [← hn13, ← hy13]; exact Nat.le_trans (txt_length (by have := HL.out.body; omega)) (by have := HL.out.body; omega))
    have HLN13 : Hid (a12.length + n13 ≤ 140737488355328) := Lib.hid (by have := HN13.out; have := HB12.out; omega)
    have HY13 := Lib.hid hy13
    have HE13 := Lib.hid hn13
    clear hb12 hF12 hO12 hc13 hP13 q13 hy13 hn13
    go_wp2_with (at_builtin; refine push_row (w0 := w) w.heap.size rfl (.tmp 69) (.tmp 72) 23 y13 A13 n13 c13 rfl Try.underlying23 u8_info rfl rfl hO13 hR13 hb13 hb13.size HLN13.out ?_)
    intro v14 w14 hO14 hb14 hg14 _
    have hF14 := keepG hF13 hO13 hg14
    obtain ⟨a14, ha14⟩ : ∃ q, a12 ++ y13 = q := ⟨_, rfl⟩
    rw [ha14] at hO14
    have HB14 : Hid (a14.length ≤ 2130070) := Lib.hid (by rw [← ha14, List.length_append, HE13.out]; have := HN13.out; have := HB12.out; omega)
    have HA14 : Hid (a14 = a12 ++ txt f.body) := Lib.hid (by rw [← ha14, HY13.out])
    clear hF13 hO13 hb13 hR13 hg14 HLN13 ha14
    have HE : Hid (a14 = bodyF f) := Lib.hid (by rw [HA14.out, HA12.out, HA10.out, HA8.out, HA6.out, HA4.out, HA2.out]; unfold bodyF layF; rw [if_neg (by rw [HKK.out]; decide), if_pos HKK.out]; simp only [List.append_assoc])
    rw [HE.out] at hO14
    go_wp2_with fail
    go_ret
    exact ⟨_, rfl, hO14, hb14⟩
  have b2 : (f.k == 2) = false := by rw [beq_eq_false_iff_ne]; exact k2
  by_cases k3 : f.k = 3
  · have b3 : (f.k == 3) = true := by rw [beq_iff_eq]; exact k3
    have HKK := Lib.hid k3
    clear k3
    have q3 := hF2.c1
    go_wp2_with fail
    refine (rUint_of f.id (HWF.out.id0) (HWF.out.id1) _).mono ?_
    rintro e w3 ⟨v3, rfl, hP3, hc3⟩
    have hF3 := hF2.below hc3
    have hO3 := hO2.below hc3
    have hb3 := below_step hb2 hc3
    obtain ⟨A3, c3, rfl, hR3, _⟩ := hP3.reads'
    obtain ⟨y3, hy3⟩ : ∃ q, sh f.id.toNat = q := ⟨_, rfl⟩
    rw [hy3] at hR3 ⊢
    obtain ⟨n3, hn3⟩ : ∃ q, y3.length = q := ⟨_, rfl⟩
    rw [hn3] at hR3 ⊢
    have HN3 : Hid (n3 ≤ 10) := Lib.hid (by rw [← hn3, ← hy3]; exact sh_ten (by have := HWF.out.id1; omega))
    have HLN3 : Hid (a2.length + n3 ≤ 140737488355328) := Lib.hid (by have := HN3.out; have := HB2.out; omega)
    have HY3 := Lib.hid hy3
    have HE3 := Lib.hid hn3
    clear hb2 hF2 hO2 hc3 hP3 q3 hy3 hn3
    go_wp2_with (at_builtin; refine push_row (w0 := w) w.heap.size rfl (.tmp 76) (.tmp 79) 23 y3 A3 n3 c3 rfl Try.underlying23 u8_info rfl rfl hO3 hR3 hb3 hb3.size HLN3.out ?_)
    intro v4 w4 hO4 hb4 hg4 _
    have hF4 := keepG hF3 hO3 hg4
    obtain ⟨a4, ha4⟩ : ∃ q, a2 ++ y3 = q := ⟨_, rfl⟩
    rw [ha4] at hO4
    have HB4 : Hid (a4.length ≤ 20) := Lib.hid (by rw [← ha4, List.length_append, HE3.out]; have := HN3.out; have := HB2.out; omega)
    have HA4 : Hid (a4 = a2 ++ sh f.id.toNat) := Lib.hid (by rw [← ha4, HY3.out])
    clear hF3 hO3 hb3 hR3 hg4 HLN3 ha4
    have q5 := hF4.c36
    have hwrst := u64_nn (x := f.st) (HL.out.resp (HKK.out)) HWF.out.st.2
    go_wp2_with fail
    refine (rUint_of f.st (HL.out.resp (HKK.out)) (by have := HWF.out.st.2; omega) _).mono ?_
    rintro e w5 ⟨v5, rfl, hP5, hc5⟩
    have hF5 := hF4.below hc5
    have hO5 := hO4.below hc5
    have hb5 := below_step hb4 hc5
    obtain ⟨A5, c5, rfl, hR5, _⟩ := hP5.reads'
    obtain ⟨y5, hy5⟩ : ∃ q, sh f.st.toNat = q := ⟨_, rfl⟩
    rw [hy5] at hR5 ⊢
    obtain ⟨n5, hn5⟩ : ∃ q, y5.length = q := ⟨_, rfl⟩
    rw [hn5] at hR5 ⊢
    have HN5 : Hid (n5 ≤ 10) := Lib.hid (by rw [← hn5, ← hy5]; exact sh_ten (by have := HWF.out.st.2; omega))
    have HLN5 : Hid (a4.length + n5 ≤ 140737488355328) := Lib.hid (by have := HN5.out; have := HB4.out; omega)
    have HY5 := Lib.hid hy5
    have HE5 := Lib.hid hn5
    clear hb4 hF4 hO4 hc5 hP5 q5 hy5 hn5
    go_wp2_with (at_builtin; refine push_row (w0 := w) w.heap.size rfl (.tmp 81) (.tmp 85) 23 y5 A5 n5 c5 rfl Try.underlying23 u8_info rfl rfl hO5 hR5 hb5 hb5.size HLN5.out ?_)
    intro v6 w6 hO6 hb6 hg6 _
    have hF6 := keepG hF5 hO5 hg6
    obtain ⟨a6, ha6⟩ : ∃ q, a4 ++ y5 = q := ⟨_, rfl⟩
    rw [ha6] at hO6
    have HB6 : Hid (a6.length ≤ 30) := Lib.hid (by rw [← ha6, List.length_append, HE5.out]; have := HN5.out; have := HB4.out; omega)
    have HA6 : Hid (a6 = a4 ++ sh f.st.toNat) := Lib.hid (by rw [← ha6, HY5.out])
    clear hF5 hO5 hb5 hR5 hg6 HLN5 ha6
    have q7 := hF6.c41
    go_wp2_with fail
    refine (rText_any f.body (by have := HL.out.body; omega)).mono ?_
    rintro e w7 ⟨v7, rfl, hP7, hc7⟩
    have hF7 := hF6.below hc7
    have hO7 := hO6.below hc7
    have hb7 := below_step hb6 hc7
    obtain ⟨A7, c7, rfl, hR7, _⟩ := hP7.reads'
    obtain ⟨y7, hy7⟩ : ∃ q, txt f.body = q := ⟨_, rfl⟩
    rw [hy7] at hR7 ⊢
    obtain ⟨n7, hn7⟩ : ∃ q, y7.length = q := ⟨_, rfl⟩
    rw [hn7] at hR7 ⊢
    have HN7 : Hid (n7 ≤ 2097162) := Lib.hid (by rw [← hn7, ← hy7]; exact Nat.le_trans (txt_length (by have := HL.out.body; omega)) (by have := HL.out.body; omega))
    have HLN7 : Hid (a6.length + n7 ≤ 140737488355328) := Lib.hid (by have := HN7.out; have := HB6.out; omega)
    have HY7 := Lib.hid hy7
    have HE7 := Lib.hid hn7
    clear hb6 hF6 hO6 hc7 hP7 q7 hy7 hn7
    go_wp2_with (at_builtin; refine push_row (w0 := w) w.heap.size rfl (.tmp 87) (.tmp 90) 23 y7 A7 n7 c7 rfl Try.underlying23 u8_info rfl rfl hO7 hR7 hb7 hb7.size HLN7.out ?_)
    intro v8 w8 hO8 hb8 hg8 _
    have hF8 := keepG hF7 hO7 hg8
    obtain ⟨a8, ha8⟩ : ∃ q, a6 ++ y7 = q := ⟨_, rfl⟩
    rw [ha8] at hO8
    have HB8 : Hid (a8.length ≤ 2097192) := Lib.hid (by rw [← ha8, List.length_append, HE7.out]; have := HN7.out; have := HB6.out; omega)
    have HA8 : Hid (a8 = a6 ++ txt f.body) := Lib.hid (by rw [← ha8, HY7.out])
    clear hF7 hO7 hb7 hR7 hg8 HLN7 ha8
    have HE : Hid (a8 = bodyF f) := Lib.hid (by rw [HA8.out, HA6.out, HA4.out, HA2.out]; unfold bodyF layF; rw [if_neg (by rw [HKK.out]; decide), if_neg (by rw [HKK.out]; decide), if_pos HKK.out]; simp only [List.append_assoc])
    rw [HE.out] at hO8
    go_wp2_with fail
    go_ret
    exact ⟨_, rfl, hO8, hb8⟩
  have b3 : (f.k == 3) = false := by rw [beq_eq_false_iff_ne]; exact k3
  by_cases k4 : f.k = 4
  · have b4 : (f.k == 4) = true := by rw [beq_iff_eq]; exact k4
    have HKK := Lib.hid k4
    clear k4
    have q3 := hF2.c1
    go_wp2_with fail
    refine (rUint_of f.id (HWF.out.id0) (HWF.out.id1) _).mono ?_
    rintro e w3 ⟨v3, rfl, hP3, hc3⟩
    have hF3 := hF2.below hc3
    have hO3 := hO2.below hc3
    have hb3 := below_step hb2 hc3
    obtain ⟨A3, c3, rfl, hR3, _⟩ := hP3.reads'
    obtain ⟨y3, hy3⟩ : ∃ q, sh f.id.toNat = q := ⟨_, rfl⟩
    rw [hy3] at hR3 ⊢
    obtain ⟨n3, hn3⟩ : ∃ q, y3.length = q := ⟨_, rfl⟩
    rw [hn3] at hR3 ⊢
    have HN3 : Hid (n3 ≤ 10) := Lib.hid (by rw [← hn3, ← hy3]; exact sh_ten (by have := HWF.out.id1; omega))
    have HLN3 : Hid (a2.length + n3 ≤ 140737488355328) := Lib.hid (by have := HN3.out; have := HB2.out; omega)
    have HY3 := Lib.hid hy3
    have HE3 := Lib.hid hn3
    clear hb2 hF2 hO2 hc3 hP3 q3 hy3 hn3
    go_wp2_with (at_builtin; refine push_row (w0 := w) w.heap.size rfl (.tmp 94) (.tmp 97) 23 y3 A3 n3 c3 rfl Try.underlying23 u8_info rfl rfl hO3 hR3 hb3 hb3.size HLN3.out ?_)
    intro v4 w4 hO4 hb4 hg4 _
    have hF4 := keepG hF3 hO3 hg4
    obtain ⟨a4, ha4⟩ : ∃ q, a2 ++ y3 = q := ⟨_, rfl⟩
    rw [ha4] at hO4
    have HB4 : Hid (a4.length ≤ 20) := Lib.hid (by rw [← ha4, List.length_append, HE3.out]; have := HN3.out; have := HB2.out; omega)
    have HA4 : Hid (a4 = a2 ++ sh f.id.toNat) := Lib.hid (by rw [← ha4, HY3.out])
    clear hF3 hO3 hb3 hR3 hg4 HLN3 ha4
    have HE : Hid (a4 = bodyF f) := Lib.hid (by rw [HA4.out, HA2.out]; unfold bodyF layF; rw [if_neg (by rw [HKK.out]; decide), if_neg (by rw [HKK.out]; decide), if_neg (by rw [HKK.out]; decide), if_pos HKK.out])
    rw [HE.out] at hO4
    go_wp2_with fail
    go_ret
    exact ⟨_, rfl, hO4, hb4⟩
  have b4 : (f.k == 4) = false := by rw [beq_eq_false_iff_ne]; exact k4
  by_cases k6 : f.k = 6
  · have b6 : (f.k == 6) = true := by rw [beq_iff_eq]; exact k6
    have HKK := Lib.hid k6
    clear k6
    have q3 := hF2.c41
    go_wp2_with fail
    refine (rText_any f.body (by have := HL.out.body; omega)).mono ?_
    rintro e w3 ⟨v3, rfl, hP3, hc3⟩
    have hF3 := hF2.below hc3
    have hO3 := hO2.below hc3
    have hb3 := below_step hb2 hc3
    obtain ⟨A3, c3, rfl, hR3, _⟩ := hP3.reads'
    obtain ⟨y3, hy3⟩ : ∃ q, txt f.body = q := ⟨_, rfl⟩
    rw [hy3] at hR3 ⊢
    obtain ⟨n3, hn3⟩ : ∃ q, y3.length = q := ⟨_, rfl⟩
    rw [hn3] at hR3 ⊢
    have HN3 : Hid (n3 ≤ 2097162) := Lib.hid (by rw [← hn3, ← hy3]; exact Nat.le_trans (txt_length (by have := HL.out.body; omega)) (by have := HL.out.body; omega))
    have HLN3 : Hid (a2.length + n3 ≤ 140737488355328) := Lib.hid (by have := HN3.out; have := HB2.out; omega)
    have HY3 := Lib.hid hy3
    have HE3 := Lib.hid hn3
    clear hb2 hF2 hO2 hc3 hP3 q3 hy3 hn3
    go_wp2_with (at_builtin; refine push_row (w0 := w) w.heap.size rfl (.tmp 101) (.tmp 104) 23 y3 A3 n3 c3 rfl Try.underlying23 u8_info rfl rfl hO3 hR3 hb3 hb3.size HLN3.out ?_)
    intro v4 w4 hO4 hb4 hg4 _
    have hF4 := keepG hF3 hO3 hg4
    obtain ⟨a4, ha4⟩ : ∃ q, a2 ++ y3 = q := ⟨_, rfl⟩
    rw [ha4] at hO4
    have HB4 : Hid (a4.length ≤ 2097172) := Lib.hid (by rw [← ha4, List.length_append, HE3.out]; have := HN3.out; have := HB2.out; omega)
    have HA4 : Hid (a4 = a2 ++ txt f.body) := Lib.hid (by rw [← ha4, HY3.out])
    clear hF3 hO3 hb3 hR3 hg4 HLN3 ha4
    have HE : Hid (a4 = bodyF f) := Lib.hid (by rw [HA4.out, HA2.out]; unfold bodyF layF; rw [if_neg (by rw [HKK.out]; decide), if_neg (by rw [HKK.out]; decide), if_neg (by rw [HKK.out]; decide), if_neg (by rw [HKK.out]; decide), if_pos HKK.out])
    rw [HE.out] at hO4
    go_wp2_with fail
    go_ret
    exact ⟨_, rfl, hO4, hb4⟩
  have b6 : (f.k == 6) = false := by rw [beq_eq_false_iff_ne]; exact k6
  have HE : Hid (a2 = bodyF f) := Lib.hid (by rw [HA2.out]; unfold bodyF layF; rw [if_neg k1, if_neg k2, if_neg k3, if_neg k4, if_neg k6, List.append_nil])
  rw [HE.out] at hO2
  clear k1 k2 k3 k4 k6
  go_wp2_with fail
  go_ret
  exact ⟨_, rfl, hO2, hb2⟩
end
end Go.Proofs.Ytpjpgcjhdbiepaa
end
/-! The contracts of the document's Check and Encode. (mk_frzc.py) -/
section
namespace Go.Proofs.Ytpjpgcjhdbiepaa
open Go.RowKit Go.Kit Go.Proofs.YtpjpgcjhdbiepaaW.PrintWords
section
variable {f : Fr} {w : World}
theorem same_sym2 (f g : Fr) (s : Bool) (h : g.same f = s) : f.same g = s := by rw [same_sym]; exact h
theorem ne_true {b : Bool} (h : b = false) : ¬ b = true := by rw [h]; exact Bool.false_ne_true
/-- The round of the document's Check. -/
def CkLoop (f : Fr) (w4 : World) (gk : Nat) (v3 v4 : Value) (w' : World) : Prop := ∃ (i : Nat) (b : Bool), v4 = .int .i64 (i : Int) ∧ v3 = .bool b ∧ w' = w4 ∧
  Hid (i ≤ f.n ∧ (b = false → ∀ j, j < i → ∀ s, f.args[j]? = some s → s.size ≤ 4096) ∧ (b = true → ∃ s ∈ f.args, 4096 < s.size) ∧ gk = f.n - i)
/-- The loads of a frame's fields. -/
structure Lds (f : Fr) (g : Nat) (W : World) : Prop where
  k : (Instr.loadAt 3 (.pointer (some ⟨g, 0, none⟩))).run Try.prog W = .ok (.int .i64 f.k) W
  v : (Instr.loadAt 3 (.pointer (some ⟨g, 2, none⟩))).run Try.prog W = .ok (.int .i64 f.v) W
  s : (Instr.loadAt 3 (.pointer (some ⟨g, 3, none⟩))).run Try.prog W = .ok (.int .i64 f.s) W
  st : (Instr.loadAt 3 (.pointer (some ⟨g, 36, none⟩))).run Try.prog W = .ok (.int .i64 f.st) W
  mo : (Instr.loadAt 3 (.pointer (some ⟨g, 37, none⟩))).run Try.prog W = .ok (.int .i64 f.mo) W
  fu : (Instr.loadAt 3 (.pointer (some ⟨g, 38, none⟩))).run Try.prog W = .ok (.int .i64 f.fu) W
  di : (Instr.loadAt 3 (.pointer (some ⟨g, 39, none⟩))).run Try.prog W = .ok (.int .i64 f.di) W
  args : (Instr.loadAt 40 (.pointer (some ⟨g, 40, none⟩))).run Try.prog W = .ok (.slice f.A f.n f.c) W
  body : (Instr.loadAt 9 (.pointer (some ⟨g, 41, none⟩))).run Try.prog W = .ok (.string f.body) W
theorem lds {W : World} {g : Nat} (h : f.at_ 42 W g) : Lds f g W :=
  ⟨load_int h.c0, load_int h.c2, load_int h.c3, load_int h.c36, load_int h.c37, load_int h.c38, load_int h.c39, load_txts h.c40, load_str h.c41⟩
theorem load_s {W : World} {a : Addr} {v : Value} (h : W.cell? a = some v) : (Instr.loadAt 9 (.pointer (some a))).run Try.prog W = .ok v W := load_str h
attribute [-go_sem] Instr.loadAt
set_option maxHeartbeats 16000000 in
set_option maxRecDepth 100000 in
theorem rCheck_any (hf : f.ok w) (hw : f.wf) (ha : ∀ s ∈ f.args, s.size ≤ 9223372036854775807) : Calls Try.prog 22 #[f.val] w fun e w' => e = .returned (.int .i64 (chkF f)) ∧ Below w.heap.size w w' := by
  have hb := below_alloc (Below.refl _ w) (.cells f.arr 42)
  have hF := boxed hf.tool w
  have hmx := hf.args.max
  have hif : (Try.prog.info? 42).map (·.size) = some f.cells.length := by rw [frame_size]; have := Fr.arr_size f hf.tool; simp [Fr.arr] at this; rw [this]
  show Calls Try.prog _ #[.agg f.arr] w _
  obtain ⟨c, hc⟩ : ∃ c, chkF f = c := ⟨_, rfl⟩
  rw [hc]
  have HC := Lib.hid hc
  clear hc
  have HOK := Lib.hid hf
  have HWF := Lib.hid hw
  have HHA := Lib.hid ha
  clear hf hw ha
  go_enter Try.func22, Try.ntmps22
  go_upto_region 1 with (fail)
  generalize w.alloc (.cells f.arr 42) = w1 at *
  obtain ⟨g, hg⟩ : ∃ g, w.heap.size = g := ⟨_, rfl⟩
  rw [hg] at hF ⊢
  clear hg
  have hl0 : ∀ W, f.at_ 42 W g → (Instr.loadAt 3 (.pointer (some ⟨g, 0, none⟩))).run Try.prog W = .ok (.int .i64 f.k) W := fun W h => load_int h.c0
  have hl1 : ∀ W, f.at_ 42 W g → (Instr.loadAt 42 (.pointer (some ⟨g, 0, none⟩))).run Try.prog W = .ok (.agg f.arr) W := fun W h => load_frame f hif W _ h
  have hl2 : ∀ W, f.at_ 42 W g → (Instr.loadAt 40 (.pointer (some ⟨g, 40, none⟩))).run Try.prog W = .ok (.slice f.A f.n f.c) W := fun W h => load_txts h.c40
  have hbd : Below w.heap.size w w1.drew := below_step hb (below_drew (Below.refl _ _))
  have hFd : f.at_ 42 w1.drew g := hF.below (below_drew (Below.refl _ _))
  by_cases k1 : f.k < 1
  · have d1 : decide (f.k < 1) = true := decide_eq_true k1
    have HX : Hid (c = 70) := Lib.hid (by rw [← HC.out]; exact chk_no (fun h => by have := h.k1; omega))
    refine wp_region_held_drew (S := fun W => f.at_ 42 W g) (by kernel_rfl) (hFd) (fun hHeld => ?_)
    refine wpAnyH_take (i := 0) (v := (.pointer (some ⟨g, 0, none⟩))) (oi := ⟨_, _, _, _, _, _⟩) rfl (by kernel_rfl) (by kernel_rfl) (by kernel_rfl) (fun _ _ _ h => h) (Or.inl ⟨by kernel_rfl, fun W hS => ?_⟩) (by assumption) ?_
    · dsimp only at hS; go_split_ands; go_simp
    simp only [Act.put, List.setIfInBounds_toArray, List.set_cons_zero, List.set_cons_succ]
    refine wpAnyH_take (i := 1) (v := (.int .i64 f.k)) (oi := ⟨_, _, _, _, _, _⟩) rfl (by kernel_rfl) (by kernel_rfl) (by kernel_rfl) (fun _ _ _ h => h) (Or.inl ⟨by kernel_rfl, fun W hS => ?_⟩) (by assumption) ?_
    · dsimp only at hS; go_split_ands; go_simp
    simp only [Act.put, List.setIfInBounds_toArray, List.set_cons_zero, List.set_cons_succ]
    refine wpAnyH_take (i := 2) (v := (.bool true)) (oi := ⟨_, _, _, _, _, _⟩) rfl (by kernel_rfl) (by kernel_rfl) (by kernel_rfl) (fun _ _ _ h => h) (Or.inl ⟨by kernel_rfl, fun W hS => ?_⟩) (by assumption) ?_
    · dsimp only at hS; go_split_ands; go_simp
    simp only [Act.put, List.setIfInBounds_toArray, List.set_cons_zero, List.set_cons_succ]
    refine wpAnyH_take (i := 3) (v := (.bool true)) (oi := ⟨_, _, _, _, _, _⟩) rfl (by kernel_rfl) (by kernel_rfl) (by kernel_rfl) (fun _ _ _ h => h) (Or.inl ⟨by kernel_rfl, fun W hS => ?_⟩) (by assumption) ?_
    · dsimp only at hS; go_split_ands; go_simp
    simp only [Act.put, List.setIfInBounds_toArray, List.set_cons_zero, List.set_cons_succ]
    refine wpAnyH_ready (rs := [4]) (by kernel_rfl) (by decide) (AllReadyH.cons (o := ⟨_, _, _, _, _, _⟩) rfl (fun K hK => ?_) AllReadyH.nil)
    rw [if_neg (ne_true (by kernel_rfl))]
    refine hK.out _ _ (hHeld) (fun hHeld => ?_)
    clear hK K
    try simp only [Act.put, List.setIfInBounds_toArray, List.set_cons_zero, List.set_cons_succ]
    refine wpAnyH_ready (rs := [5]) (by kernel_rfl) (by decide) (AllReadyH.cons (o := ⟨_, _, _, _, _, _⟩) rfl (fun K hK => ?_) AllReadyH.nil)
    rw [if_neg (ne_true (by kernel_rfl))]
    refine hK.out _ _ (hHeld) (fun hHeld => ?_)
    clear hK K
    try simp only [Act.put, List.setIfInBounds_toArray, List.set_cons_zero, List.set_cons_succ]
    refine wpAnyH_ready (rs := [6]) (by kernel_rfl) (by decide) (AllReadyH.cons (o := ⟨_, _, _, _, _, _⟩) rfl (fun K hK => ?_) AllReadyH.nil)
    rw [if_neg (ne_true (by kernel_rfl))]
    refine hK.out _ _ (hHeld) (fun hHeld => ?_)
    clear hK K
    try simp only [Act.put, List.setIfInBounds_toArray, List.set_cons_zero, List.set_cons_succ]
    refine wpAnyH_take (i := 7) (v := (.bool true)) (oi := ⟨_, _, _, _, _, _⟩) rfl (by kernel_rfl) (by kernel_rfl) (by kernel_rfl) (fun _ _ _ h => h) (Or.inl ⟨by kernel_rfl, fun W hS => ?_⟩) (by assumption) ?_
    · dsimp only at hS; go_split_ands; go_simp
    simp only [Act.put, List.setIfInBounds_toArray, List.set_cons_zero, List.set_cons_succ]
    refine wpAnyH_take (i := 8) (v := (.bool true)) (oi := ⟨_, _, _, _, _, _⟩) rfl (by kernel_rfl) (by kernel_rfl) (by kernel_rfl) (fun _ _ _ h => h) (Or.inl ⟨by kernel_rfl, fun W hS => ?_⟩) (by assumption) ?_
    · dsimp only at hS; go_split_ands; go_simp
    simp only [Act.put, List.setIfInBounds_toArray, List.set_cons_zero, List.set_cons_succ]
    refine wpAnyH_ready (rs := [9, 10]) (by kernel_rfl) (by decide) (AllReadyH.cons (o := ⟨_, _, _, _, _, _⟩) rfl (fun K hK => ?_) (AllReadyH.cons (o := ⟨_, _, _, _, _, _⟩) rfl (fun K hK => ?_) AllReadyH.nil))
    · skip
      rw [if_neg (ne_true (by kernel_rfl))]
      refine hK.out _ _ (hHeld) (fun hHeld => ?_)
      clear hK K
      try simp only [Act.put, List.setIfInBounds_toArray, List.set_cons_zero, List.set_cons_succ]
      refine wpAnyH_ready (rs := [10]) (by kernel_rfl) (by decide) (AllReadyH.cons (o := ⟨_, _, _, _, _, _⟩) rfl (fun K hK => ?_) AllReadyH.nil)
      rw [if_neg (ne_true (by kernel_rfl))]
      refine hK.out _ _ (hHeld) (fun hHeld => ?_)
      clear hK K
      try simp only [Act.put, List.setIfInBounds_toArray, List.set_cons_zero, List.set_cons_succ]
      refine wpAnyH_ready (rs := [11]) (by kernel_rfl) (by decide) (AllReadyH.cons (o := ⟨_, _, _, _, _, _⟩) rfl (fun K hK => ?_) AllReadyH.nil)
      rw [if_neg (ne_true (by kernel_rfl))]
      refine hK.out _ _ (hHeld) (fun hHeld => ?_)
      clear hK K
      try simp only [Act.put, List.setIfInBounds_toArray, List.set_cons_zero, List.set_cons_succ]
      refine wpAnyH_ready (rs := [12]) (by kernel_rfl) (by decide) (AllReadyH.cons (o := ⟨_, _, _, _, _, _⟩) rfl (fun K hK => ?_) AllReadyH.nil)
      rw [if_neg (ne_true (by kernel_rfl))]
      refine hK.out _ _ (hHeld) (fun hHeld => ?_)
      clear hK K
      try simp only [Act.put, List.setIfInBounds_toArray, List.set_cons_zero, List.set_cons_succ]
      refine wpAnyH_ready (rs := [13]) (by kernel_rfl) (by decide) (AllReadyH.cons (o := ⟨_, _, _, _, _, _⟩) rfl (fun K hK => ?_) AllReadyH.nil)
      rw [if_neg (ne_true (by kernel_rfl))]
      refine hK.out _ _ (hHeld) (fun hHeld => ?_)
      clear hK K
      try simp only [Act.put, List.setIfInBounds_toArray, List.set_cons_zero, List.set_cons_succ]
      refine wpAnyH_take (i := 14) (v := (.bool true)) (oi := ⟨_, _, _, _, _, _⟩) rfl (by kernel_rfl) (by kernel_rfl) (by kernel_rfl) (fun _ _ _ h => h) (Or.inl ⟨by kernel_rfl, fun W hS => ?_⟩) (by assumption) ?_
      · dsimp only at hS; go_split_ands; go_simp
      simp only [Act.put, List.setIfInBounds_toArray, List.set_cons_zero, List.set_cons_succ]
      refine wpAnyH_take (i := 15) (v := (.bool true)) (oi := ⟨_, _, _, _, _, _⟩) rfl (by kernel_rfl) (by kernel_rfl) (by kernel_rfl) (fun _ _ _ h => h) (Or.inl ⟨by kernel_rfl, fun W hS => ?_⟩) (by assumption) ?_
      · dsimp only at hS; go_split_ands; go_simp
      simp only [Act.put, List.setIfInBounds_toArray, List.set_cons_zero, List.set_cons_succ]
      refine wpAnyH_ready (rs := [16]) (by kernel_rfl) (by decide) (AllReadyH.cons (o := ⟨_, _, _, _, _, _⟩) rfl (fun K hK => ?_) AllReadyH.nil)
      rw [if_neg (ne_true (by kernel_rfl))]
      refine hK.out _ _ (hHeld) (fun hHeld => ?_)
      clear hK K
      try simp only [Act.put, List.setIfInBounds_toArray, List.set_cons_zero, List.set_cons_succ]
      refine wpAnyH_ready (rs := [17]) (by kernel_rfl) (by decide) (AllReadyH.cons (o := ⟨_, _, _, _, _, _⟩) rfl (fun K hK => ?_) AllReadyH.nil)
      rw [if_neg (ne_true (by kernel_rfl))]
      refine hK.out _ _ (hHeld) (fun hHeld => ?_)
      clear hK K
      try simp only [Act.put, List.setIfInBounds_toArray, List.set_cons_zero, List.set_cons_succ]
      refine wpAnyH_ready (rs := [18]) (by kernel_rfl) (by decide) (AllReadyH.cons (o := ⟨_, _, _, _, _, _⟩) rfl (fun K hK => ?_) AllReadyH.nil)
      rw [if_neg (ne_true (by kernel_rfl))]
      refine hK.out _ _ (hHeld) (fun hHeld => ?_)
      clear hK K
      try simp only [Act.put, List.setIfInBounds_toArray, List.set_cons_zero, List.set_cons_succ]
      refine wpAnyH_ready (rs := [19]) (by kernel_rfl) (by decide) (AllReadyH.cons (o := ⟨_, _, _, _, _, _⟩) rfl (fun K hK => ?_) AllReadyH.nil)
      rw [if_neg (ne_true (by kernel_rfl))]
      refine hK.out _ _ (hHeld) (fun hHeld => ?_)
      clear hK K
      try simp only [Act.put, List.setIfInBounds_toArray, List.set_cons_zero, List.set_cons_succ]
      refine wpAnyH_take (i := 20) (v := (.bool true)) (oi := ⟨_, _, _, _, _, _⟩) rfl (by kernel_rfl) (by kernel_rfl) (by kernel_rfl) (fun _ _ _ h => h) (Or.inl ⟨by kernel_rfl, fun W hS => ?_⟩) (by assumption) ?_
      · dsimp only at hS; go_split_ands; go_simp
      simp only [Act.put, List.setIfInBounds_toArray, List.set_cons_zero, List.set_cons_succ]
      refine wpAnyH_take (i := 21) (v := (.bool true)) (oi := ⟨_, _, _, _, _, _⟩) rfl (by kernel_rfl) (by kernel_rfl) (by kernel_rfl) (fun _ _ _ h => h) (Or.inl ⟨by kernel_rfl, fun W hS => ?_⟩) (by assumption) ?_
      · dsimp only at hS; go_split_ands; go_simp
      simp only [Act.put, List.setIfInBounds_toArray, List.set_cons_zero, List.set_cons_succ]
      refine wpAnyH_done (by kernel_rfl) ?_ _
      try simp only [Act.put, List.setIfInBounds_toArray, List.set_cons_zero, List.set_cons_succ]
      have L := lds hFd
      have l0 := L.k; have l1 := L.v; have l2 := L.s; have l3 := L.st; have l4 := L.mo; have l5 := L.fu; have l6 := L.di; have l7 := L.args; have l8 := L.body
      clear L
      go_wp2_with fail
      go_loopg [3, 4] 1 (fun gk v3 v4 w' => v3 = .bool true ∧ v4 = .int .i64 0 ∧ w' = w1.drew)
      case atStart => exact ⟨rfl, rfl, rfl⟩
      case round =>
        obtain ⟨rfl, rfl, rfl⟩ := hrel
        go_wp2_with fail
        all_goals
          go_ret
          exact ⟨by rw [HX.out]; rfl, hbd⟩
    · skip
      rw [if_neg (ne_true (by kernel_rfl))]
      refine hK.out _ _ (hHeld) (fun hHeld => ?_)
      clear hK K
      try simp only [Act.put, List.setIfInBounds_toArray, List.set_cons_zero, List.set_cons_succ]
      refine wpAnyH_ready (rs := [9, 11]) (by kernel_rfl) (by decide) (AllReadyH.cons (o := ⟨_, _, _, _, _, _⟩) rfl (fun K hK => ?_) (AllReadyH.cons (o := ⟨_, _, _, _, _, _⟩) rfl (fun K hK => ?_) AllReadyH.nil))
      · skip
        rw [if_neg (ne_true (by kernel_rfl))]
        refine hK.out _ _ (hHeld) (fun hHeld => ?_)
        clear hK K
        try simp only [Act.put, List.setIfInBounds_toArray, List.set_cons_zero, List.set_cons_succ]
        refine wpAnyH_ready (rs := [11]) (by kernel_rfl) (by decide) (AllReadyH.cons (o := ⟨_, _, _, _, _, _⟩) rfl (fun K hK => ?_) AllReadyH.nil)
        rw [if_neg (ne_true (by kernel_rfl))]
        refine hK.out _ _ (hHeld) (fun hHeld => ?_)
        clear hK K
        try simp only [Act.put, List.setIfInBounds_toArray, List.set_cons_zero, List.set_cons_succ]
        refine wpAnyH_ready (rs := [12]) (by kernel_rfl) (by decide) (AllReadyH.cons (o := ⟨_, _, _, _, _, _⟩) rfl (fun K hK => ?_) AllReadyH.nil)
        rw [if_neg (ne_true (by kernel_rfl))]
        refine hK.out _ _ (hHeld) (fun hHeld => ?_)
        clear hK K
        try simp only [Act.put, List.setIfInBounds_toArray, List.set_cons_zero, List.set_cons_succ]
        refine wpAnyH_ready (rs := [13]) (by kernel_rfl) (by decide) (AllReadyH.cons (o := ⟨_, _, _, _, _, _⟩) rfl (fun K hK => ?_) AllReadyH.nil)
        rw [if_neg (ne_true (by kernel_rfl))]
        refine hK.out _ _ (hHeld) (fun hHeld => ?_)
        clear hK K
        try simp only [Act.put, List.setIfInBounds_toArray, List.set_cons_zero, List.set_cons_succ]
        refine wpAnyH_take (i := 14) (v := (.bool true)) (oi := ⟨_, _, _, _, _, _⟩) rfl (by kernel_rfl) (by kernel_rfl) (by kernel_rfl) (fun _ _ _ h => h) (Or.inl ⟨by kernel_rfl, fun W hS => ?_⟩) (by assumption) ?_
        · dsimp only at hS; go_split_ands; go_simp
        simp only [Act.put, List.setIfInBounds_toArray, List.set_cons_zero, List.set_cons_succ]
        refine wpAnyH_take (i := 15) (v := (.bool true)) (oi := ⟨_, _, _, _, _, _⟩) rfl (by kernel_rfl) (by kernel_rfl) (by kernel_rfl) (fun _ _ _ h => h) (Or.inl ⟨by kernel_rfl, fun W hS => ?_⟩) (by assumption) ?_
        · dsimp only at hS; go_split_ands; go_simp
        simp only [Act.put, List.setIfInBounds_toArray, List.set_cons_zero, List.set_cons_succ]
        refine wpAnyH_ready (rs := [16]) (by kernel_rfl) (by decide) (AllReadyH.cons (o := ⟨_, _, _, _, _, _⟩) rfl (fun K hK => ?_) AllReadyH.nil)
        rw [if_neg (ne_true (by kernel_rfl))]
        refine hK.out _ _ (hHeld) (fun hHeld => ?_)
        clear hK K
        try simp only [Act.put, List.setIfInBounds_toArray, List.set_cons_zero, List.set_cons_succ]
        refine wpAnyH_ready (rs := [17]) (by kernel_rfl) (by decide) (AllReadyH.cons (o := ⟨_, _, _, _, _, _⟩) rfl (fun K hK => ?_) AllReadyH.nil)
        rw [if_neg (ne_true (by kernel_rfl))]
        refine hK.out _ _ (hHeld) (fun hHeld => ?_)
        clear hK K
        try simp only [Act.put, List.setIfInBounds_toArray, List.set_cons_zero, List.set_cons_succ]
        refine wpAnyH_ready (rs := [18]) (by kernel_rfl) (by decide) (AllReadyH.cons (o := ⟨_, _, _, _, _, _⟩) rfl (fun K hK => ?_) AllReadyH.nil)
        rw [if_neg (ne_true (by kernel_rfl))]
        refine hK.out _ _ (hHeld) (fun hHeld => ?_)
        clear hK K
        try simp only [Act.put, List.setIfInBounds_toArray, List.set_cons_zero, List.set_cons_succ]
        refine wpAnyH_ready (rs := [19]) (by kernel_rfl) (by decide) (AllReadyH.cons (o := ⟨_, _, _, _, _, _⟩) rfl (fun K hK => ?_) AllReadyH.nil)
        rw [if_neg (ne_true (by kernel_rfl))]
        refine hK.out _ _ (hHeld) (fun hHeld => ?_)
        clear hK K
        try simp only [Act.put, List.setIfInBounds_toArray, List.set_cons_zero, List.set_cons_succ]
        refine wpAnyH_take (i := 20) (v := (.bool true)) (oi := ⟨_, _, _, _, _, _⟩) rfl (by kernel_rfl) (by kernel_rfl) (by kernel_rfl) (fun _ _ _ h => h) (Or.inl ⟨by kernel_rfl, fun W hS => ?_⟩) (by assumption) ?_
        · dsimp only at hS; go_split_ands; go_simp
        simp only [Act.put, List.setIfInBounds_toArray, List.set_cons_zero, List.set_cons_succ]
        refine wpAnyH_take (i := 21) (v := (.bool true)) (oi := ⟨_, _, _, _, _, _⟩) rfl (by kernel_rfl) (by kernel_rfl) (by kernel_rfl) (fun _ _ _ h => h) (Or.inl ⟨by kernel_rfl, fun W hS => ?_⟩) (by assumption) ?_
        · dsimp only at hS; go_split_ands; go_simp
        simp only [Act.put, List.setIfInBounds_toArray, List.set_cons_zero, List.set_cons_succ]
        refine wpAnyH_done (by kernel_rfl) ?_ _
        try simp only [Act.put, List.setIfInBounds_toArray, List.set_cons_zero, List.set_cons_succ]
        have L := lds hFd
        have l0 := L.k; have l1 := L.v; have l2 := L.s; have l3 := L.st; have l4 := L.mo; have l5 := L.fu; have l6 := L.di; have l7 := L.args; have l8 := L.body
        clear L
        go_wp2_with fail
        go_loopg [3, 4] 1 (fun gk v3 v4 w' => v3 = .bool true ∧ v4 = .int .i64 0 ∧ w' = w1.drew)
        case atStart => exact ⟨rfl, rfl, rfl⟩
        case round =>
          obtain ⟨rfl, rfl, rfl⟩ := hrel
          go_wp2_with fail
          all_goals
            go_ret
            exact ⟨by rw [HX.out]; rfl, hbd⟩
      · skip
        rw [if_neg (ne_true (by kernel_rfl))]
        refine hK.out _ _ (hHeld) (fun hHeld => ?_)
        clear hK K
        try simp only [Act.put, List.setIfInBounds_toArray, List.set_cons_zero, List.set_cons_succ]
        refine wpAnyH_ready (rs := [9]) (by kernel_rfl) (by decide) (AllReadyH.cons (o := ⟨_, _, _, _, _, _⟩) rfl (fun K hK => ?_) AllReadyH.nil)
        rw [if_neg (ne_true (by kernel_rfl))]
        refine hK.out _ _ (hHeld) (fun hHeld => ?_)
        clear hK K
        try simp only [Act.put, List.setIfInBounds_toArray, List.set_cons_zero, List.set_cons_succ]
        refine wpAnyH_ready (rs := [12]) (by kernel_rfl) (by decide) (AllReadyH.cons (o := ⟨_, _, _, _, _, _⟩) rfl (fun K hK => ?_) AllReadyH.nil)
        rw [if_neg (ne_true (by kernel_rfl))]
        refine hK.out _ _ (hHeld) (fun hHeld => ?_)
        clear hK K
        try simp only [Act.put, List.setIfInBounds_toArray, List.set_cons_zero, List.set_cons_succ]
        refine wpAnyH_ready (rs := [13]) (by kernel_rfl) (by decide) (AllReadyH.cons (o := ⟨_, _, _, _, _, _⟩) rfl (fun K hK => ?_) AllReadyH.nil)
        rw [if_neg (ne_true (by kernel_rfl))]
        refine hK.out _ _ (hHeld) (fun hHeld => ?_)
        clear hK K
        try simp only [Act.put, List.setIfInBounds_toArray, List.set_cons_zero, List.set_cons_succ]
        refine wpAnyH_take (i := 14) (v := (.bool true)) (oi := ⟨_, _, _, _, _, _⟩) rfl (by kernel_rfl) (by kernel_rfl) (by kernel_rfl) (fun _ _ _ h => h) (Or.inl ⟨by kernel_rfl, fun W hS => ?_⟩) (by assumption) ?_
        · dsimp only at hS; go_split_ands; go_simp
        simp only [Act.put, List.setIfInBounds_toArray, List.set_cons_zero, List.set_cons_succ]
        refine wpAnyH_take (i := 15) (v := (.bool true)) (oi := ⟨_, _, _, _, _, _⟩) rfl (by kernel_rfl) (by kernel_rfl) (by kernel_rfl) (fun _ _ _ h => h) (Or.inl ⟨by kernel_rfl, fun W hS => ?_⟩) (by assumption) ?_
        · dsimp only at hS; go_split_ands; go_simp
        simp only [Act.put, List.setIfInBounds_toArray, List.set_cons_zero, List.set_cons_succ]
        refine wpAnyH_ready (rs := [16]) (by kernel_rfl) (by decide) (AllReadyH.cons (o := ⟨_, _, _, _, _, _⟩) rfl (fun K hK => ?_) AllReadyH.nil)
        rw [if_neg (ne_true (by kernel_rfl))]
        refine hK.out _ _ (hHeld) (fun hHeld => ?_)
        clear hK K
        try simp only [Act.put, List.setIfInBounds_toArray, List.set_cons_zero, List.set_cons_succ]
        refine wpAnyH_ready (rs := [17]) (by kernel_rfl) (by decide) (AllReadyH.cons (o := ⟨_, _, _, _, _, _⟩) rfl (fun K hK => ?_) AllReadyH.nil)
        rw [if_neg (ne_true (by kernel_rfl))]
        refine hK.out _ _ (hHeld) (fun hHeld => ?_)
        clear hK K
        try simp only [Act.put, List.setIfInBounds_toArray, List.set_cons_zero, List.set_cons_succ]
        refine wpAnyH_ready (rs := [18]) (by kernel_rfl) (by decide) (AllReadyH.cons (o := ⟨_, _, _, _, _, _⟩) rfl (fun K hK => ?_) AllReadyH.nil)
        rw [if_neg (ne_true (by kernel_rfl))]
        refine hK.out _ _ (hHeld) (fun hHeld => ?_)
        clear hK K
        try simp only [Act.put, List.setIfInBounds_toArray, List.set_cons_zero, List.set_cons_succ]
        refine wpAnyH_ready (rs := [19]) (by kernel_rfl) (by decide) (AllReadyH.cons (o := ⟨_, _, _, _, _, _⟩) rfl (fun K hK => ?_) AllReadyH.nil)
        rw [if_neg (ne_true (by kernel_rfl))]
        refine hK.out _ _ (hHeld) (fun hHeld => ?_)
        clear hK K
        try simp only [Act.put, List.setIfInBounds_toArray, List.set_cons_zero, List.set_cons_succ]
        refine wpAnyH_take (i := 20) (v := (.bool true)) (oi := ⟨_, _, _, _, _, _⟩) rfl (by kernel_rfl) (by kernel_rfl) (by kernel_rfl) (fun _ _ _ h => h) (Or.inl ⟨by kernel_rfl, fun W hS => ?_⟩) (by assumption) ?_
        · dsimp only at hS; go_split_ands; go_simp
        simp only [Act.put, List.setIfInBounds_toArray, List.set_cons_zero, List.set_cons_succ]
        refine wpAnyH_take (i := 21) (v := (.bool true)) (oi := ⟨_, _, _, _, _, _⟩) rfl (by kernel_rfl) (by kernel_rfl) (by kernel_rfl) (fun _ _ _ h => h) (Or.inl ⟨by kernel_rfl, fun W hS => ?_⟩) (by assumption) ?_
        · dsimp only at hS; go_split_ands; go_simp
        simp only [Act.put, List.setIfInBounds_toArray, List.set_cons_zero, List.set_cons_succ]
        refine wpAnyH_done (by kernel_rfl) ?_ _
        try simp only [Act.put, List.setIfInBounds_toArray, List.set_cons_zero, List.set_cons_succ]
        have L := lds hFd
        have l0 := L.k; have l1 := L.v; have l2 := L.s; have l3 := L.st; have l4 := L.mo; have l5 := L.fu; have l6 := L.di; have l7 := L.args; have l8 := L.body
        clear L
        go_wp2_with fail
        go_loopg [3, 4] 1 (fun gk v3 v4 w' => v3 = .bool true ∧ v4 = .int .i64 0 ∧ w' = w1.drew)
        case atStart => exact ⟨rfl, rfl, rfl⟩
        case round =>
          obtain ⟨rfl, rfl, rfl⟩ := hrel
          go_wp2_with fail
          all_goals
            go_ret
            exact ⟨by rw [HX.out]; rfl, hbd⟩
  have d1 : decide (f.k < 1) = false := decide_eq_false k1
  by_cases k6 : 6 < f.k
  · have d6 : decide (6 < f.k) = true := decide_eq_true k6
    have HX : Hid (c = 70) := Lib.hid (by rw [← HC.out]; exact chk_no (fun h => by have := h.k6; omega))
    refine wp_region_held_drew (S := fun W => f.at_ 42 W g) (by kernel_rfl) (hFd) (fun hHeld => ?_)
    refine wpAnyH_take (i := 0) (v := (.pointer (some ⟨g, 0, none⟩))) (oi := ⟨_, _, _, _, _, _⟩) rfl (by kernel_rfl) (by kernel_rfl) (by kernel_rfl) (fun _ _ _ h => h) (Or.inl ⟨by kernel_rfl, fun W hS => ?_⟩) (by assumption) ?_
    · dsimp only at hS; go_split_ands; go_simp
    simp only [Act.put, List.setIfInBounds_toArray, List.set_cons_zero, List.set_cons_succ]
    refine wpAnyH_take (i := 1) (v := (.int .i64 f.k)) (oi := ⟨_, _, _, _, _, _⟩) rfl (by kernel_rfl) (by kernel_rfl) (by kernel_rfl) (fun _ _ _ h => h) (Or.inl ⟨by kernel_rfl, fun W hS => ?_⟩) (by assumption) ?_
    · dsimp only at hS; go_split_ands; go_simp
    simp only [Act.put, List.setIfInBounds_toArray, List.set_cons_zero, List.set_cons_succ]
    refine wpAnyH_take (i := 2) (v := (.bool false)) (oi := ⟨_, _, _, _, _, _⟩) rfl (by kernel_rfl) (by kernel_rfl) (by kernel_rfl) (fun _ _ _ h => h) (Or.inl ⟨by kernel_rfl, fun W hS => ?_⟩) (by assumption) ?_
    · dsimp only at hS; go_split_ands; go_simp
    simp only [Act.put, List.setIfInBounds_toArray, List.set_cons_zero, List.set_cons_succ]
    refine wpAnyH_take (i := 3) (v := (.bool false)) (oi := ⟨_, _, _, _, _, _⟩) rfl (by kernel_rfl) (by kernel_rfl) (by kernel_rfl) (fun _ _ _ h => h) (Or.inl ⟨by kernel_rfl, fun W hS => ?_⟩) (by assumption) ?_
    · dsimp only at hS; go_split_ands; go_simp
    simp only [Act.put, List.setIfInBounds_toArray, List.set_cons_zero, List.set_cons_succ]
    refine wpAnyH_take (i := 4) (v := (.pointer (some ⟨g, 0, none⟩))) (oi := ⟨_, _, _, _, _, _⟩) rfl (by kernel_rfl) (by kernel_rfl) (by kernel_rfl) (fun _ _ _ h => h) (Or.inl ⟨by kernel_rfl, fun W hS => ?_⟩) (by assumption) ?_
    · dsimp only at hS; go_split_ands; go_simp
    simp only [Act.put, List.setIfInBounds_toArray, List.set_cons_zero, List.set_cons_succ]
    refine wpAnyH_take (i := 5) (v := (.int .i64 f.k)) (oi := ⟨_, _, _, _, _, _⟩) rfl (by kernel_rfl) (by kernel_rfl) (by kernel_rfl) (fun _ _ _ h => h) (Or.inl ⟨by kernel_rfl, fun W hS => ?_⟩) (by assumption) ?_
    · dsimp only at hS; go_split_ands; go_simp
    simp only [Act.put, List.setIfInBounds_toArray, List.set_cons_zero, List.set_cons_succ]
    refine wpAnyH_take (i := 6) (v := (.bool true)) (oi := ⟨_, _, _, _, _, _⟩) rfl (by kernel_rfl) (by kernel_rfl) (by kernel_rfl) (fun _ _ _ h => h) (Or.inl ⟨by kernel_rfl, fun W hS => ?_⟩) (by assumption) ?_
    · dsimp only at hS; go_split_ands; go_simp
    simp only [Act.put, List.setIfInBounds_toArray, List.set_cons_zero, List.set_cons_succ]
    refine wpAnyH_take (i := 7) (v := (.bool true)) (oi := ⟨_, _, _, _, _, _⟩) rfl (by kernel_rfl) (by kernel_rfl) (by kernel_rfl) (fun _ _ _ h => h) (Or.inl ⟨by kernel_rfl, fun W hS => ?_⟩) (by assumption) ?_
    · dsimp only at hS; go_split_ands; go_simp
    simp only [Act.put, List.setIfInBounds_toArray, List.set_cons_zero, List.set_cons_succ]
    refine wpAnyH_take (i := 8) (v := (.bool true)) (oi := ⟨_, _, _, _, _, _⟩) rfl (by kernel_rfl) (by kernel_rfl) (by kernel_rfl) (fun _ _ _ h => h) (Or.inl ⟨by kernel_rfl, fun W hS => ?_⟩) (by assumption) ?_
    · dsimp only at hS; go_split_ands; go_simp
    simp only [Act.put, List.setIfInBounds_toArray, List.set_cons_zero, List.set_cons_succ]
    refine wpAnyH_ready (rs := [9, 10]) (by kernel_rfl) (by decide) (AllReadyH.cons (o := ⟨_, _, _, _, _, _⟩) rfl (fun K hK => ?_) (AllReadyH.cons (o := ⟨_, _, _, _, _, _⟩) rfl (fun K hK => ?_) AllReadyH.nil))
    · skip
      rw [if_neg (ne_true (by kernel_rfl))]
      refine hK.out _ _ (hHeld) (fun hHeld => ?_)
      clear hK K
      try simp only [Act.put, List.setIfInBounds_toArray, List.set_cons_zero, List.set_cons_succ]
      refine wpAnyH_ready (rs := [10]) (by kernel_rfl) (by decide) (AllReadyH.cons (o := ⟨_, _, _, _, _, _⟩) rfl (fun K hK => ?_) AllReadyH.nil)
      rw [if_neg (ne_true (by kernel_rfl))]
      refine hK.out _ _ (hHeld) (fun hHeld => ?_)
      clear hK K
      try simp only [Act.put, List.setIfInBounds_toArray, List.set_cons_zero, List.set_cons_succ]
      refine wpAnyH_ready (rs := [11]) (by kernel_rfl) (by decide) (AllReadyH.cons (o := ⟨_, _, _, _, _, _⟩) rfl (fun K hK => ?_) AllReadyH.nil)
      rw [if_neg (ne_true (by kernel_rfl))]
      refine hK.out _ _ (hHeld) (fun hHeld => ?_)
      clear hK K
      try simp only [Act.put, List.setIfInBounds_toArray, List.set_cons_zero, List.set_cons_succ]
      refine wpAnyH_ready (rs := [12]) (by kernel_rfl) (by decide) (AllReadyH.cons (o := ⟨_, _, _, _, _, _⟩) rfl (fun K hK => ?_) AllReadyH.nil)
      rw [if_neg (ne_true (by kernel_rfl))]
      refine hK.out _ _ (hHeld) (fun hHeld => ?_)
      clear hK K
      try simp only [Act.put, List.setIfInBounds_toArray, List.set_cons_zero, List.set_cons_succ]
      refine wpAnyH_ready (rs := [13]) (by kernel_rfl) (by decide) (AllReadyH.cons (o := ⟨_, _, _, _, _, _⟩) rfl (fun K hK => ?_) AllReadyH.nil)
      rw [if_neg (ne_true (by kernel_rfl))]
      refine hK.out _ _ (hHeld) (fun hHeld => ?_)
      clear hK K
      try simp only [Act.put, List.setIfInBounds_toArray, List.set_cons_zero, List.set_cons_succ]
      refine wpAnyH_take (i := 14) (v := (.bool true)) (oi := ⟨_, _, _, _, _, _⟩) rfl (by kernel_rfl) (by kernel_rfl) (by kernel_rfl) (fun _ _ _ h => h) (Or.inl ⟨by kernel_rfl, fun W hS => ?_⟩) (by assumption) ?_
      · dsimp only at hS; go_split_ands; go_simp
      simp only [Act.put, List.setIfInBounds_toArray, List.set_cons_zero, List.set_cons_succ]
      refine wpAnyH_take (i := 15) (v := (.bool true)) (oi := ⟨_, _, _, _, _, _⟩) rfl (by kernel_rfl) (by kernel_rfl) (by kernel_rfl) (fun _ _ _ h => h) (Or.inl ⟨by kernel_rfl, fun W hS => ?_⟩) (by assumption) ?_
      · dsimp only at hS; go_split_ands; go_simp
      simp only [Act.put, List.setIfInBounds_toArray, List.set_cons_zero, List.set_cons_succ]
      refine wpAnyH_ready (rs := [16]) (by kernel_rfl) (by decide) (AllReadyH.cons (o := ⟨_, _, _, _, _, _⟩) rfl (fun K hK => ?_) AllReadyH.nil)
      rw [if_neg (ne_true (by kernel_rfl))]
      refine hK.out _ _ (hHeld) (fun hHeld => ?_)
      clear hK K
      try simp only [Act.put, List.setIfInBounds_toArray, List.set_cons_zero, List.set_cons_succ]
      refine wpAnyH_ready (rs := [17]) (by kernel_rfl) (by decide) (AllReadyH.cons (o := ⟨_, _, _, _, _, _⟩) rfl (fun K hK => ?_) AllReadyH.nil)
      rw [if_neg (ne_true (by kernel_rfl))]
      refine hK.out _ _ (hHeld) (fun hHeld => ?_)
      clear hK K
      try simp only [Act.put, List.setIfInBounds_toArray, List.set_cons_zero, List.set_cons_succ]
      refine wpAnyH_ready (rs := [18]) (by kernel_rfl) (by decide) (AllReadyH.cons (o := ⟨_, _, _, _, _, _⟩) rfl (fun K hK => ?_) AllReadyH.nil)
      rw [if_neg (ne_true (by kernel_rfl))]
      refine hK.out _ _ (hHeld) (fun hHeld => ?_)
      clear hK K
      try simp only [Act.put, List.setIfInBounds_toArray, List.set_cons_zero, List.set_cons_succ]
      refine wpAnyH_ready (rs := [19]) (by kernel_rfl) (by decide) (AllReadyH.cons (o := ⟨_, _, _, _, _, _⟩) rfl (fun K hK => ?_) AllReadyH.nil)
      rw [if_neg (ne_true (by kernel_rfl))]
      refine hK.out _ _ (hHeld) (fun hHeld => ?_)
      clear hK K
      try simp only [Act.put, List.setIfInBounds_toArray, List.set_cons_zero, List.set_cons_succ]
      refine wpAnyH_take (i := 20) (v := (.bool true)) (oi := ⟨_, _, _, _, _, _⟩) rfl (by kernel_rfl) (by kernel_rfl) (by kernel_rfl) (fun _ _ _ h => h) (Or.inl ⟨by kernel_rfl, fun W hS => ?_⟩) (by assumption) ?_
      · dsimp only at hS; go_split_ands; go_simp
      simp only [Act.put, List.setIfInBounds_toArray, List.set_cons_zero, List.set_cons_succ]
      refine wpAnyH_take (i := 21) (v := (.bool true)) (oi := ⟨_, _, _, _, _, _⟩) rfl (by kernel_rfl) (by kernel_rfl) (by kernel_rfl) (fun _ _ _ h => h) (Or.inl ⟨by kernel_rfl, fun W hS => ?_⟩) (by assumption) ?_
      · dsimp only at hS; go_split_ands; go_simp
      simp only [Act.put, List.setIfInBounds_toArray, List.set_cons_zero, List.set_cons_succ]
      refine wpAnyH_done (by kernel_rfl) ?_ _
      try simp only [Act.put, List.setIfInBounds_toArray, List.set_cons_zero, List.set_cons_succ]
      have L := lds hFd
      have l0 := L.k; have l1 := L.v; have l2 := L.s; have l3 := L.st; have l4 := L.mo; have l5 := L.fu; have l6 := L.di; have l7 := L.args; have l8 := L.body
      clear L
      go_wp2_with fail
      go_loopg [3, 4] 1 (fun gk v3 v4 w' => v3 = .bool true ∧ v4 = .int .i64 0 ∧ w' = w1.drew)
      case atStart => exact ⟨rfl, rfl, rfl⟩
      case round =>
        obtain ⟨rfl, rfl, rfl⟩ := hrel
        go_wp2_with fail
        all_goals
          go_ret
          exact ⟨by rw [HX.out]; rfl, hbd⟩
    · skip
      rw [if_neg (ne_true (by kernel_rfl))]
      refine hK.out _ _ (hHeld) (fun hHeld => ?_)
      clear hK K
      try simp only [Act.put, List.setIfInBounds_toArray, List.set_cons_zero, List.set_cons_succ]
      refine wpAnyH_ready (rs := [9, 11]) (by kernel_rfl) (by decide) (AllReadyH.cons (o := ⟨_, _, _, _, _, _⟩) rfl (fun K hK => ?_) (AllReadyH.cons (o := ⟨_, _, _, _, _, _⟩) rfl (fun K hK => ?_) AllReadyH.nil))
      · skip
        rw [if_neg (ne_true (by kernel_rfl))]
        refine hK.out _ _ (hHeld) (fun hHeld => ?_)
        clear hK K
        try simp only [Act.put, List.setIfInBounds_toArray, List.set_cons_zero, List.set_cons_succ]
        refine wpAnyH_ready (rs := [11]) (by kernel_rfl) (by decide) (AllReadyH.cons (o := ⟨_, _, _, _, _, _⟩) rfl (fun K hK => ?_) AllReadyH.nil)
        rw [if_neg (ne_true (by kernel_rfl))]
        refine hK.out _ _ (hHeld) (fun hHeld => ?_)
        clear hK K
        try simp only [Act.put, List.setIfInBounds_toArray, List.set_cons_zero, List.set_cons_succ]
        refine wpAnyH_ready (rs := [12]) (by kernel_rfl) (by decide) (AllReadyH.cons (o := ⟨_, _, _, _, _, _⟩) rfl (fun K hK => ?_) AllReadyH.nil)
        rw [if_neg (ne_true (by kernel_rfl))]
        refine hK.out _ _ (hHeld) (fun hHeld => ?_)
        clear hK K
        try simp only [Act.put, List.setIfInBounds_toArray, List.set_cons_zero, List.set_cons_succ]
        refine wpAnyH_ready (rs := [13]) (by kernel_rfl) (by decide) (AllReadyH.cons (o := ⟨_, _, _, _, _, _⟩) rfl (fun K hK => ?_) AllReadyH.nil)
        rw [if_neg (ne_true (by kernel_rfl))]
        refine hK.out _ _ (hHeld) (fun hHeld => ?_)
        clear hK K
        try simp only [Act.put, List.setIfInBounds_toArray, List.set_cons_zero, List.set_cons_succ]
        refine wpAnyH_take (i := 14) (v := (.bool true)) (oi := ⟨_, _, _, _, _, _⟩) rfl (by kernel_rfl) (by kernel_rfl) (by kernel_rfl) (fun _ _ _ h => h) (Or.inl ⟨by kernel_rfl, fun W hS => ?_⟩) (by assumption) ?_
        · dsimp only at hS; go_split_ands; go_simp
        simp only [Act.put, List.setIfInBounds_toArray, List.set_cons_zero, List.set_cons_succ]
        refine wpAnyH_take (i := 15) (v := (.bool true)) (oi := ⟨_, _, _, _, _, _⟩) rfl (by kernel_rfl) (by kernel_rfl) (by kernel_rfl) (fun _ _ _ h => h) (Or.inl ⟨by kernel_rfl, fun W hS => ?_⟩) (by assumption) ?_
        · dsimp only at hS; go_split_ands; go_simp
        simp only [Act.put, List.setIfInBounds_toArray, List.set_cons_zero, List.set_cons_succ]
        refine wpAnyH_ready (rs := [16]) (by kernel_rfl) (by decide) (AllReadyH.cons (o := ⟨_, _, _, _, _, _⟩) rfl (fun K hK => ?_) AllReadyH.nil)
        rw [if_neg (ne_true (by kernel_rfl))]
        refine hK.out _ _ (hHeld) (fun hHeld => ?_)
        clear hK K
        try simp only [Act.put, List.setIfInBounds_toArray, List.set_cons_zero, List.set_cons_succ]
        refine wpAnyH_ready (rs := [17]) (by kernel_rfl) (by decide) (AllReadyH.cons (o := ⟨_, _, _, _, _, _⟩) rfl (fun K hK => ?_) AllReadyH.nil)
        rw [if_neg (ne_true (by kernel_rfl))]
        refine hK.out _ _ (hHeld) (fun hHeld => ?_)
        clear hK K
        try simp only [Act.put, List.setIfInBounds_toArray, List.set_cons_zero, List.set_cons_succ]
        refine wpAnyH_ready (rs := [18]) (by kernel_rfl) (by decide) (AllReadyH.cons (o := ⟨_, _, _, _, _, _⟩) rfl (fun K hK => ?_) AllReadyH.nil)
        rw [if_neg (ne_true (by kernel_rfl))]
        refine hK.out _ _ (hHeld) (fun hHeld => ?_)
        clear hK K
        try simp only [Act.put, List.setIfInBounds_toArray, List.set_cons_zero, List.set_cons_succ]
        refine wpAnyH_ready (rs := [19]) (by kernel_rfl) (by decide) (AllReadyH.cons (o := ⟨_, _, _, _, _, _⟩) rfl (fun K hK => ?_) AllReadyH.nil)
        rw [if_neg (ne_true (by kernel_rfl))]
        refine hK.out _ _ (hHeld) (fun hHeld => ?_)
        clear hK K
        try simp only [Act.put, List.setIfInBounds_toArray, List.set_cons_zero, List.set_cons_succ]
        refine wpAnyH_take (i := 20) (v := (.bool true)) (oi := ⟨_, _, _, _, _, _⟩) rfl (by kernel_rfl) (by kernel_rfl) (by kernel_rfl) (fun _ _ _ h => h) (Or.inl ⟨by kernel_rfl, fun W hS => ?_⟩) (by assumption) ?_
        · dsimp only at hS; go_split_ands; go_simp
        simp only [Act.put, List.setIfInBounds_toArray, List.set_cons_zero, List.set_cons_succ]
        refine wpAnyH_take (i := 21) (v := (.bool true)) (oi := ⟨_, _, _, _, _, _⟩) rfl (by kernel_rfl) (by kernel_rfl) (by kernel_rfl) (fun _ _ _ h => h) (Or.inl ⟨by kernel_rfl, fun W hS => ?_⟩) (by assumption) ?_
        · dsimp only at hS; go_split_ands; go_simp
        simp only [Act.put, List.setIfInBounds_toArray, List.set_cons_zero, List.set_cons_succ]
        refine wpAnyH_done (by kernel_rfl) ?_ _
        try simp only [Act.put, List.setIfInBounds_toArray, List.set_cons_zero, List.set_cons_succ]
        have L := lds hFd
        have l0 := L.k; have l1 := L.v; have l2 := L.s; have l3 := L.st; have l4 := L.mo; have l5 := L.fu; have l6 := L.di; have l7 := L.args; have l8 := L.body
        clear L
        go_wp2_with fail
        go_loopg [3, 4] 1 (fun gk v3 v4 w' => v3 = .bool true ∧ v4 = .int .i64 0 ∧ w' = w1.drew)
        case atStart => exact ⟨rfl, rfl, rfl⟩
        case round =>
          obtain ⟨rfl, rfl, rfl⟩ := hrel
          go_wp2_with fail
          all_goals
            go_ret
            exact ⟨by rw [HX.out]; rfl, hbd⟩
      · skip
        rw [if_neg (ne_true (by kernel_rfl))]
        refine hK.out _ _ (hHeld) (fun hHeld => ?_)
        clear hK K
        try simp only [Act.put, List.setIfInBounds_toArray, List.set_cons_zero, List.set_cons_succ]
        refine wpAnyH_ready (rs := [9]) (by kernel_rfl) (by decide) (AllReadyH.cons (o := ⟨_, _, _, _, _, _⟩) rfl (fun K hK => ?_) AllReadyH.nil)
        rw [if_neg (ne_true (by kernel_rfl))]
        refine hK.out _ _ (hHeld) (fun hHeld => ?_)
        clear hK K
        try simp only [Act.put, List.setIfInBounds_toArray, List.set_cons_zero, List.set_cons_succ]
        refine wpAnyH_ready (rs := [12]) (by kernel_rfl) (by decide) (AllReadyH.cons (o := ⟨_, _, _, _, _, _⟩) rfl (fun K hK => ?_) AllReadyH.nil)
        rw [if_neg (ne_true (by kernel_rfl))]
        refine hK.out _ _ (hHeld) (fun hHeld => ?_)
        clear hK K
        try simp only [Act.put, List.setIfInBounds_toArray, List.set_cons_zero, List.set_cons_succ]
        refine wpAnyH_ready (rs := [13]) (by kernel_rfl) (by decide) (AllReadyH.cons (o := ⟨_, _, _, _, _, _⟩) rfl (fun K hK => ?_) AllReadyH.nil)
        rw [if_neg (ne_true (by kernel_rfl))]
        refine hK.out _ _ (hHeld) (fun hHeld => ?_)
        clear hK K
        try simp only [Act.put, List.setIfInBounds_toArray, List.set_cons_zero, List.set_cons_succ]
        refine wpAnyH_take (i := 14) (v := (.bool true)) (oi := ⟨_, _, _, _, _, _⟩) rfl (by kernel_rfl) (by kernel_rfl) (by kernel_rfl) (fun _ _ _ h => h) (Or.inl ⟨by kernel_rfl, fun W hS => ?_⟩) (by assumption) ?_
        · dsimp only at hS; go_split_ands; go_simp
        simp only [Act.put, List.setIfInBounds_toArray, List.set_cons_zero, List.set_cons_succ]
        refine wpAnyH_take (i := 15) (v := (.bool true)) (oi := ⟨_, _, _, _, _, _⟩) rfl (by kernel_rfl) (by kernel_rfl) (by kernel_rfl) (fun _ _ _ h => h) (Or.inl ⟨by kernel_rfl, fun W hS => ?_⟩) (by assumption) ?_
        · dsimp only at hS; go_split_ands; go_simp
        simp only [Act.put, List.setIfInBounds_toArray, List.set_cons_zero, List.set_cons_succ]
        refine wpAnyH_ready (rs := [16]) (by kernel_rfl) (by decide) (AllReadyH.cons (o := ⟨_, _, _, _, _, _⟩) rfl (fun K hK => ?_) AllReadyH.nil)
        rw [if_neg (ne_true (by kernel_rfl))]
        refine hK.out _ _ (hHeld) (fun hHeld => ?_)
        clear hK K
        try simp only [Act.put, List.setIfInBounds_toArray, List.set_cons_zero, List.set_cons_succ]
        refine wpAnyH_ready (rs := [17]) (by kernel_rfl) (by decide) (AllReadyH.cons (o := ⟨_, _, _, _, _, _⟩) rfl (fun K hK => ?_) AllReadyH.nil)
        rw [if_neg (ne_true (by kernel_rfl))]
        refine hK.out _ _ (hHeld) (fun hHeld => ?_)
        clear hK K
        try simp only [Act.put, List.setIfInBounds_toArray, List.set_cons_zero, List.set_cons_succ]
        refine wpAnyH_ready (rs := [18]) (by kernel_rfl) (by decide) (AllReadyH.cons (o := ⟨_, _, _, _, _, _⟩) rfl (fun K hK => ?_) AllReadyH.nil)
        rw [if_neg (ne_true (by kernel_rfl))]
        refine hK.out _ _ (hHeld) (fun hHeld => ?_)
        clear hK K
        try simp only [Act.put, List.setIfInBounds_toArray, List.set_cons_zero, List.set_cons_succ]
        refine wpAnyH_ready (rs := [19]) (by kernel_rfl) (by decide) (AllReadyH.cons (o := ⟨_, _, _, _, _, _⟩) rfl (fun K hK => ?_) AllReadyH.nil)
        rw [if_neg (ne_true (by kernel_rfl))]
        refine hK.out _ _ (hHeld) (fun hHeld => ?_)
        clear hK K
        try simp only [Act.put, List.setIfInBounds_toArray, List.set_cons_zero, List.set_cons_succ]
        refine wpAnyH_take (i := 20) (v := (.bool true)) (oi := ⟨_, _, _, _, _, _⟩) rfl (by kernel_rfl) (by kernel_rfl) (by kernel_rfl) (fun _ _ _ h => h) (Or.inl ⟨by kernel_rfl, fun W hS => ?_⟩) (by assumption) ?_
        · dsimp only at hS; go_split_ands; go_simp
        simp only [Act.put, List.setIfInBounds_toArray, List.set_cons_zero, List.set_cons_succ]
        refine wpAnyH_take (i := 21) (v := (.bool true)) (oi := ⟨_, _, _, _, _, _⟩) rfl (by kernel_rfl) (by kernel_rfl) (by kernel_rfl) (fun _ _ _ h => h) (Or.inl ⟨by kernel_rfl, fun W hS => ?_⟩) (by assumption) ?_
        · dsimp only at hS; go_split_ands; go_simp
        simp only [Act.put, List.setIfInBounds_toArray, List.set_cons_zero, List.set_cons_succ]
        refine wpAnyH_done (by kernel_rfl) ?_ _
        try simp only [Act.put, List.setIfInBounds_toArray, List.set_cons_zero, List.set_cons_succ]
        have L := lds hFd
        have l0 := L.k; have l1 := L.v; have l2 := L.s; have l3 := L.st; have l4 := L.mo; have l5 := L.fu; have l6 := L.di; have l7 := L.args; have l8 := L.body
        clear L
        go_wp2_with fail
        go_loopg [3, 4] 1 (fun gk v3 v4 w' => v3 = .bool true ∧ v4 = .int .i64 0 ∧ w' = w1.drew)
        case atStart => exact ⟨rfl, rfl, rfl⟩
        case round =>
          obtain ⟨rfl, rfl, rfl⟩ := hrel
          go_wp2_with fail
          all_goals
            go_ret
            exact ⟨by rw [HX.out]; rfl, hbd⟩
  have d6 : decide (6 < f.k) = false := decide_eq_false k6
  have hO := own_core (f := f) (by omega) (by omega)
  obtain ⟨s, hs⟩ : ∃ s, (ownG f).same f = s := ⟨_, rfl⟩
  have HSI : Hid (s = true ↔ f.core = onlyF f) := Lib.hid (by rw [← hs, same_iff, hO]; exact eq_comm)
  have HKK : Hid (1 ≤ f.k ∧ f.k ≤ 6) := Lib.hid (by omega)
  have c1 : ∀ W, Calls Try.prog 30 #[.agg f.arr] W (fun e w' => e = .returned (.agg (ownG f).arr) ∧ Below W.heap.size W w') := fun W => ronly_any f HOK.out.tool (fun a b c d e => by have := HKK.out; omega) W
  have c2 : ∀ W, Below w.heap.size w W → Calls Try.prog 28 #[.agg f.arr, .agg (ownG f).arr] W (fun e w' => e = .returned (.bool s) ∧ Below W.heap.size W w') := fun W hbw => by
    refine rSame_is f (ownG f) s (same_sym2 _ _ _ hs) W (HOK.out.below hbw) ⟨own_tool HOK.out.tool, ?_⟩
    unfold ownG onlyG
    rcases (by have := HKK.out; omega : f.k = 1 ∨ f.k = 2 ∨ f.k = 3 ∨ f.k = 4 ∨ f.k = 5 ∨ f.k = 6) with h | h | h | h | h | h <;> simp [h, only1, only2, only3, only4, only6, noF]
    · exact RT.nil W
    · exact HOK.out.args.below hbw
    · exact RT.nil W
    · exact RT.nil W
    · exact RT.nil W
    · exact RT.nil W
  clear hs hO k1 k6
  have keep : ∀ {W W1 : World}, (Below w.heap.size w W ∧ f.at_ 42 W g) → Below W.heap.size W W1 → (Below w.heap.size w W1 ∧ f.at_ 42 W1 g) := fun h hk => ⟨below_step h.1 hk, h.2.below hk⟩
  cases s with
  | false =>
    have HX : Hid (c = 70) := Lib.hid (by rw [← HC.out]; exact chk_no (fun h => by have := HSI.out.2 h.only; cases this))
    have hcO : Calls Try.prog 30 #[.agg f.arr] w1.drew fun e w' => ∃ v, e = .returned v ∧ v = .agg (ownG f).arr ∧ Below w1.drew.heap.size w1.drew w' := (c1 _).mono fun e w' h => ⟨_, h.1, rfl, h.2⟩
    have hcS : ∀ W, Below w.heap.size w W → Calls Try.prog 28 #[.agg f.arr, .agg (ownG f).arr] W fun e w' => ∃ v, e = .returned v ∧ v = .bool false ∧ Below W.heap.size W w' := fun W h => (c2 W h).mono fun e w' h => ⟨_, h.1, rfl, h.2⟩
    refine wp_region_held_drew (S := fun W => f.at_ 42 W g) (by kernel_rfl) (hFd) (fun hHeld => ?_)
    refine wpAnyH_take (i := 0) (v := (.pointer (some ⟨g, 0, none⟩))) (oi := ⟨_, _, _, _, _, _⟩) rfl (by kernel_rfl) (by kernel_rfl) (by kernel_rfl) (fun _ _ _ h => h) (Or.inl ⟨by kernel_rfl, fun W hS => ?_⟩) (by assumption) ?_
    · dsimp only at hS; go_split_ands; go_simp
    simp only [Act.put, List.setIfInBounds_toArray, List.set_cons_zero, List.set_cons_succ]
    refine wpAnyH_take (i := 1) (v := (.int .i64 f.k)) (oi := ⟨_, _, _, _, _, _⟩) rfl (by kernel_rfl) (by kernel_rfl) (by kernel_rfl) (fun _ _ _ h => h) (Or.inl ⟨by kernel_rfl, fun W hS => ?_⟩) (by assumption) ?_
    · dsimp only at hS; go_split_ands; go_simp
    simp only [Act.put, List.setIfInBounds_toArray, List.set_cons_zero, List.set_cons_succ]
    refine wpAnyH_take (i := 2) (v := (.bool false)) (oi := ⟨_, _, _, _, _, _⟩) rfl (by kernel_rfl) (by kernel_rfl) (by kernel_rfl) (fun _ _ _ h => h) (Or.inl ⟨by kernel_rfl, fun W hS => ?_⟩) (by assumption) ?_
    · dsimp only at hS; go_split_ands; go_simp
    simp only [Act.put, List.setIfInBounds_toArray, List.set_cons_zero, List.set_cons_succ]
    refine wpAnyH_take (i := 3) (v := (.bool false)) (oi := ⟨_, _, _, _, _, _⟩) rfl (by kernel_rfl) (by kernel_rfl) (by kernel_rfl) (fun _ _ _ h => h) (Or.inl ⟨by kernel_rfl, fun W hS => ?_⟩) (by assumption) ?_
    · dsimp only at hS; go_split_ands; go_simp
    simp only [Act.put, List.setIfInBounds_toArray, List.set_cons_zero, List.set_cons_succ]
    refine wpAnyH_take (i := 4) (v := (.pointer (some ⟨g, 0, none⟩))) (oi := ⟨_, _, _, _, _, _⟩) rfl (by kernel_rfl) (by kernel_rfl) (by kernel_rfl) (fun _ _ _ h => h) (Or.inl ⟨by kernel_rfl, fun W hS => ?_⟩) (by assumption) ?_
    · dsimp only at hS; go_split_ands; go_simp
    simp only [Act.put, List.setIfInBounds_toArray, List.set_cons_zero, List.set_cons_succ]
    refine wpAnyH_take (i := 5) (v := (.int .i64 f.k)) (oi := ⟨_, _, _, _, _, _⟩) rfl (by kernel_rfl) (by kernel_rfl) (by kernel_rfl) (fun _ _ _ h => h) (Or.inl ⟨by kernel_rfl, fun W hS => ?_⟩) (by assumption) ?_
    · dsimp only at hS; go_split_ands; go_simp
    simp only [Act.put, List.setIfInBounds_toArray, List.set_cons_zero, List.set_cons_succ]
    refine wpAnyH_take (i := 6) (v := (.bool false)) (oi := ⟨_, _, _, _, _, _⟩) rfl (by kernel_rfl) (by kernel_rfl) (by kernel_rfl) (fun _ _ _ h => h) (Or.inl ⟨by kernel_rfl, fun W hS => ?_⟩) (by assumption) ?_
    · dsimp only at hS; go_split_ands; go_simp
    simp only [Act.put, List.setIfInBounds_toArray, List.set_cons_zero, List.set_cons_succ]
    refine wpAnyH_take (i := 7) (v := (.bool false)) (oi := ⟨_, _, _, _, _, _⟩) rfl (by kernel_rfl) (by kernel_rfl) (by kernel_rfl) (fun _ _ _ h => h) (Or.inl ⟨by kernel_rfl, fun W hS => ?_⟩) (by assumption) ?_
    · dsimp only at hS; go_split_ands; go_simp
    simp only [Act.put, List.setIfInBounds_toArray, List.set_cons_zero, List.set_cons_succ]
    refine wpAnyH_take (i := 8) (v := (.bool false)) (oi := ⟨_, _, _, _, _, _⟩) rfl (by kernel_rfl) (by kernel_rfl) (by kernel_rfl) (fun _ _ _ h => h) (Or.inl ⟨by kernel_rfl, fun W hS => ?_⟩) (by assumption) ?_
    · dsimp only at hS; go_split_ands; go_simp
    simp only [Act.put, List.setIfInBounds_toArray, List.set_cons_zero, List.set_cons_succ]
    refine wpAnyH_take (i := 9) (v := (.agg f.arr)) (oi := ⟨_, _, _, _, _, _⟩) rfl (by kernel_rfl) (by kernel_rfl) (by kernel_rfl) (fun _ _ _ h => h) (Or.inl ⟨by kernel_rfl, fun W hS => ?_⟩) (by assumption) ?_
    · dsimp only at hS; go_split_ands; go_simp
    simp only [Act.put, List.setIfInBounds_toArray, List.set_cons_zero, List.set_cons_succ]
    refine wpAnyH_take (i := 10) (v := (.agg f.arr)) (oi := ⟨_, _, _, _, _, _⟩) rfl (by kernel_rfl) (by kernel_rfl) (by kernel_rfl) (fun _ _ _ h => h) (Or.inl ⟨by kernel_rfl, fun W hS => ?_⟩) (by assumption) ?_
    · dsimp only at hS; go_split_ands; go_simp
    simp only [Act.put, List.setIfInBounds_toArray, List.set_cons_zero, List.set_cons_succ]
    refine wpAnyH_ready (rs := [11]) (by kernel_rfl) (by decide) (AllReadyH.cons (o := ⟨_, _, _, _, _, _⟩) rfl (fun K hK => ?_) AllReadyH.nil)
    refine at_call ?_ ?_ hcO ?_
    · kernel_rfl
    · go_simp
    rintro v3 w3 ⟨rfl, hb3⟩
    have hF3 := hFd.below hb3
    have hbw3 := below_step hbd hb3
    refine hK.out _ _ (hF3) (fun hHeld => ?_)
    clear hK K
    try simp only [Act.put, List.setIfInBounds_toArray, List.set_cons_zero, List.set_cons_succ]
    refine wpAnyH_ready (rs := [12]) (by kernel_rfl) (by decide) (AllReadyH.cons (o := ⟨_, _, _, _, _, _⟩) rfl (fun K hK => ?_) AllReadyH.nil)
    refine at_call ?_ ?_ (hcS w3 hbw3) ?_
    · kernel_rfl
    · go_simp
    rintro v4 w4 ⟨rfl, hb4⟩
    have hF5 := hF3.below hb4
    have hb5 := below_step hbw3 hb4
    refine hK.out _ _ (hF5) (fun hHeld => ?_)
    clear hK K
    try simp only [Act.put, List.setIfInBounds_toArray, List.set_cons_zero, List.set_cons_succ]
    refine wpAnyH_take (i := 13) (v := (.bool true)) (oi := ⟨_, _, _, _, _, _⟩) rfl (by kernel_rfl) (by kernel_rfl) (by kernel_rfl) (fun _ _ _ h => h) (Or.inl ⟨by kernel_rfl, fun W hS => ?_⟩) (by assumption) ?_
    · dsimp only at hS; go_split_ands; go_simp
    simp only [Act.put, List.setIfInBounds_toArray, List.set_cons_zero, List.set_cons_succ]
    refine wpAnyH_take (i := 14) (v := (.bool true)) (oi := ⟨_, _, _, _, _, _⟩) rfl (by kernel_rfl) (by kernel_rfl) (by kernel_rfl) (fun _ _ _ h => h) (Or.inl ⟨by kernel_rfl, fun W hS => ?_⟩) (by assumption) ?_
    · dsimp only at hS; go_split_ands; go_simp
    simp only [Act.put, List.setIfInBounds_toArray, List.set_cons_zero, List.set_cons_succ]
    refine wpAnyH_take (i := 15) (v := (.bool true)) (oi := ⟨_, _, _, _, _, _⟩) rfl (by kernel_rfl) (by kernel_rfl) (by kernel_rfl) (fun _ _ _ h => h) (Or.inl ⟨by kernel_rfl, fun W hS => ?_⟩) (by assumption) ?_
    · dsimp only at hS; go_split_ands; go_simp
    simp only [Act.put, List.setIfInBounds_toArray, List.set_cons_zero, List.set_cons_succ]
    refine wpAnyH_ready (rs := [16]) (by kernel_rfl) (by decide) (AllReadyH.cons (o := ⟨_, _, _, _, _, _⟩) rfl (fun K hK => ?_) AllReadyH.nil)
    rw [if_neg (ne_true (by kernel_rfl))]
    refine hK.out _ _ (hHeld) (fun hHeld => ?_)
    clear hK K
    try simp only [Act.put, List.setIfInBounds_toArray, List.set_cons_zero, List.set_cons_succ]
    refine wpAnyH_ready (rs := [17]) (by kernel_rfl) (by decide) (AllReadyH.cons (o := ⟨_, _, _, _, _, _⟩) rfl (fun K hK => ?_) AllReadyH.nil)
    rw [if_neg (ne_true (by kernel_rfl))]
    refine hK.out _ _ (hHeld) (fun hHeld => ?_)
    clear hK K
    try simp only [Act.put, List.setIfInBounds_toArray, List.set_cons_zero, List.set_cons_succ]
    refine wpAnyH_ready (rs := [18]) (by kernel_rfl) (by decide) (AllReadyH.cons (o := ⟨_, _, _, _, _, _⟩) rfl (fun K hK => ?_) AllReadyH.nil)
    rw [if_neg (ne_true (by kernel_rfl))]
    refine hK.out _ _ (hHeld) (fun hHeld => ?_)
    clear hK K
    try simp only [Act.put, List.setIfInBounds_toArray, List.set_cons_zero, List.set_cons_succ]
    refine wpAnyH_ready (rs := [19]) (by kernel_rfl) (by decide) (AllReadyH.cons (o := ⟨_, _, _, _, _, _⟩) rfl (fun K hK => ?_) AllReadyH.nil)
    rw [if_neg (ne_true (by kernel_rfl))]
    refine hK.out _ _ (hHeld) (fun hHeld => ?_)
    clear hK K
    try simp only [Act.put, List.setIfInBounds_toArray, List.set_cons_zero, List.set_cons_succ]
    refine wpAnyH_take (i := 20) (v := (.bool true)) (oi := ⟨_, _, _, _, _, _⟩) rfl (by kernel_rfl) (by kernel_rfl) (by kernel_rfl) (fun _ _ _ h => h) (Or.inl ⟨by kernel_rfl, fun W hS => ?_⟩) (by assumption) ?_
    · dsimp only at hS; go_split_ands; go_simp
    simp only [Act.put, List.setIfInBounds_toArray, List.set_cons_zero, List.set_cons_succ]
    refine wpAnyH_take (i := 21) (v := (.bool true)) (oi := ⟨_, _, _, _, _, _⟩) rfl (by kernel_rfl) (by kernel_rfl) (by kernel_rfl) (fun _ _ _ h => h) (Or.inl ⟨by kernel_rfl, fun W hS => ?_⟩) (by assumption) ?_
    · dsimp only at hS; go_split_ands; go_simp
    simp only [Act.put, List.setIfInBounds_toArray, List.set_cons_zero, List.set_cons_succ]
    refine wpAnyH_done (by kernel_rfl) ?_ _
    try simp only [Act.put, List.setIfInBounds_toArray, List.set_cons_zero, List.set_cons_succ]
    have L := lds hF5
    have l0 := L.k; have l1 := L.v; have l2 := L.s; have l3 := L.st; have l4 := L.mo; have l5 := L.fu; have l6 := L.di; have l7 := L.args; have l8 := L.body
    clear L
    go_wp2_with fail
    go_loopg [3, 4] 1 (fun gk v3 v4 w' => v3 = .bool true ∧ v4 = .int .i64 0 ∧ w' = w4)
    case atStart => exact ⟨rfl, rfl, rfl⟩
    case round =>
      obtain ⟨rfl, rfl, rfl⟩ := hrel
      go_wp2_with fail
      all_goals
        go_ret
        exact ⟨by rw [HX.out]; rfl, hb5⟩
  | true =>
    have HCO := Lib.hid (HSI.out.1 rfl)
    have hn := HOK.out.args.len
    by_cases ha8 : 8 < f.n
    · have HX : Hid (c = 70) := Lib.hid (by rw [← HC.out]; exact chk_no (fun h => by have := h.many; omega))
      have ha9 : decide ((8 : Int) < (f.n : Int)) = true := decide_eq_true (by omega)
      clear hn ha8
      go_region_held3 (fun w' => Below w.heap.size w w' ∧ f.at_ 42 w' g)
        (first
          | assumption
          | exact ⟨hbd, hFd⟩
          | (go_split_ands; refine keep ⟨?_, ?_⟩ hb3 <;> assumption)
          | (go_split_ands; refine keep ⟨?_, ?_⟩ hb4 <;> assumption))
        (first
          | (go_at_call 30; (with_reducible refine (c1 _).mono ?_); rintro e w3 ⟨rfl, hb3⟩)
          | (go_at_call 28; go_split_ands; (with_reducible refine (c2 _ (by assumption)).mono ?_); rintro e w4 ⟨rfl, hb4⟩))
      all_goals
        go_split_ands
        have hF5 : f.at_ 42 w4 g := by assumption
        have hb5 : Below w.heap.size w w4 := by assumption
        have L := lds hF5
        have l0 := L.k; have l1 := L.v; have l2 := L.s; have l3 := L.st; have l4 := L.mo; have l5 := L.fu; have l6 := L.di; have l7 := L.args; have l8 := L.body
        clear L
        go_wp2_with fail
        go_loopg [3, 4] 1 (fun gk v3 v4 w' => v3 = .bool true ∧ v4 = .int .i64 0 ∧ w' = w4)
        case atStart => exact ⟨rfl, rfl, rfl⟩
        case round =>
          obtain ⟨rfl, rfl, rfl⟩ := hrel
          go_wp2_with fail
          all_goals
            go_ret
            exact ⟨by rw [HX.out]; rfl, hb5⟩
    have ha9 : decide ((8 : Int) < (f.n : Int)) = false := decide_eq_false (by omega)
    have HN8 : Hid (f.args.length ≤ 8) := Lib.hid (by omega)
    clear hn ha8
    go_region_held3 (fun w' => Below w.heap.size w w' ∧ f.at_ 42 w' g)
      (first
        | assumption
        | exact ⟨hbd, hFd⟩
        | (go_split_ands; refine keep ⟨?_, ?_⟩ hb3 <;> assumption)
        | (go_split_ands; refine keep ⟨?_, ?_⟩ hb4 <;> assumption))
      (first
        | (go_at_call 30; (with_reducible refine (c1 _).mono ?_); rintro e w3 ⟨rfl, hb3⟩)
        | (go_at_call 28; go_split_ands; (with_reducible refine (c2 _ (by assumption)).mono ?_); rintro e w4 ⟨rfl, hb4⟩))
    all_goals
      go_split_ands
      have hF5 : f.at_ 42 w4 g := by assumption
      have hb5 : Below w.heap.size w w4 := by assumption
      clear hb3 hb4 hl0 hl2 c1 c2 hbd hFd hb hF
      by_cases m1 : f.mo < 0
      · skip
        have HX : Hid (c = 70) := Lib.hid (by rw [← HC.out]; exact chk_no (fun h => by have := h.mo; omega))
        clear HOK HWF HHA
        have L := lds hF5
        have l0 := L.k; have l1 := L.v; have l2 := L.s; have l3 := L.st; have l4 := L.mo; have l5 := L.fu; have l6 := L.di; have l7 := L.args; have l8 := L.body
        clear L
        go_wp2_with fail
        go_loopg [3, 4] 1 (fun gk v3 v4 w' => v3 = .bool true ∧ v4 = .int .i64 0 ∧ w' = w4)
        case atStart => exact ⟨rfl, rfl, rfl⟩
        case round =>
          obtain ⟨rfl, rfl, rfl⟩ := hrel
          go_wp2_with fail
          all_goals
            go_ret
            exact ⟨by rw [HX.out]; rfl, hb5⟩
      by_cases m2 : f.fu < 0
      · skip
        have HX : Hid (c = 70) := Lib.hid (by rw [← HC.out]; exact chk_no (fun h => by have := h.fu; omega))
        clear HOK HWF HHA
        have L := lds hF5
        have l0 := L.k; have l1 := L.v; have l2 := L.s; have l3 := L.st; have l4 := L.mo; have l5 := L.fu; have l6 := L.di; have l7 := L.args; have l8 := L.body
        clear L
        go_wp2_with fail
        go_loopg [3, 4] 1 (fun gk v3 v4 w' => v3 = .bool true ∧ v4 = .int .i64 0 ∧ w' = w4)
        case atStart => exact ⟨rfl, rfl, rfl⟩
        case round =>
          obtain ⟨rfl, rfl, rfl⟩ := hrel
          go_wp2_with fail
          all_goals
            go_ret
            exact ⟨by rw [HX.out]; rfl, hb5⟩
      by_cases m3 : f.di < 0
      · skip
        have HX : Hid (c = 70) := Lib.hid (by rw [← HC.out]; exact chk_no (fun h => by have := h.di; omega))
        clear HOK HWF HHA
        have L := lds hF5
        have l0 := L.k; have l1 := L.v; have l2 := L.s; have l3 := L.st; have l4 := L.mo; have l5 := L.fu; have l6 := L.di; have l7 := L.args; have l8 := L.body
        clear L
        go_wp2_with fail
        go_loopg [3, 4] 1 (fun gk v3 v4 w' => v3 = .bool true ∧ v4 = .int .i64 0 ∧ w' = w4)
        case atStart => exact ⟨rfl, rfl, rfl⟩
        case round =>
          obtain ⟨rfl, rfl, rfl⟩ := hrel
          go_wp2_with fail
          all_goals
            go_ret
            exact ⟨by rw [HX.out]; rfl, hb5⟩
      by_cases e1 : f.k = 1
      · have b1 : (f.k == 1) = true := by rw [beq_iff_eq]; exact e1
        have b3 : (f.k == 3) = false := by rw [beq_eq_false_iff_ne]; omega
        by_cases v1 : f.v = 1
        · have bv : (f.v != 1) = false := by simp [v1]
          by_cases s1 : f.s < 1
          · skip
            have HX : Hid (c = 70) := Lib.hid (by rw [← HC.out]; exact chk_no (fun h => by have := (h.hello e1).2.1; omega))
            clear HOK HWF HHA
            have L := lds hF5
            have l0 := L.k; have l1 := L.v; have l2 := L.s; have l3 := L.st; have l4 := L.mo; have l5 := L.fu; have l6 := L.di; have l7 := L.args; have l8 := L.body
            clear L
            go_wp2_with fail
            go_loopg [3, 4] 1 (fun gk v3 v4 w' => v3 = .bool true ∧ v4 = .int .i64 0 ∧ w' = w4)
            case atStart => exact ⟨rfl, rfl, rfl⟩
            case round =>
              obtain ⟨rfl, rfl, rfl⟩ := hrel
              go_wp2_with fail
              all_goals
                go_ret
                exact ⟨by rw [HX.out]; rfl, hb5⟩
          by_cases s2 : 64 < f.s
          · skip
            have HX : Hid (c = 70) := Lib.hid (by rw [← HC.out]; exact chk_no (fun h => by have := (h.hello e1).2.2; omega))
            clear HOK HWF HHA
            have L := lds hF5
            have l0 := L.k; have l1 := L.v; have l2 := L.s; have l3 := L.st; have l4 := L.mo; have l5 := L.fu; have l6 := L.di; have l7 := L.args; have l8 := L.body
            clear L
            go_wp2_with fail
            go_loopg [3, 4] 1 (fun gk v3 v4 w' => v3 = .bool true ∧ v4 = .int .i64 0 ∧ w' = w4)
            case atStart => exact ⟨rfl, rfl, rfl⟩
            case round =>
              obtain ⟨rfl, rfl, rfl⟩ := hrel
              go_wp2_with fail
              all_goals
                go_ret
                exact ⟨by rw [HX.out]; rfl, hb5⟩
          have HP : Hid ((∀ s ∈ f.args, s.size ≤ 4096) → May f) := Lib.hid (fun he => ⟨HKK.out.1, HKK.out.2, HCO.out, HN8.out, by omega, by omega, by omega, fun _ => ⟨v1, by omega, by omega⟩, fun e => by omega, he⟩)
          have HOK2 := HOK
          have L := lds hF5
          have l0 := L.k; have l1 := L.v; have l2 := L.s; have l3 := L.st; have l4 := L.mo; have l5 := L.fu; have l6 := L.di; have l7 := L.args; have l8 := L.body
          clear L e1 v1
          go_wp2_with fail
          go_loopg [3, 4] f.n (fun gk v3 v4 w' => CkLoop f w4 gk v3 v4 w')
          case atStart => exact ⟨0, false, rfl, rfl, rfl, Lib.hid ⟨by omega, fun _ j hj => (by omega), fun e => (by cases e), by omega⟩⟩
          case round =>
            obtain ⟨i, b, rfl, rfl, rfl, HG⟩ := hrel
            cases b with
            | true =>
              have HX : Hid (c = 70) := Lib.hid (by
                rw [← HC.out]
                obtain ⟨s, hm, hl⟩ := HG.out.2.2.1 (by simp)
                exact chk_no (fun h => by have := h.each s hm; omega))
              go_wp2_with fail
              all_goals
                go_ret
                exact ⟨by rw [HX.out]; rfl, hb5⟩
            | false =>
              by_cases hi : i < f.n
              · obtain ⟨ad, s, HAE, hcell, HXX⟩ := (HOK2.out.args.below hb5).at_ i hi
                have hi2 : (i : Int) < (f.n : Int) := by omega
                have hls := load_s hcell
                have hsz := HHA.out s (List.mem_of_getElem? HXX.out)
                rw [HAE] at l7
                clear HAE
                by_cases hl : 4096 < s.size
                · have hl2 : (4096 : Int) < (s.size : Int) := by omega
                  have HL := Lib.hid hl
                  clear hl
                  go_wp2_with fail
                  go_roundg (gk - 1)
                  case measure => have := HG.out.2.2.2; have := HG.out.1; omega
                  case rel => exact ⟨i + 1, true, by simp, by simp, rfl, Lib.hid ⟨by omega, fun e => by (cases e), fun _ => ⟨s, List.mem_of_getElem? HXX.out, HL.out⟩, by have := HG.out.2.2.2; omega⟩⟩
                · have hl2 : ¬ (4096 : Int) < (s.size : Int) := by omega
                  have HL := Lib.hid hl
                  clear hl
                  go_wp2_with fail
                  go_roundg (gk - 1)
                  case measure => have := HG.out.2.2.2; have := HG.out.1; omega
                  case rel =>
                    refine ⟨i + 1, false, by simp, by simp, rfl, Lib.hid ⟨by omega, fun _ j hj s2 h2 => ?_, fun e => by (cases e), by have := HG.out.2.2.2; omega⟩⟩
                    rcases Nat.lt_or_ge j i with h | h
                    · exact HG.out.2.1 (by simp) j h s2 h2
                    · obtain rfl : j = i := by omega
                      rw [HXX.out] at h2
                      cases h2
                      have := HL.out
                      omega
              · have hi2 : ¬ (i : Int) < (f.n : Int) := by omega
                have HM : Hid (May f) := Lib.hid (HP.out (fun s hm => by
                  obtain ⟨j, hj, e⟩ := List.mem_iff_getElem.1 hm
                  have := HOK2.out.args.len
                  exact HG.out.2.1 (by simp) j (by omega) s (by rw [List.getElem?_eq_getElem hj, e])))
                clear hi
                by_cases hs : 2097152 < f.body.size
                · have HX : Hid (c = 3) := Lib.hid (by rw [← HC.out]; exact chk_long HM.out (.inl hs))
                  have hs2 : (2097152 : Int) < (f.body.size : Int) := by omega
                  clear hs
                  go_wp2_with fail
                  go_ret
                  exact ⟨by rw [HX.out]; rfl, hb5⟩
                · have hs2 : ¬ (2097152 : Int) < (f.body.size : Int) := by omega
                  have HS := Lib.hid hs
                  have e2 := hl1 _ hF5
                  clear hs
                  go_wp2_with fail
                  refine (rbody_any HM.out.k1 HM.out.k6 (HOK2.out.below hb5) HWF.out (may_lay HM.out HOK2.out.args.len (by have := HS.out; omega))).mono ?_
                  rintro e wd ⟨v, rfl, hOd, hbf⟩
                  have hbg := below_step hb5 hbf
                  obtain ⟨Ad, cd, rfl, hRd⟩ := hOd.reads
                  obtain ⟨nd, hnd⟩ : ∃ nd, (bodyF f).length = nd := ⟨_, rfl⟩
                  rw [hnd] at hOd hRd ⊢
                  by_cases hl : 2097152 < nd
                  · have HX : Hid (c = 3) := Lib.hid (by rw [← HC.out]; exact chk_long HM.out (.inr (by rw [hnd]; exact hl)))
                    have hl2 : (2097152 : Int) < (nd : Int) := by omega
                    clear hl hnd
                    go_wp2_with fail
                    go_ret
                    exact ⟨by rw [HX.out]; rfl, hbg⟩
                  · have HX : Hid (c = 0) := Lib.hid (by rw [← HC.out]; exact chk_ok HM.out (by rw [hnd]; have := HS.out; omega))
                    have hl2 : ¬ (2097152 : Int) < (nd : Int) := by omega
                    clear hl hnd
                    go_wp2_with fail
                    go_ret
                    exact ⟨by rw [HX.out]; rfl, hbg⟩
        · have bv : (f.v != 1) = true := by simpa using v1
          have HX : Hid (c = 70) := Lib.hid (by rw [← HC.out]; exact chk_no (fun h => by exact v1 (h.hello e1).1))
          clear HOK HWF HHA
          have L := lds hF5
          have l0 := L.k; have l1 := L.v; have l2 := L.s; have l3 := L.st; have l4 := L.mo; have l5 := L.fu; have l6 := L.di; have l7 := L.args; have l8 := L.body
          clear L
          go_wp2_with fail
          go_loopg [3, 4] 1 (fun gk v3 v4 w' => v3 = .bool true ∧ v4 = .int .i64 0 ∧ w' = w4)
          case atStart => exact ⟨rfl, rfl, rfl⟩
          case round =>
            obtain ⟨rfl, rfl, rfl⟩ := hrel
            go_wp2_with fail
            all_goals
              go_ret
              exact ⟨by rw [HX.out]; rfl, hb5⟩
      have b1 : (f.k == 1) = false := by rw [beq_eq_false_iff_ne]; exact e1
      by_cases e3 : f.k = 3
      · have b3 : (f.k == 3) = true := by rw [beq_iff_eq]; exact e3
        by_cases t1 : f.st < 1
        · skip
          have HX : Hid (c = 70) := Lib.hid (by rw [← HC.out]; exact chk_no (fun h => by have := (h.resp e3).1; omega))
          clear HOK HWF HHA
          have L := lds hF5
          have l0 := L.k; have l1 := L.v; have l2 := L.s; have l3 := L.st; have l4 := L.mo; have l5 := L.fu; have l6 := L.di; have l7 := L.args; have l8 := L.body
          clear L
          go_wp2_with fail
          go_loopg [3, 4] 1 (fun gk v3 v4 w' => v3 = .bool true ∧ v4 = .int .i64 0 ∧ w' = w4)
          case atStart => exact ⟨rfl, rfl, rfl⟩
          case round =>
            obtain ⟨rfl, rfl, rfl⟩ := hrel
            go_wp2_with fail
            all_goals
              go_ret
              exact ⟨by rw [HX.out]; rfl, hb5⟩
        by_cases t2 : 3 < f.st
        · skip
          have HX : Hid (c = 70) := Lib.hid (by rw [← HC.out]; exact chk_no (fun h => by have := (h.resp e3).2.1; omega))
          clear HOK HWF HHA
          have L := lds hF5
          have l0 := L.k; have l1 := L.v; have l2 := L.s; have l3 := L.st; have l4 := L.mo; have l5 := L.fu; have l6 := L.di; have l7 := L.args; have l8 := L.body
          clear L
          go_wp2_with fail
          go_loopg [3, 4] 1 (fun gk v3 v4 w' => v3 = .bool true ∧ v4 = .int .i64 0 ∧ w' = w4)
          case atStart => exact ⟨rfl, rfl, rfl⟩
          case round =>
            obtain ⟨rfl, rfl, rfl⟩ := hrel
            go_wp2_with fail
            all_goals
              go_ret
              exact ⟨by rw [HX.out]; rfl, hb5⟩
        by_cases t3 : f.st = 1
        · have bt : (f.st != 1) = false := by simp [t3]
          have HP : Hid ((∀ s ∈ f.args, s.size ≤ 4096) → May f) := Lib.hid (fun he => ⟨HKK.out.1, HKK.out.2, HCO.out, HN8.out, by omega, by omega, by omega, fun e => absurd e e1, fun _ => ⟨by omega, by omega, fun h => absurd t3 h⟩, he⟩)
          have HOK2 := HOK
          have L := lds hF5
          have l0 := L.k; have l1 := L.v; have l2 := L.s; have l3 := L.st; have l4 := L.mo; have l5 := L.fu; have l6 := L.di; have l7 := L.args; have l8 := L.body
          clear L e1 e3 t3
          go_wp2_with fail
          go_loopg [3, 4] f.n (fun gk v3 v4 w' => CkLoop f w4 gk v3 v4 w')
          case atStart => exact ⟨0, false, rfl, rfl, rfl, Lib.hid ⟨by omega, fun _ j hj => (by omega), fun e => (by cases e), by omega⟩⟩
          case round =>
            obtain ⟨i, b, rfl, rfl, rfl, HG⟩ := hrel
            cases b with
            | true =>
              have HX : Hid (c = 70) := Lib.hid (by
                rw [← HC.out]
                obtain ⟨s, hm, hl⟩ := HG.out.2.2.1 (by simp)
                exact chk_no (fun h => by have := h.each s hm; omega))
              go_wp2_with fail
              all_goals
                go_ret
                exact ⟨by rw [HX.out]; rfl, hb5⟩
            | false =>
              by_cases hi : i < f.n
              · obtain ⟨ad, s, HAE, hcell, HXX⟩ := (HOK2.out.args.below hb5).at_ i hi
                have hi2 : (i : Int) < (f.n : Int) := by omega
                have hls := load_s hcell
                have hsz := HHA.out s (List.mem_of_getElem? HXX.out)
                rw [HAE] at l7
                clear HAE
                by_cases hl : 4096 < s.size
                · have hl2 : (4096 : Int) < (s.size : Int) := by omega
                  have HL := Lib.hid hl
                  clear hl
                  go_wp2_with fail
                  go_roundg (gk - 1)
                  case measure => have := HG.out.2.2.2; have := HG.out.1; omega
                  case rel => exact ⟨i + 1, true, by simp, by simp, rfl, Lib.hid ⟨by omega, fun e => by (cases e), fun _ => ⟨s, List.mem_of_getElem? HXX.out, HL.out⟩, by have := HG.out.2.2.2; omega⟩⟩
                · have hl2 : ¬ (4096 : Int) < (s.size : Int) := by omega
                  have HL := Lib.hid hl
                  clear hl
                  go_wp2_with fail
                  go_roundg (gk - 1)
                  case measure => have := HG.out.2.2.2; have := HG.out.1; omega
                  case rel =>
                    refine ⟨i + 1, false, by simp, by simp, rfl, Lib.hid ⟨by omega, fun _ j hj s2 h2 => ?_, fun e => by (cases e), by have := HG.out.2.2.2; omega⟩⟩
                    rcases Nat.lt_or_ge j i with h | h
                    · exact HG.out.2.1 (by simp) j h s2 h2
                    · obtain rfl : j = i := by omega
                      rw [HXX.out] at h2
                      cases h2
                      have := HL.out
                      omega
              · have hi2 : ¬ (i : Int) < (f.n : Int) := by omega
                have HM : Hid (May f) := Lib.hid (HP.out (fun s hm => by
                  obtain ⟨j, hj, e⟩ := List.mem_iff_getElem.1 hm
                  have := HOK2.out.args.len
                  exact HG.out.2.1 (by simp) j (by omega) s (by rw [List.getElem?_eq_getElem hj, e])))
                clear hi
                by_cases hs : 2097152 < f.body.size
                · have HX : Hid (c = 3) := Lib.hid (by rw [← HC.out]; exact chk_long HM.out (.inl hs))
                  have hs2 : (2097152 : Int) < (f.body.size : Int) := by omega
                  clear hs
                  go_wp2_with fail
                  go_ret
                  exact ⟨by rw [HX.out]; rfl, hb5⟩
                · have hs2 : ¬ (2097152 : Int) < (f.body.size : Int) := by omega
                  have HS := Lib.hid hs
                  have e2 := hl1 _ hF5
                  clear hs
                  go_wp2_with fail
                  refine (rbody_any HM.out.k1 HM.out.k6 (HOK2.out.below hb5) HWF.out (may_lay HM.out HOK2.out.args.len (by have := HS.out; omega))).mono ?_
                  rintro e wd ⟨v, rfl, hOd, hbf⟩
                  have hbg := below_step hb5 hbf
                  obtain ⟨Ad, cd, rfl, hRd⟩ := hOd.reads
                  obtain ⟨nd, hnd⟩ : ∃ nd, (bodyF f).length = nd := ⟨_, rfl⟩
                  rw [hnd] at hOd hRd ⊢
                  by_cases hl : 2097152 < nd
                  · have HX : Hid (c = 3) := Lib.hid (by rw [← HC.out]; exact chk_long HM.out (.inr (by rw [hnd]; exact hl)))
                    have hl2 : (2097152 : Int) < (nd : Int) := by omega
                    clear hl hnd
                    go_wp2_with fail
                    go_ret
                    exact ⟨by rw [HX.out]; rfl, hbg⟩
                  · have HX : Hid (c = 0) := Lib.hid (by rw [← HC.out]; exact chk_ok HM.out (by rw [hnd]; have := HS.out; omega))
                    have hl2 : ¬ (2097152 : Int) < (nd : Int) := by omega
                    clear hl hnd
                    go_wp2_with fail
                    go_ret
                    exact ⟨by rw [HX.out]; rfl, hbg⟩
        · have bt : (f.st != 1) = true := by simpa using t3
          by_cases h0 : f.body.size = 0
          · have be : f.body.toList.isEmpty = true := by rw [body_empty]; exact decide_eq_true h0
            have be2 : (!f.body.toList.isEmpty) = false := by rw [be]; rfl
            have HP : Hid ((∀ s ∈ f.args, s.size ≤ 4096) → May f) := Lib.hid (fun he => ⟨HKK.out.1, HKK.out.2, HCO.out, HN8.out, by omega, by omega, by omega, fun e => absurd e e1, fun _ => ⟨by omega, by omega, fun _ => h0⟩, he⟩)
            have HOK2 := HOK
            have L := lds hF5
            have l0 := L.k; have l1 := L.v; have l2 := L.s; have l3 := L.st; have l4 := L.mo; have l5 := L.fu; have l6 := L.di; have l7 := L.args; have l8 := L.body
            clear L e1 e3 t3 h0
            go_wp2_with fail
            go_loopg [3, 4] f.n (fun gk v3 v4 w' => CkLoop f w4 gk v3 v4 w')
            case atStart => exact ⟨0, false, rfl, rfl, rfl, Lib.hid ⟨by omega, fun _ j hj => (by omega), fun e => (by cases e), by omega⟩⟩
            case round =>
              obtain ⟨i, b, rfl, rfl, rfl, HG⟩ := hrel
              cases b with
              | true =>
                have HX : Hid (c = 70) := Lib.hid (by
                  rw [← HC.out]
                  obtain ⟨s, hm, hl⟩ := HG.out.2.2.1 (by simp)
                  exact chk_no (fun h => by have := h.each s hm; omega))
                go_wp2_with fail
                all_goals
                  go_ret
                  exact ⟨by rw [HX.out]; rfl, hb5⟩
              | false =>
                by_cases hi : i < f.n
                · obtain ⟨ad, s, HAE, hcell, HXX⟩ := (HOK2.out.args.below hb5).at_ i hi
                  have hi2 : (i : Int) < (f.n : Int) := by omega
                  have hls := load_s hcell
                  have hsz := HHA.out s (List.mem_of_getElem? HXX.out)
                  rw [HAE] at l7
                  clear HAE
                  by_cases hl : 4096 < s.size
                  · have hl2 : (4096 : Int) < (s.size : Int) := by omega
                    have HL := Lib.hid hl
                    clear hl
                    go_wp2_with fail
                    go_roundg (gk - 1)
                    case measure => have := HG.out.2.2.2; have := HG.out.1; omega
                    case rel => exact ⟨i + 1, true, by simp, by simp, rfl, Lib.hid ⟨by omega, fun e => by (cases e), fun _ => ⟨s, List.mem_of_getElem? HXX.out, HL.out⟩, by have := HG.out.2.2.2; omega⟩⟩
                  · have hl2 : ¬ (4096 : Int) < (s.size : Int) := by omega
                    have HL := Lib.hid hl
                    clear hl
                    go_wp2_with fail
                    go_roundg (gk - 1)
                    case measure => have := HG.out.2.2.2; have := HG.out.1; omega
                    case rel =>
                      refine ⟨i + 1, false, by simp, by simp, rfl, Lib.hid ⟨by omega, fun _ j hj s2 h2 => ?_, fun e => by (cases e), by have := HG.out.2.2.2; omega⟩⟩
                      rcases Nat.lt_or_ge j i with h | h
                      · exact HG.out.2.1 (by simp) j h s2 h2
                      · obtain rfl : j = i := by omega
                        rw [HXX.out] at h2
                        cases h2
                        have := HL.out
                        omega
                · have hi2 : ¬ (i : Int) < (f.n : Int) := by omega
                  have HM : Hid (May f) := Lib.hid (HP.out (fun s hm => by
                    obtain ⟨j, hj, e⟩ := List.mem_iff_getElem.1 hm
                    have := HOK2.out.args.len
                    exact HG.out.2.1 (by simp) j (by omega) s (by rw [List.getElem?_eq_getElem hj, e])))
                  clear hi
                  by_cases hs : 2097152 < f.body.size
                  · have HX : Hid (c = 3) := Lib.hid (by rw [← HC.out]; exact chk_long HM.out (.inl hs))
                    have hs2 : (2097152 : Int) < (f.body.size : Int) := by omega
                    clear hs
                    go_wp2_with fail
                    go_ret
                    exact ⟨by rw [HX.out]; rfl, hb5⟩
                  · have hs2 : ¬ (2097152 : Int) < (f.body.size : Int) := by omega
                    have HS := Lib.hid hs
                    have e2 := hl1 _ hF5
                    clear hs
                    go_wp2_with fail
                    refine (rbody_any HM.out.k1 HM.out.k6 (HOK2.out.below hb5) HWF.out (may_lay HM.out HOK2.out.args.len (by have := HS.out; omega))).mono ?_
                    rintro e wd ⟨v, rfl, hOd, hbf⟩
                    have hbg := below_step hb5 hbf
                    obtain ⟨Ad, cd, rfl, hRd⟩ := hOd.reads
                    obtain ⟨nd, hnd⟩ : ∃ nd, (bodyF f).length = nd := ⟨_, rfl⟩
                    rw [hnd] at hOd hRd ⊢
                    by_cases hl : 2097152 < nd
                    · have HX : Hid (c = 3) := Lib.hid (by rw [← HC.out]; exact chk_long HM.out (.inr (by rw [hnd]; exact hl)))
                      have hl2 : (2097152 : Int) < (nd : Int) := by omega
                      clear hl hnd
                      go_wp2_with fail
                      go_ret
                      exact ⟨by rw [HX.out]; rfl, hbg⟩
                    · have HX : Hid (c = 0) := Lib.hid (by rw [← HC.out]; exact chk_ok HM.out (by rw [hnd]; have := HS.out; omega))
                      have hl2 : ¬ (2097152 : Int) < (nd : Int) := by omega
                      clear hl hnd
                      go_wp2_with fail
                      go_ret
                      exact ⟨by rw [HX.out]; rfl, hbg⟩
          · have be : f.body.toList.isEmpty = false := by rw [body_empty]; exact decide_eq_false h0
            have be2 : (!f.body.toList.isEmpty) = true := by rw [be]; rfl
            have HX : Hid (c = 70) := Lib.hid (by rw [← HC.out]; exact chk_no (fun h => by exact h0 ((h.resp e3).2.2 t3)))
            clear HOK HWF HHA
            have L := lds hF5
            have l0 := L.k; have l1 := L.v; have l2 := L.s; have l3 := L.st; have l4 := L.mo; have l5 := L.fu; have l6 := L.di; have l7 := L.args; have l8 := L.body
            clear L
            go_wp2_with fail
            go_loopg [3, 4] 1 (fun gk v3 v4 w' => v3 = .bool true ∧ v4 = .int .i64 0 ∧ w' = w4)
            case atStart => exact ⟨rfl, rfl, rfl⟩
            case round =>
              obtain ⟨rfl, rfl, rfl⟩ := hrel
              go_wp2_with fail
              all_goals
                go_ret
                exact ⟨by rw [HX.out]; rfl, hb5⟩
      have b3 : (f.k == 3) = false := by rw [beq_eq_false_iff_ne]; exact e3
      have HP : Hid ((∀ s ∈ f.args, s.size ≤ 4096) → May f) := Lib.hid (fun he => ⟨HKK.out.1, HKK.out.2, HCO.out, HN8.out, by omega, by omega, by omega, fun e => absurd e e1, fun e => absurd e e3, he⟩)
      have HOK2 := HOK
      have L := lds hF5
      have l0 := L.k; have l1 := L.v; have l2 := L.s; have l3 := L.st; have l4 := L.mo; have l5 := L.fu; have l6 := L.di; have l7 := L.args; have l8 := L.body
      clear L e1 e3
      go_wp2_with fail
      go_loopg [3, 4] f.n (fun gk v3 v4 w' => CkLoop f w4 gk v3 v4 w')
      case atStart => exact ⟨0, false, rfl, rfl, rfl, Lib.hid ⟨by omega, fun _ j hj => (by omega), fun e => (by cases e), by omega⟩⟩
      case round =>
        obtain ⟨i, b, rfl, rfl, rfl, HG⟩ := hrel
        cases b with
        | true =>
          have HX : Hid (c = 70) := Lib.hid (by
            rw [← HC.out]
            obtain ⟨s, hm, hl⟩ := HG.out.2.2.1 (by simp)
            exact chk_no (fun h => by have := h.each s hm; omega))
          go_wp2_with fail
          all_goals
            go_ret
            exact ⟨by rw [HX.out]; rfl, hb5⟩
        | false =>
          by_cases hi : i < f.n
          · obtain ⟨ad, s, HAE, hcell, HXX⟩ := (HOK2.out.args.below hb5).at_ i hi
            have hi2 : (i : Int) < (f.n : Int) := by omega
            have hls := load_s hcell
            have hsz := HHA.out s (List.mem_of_getElem? HXX.out)
            rw [HAE] at l7
            clear HAE
            by_cases hl : 4096 < s.size
            · have hl2 : (4096 : Int) < (s.size : Int) := by omega
              have HL := Lib.hid hl
              clear hl
              go_wp2_with fail
              go_roundg (gk - 1)
              case measure => have := HG.out.2.2.2; have := HG.out.1; omega
              case rel => exact ⟨i + 1, true, by simp, by simp, rfl, Lib.hid ⟨by omega, fun e => by (cases e), fun _ => ⟨s, List.mem_of_getElem? HXX.out, HL.out⟩, by have := HG.out.2.2.2; omega⟩⟩
            · have hl2 : ¬ (4096 : Int) < (s.size : Int) := by omega
              have HL := Lib.hid hl
              clear hl
              go_wp2_with fail
              go_roundg (gk - 1)
              case measure => have := HG.out.2.2.2; have := HG.out.1; omega
              case rel =>
                refine ⟨i + 1, false, by simp, by simp, rfl, Lib.hid ⟨by omega, fun _ j hj s2 h2 => ?_, fun e => by (cases e), by have := HG.out.2.2.2; omega⟩⟩
                rcases Nat.lt_or_ge j i with h | h
                · exact HG.out.2.1 (by simp) j h s2 h2
                · obtain rfl : j = i := by omega
                  rw [HXX.out] at h2
                  cases h2
                  have := HL.out
                  omega
          · have hi2 : ¬ (i : Int) < (f.n : Int) := by omega
            have HM : Hid (May f) := Lib.hid (HP.out (fun s hm => by
              obtain ⟨j, hj, e⟩ := List.mem_iff_getElem.1 hm
              have := HOK2.out.args.len
              exact HG.out.2.1 (by simp) j (by omega) s (by rw [List.getElem?_eq_getElem hj, e])))
            clear hi
            by_cases hs : 2097152 < f.body.size
            · have HX : Hid (c = 3) := Lib.hid (by rw [← HC.out]; exact chk_long HM.out (.inl hs))
              have hs2 : (2097152 : Int) < (f.body.size : Int) := by omega
              clear hs
              go_wp2_with fail
              go_ret
              exact ⟨by rw [HX.out]; rfl, hb5⟩
            · have hs2 : ¬ (2097152 : Int) < (f.body.size : Int) := by omega
              have HS := Lib.hid hs
              have e2 := hl1 _ hF5
              clear hs
              go_wp2_with fail
              refine (rbody_any HM.out.k1 HM.out.k6 (HOK2.out.below hb5) HWF.out (may_lay HM.out HOK2.out.args.len (by have := HS.out; omega))).mono ?_
              rintro e wd ⟨v, rfl, hOd, hbf⟩
              have hbg := below_step hb5 hbf
              obtain ⟨Ad, cd, rfl, hRd⟩ := hOd.reads
              obtain ⟨nd, hnd⟩ : ∃ nd, (bodyF f).length = nd := ⟨_, rfl⟩
              rw [hnd] at hOd hRd ⊢
              by_cases hl : 2097152 < nd
              · have HX : Hid (c = 3) := Lib.hid (by rw [← HC.out]; exact chk_long HM.out (.inr (by rw [hnd]; exact hl)))
                have hl2 : (2097152 : Int) < (nd : Int) := by omega
                clear hl hnd
                go_wp2_with fail
                go_ret
                exact ⟨by rw [HX.out]; rfl, hbg⟩
              · have HX : Hid (c = 0) := Lib.hid (by rw [← HC.out]; exact chk_ok HM.out (by rw [hnd]; have := HS.out; omega))
                have hl2 : ¬ (2097152 : Int) < (nd : Int) := by omega
                clear hl hnd
                go_wp2_with fail
                go_ret
                exact ⟨by rw [HX.out]; rfl, hbg⟩
end
end Go.Proofs.Ytpjpgcjhdbiepaa
end
/-! The document's reader: New, Int, Raw, Byte, Fail, End. -/
section
namespace Go.Proofs.Ytpjpgcjhdbiepaa
open Go.RowKit Go.Kit Go.Proofs.YtpjpgcjhdbiepaaW.PrintWords
section
variable {w w1 : World} {q n c : Nat} {A : Option Addr} {D : Rd} {S : Nat → Prop}
attribute [-go_sem] run_slice_lh run_slice_any
end
end Go.Proofs.Ytpjpgcjhdbiepaa
end
/-! The contracts of the document's Encode and of Need. -/
section
namespace Go.Proofs.Ytpjpgcjhdbiepaa
open Go.RowKit Go.Kit Go.Proofs.YtpjpgcjhdbiepaaW.PrintWords
section
variable {f : Fr} {w : World}
attribute [-go_sem] Instr.loadAt
set_option maxHeartbeats 8000000 in
set_option maxRecDepth 100000 in
theorem rEncode_any (hf : f.ok w) (hw : f.wf) (ha : ∀ s ∈ f.args, s.size ≤ 9223372036854775807) : Calls Try.prog 9 #[f.val] w fun e w' => ∃ v, e = .returned (.tuple #[v, .int .i64 (chkF f)]) ∧ OB 5 w' w.heap.size v (encF f) ∧ Below w.heap.size w w' := by
  have hb := below_alloc (Below.refl _ w) (.cells f.arr 42)
  have hF := boxed hf.tool w
  have hif : (Try.prog.info? 42).map (·.size) = some f.cells.length := by rw [frame_size]; have := Fr.arr_size f hf.tool; simp [Fr.arr] at this; rw [this]
  have cC : ∀ W, Below w.heap.size w W → Calls Try.prog 22 #[.agg f.arr] W (fun e w' => e = .returned (.int .i64 (chkF f)) ∧ Below W.heap.size W w') := fun W hbw => rCheck_any (hf.below hbw) hw ha
  have cB : chkF f = 0 → ∀ W, Below w.heap.size w W → Calls Try.prog 23 #[.agg f.arr] W (Laid W (bodyF f)) := fun hc W hbw => by
    obtain ⟨hm, h2, _⟩ := chk_facts hc
    exact rbody_any hm.k1 hm.k6 (hf.below hbw) hw (may_lay hm hf.args.len h2)
  obtain ⟨c, hc⟩ : ∃ c, chkF f = c := ⟨_, rfl⟩
  have HE : Hid (encF f = if c ≠ 0 then [] else sealed (sh (bodyF f).length ++ bodyF f)) := Lib.hid (by unfold encF; rw [hc])
  have HC := Lib.hid hc
  rw [hc] at cC ⊢
  clear hc hf hw ha
  show Calls Try.prog _ #[.agg f.arr] w _
  go_enter Try.func9, Try.ntmps9
  go_upto_region 1 with (fail)
  generalize w.alloc (.cells f.arr 42) = w1 at *
  obtain ⟨g, hg⟩ : ∃ g, w.heap.size = g := ⟨_, rfl⟩
  rw [hg] at hF ⊢
  clear hg
  have e2 := load_frame f hif w1 g hF
  go_wp2_with fail
  refine (cC w1 hb).mono ?_
  rintro e w2 ⟨rfl, hb2⟩
  have hb3 := below_step hb hb2
  have hF2 := hF.below hb2
  clear e2 hb hb2 hF cC
  by_cases h0 : c = 0
  · subst h0
    have e2 := load_frame f hif w2 g hF2
    have HL := Lib.hid (chk_facts HC.out).2.2
    go_wp2_with fail
    refine (cB HC.out w2 hb3).mono ?_
    rintro e w3 ⟨v3, rfl, hO3, hb4⟩
    have hb5 := below_step hb3 hb4
    obtain ⟨A3, c3, rfl, hR3, _⟩ := hO3.reads'
    obtain ⟨m, hm⟩ : ∃ m, (bodyF f).length = m := ⟨_, rfl⟩
    have hml : m ≤ 2097152 := by rw [← hm]; exact HL.out
    have hwm := u64_nn (x := (m : Int)) (by omega) (by omega)
    rw [hm] at hO3 hR3 HE ⊢
    have HM := Lib.hid hm
    clear e2 hb3 hb4 hF2 cB hm
    go_wp2_with fail
    refine (rUint_of (m : Int) (by omega) (by omega) w3).mono ?_
    rintro e w4 ⟨v4, rfl, hO4, hb6⟩
    have hb7 := below_step hb5 hb6
    have hR4 := hR3.below hb6
    have hO5 := hO4.less hb5.size
    rw [Int.toNat_natCast] at hO5
    have hls := sh_ten (n := m) (by omega)
    have HLS := Lib.hid hls
    clear hO4 hO3 hR3 hb5 hb6 hls
    go_wp2_with (at_builtin; refine push_row (w0 := w) w.heap.size rfl (.tmp 16) (.tmp 17) 23 (bodyF f) A3 m c3 rfl Try.underlying23 u8_info rfl rfl hO5 hR4 hb7 hb7.size (by have := HLS.out; omega) ?_)
    intro v6 w6 hO6 hb8 _ _
    obtain ⟨A6, c6, rfl, hR6, _⟩ := hO6.reads'
    obtain ⟨m6, hm6⟩ : ∃ q, (sh m ++ bodyF f).length = q := ⟨_, rfl⟩
    rw [hm6] at hO6 hR6 ⊢
    have hm6l : m6 ≤ 2097162 := by rw [← hm6, List.length_append, HM.out]; have := HLS.out; omega
    clear hm6 hR4 hO5 hb7
    go_wp2_with fail
    refine (rSeal_any A6 m6 c6 (sh m ++ bodyF f) w6 hR6 (by omega)).mono ?_
    rintro e w7 ⟨v7, rfl, hO7, hb9⟩
    have hb10 := below_step hb8 hb9
    have hO8 : OB 5 w7 w.heap.size v7 (encF f) := by
      rw [HE.out, if_neg (by decide)]
      exact hO7.less hb8.size
    go_wp2_with fail
    go_ret2
    exact ⟨_, rfl, hO8, hb10⟩
  · have h0b : (c != 0) = true := by simpa using h0
    have hO8 : OB 5 w2 w.heap.size (.slice none 0 0) (encF f) := by
      rw [HE.out, if_pos h0]
      exact OB.nil _ _ _
    clear h0
    go_wp2_with fail
    go_ret2
    exact ⟨_, rfl, hO8, hb3⟩
end
end Go.Proofs.Ytpjpgcjhdbiepaa
end
/-! The law's alive; the walk of FrameWrites. -/
section
namespace Go.Proofs.Ytpjpgcjhdbiepaa
open Go.RowKit Go.Kit Go.Proofs.YtpjpgcjhdbiepaaW.PrintWords
theorem bye_ok (w : World) : byeF.ok w := ⟨rfl, RT.nil w⟩
theorem byt_zeros (n : Nat) : Byt (List.replicate n 0) := fun x hx => by
  have := (List.mem_replicate.1 hx).2
  omega
theorem bye_wf : byeF.wf := ⟨by decide, by decide, ⟨by decide, by decide⟩, ⟨by decide, by decide⟩, ⟨by decide, by decide⟩, ⟨by decide, by decide⟩, ⟨by decide, by decide⟩, ⟨by decide, by decide⟩, ⟨by decide, by decide⟩, byt_zeros 32⟩
theorem bye_may : May byeF := ⟨by decide, by decide, rfl, by decide, by decide, by decide, by decide, fun e => absurd e (by decide), fun e => absurd e (by decide), fun s hs => by cases hs⟩
theorem bye_body : bodyF byeF = [5] := by
  unfold bodyF layF
  rw [if_neg (by decide), if_neg (by decide), if_neg (by decide), if_neg (by decide), if_neg (by decide), List.append_nil]
  exact sh_small (by decide)
theorem bye_chk : chkF byeF = 0 := chk_ok bye_may (by rw [bye_body]; decide)
theorem bye_len : (encF byeF).length = 6 := by
  unfold encF
  rw [bye_chk, if_neg (by decide), sealed_length, bye_body, List.length_append]
  rw [show ([5] : List Int).length = 1 from rfl, sh_small (by decide)]
  rfl
attribute [-go_sem] Instr.build
attribute [-go_sem] Instr.loadAt
end Go.Proofs.Ytpjpgcjhdbiepaa
end
/-! The walk of FrameForm. (mk_frfo) -/
section
namespace Go.Proofs.Ytpjpgcjhdbiepaa
open Go.RowKit Go.Kit Go.Proofs.YtpjpgcjhdbiepaaW.PrintWords
theorem load_errno {W : World} {a : Addr} {v : Value} (h : W.cell? a = some v) : (Instr.loadAt 25 (.pointer (some a))).run Try.prog W = .ok v W := by go_simp
theorem load_why {W : World} {g : Nat} {a b : Int} (h : W.heap[g]? = some (.cells (fv a b) 30 (0, 0))) : (Instr.loadAt 25 (.pointer (some ⟨g, 0, none⟩))).run Try.prog W = .ok (.int .i64 a) W := load_errno (by rw [cell_of_row W g 0 _ _ _ h]; rfl)
attribute [-go_sem] Instr.loadAt Instr.storeAt Instr.build
section
variable {A : Option Addr} {n cap : Nat} {xs : List Int} {w : World}
end
end Go.Proofs.Ytpjpgcjhdbiepaa
end
/-! The walk of FrameBack. -/
section
namespace Go.Proofs.Ytpjpgcjhdbiepaa
open Go.RowKit Go.Kit CrcM Go.Proofs.YtpjpgcjhdbiepaaW.PrintWords
attribute [local go_sem] Go.Proofs.YtpjpgcjhdbiepaaW.PrintMore.max_two Go.Proofs.YtpjpgcjhdbiepaaW.PrintMore.min_two Go.Proofs.YtpjpgcjhdbiepaaW.PrintMore.max_three
attribute [-go_sem] Instr.loadAt Instr.storeAt Instr.build run_slice_h run_slice_any
end Go.Proofs.Ytpjpgcjhdbiepaa
end
/-! A decoder in memory; what it says of itself. -/
section
namespace Go.Proofs.Ytpjpgcjhdbiepaa
open Go.RowKit Go.Kit CrcM Go.Proofs.YtpjpgcjhdbiepaaW.PrintWords
def dV (s : Sm) (want : Int) (v : Value) : Array Value := #[.int .i64 (s.most : Int), .int .i64 want, v, .int .i64 (s.came : Int), .int .i64 (s.whole : Int), .int .i64 s.why, .int .i64 s.wat]
/-- A decoder at d, its rest in the row v. -/
structure Db (w : World) (d : Nat) (v : Value) (want : Int) (s : Sm) : Prop where
  blk : w.heap[d]? = some (.cells (dV s want v) 59 (0, 0))
  row : OB 5 w 0 v s.rest
/-- .. between two calls. -/
structure Dc (w : World) (d : Nat) (v : Value) (want : Int) (s : Sm) : Prop extends Db w d v want s where
  ok : s.ok
  wnt : s.why = 0 → want = ((needS s.most s.rest).1 : Int)
  many : s.rest.length ≤ s.most + 14
/-- Its footprint. -/
def dfp (d : Nat) (v : Value) (k : Nat) : Prop := k = d ∨ rf v k
section
variable {w w1 : World} {d : Nat} {v : Value} {want : Int} {s : Sm} {S : Nat → Prop}
theorem Db.c0 (h : Db w d v want s) : w.cell? ⟨d, 0, none⟩ = some (.int .i64 (s.most : Int)) := cell_of_row w d 0 _ _ _ h.blk
theorem Db.c1 (h : Db w d v want s) : w.cell? ⟨d, 1, none⟩ = some (.int .i64 want) := cell_of_row w d 1 _ _ _ h.blk
theorem Db.c2 (h : Db w d v want s) : w.cell? ⟨d, 2, none⟩ = some v := cell_of_row w d 2 _ _ _ h.blk
theorem Db.c3 (h : Db w d v want s) : w.cell? ⟨d, 3, none⟩ = some (.int .i64 (s.came : Int)) := cell_of_row w d 3 _ _ _ h.blk
theorem Db.c4 (h : Db w d v want s) : w.cell? ⟨d, 4, none⟩ = some (.int .i64 (s.whole : Int)) := cell_of_row w d 4 _ _ _ h.blk
theorem Db.c5 (h : Db w d v want s) : w.cell? ⟨d, 5, none⟩ = some (.int .i64 s.why) := cell_of_row w d 5 _ _ _ h.blk
theorem Db.c6 (h : Db w d v want s) : w.cell? ⟨d, 6, none⟩ = some (.int .i64 s.wat) := cell_of_row w d 6 _ _ _ h.blk
theorem Db.fz (h : Db w d v want s) (j : Nat) : w.frozen? ⟨d, j, none⟩ = false := frozen_of_row w d j _ _ h.blk
theorem Db.poison (h : Db w d v want s) : (Instr.loadAt 30 (.pointer (some ⟨d, 5, none⟩))).run Try.prog w = .ok (.agg #[.int .i64 s.why, .int .i64 s.wat]) w :=
  run_loadAt_mid w d 5 30 [.int .i64 s.why, .int .i64 s.wat] _ (fun j u hj => by
    match j, hj with
    | 0, hj => simp at hj; subst hj; exact h.c5
    | 1, hj => simp at hj; subst hj; exact h.c6
    | j + 2, hj => simp at hj) Try.underlying30 rfl (fv_size s.why s.wat)
theorem Db.typed (h : Db w d v want s) : ∀ k, dfp d v k → ∃ cs t, w.heap[k]? = some (.cells cs t (0, 0)) ∧ t ≠ 42 ∧ t ≠ 9 := fun k hk => by
  rcases hk with rfl | hk
  · exact ⟨_, _, h.blk, by decide, by decide⟩
  · obtain ⟨cs, hc⟩ := own_typed h.row.own hk
    exact ⟨cs, _, hc, by decide, by decide⟩
theorem Db.apart (h : Db w d v want s) : ¬ rf v d := own_not h.row.own h.blk (by decide)
theorem Db.old (h : Db w d v want s) : Old w (dfp d v) := fun k hk => by
  rcases hk with rfl | hk
  · exact lt_of_block h.blk
  · exact (own_new h.row.own k hk).2
theorem Db.only (h : Db w d v want s) (ho : Only w w1 S) (hs : Sep (dfp d v) S) : Db w1 d v want s := ⟨ho.kept h.blk (hs d (.inl rfl)), h.row.only ho (fun k hk => hs k (.inr hk))⟩
theorem Db.below (h : Db w d v want s) (hb : Below w.heap.size w w1) : Db w1 d v want s := ⟨(hb.block _ (lt_of_block h.blk)).trans h.blk, h.row.below hb⟩
theorem Dc.only (h : Dc w d v want s) (ho : Only w w1 S) (hs : Sep (dfp d v) S) : Dc w1 d v want s := ⟨h.toDb.only ho hs, h.ok, h.wnt, h.many⟩
theorem Dc.below (h : Dc w d v want s) (hb : Below w.heap.size w w1) : Dc w1 d v want s := ⟨h.toDb.below hb, h.ok, h.wnt, h.many⟩
theorem storeAt_mid {P : Program} (W : World) (g o : Nat) (ty t : TypeId) (cells cur : Array Value) (hg : W.heap[g]? = some (.cells cur t (0, 0))) (hfit : o + cells.size ≤ cur.size) (hi : (P.info? ty).map (·.size) = some cells.size) (h1 : cells.all (·.oneCell') = true) :
    (Instr.storeAt ty (.pointer (some ⟨g, o, none⟩)) (.agg cells)).run P W = .ok () (W.setRow g (cur.toList.take o ++ cells.toList ++ cur.toList.drop (o + cells.size)).toArray) := by
  have hst := run_storeCells_at (P := P) g o t cells.toList 0 cur W hg (by simpa using hfit) (fun v hv => (Array.all_eq_true_iff_forall_mem.1 h1) v (by simpa using hv))
  simp only [Nat.add_zero, Array.length_toList] at hst
  simp only [Instr.storeAt, Instr.sureAddr, Sem.run_bind, Sem.run_pure, Result.andThen_ok]
  cases hq : P.info? ty with
  | none => simp [hq] at hi
  | some i =>
    have hs : cells.size = i.size := by simp [hq] at hi; omega
    simp [storeVar, sizeOf, typeInfo, hq, Value.cells, hs, hst]
theorem Db.spoil (h : Db w d v want s) (e a : Int) : (Instr.storeAt 30 (.pointer (some ⟨d, 5, none⟩)) (.agg #[.int .i64 e, .int .i64 ((s.came : Int) - s.rest.length + a)])).run Try.prog w = .ok () (w.setRow d (dV (s.bad e a) want v)) :=
  storeAt_mid (P := Try.prog) w d 5 30 59 #[.int .i64 e, .int .i64 ((s.came : Int) - s.rest.length + a)] _ h.blk (by simp [dV]) (fv_size e _) (by simp [Value.oneCell'])
end
theorem neq_fault (x y : Int) (b : Bool) (hb : ((x == 0) && (y == 0)) = b) (W : World) : (binOp .neq 30 (.agg #[.int .i64 x, .int .i64 y]) (.agg #[.int .i64 0, .int .i64 0])).run Try.prog W = .ok (.bool !b) W := run_fault_ne x y b hb W
section
variable {w : World} {d : Nat} {v : Value} {want : Int} {s : Sm}
theorem dmade_any (h : Dc w d v want s) : Calls Try.prog 26 #[.pointer (some ⟨d, 0, none⟩)] w fun e w' => e = .returned (.bool true) ∧ w' = w := by
  have h0 := h.toDb.c0
  have h1 : decide (0 < s.most) = true := decide_eq_true h.ok.one
  clear h
  go_enter Try.func26, Try.ntmps26
  go_wp2_with fail
  go_ret
  exact ⟨rfl, rfl⟩
theorem dhead_any (A : Option Addr) (n c : Nat) (xs : List Int) (w : World) (hx : RB w A n xs) (hn : n ≤ 140737488355328) : Calls Try.prog 37 #[.slice A n c] w fun e w' => e = .returned (.int .i64 (headsN xs : Int)) ∧ w' = w := by
  have HX := Lib.hid hx
  have HL := Lib.hid hx.len
  clear hx
  go_enter Try.func37, Try.ntmps37
  go_wp2_with fail
  go_loopg [3] n (fun gk v3 w' => ∃ i : Nat, v3 = .int .i64 (i : Int) ∧ w' = w ∧ Hid (i + gk = n ∧ ∀ j, j < i → ∃ x, xs[j]? = some x ∧ 128 ≤ x))
  case atStart => exact ⟨0, rfl, rfl, Lib.hid ⟨by omega, fun j hj => by omega⟩⟩
  case round =>
    obtain ⟨i, rfl, rfl, HG⟩ := hrel
    by_cases hi : i < n
    · obtain ⟨ad, x, rfl, hc, hx0, hx1, HXi⟩ := HX.out.at_ i hi
      have hi2 : (i : Int) < (n : Int) := by omega
      by_cases h128 : 128 ≤ x
      · go_wp2_with fail
        go_roundg (gk - 1)
        case measure => have := HG.out.1; omega
        case rel =>
          refine ⟨i + 1, by simp, rfl, Lib.hid ⟨by have := HG.out.1; omega, fun j hj => ?_⟩⟩
          rcases Nat.lt_succ_iff_lt_or_eq.1 hj with h | h
          · exact HG.out.2 j h
          · subst h; exact ⟨x, HXi.out, h128⟩
      · have HR : Hid (headsN xs = i + 1) := Lib.hid (heads_take HG.out.2 (.inr ⟨x, HXi.out, by omega⟩))
        clear hi
        go_wp2_with fail
        go_ret
        exact ⟨by rw [HR.out]; rfl, rfl⟩
    · have hi2 : ¬ (i : Int) < (n : Int) := by omega
      have HR : Hid (headsN xs = i + 1) := Lib.hid (heads_take HG.out.2 (.inl (by have := HG.out.1; have := HL.out; omega)))
      have hin : i ≤ n := by have := HG.out.1; omega
      clear hi
      go_wp2_with fail
      go_ret
      exact ⟨by rw [HR.out]; rfl, rfl⟩
end
end Go.Proofs.Ytpjpgcjhdbiepaa
end
/-! A decoder poisoned; a byte taken. -/
section
namespace Go.Proofs.Ytpjpgcjhdbiepaa
open Go.RowKit Go.Kit CrcM Go.Proofs.YtpjpgcjhdbiepaaW.PrintWords
theorem load_bytes_cell {W : World} {a : Addr} {v : Value} (h : W.cell? a = some v) : (Instr.loadAt 23 (.pointer (some a))).run Try.prog W = .ok v W := by go_simp
theorem put_bytes_cell (A : Option Addr) (n c : Nat) (W : World) (a : Addr) (u : Value) (hc : W.cell? a = some u) (hf : W.frozen? a = false) : (Instr.storeAt 23 (.pointer (some a)) (.slice A n c)).run Try.prog W = .ok () (W.setCell a (.slice A n c)) := by go_simp
theorem build_fault (x y : Int) (W : World) : (Instr.build 30 #[(0, .int .i64 x), (1, .int .i64 y)]).run Try.prog W = .ok (.agg #[.int .i64 x, .int .i64 y]) W := by kernel_rfl
theorem build_fault0 (W : World) : (Instr.build 30 #[]).run Try.prog W = .ok (.agg #[.int .i64 0, .int .i64 0]) W := by kernel_rfl
attribute [-go_sem] Instr.loadAt Instr.storeAt Instr.build
section
variable {w : World} {d : Nat} {v : Value} {want : Int} {s : Sm}
theorem Db.bad (h : Db w d v want s) (e a : Int) : Db (w.setRow d (dV (s.bad e a) want v)) d v want (s.bad e a) ∧ Only w (w.setRow d (dV (s.bad e a) want v)) (fun k => k = d) :=
  ⟨⟨setRow_heap _ _ _ _ _ _ h.blk, h.row.only (Fr.only_row w d _) (fun k hk e => h.apart (e ▸ hk))⟩, Fr.only_row w d _⟩
set_option maxHeartbeats 4000000 in
set_option maxRecDepth 100000 in
theorem spoil_any (h : Db w d v want s) (hl : s.rest.length ≤ s.came) (hc : s.came ≤ 1152921504606846976) (e a : Int) (ha : 0 ≤ a) (ha2 : a ≤ 1152921504606846976) :
    Calls Try.prog 38 #[.pointer (some ⟨d, 0, none⟩), .int .i64 e, .int .i64 a] w fun x w' => x = .returned (.tuple #[]) ∧ Db w' d v want (s.bad e a) ∧ Only w w' (fun k => k = d) := by
  have hdr := below_drew (Below.refl w.heap.size w)
  have hd := h.below hdr
  obtain ⟨hb1, hb2⟩ := hd.bad e a
  have HB := Lib.hid hb1
  have HO := Lib.hid ((Only.of_below hdr (fun k => k = d)).same hb2)
  have sp := hd.spoil e a
  obtain ⟨A, c, rfl, hR, _⟩ := h.row.reads'
  have e3 := load_cell_int hd.c3
  have e2 := load_bytes_cell hd.c2
  obtain ⟨w1, hw1⟩ : ∃ w1, w.drew.setRow d (dV (s.bad e a) want (.slice A s.rest.length c)) = w1 := ⟨_, rfl⟩
  rw [hw1] at HB HO sp
  clear hw1
  obtain ⟨n, hn⟩ : ∃ n, s.rest.length = n := ⟨_, rfl⟩
  obtain ⟨m, hm⟩ : ∃ m, s.came = m := ⟨_, rfl⟩
  rw [hn, hm] at hl sp
  rw [hm] at hc e3
  rw [hn] at e2
  have hbf := build_fault
  have k1 : IntKind.i64.wrap ((m : Int) - (n : Int)) = (m : Int) - (n : Int) := by rw [IntKind.wrap_i64]; omega
  have k2 : IntKind.i64.wrap ((m : Int) - (n : Int) + a) = (m : Int) - (n : Int) + a := by rw [IntKind.wrap_i64]; omega
  clear h hR hb1 hb2 hn hm hd hdr
  go_enter Try.func38, Try.ntmps38
  go_wp2_with fail
  go_region_law (fail)
  all_goals
    go_wp2_with fail
    refine bodyPost_end (v := .tuple #[]) (by simp [results, Try.results38, go_sem]) rfl ⟨rfl, HB.out, HO.out⟩
end
end Go.Proofs.Ytpjpgcjhdbiepaa
end
/-! Where a fault stands: within the bytes. The plain law. No program in it. -/
section
namespace Go.Proofs.Ytpjpgcjhdbiepaa
open Go.RowKit Go.Kit CrcM Go.Proofs.YtpjpgcjhdbiepaaW.PrintWords
/-- A reader's place, and its fault's, are within the bytes. -/
structure Wat (D : Rd) (bs : List Int) : Prop where
  same : D.bs = bs
  byt : Byt bs
  low : D.at_ ≤ bs.length
  wat0 : 0 ≤ D.wat
  wat1 : D.wat ≤ bs.length
section
variable {D : Rd} {bs : List Int}
theorem Wat.fail (h : Wat D bs) (e : Int) {a : Nat} (ha : a ≤ bs.length) : Wat (D.fail e a) bs := ⟨h.same, h.byt, h.low, by show (0 : Int) ≤ (a : Int); omega, by show (a : Int) ≤ _; omega⟩
theorem Wat.to (h : Wat D bs) {a : Nat} (ha : a ≤ bs.length) : Wat (D.to a) bs := ⟨h.same, h.byt, ha, h.wat0, h.wat1⟩
theorem Wat.num (h : Wat D bs) : D.at_ + (num D.bs D.at_).2.1 ≤ bs.length := by
  have := (num_facts (bs := D.bs) (by rw [h.same]; exact h.byt) (a := D.at_) (by rw [h.same]; exact h.low)).2.1
  rw [h.same] at this ⊢; exact this
theorem Wat.uint (h : Wat D bs) : Wat (uintS D).1 bs := by
  unfold uintS
  split
  · exact h
  split
  · exact h.fail _ h.low
  · exact h.to h.num
theorem Wat.count (h : Wat D bs) (m : Int) : Wat (countS D m).1 bs := by
  unfold countS
  split
  · exact h
  split
  · exact h.fail _ h.low
  split
  · exact h.fail _ h.low
  split
  · exact h.fail _ h.low
  · exact h.to h.num
theorem Wat.some_ (h : Wat D bs) (m : Int) : Wat (someS D m).1 bs := by
  unfold someS
  split
  · exact h.fail _ h.low
  · exact h.count m
theorem Wat.raw (h : Wat D bs) (n : Int) : Wat (rawS D n).1 bs := by
  unfold rawS
  split
  · exact h
  split
  · exact h.fail _ h.low
  split
  · exact h.fail _ h.low
  · next h1 h2 h3 => exact h.to (by rw [h.same] at h3; omega)
theorem Wat.text (h : Wat D bs) (m : Int) : Wat (textS D m).1 bs := by
  unfold textS
  split
  · exact h
  split
  · exact h.fail _ h.low
  obtain ⟨s, en, x, hT⟩ : ∃ s en x, textAt D.bs D.at_ m = (s, en, x) := ⟨_, _, _, rfl⟩
  split
  · exact h.fail _ h.low
  · next h3 =>
    have h3 := Classical.not_not.mp h3
    rw [hT] at h3 ⊢
    have hT2 := hT
    rw [h.same] at hT2
    exact h.to ((textAt_facts h.byt h.low hT2).1 h3).1
theorem lstR_at {bs : List Int} (hb : Byt bs) (each : Int) : ∀ (n a : Nat) (acc : List ByteArray), a ≤ bs.length → (lstR bs each n a acc).2.1 ≤ bs.length
  | 0, a, acc, ha => ha
  | n + 1, a, acc, ha => by
    obtain ⟨s, en, x, hT⟩ : ∃ s en x, textAt bs a each = (s, en, x) := ⟨_, _, _, rfl⟩
    rw [lstR, hT]
    split
    · exact ha
    · next h =>
      have h := Classical.not_not.mp h
      exact lstR_at hb each n en _ ((textAt_facts hb ha hT).1 h).1
theorem Wat.list (h : Wat D bs) (m e : Int) : Wat (listS D m e).1 bs := by
  unfold listS
  split
  · exact h
  split
  · exact h.fail _ h.low
  split
  · exact h.fail _ h.low
  split
  · exact h.fail _ h.low
  have hl : (lstR D.bs e (Go.Kit.num D.bs D.at_).1 (D.at_ + (Go.Kit.num D.bs D.at_).2.1) []).2.1 ≤ bs.length := by
    have h1 := h.num
    rw [h.same] at h1 ⊢
    exact lstR_at h.byt e _ _ _ h1
  split
  · exact h.fail _ hl
  · exact h.to hl
theorem Wat.end_ (h : Wat D bs) : Wat (endS D) bs := by
  unfold endS
  split
  · exact h.fail _ h.low
  · exact h
theorem Wat.kind (h : Wat D bs) (k : Nat) : Wat (kindS D k).1 bs := by
  unfold kindS
  split
  · unfold helloS; exact ((h.some_ 1).some_ 64).raw 32
  split
  · unfold requestS; exact ((((h.uint.count 2147483648).count 2147483648).count 2147483648).list 8 4096).text 2097152
  split
  · unfold responseS; exact (h.uint.some_ 3).text 2097152
  split
  · unfold cancelS; exact h.uint
  split
  · unfold noteS; exact h.text 2097152
  · exact h
end
theorem read_at {p : List Int} {head : Nat} (hb : Byt p) (hh : head ≤ p.length) : 0 ≤ (readF p head).2.2 ∧ (readF p head).2.2 ≤ p.length := by
  have h0 : Wat ((Rd.new p).to head) p := ⟨rfl, hb, hh, by show (0 : Int) ≤ 0; omega, by show (0 : Int) ≤ _; omega⟩
  have h1 : Wat (fieldsS ((Rd.new p).to head)).1 p := (h0.some_ 6).kind _
  obtain ⟨D, f, hF⟩ : ∃ D f, fieldsS ((Rd.new p).to head) = (D, f) := ⟨_, _, rfl⟩
  rw [hF] at h1
  have h2 := h1.end_
  rw [readF_of hF]
  unfold finS
  have w0 := h2.wat0
  have w1 := h2.wat1
  by_cases hc : (endS D).why = 0 ∧ f.k = 3 ∧ f.st ≠ 1 ∧ f.body.size ≠ 0
  · rw [if_pos hc, if_pos (by show (70 : Int) ≠ 0; decide)]
    dsimp only; omega
  · rw [if_neg hc]
    dsimp only
    split
    · exact ⟨w0, w1⟩
    · dsimp only; omega
theorem dec_zero2 {xs : List Int} : (decF xs).2.1 = 0 → (decF xs).2.2 = 0 := by
  unfold decF
  split
  · exact fun _ => rfl
  split
  · exact fun e => absurd e (by show ¬ (4 : Int) = 0; decide)
  split
  · exact fun e => absurd e (by show ¬ (6 : Int) = 0; decide)
  split
  · exact fun e => absurd e (by show ¬ (71 : Int) = 0; decide)
  · obtain ⟨D, f, hF⟩ : ∃ D f, fieldsS ((Rd.new (openR xs).1).to (needF xs).2.1) = (D, f) := ⟨_, _, rfl⟩
    rw [readF_of hF]
    split
    · next h => exact fun e => absurd e h
    · exact fun _ => rfl
theorem dec_at {xs : List Int} (hb : Byt xs) : 0 ≤ (decF xs).2.2 ∧ (decF xs).2.2 ≤ xs.length := by
  obtain ⟨m, k, e, hN⟩ : ∃ m k e, needF xs = (m, k, e) := ⟨_, _, _, rfl⟩
  unfold decF
  rw [hN]
  dsimp only
  split
  · dsimp only; omega
  next he =>
  have he := Classical.not_not.mp he
  subst he
  split
  · dsimp only; omega
  next h1 =>
  split
  · dsimp only; omega
  next h2 =>
  obtain ⟨m0, hh, hm0⟩ := need_head hN (fun e => h1 (.inl e))
  split
  · dsimp only; omega
  · next ho =>
    have ho := Classical.not_not.mp ho
    obtain ⟨ys, er, hO⟩ : ∃ ys er, openR xs = (ys, er) := ⟨_, _, rfl⟩
    rw [hO] at ho ⊢
    dsimp only at ho ⊢
    subst ho
    obtain ⟨ht, h4⟩ := open_take hO
    have hyl : ys.length = xs.length - 4 := by rw [ht, List.length_take]; omega
    have := read_at (p := ys) (head := k) (by rw [ht]; exact hb.take _) (by omega)
    omega
end Go.Proofs.Ytpjpgcjhdbiepaa
end
