/- Contracts of functions that the laws reach (texts laid together, part 4): each says of its call what it answers and what it leaves of memory; the conditions stand in each statement. -/
import Derived.Test.YtelfephmjkipoaaMb3
import Derived.Test.YtelfephmjkipoaaMb2
import Derived.Deep.QuietTactic
import Derived.BigQuiet
import Derived.Deep.RegionWith
import Derived.Test.YtelfephmjkipoaaMb1
import Derived.StillTailTactics
set_option linter.unusedVariables false
/-! The contract of the document's body. (mk_frzb.py) -/
section
namespace Go.Proofs.Ytelfephmjkipoaa
open Go.RowKit Go.Kit Go.Proofs.YtelfephmjkipoaaW.PrintWords
theorem rUint_of (u : Int) (h0 : 0 ≤ u) (h1 : u ≤ 18446744073709551615) (w : World) : Calls Try.prog 39 #[.int .u64 u] w (Laid w (sh u.toNat)) := by
  have h := rUint_any u.toNat w (by omega)
  rw [Int.toNat_of_nonneg h0] at h
  exact h
theorem keepG {W w1 : World} {g base : Nat} {f : Fr} {v : Value} {xs : List Int} (hF : f.at_ 29 W g) (hO : OB 5 W base v xs) (hg : W.grownBy w1 v.ownBlock) : f.at_ 29 w1 g :=
  hF.only ((Only.refl W (rf v)).grown hg (fun k e => .inl e)) (hO.not_block hF.blk (by decide))
theorem lst_len (f : Fr) (h : (0 ≤ f.mo ∧ 0 ≤ f.fu ∧ 0 ≤ f.di) ∧ f.n ≤ 8 ∧ ∀ s ∈ f.args, s.size ≤ 4096) (hn : f.args.length = f.n) : (lst f.args).length ≤ 32858 := by
  have h1 := txts_length f.args 4096 (by omega) h.2.2
  have h2 := sh_ten (n := f.args.length) (by omega)
  have h4 : f.args.length * (10 + 4096) ≤ 8 * (10 + 4096) := Nat.mul_le_mul_right _ (by omega)
  unfold lst
  rw [List.length_append]
  omega
section
variable {f : Fr} {w : World}
set_option maxHeartbeats 16000000 in
set_option maxRecDepth 100000 in
theorem rbody_any (h1 : 1 ≤ f.k) (h6 : f.k ≤ 6) (hf : f.ok w) (hw : f.wf) (hL : LayOk f) : Calls Try.prog 38 #[f.val] w (Laid w (bodyF f)) := by
  have hb := below_alloc (Below.refl _ w) (.cells f.arr 29)
  have hF := boxed hf.tool w
  have hwk := u64_nn (x := f.k) (by omega) (by omega)
  have HWF := Lib.hid hw
  have HK := Lib.hid (And.intro h1 h6)
  have HL := Lib.hid hL
  have HT := Lib.hid hf.tool
  have HA := Lib.hid hf.args
  have HLK := Lib.hid (sh_ten (n := f.k.toNat) (by omega))
  clear hw hL hf h1 h6
  show Calls Try.prog _ #[.agg f.arr] w _
  go_enter Try.func38, Try.ntmps38
  go_upto_region 1 with (fail)
  generalize w.alloc (.cells f.arr 29) = w1 at *
  obtain ⟨g, hg⟩ : ∃ g, w.heap.size = g := ⟨_, rfl⟩
  rw [hg] at hF ⊢
  clear hg
  have q := hF.c0
  go_wp2_with fail
  refine (rUint_of f.k (by have := HK.out; omega) (by have := HK.out; omega) _).mono ?_
  rintro e w2 ⟨v2, rfl, hO2, hb2⟩
  have hF2 := hF.below hb2
  replace hb2 := below_step hb hb2
  replace hO2 := hO2.less hb.size
  clear hb hF q hwk
  have q := hF2.c0
  obtain ⟨a2, ha2⟩ : ∃ q, sh f.k.toNat = q := ⟨_, rfl⟩
  rw [ha2] at hO2
  have HA2 : Hid (a2 = sh f.k.toNat) := Lib.hid ha2.symm
  have HB2 : Hid (a2.length ≤ 10) := Lib.hid (by rw [← ha2]; exact HLK.out)
  clear ha2
  by_cases k1 : f.k = 1
  · have b1 : (f.k == 1) = true := by rw [beq_iff_eq]; exact k1
    have HKK := Lib.hid k1
    clear k1
    have q3 := hF2.c2
    have hwrv := u64_nn (x := f.v) ((HL.out.hello (HKK.out)).1) HWF.out.v.2
    go_wp2_with fail
    refine (rUint_of f.v ((HL.out.hello (HKK.out)).1) (by have := HWF.out.v.2; omega) _).mono ?_
    rintro e w3 ⟨v3, rfl, hP3, hc3⟩
    have hF3 := hF2.below hc3
    have hO3 := hO2.below hc3
    have hb3 := below_step hb2 hc3
    obtain ⟨A3, c3, rfl, hR3, _⟩ := hP3.reads'
    obtain ⟨y3, hy3⟩ : ∃ q, sh f.v.toNat = q := ⟨_, rfl⟩
    rw [hy3] at hR3 ⊢
    obtain ⟨n3, hn3⟩ : ∃ q, y3.length = q := ⟨_, rfl⟩
    rw [hn3] at hR3 ⊢
    have HN3 : Hid (n3 ≤ 10) := Lib.hid (by rw [← hn3, ← hy3]; exact sh_ten (by have := HWF.out.v.2; omega))
    have HLN3 : Hid (a2.length + n3 ≤ 140737488355328) := Lib.hid (by have := HN3.out; have := HB2.out; omega)
    have HY3 := Lib.hid hy3
    have HE3 := Lib.hid hn3
    clear hb2 hF2 hO2 hc3 hP3 q3 hy3 hn3
    go_wp2_with (at_builtin; refine push_row (w0 := w) w.heap.size rfl (.tmp 13) (.tmp 17) 38 y3 A3 n3 c3 rfl Try.underlying38 u8_info rfl rfl hO3 hR3 hb3 hb3.size HLN3.out ?_)
    intro v4 w4 hO4 hb4 hg4 _
    have hF4 := keepG hF3 hO3 hg4
    obtain ⟨a4, ha4⟩ : ∃ q, a2 ++ y3 = q := ⟨_, rfl⟩
    rw [ha4] at hO4
    have HB4 : Hid (a4.length ≤ 20) := Lib.hid (by rw [← ha4, List.length_append, HE3.out]; have := HN3.out; have := HB2.out; omega)
    have HA4 : Hid (a4 = a2 ++ sh f.v.toNat) := Lib.hid (by rw [← ha4, HY3.out])
    clear hF3 hO3 hb3 hR3 hg4 HLN3 ha4
    have q5 := hF4.c3
    have hwrs := u64_nn (x := f.s) ((HL.out.hello (HKK.out)).2) HWF.out.s.2
    go_wp2_with fail
    refine (rUint_of f.s ((HL.out.hello (HKK.out)).2) (by have := HWF.out.s.2; omega) _).mono ?_
    rintro e w5 ⟨v5, rfl, hP5, hc5⟩
    have hF5 := hF4.below hc5
    have hO5 := hO4.below hc5
    have hb5 := below_step hb4 hc5
    obtain ⟨A5, c5, rfl, hR5, _⟩ := hP5.reads'
    obtain ⟨y5, hy5⟩ : ∃ q, sh f.s.toNat = q := ⟨_, rfl⟩
    rw [hy5] at hR5 ⊢
    obtain ⟨n5, hn5⟩ : ∃ q, y5.length = q := ⟨_, rfl⟩
    rw [hn5] at hR5 ⊢
    have HN5 : Hid (n5 ≤ 10) := Lib.hid (by rw [← hn5, ← hy5]; exact sh_ten (by have := HWF.out.s.2; omega))
    have HLN5 : Hid (a4.length + n5 ≤ 140737488355328) := Lib.hid (by have := HN5.out; have := HB4.out; omega)
    have HY5 := Lib.hid hy5
    have HE5 := Lib.hid hn5
    clear hb4 hF4 hO4 hc5 hP5 q5 hy5 hn5
    go_wp2_with (at_builtin; refine push_row (w0 := w) w.heap.size rfl (.tmp 19) (.tmp 23) 38 y5 A5 n5 c5 rfl Try.underlying38 u8_info rfl rfl hO5 hR5 hb5 hb5.size HLN5.out ?_)
    intro v6 w6 hO6 hb6 hg6 _
    have hF6 := keepG hF5 hO5 hg6
    obtain ⟨a6, ha6⟩ : ∃ q, a4 ++ y5 = q := ⟨_, rfl⟩
    rw [ha6] at hO6
    have HB6 : Hid (a6.length ≤ 30) := Lib.hid (by rw [← ha6, List.length_append, HE5.out]; have := HN5.out; have := HB4.out; omega)
    have HA6 : Hid (a6 = a4 ++ sh f.s.toNat) := Lib.hid (by rw [← ha6, HY5.out])
    clear hF5 hO5 hb5 hR5 hg6 HLN5 ha6
    go_wp2_with fail
    go_loopg [3, 4] 32 (fun gk v3 v4 w' => ∃ k : Nat, v4 = .int .i64 (k : Int) ∧ OB 5 w' w.heap.size v3 (a6 ++ f.tool.take k) ∧ f.at_ 29 w' g ∧ Below w.heap.size w w' ∧ Hid (k + gk = 32))
    case atStart => exact ⟨0, rfl, by simpa using hO6, hF6, hb6, Lib.hid rfl⟩
    case round =>
      clear hO6 hF6 hb6
      obtain ⟨k, rfl, hO, hF, hb, HG⟩ := hrel
      by_cases hk : k < 32
      · have hk2 : (k : Int) < 32 := by omega
        obtain ⟨x, HX⟩ : ∃ x, Hid (f.tool[k]? = some x) := ⟨_, Lib.hid (List.getElem?_eq_getElem (by rw [HT.out]; exact hk))⟩
        have hx := HWF.out.byt x (List.mem_of_getElem? HX.out)
        have hcell : wr.cell? ⟨g, 4 + k, none⟩ = some (.int .u8 x) := hF.r4 k (.int .u8 x) (by simp [nums, HX.out])
        have hba := below_alloc (Below.refl wr.heap.size wr) (.cells #[.int .u8 x] 5)
        have hF2 := hF.below hba
        have hLL : Hid ((a6 ++ f.tool.take k).length + 1 ≤ 140737488355328) := Lib.hid (by
          have h1 : (f.tool.take k).length ≤ 32 := by rw [List.length_take]; omega
          have := HB6.out; rw [List.length_append]; omega)
        have hbs := hb.size
        go_wp2_with (at_builtin; refine push_byte (w0 := w) w.heap.size rfl (.tmp 29) (.tmp 34) 38 x rfl Try.underlying38 u8_info rfl rfl hO hb hbs hLL.out hx.1 hx.2 ?_)
        intro v5 w5 hO5 hb5 hg5 _
        have hF5 := keepG hF hO hg5
        go_wp2_with fail
        go_roundg (gk - 1)
        case measure => have := HG.out; omega
        case rel =>
          refine ⟨k + 1, by simp, ?_, hF5, hb5, Lib.hid (by have := HG.out; omega)⟩
          rw [snoc HX.out]
          first | exact hO5 | (rw [← List.append_assoc]; exact hO5)
      · have hk2 : ¬ (k : Int) < 32 := by omega
        have HE : Hid (a6 ++ f.tool.take k = bodyF f) := Lib.hid (by
          rw [List.take_of_length_le (by rw [HT.out]; omega)]
          rw [HA6.out, HA4.out, HA2.out]; unfold bodyF layF; rw [if_pos HKK.out]; simp only [List.append_assoc])
        rw [HE.out] at hO
        clear hk
        go_wp2_with fail
        go_ret
        exact ⟨_, rfl, hO, hb⟩
  have b1 : (f.k == 1) = false := by rw [beq_eq_false_iff_ne]; exact k1
  by_cases k2 : f.k = 2
  · have b2 : (f.k == 2) = true := by rw [beq_iff_eq]; exact k2
    have HKK := Lib.hid k2
    clear k2
    have q3 := hF2.c1
    go_wp2_with fail
    refine (rUint_of f.id (HWF.out.id0) (HWF.out.id1) _).mono ?_
    rintro e w3 ⟨v3, rfl, hP3, hc3⟩
    have hF3 := hF2.below hc3
    have hO3 := hO2.below hc3
    have hb3 := below_step hb2 hc3
    obtain ⟨A3, c3, rfl, hR3, _⟩ := hP3.reads'
    obtain ⟨y3, hy3⟩ : ∃ q, sh f.id.toNat = q := ⟨_, rfl⟩
    rw [hy3] at hR3 ⊢
    obtain ⟨n3, hn3⟩ : ∃ q, y3.length = q := ⟨_, rfl⟩
    rw [hn3] at hR3 ⊢
    have HN3 : Hid (n3 ≤ 10) := Lib.hid (by rw [← hn3, ← hy3]; exact sh_ten (by have := HWF.out.id1; omega))
    have HLN3 : Hid (a2.length + n3 ≤ 140737488355328) := Lib.hid (by have := HN3.out; have := HB2.out; omega)
    have HY3 := Lib.hid hy3
    have HE3 := Lib.hid hn3
    clear hb2 hF2 hO2 hc3 hP3 q3 hy3 hn3
    go_wp2_with (at_builtin; refine push_row (w0 := w) w.heap.size rfl (.tmp 38) (.tmp 41) 38 y3 A3 n3 c3 rfl Try.underlying38 u8_info rfl rfl hO3 hR3 hb3 hb3.size HLN3.out ?_)
    intro v4 w4 hO4 hb4 hg4 _
    have hF4 := keepG hF3 hO3 hg4
    obtain ⟨a4, ha4⟩ : ∃ q, a2 ++ y3 = q := ⟨_, rfl⟩
    rw [ha4] at hO4
    have HB4 : Hid (a4.length ≤ 20) := Lib.hid (by rw [← ha4, List.length_append, HE3.out]; have := HN3.out; have := HB2.out; omega)
    have HA4 : Hid (a4 = a2 ++ sh f.id.toNat) := Lib.hid (by rw [← ha4, HY3.out])
    clear hF3 hO3 hb3 hR3 hg4 HLN3 ha4
    have q5 := hF4.c37
    have hwrmo := u64_nn (x := f.mo) ((HL.out.req (HKK.out)).1.1) HWF.out.mo.2
    go_wp2_with fail
    refine (rUint_of f.mo ((HL.out.req (HKK.out)).1.1) (by have := HWF.out.mo.2; omega) _).mono ?_
    rintro e w5 ⟨v5, rfl, hP5, hc5⟩
    have hF5 := hF4.below hc5
    have hO5 := hO4.below hc5
    have hb5 := below_step hb4 hc5
    obtain ⟨A5, c5, rfl, hR5, _⟩ := hP5.reads'
    obtain ⟨y5, hy5⟩ : ∃ q, sh f.mo.toNat = q := ⟨_, rfl⟩
    rw [hy5] at hR5 ⊢
    obtain ⟨n5, hn5⟩ : ∃ q, y5.length = q := ⟨_, rfl⟩
    rw [hn5] at hR5 ⊢
    have HN5 : Hid (n5 ≤ 10) := Lib.hid (by rw [← hn5, ← hy5]; exact sh_ten (by have := HWF.out.mo.2; omega))
    have HLN5 : Hid (a4.length + n5 ≤ 140737488355328) := Lib.hid (by have := HN5.out; have := HB4.out; omega)
    have HY5 := Lib.hid hy5
    have HE5 := Lib.hid hn5
    clear hb4 hF4 hO4 hc5 hP5 q5 hy5 hn5
    go_wp2_with (at_builtin; refine push_row (w0 := w) w.heap.size rfl (.tmp 43) (.tmp 48) 38 y5 A5 n5 c5 rfl Try.underlying38 u8_info rfl rfl hO5 hR5 hb5 hb5.size HLN5.out ?_)
    intro v6 w6 hO6 hb6 hg6 _
    have hF6 := keepG hF5 hO5 hg6
    obtain ⟨a6, ha6⟩ : ∃ q, a4 ++ y5 = q := ⟨_, rfl⟩
    rw [ha6] at hO6
    have HB6 : Hid (a6.length ≤ 30) := Lib.hid (by rw [← ha6, List.length_append, HE5.out]; have := HN5.out; have := HB4.out; omega)
    have HA6 : Hid (a6 = a4 ++ sh f.mo.toNat) := Lib.hid (by rw [← ha6, HY5.out])
    clear hF5 hO5 hb5 hR5 hg6 HLN5 ha6
    have q7 := hF6.c38
    have hwrfu := u64_nn (x := f.fu) ((HL.out.req (HKK.out)).1.2.1) HWF.out.fu.2
    go_wp2_with fail
    refine (rUint_of f.fu ((HL.out.req (HKK.out)).1.2.1) (by have := HWF.out.fu.2; omega) _).mono ?_
    rintro e w7 ⟨v7, rfl, hP7, hc7⟩
    have hF7 := hF6.below hc7
    have hO7 := hO6.below hc7
    have hb7 := below_step hb6 hc7
    obtain ⟨A7, c7, rfl, hR7, _⟩ := hP7.reads'
    obtain ⟨y7, hy7⟩ : ∃ q, sh f.fu.toNat = q := ⟨_, rfl⟩
    rw [hy7] at hR7 ⊢
    obtain ⟨n7, hn7⟩ : ∃ q, y7.length = q := ⟨_, rfl⟩
    rw [hn7] at hR7 ⊢
    have HN7 : Hid (n7 ≤ 10) := Lib.hid (by rw [← hn7, ← hy7]; exact sh_ten (by have := HWF.out.fu.2; omega))
    have HLN7 : Hid (a6.length + n7 ≤ 140737488355328) := Lib.hid (by have := HN7.out; have := HB6.out; omega)
    have HY7 := Lib.hid hy7
    have HE7 := Lib.hid hn7
    clear hb6 hF6 hO6 hc7 hP7 q7 hy7 hn7
    go_wp2_with (at_builtin; refine push_row (w0 := w) w.heap.size rfl (.tmp 50) (.tmp 55) 38 y7 A7 n7 c7 rfl Try.underlying38 u8_info rfl rfl hO7 hR7 hb7 hb7.size HLN7.out ?_)
    intro v8 w8 hO8 hb8 hg8 _
    have hF8 := keepG hF7 hO7 hg8
    obtain ⟨a8, ha8⟩ : ∃ q, a6 ++ y7 = q := ⟨_, rfl⟩
    rw [ha8] at hO8
    have HB8 : Hid (a8.length ≤ 40) := Lib.hid (by rw [← ha8, List.length_append, HE7.out]; have := HN7.out; have := HB6.out; omega)
    have HA8 : Hid (a8 = a6 ++ sh f.fu.toNat) := Lib.hid (by rw [← ha8, HY7.out])
    clear hF7 hO7 hb7 hR7 hg8 HLN7 ha8
    have q9 := hF8.c39
    have hwrdi := u64_nn (x := f.di) ((HL.out.req (HKK.out)).1.2.2) HWF.out.di.2
    go_wp2_with fail
    refine (rUint_of f.di ((HL.out.req (HKK.out)).1.2.2) (by have := HWF.out.di.2; omega) _).mono ?_
    rintro e w9 ⟨v9, rfl, hP9, hc9⟩
    have hF9 := hF8.below hc9
    have hO9 := hO8.below hc9
    have hb9 := below_step hb8 hc9
    obtain ⟨A9, c9, rfl, hR9, _⟩ := hP9.reads'
    obtain ⟨y9, hy9⟩ : ∃ q, sh f.di.toNat = q := ⟨_, rfl⟩
    rw [hy9] at hR9 ⊢
    obtain ⟨n9, hn9⟩ : ∃ q, y9.length = q := ⟨_, rfl⟩
    rw [hn9] at hR9 ⊢
    have HN9 : Hid (n9 ≤ 10) := Lib.hid (by rw [← hn9, ← hy9]; exact sh_ten (by have := HWF.out.di.2; omega))
    have HLN9 : Hid (a8.length + n9 ≤ 140737488355328) := Lib.hid (by have := HN9.out; have := HB8.out; omega)
    have HY9 := Lib.hid hy9
    have HE9 := Lib.hid hn9
    clear hb8 hF8 hO8 hc9 hP9 q9 hy9 hn9
    go_wp2_with (at_builtin; refine push_row (w0 := w) w.heap.size rfl (.tmp 57) (.tmp 62) 38 y9 A9 n9 c9 rfl Try.underlying38 u8_info rfl rfl hO9 hR9 hb9 hb9.size HLN9.out ?_)
    intro v10 w10 hO10 hb10 hg10 _
    have hF10 := keepG hF9 hO9 hg10
    obtain ⟨a10, ha10⟩ : ∃ q, a8 ++ y9 = q := ⟨_, rfl⟩
    rw [ha10] at hO10
    have HB10 : Hid (a10.length ≤ 50) := Lib.hid (by rw [← ha10, List.length_append, HE9.out]; have := HN9.out; have := HB8.out; omega)
    have HA10 : Hid (a10 = a8 ++ sh f.di.toNat) := Lib.hid (by rw [← ha10, HY9.out])
    clear hF9 hO9 hb9 hR9 hg10 HLN9 ha10
    have q11 := hF10.c40
    go_wp2_with fail
    refine (rList_any (c := f.c) (HA.out.below hb10) 4096 (by omega) (HL.out.req (HKK.out)).2.2 (by have := (HL.out.req (HKK.out)).2.1; omega)).mono ?_
    rintro e w11 ⟨v11, rfl, hP11, hc11⟩
    have hF11 := hF10.below hc11
    have hO11 := hO10.below hc11
    have hb11 := below_step hb10 hc11
    obtain ⟨A11, c11, rfl, hR11, _⟩ := hP11.reads'
    obtain ⟨y11, hy11⟩ : ∃ q, lst f.args = q := ⟨_, rfl⟩
    rw [hy11] at hR11 ⊢
    obtain ⟨n11, hn11⟩ : ∃ q, y11.length = q := ⟨_, rfl⟩
    rw [hn11] at hR11 ⊢
    have HN11 : Hid (n11 ≤ 32858) := Lib.hid (by rw [← hn11, ← hy11]; exact lst_len f (HL.out.req (HKK.out)) HA.out.len)
    have HLN11 : Hid (a10.length + n11 ≤ 140737488355328) := Lib.hid (by have := HN11.out; have := HB10.out; omega)
    have HY11 := Lib.hid hy11
    have HE11 := Lib.hid hn11
    clear hb10 hF10 hO10 hc11 hP11 q11 hy11 hn11
    go_wp2_with (at_builtin; refine push_row (w0 := w) w.heap.size rfl (.tmp 64) (.tmp 67) 38 y11 A11 n11 c11 rfl Try.underlying38 u8_info rfl rfl hO11 hR11 hb11 hb11.size HLN11.out ?_)
    intro v12 w12 hO12 hb12 hg12 _
    have hF12 := keepG hF11 hO11 hg12
    obtain ⟨a12, ha12⟩ : ∃ q, a10 ++ y11 = q := ⟨_, rfl⟩
    rw [ha12] at hO12
    have HB12 : Hid (a12.length ≤ 32908) := Lib.hid (by rw [← ha12, List.length_append, HE11.out]; have := HN11.out; have := HB10.out; omega)
    have HA12 : Hid (a12 = a10 ++ lst f.args) := Lib.hid (by rw [← ha12, HY11.out])
    clear hF11 hO11 hb11 hR11 hg12 HLN11 ha12
    have q13 := hF12.c41
    go_wp2_with fail
    refine (rText_any f.body (by have := HL.out.body; omega)).mono ?_
    rintro e w13 ⟨v13, rfl, hP13, hc13⟩
    have hF13 := hF12.below hc13
    have hO13 := hO12.below hc13
    have hb13 := below_step hb12 hc13
    obtain ⟨A13, c13, rfl, hR13, _⟩ := hP13.reads'
    obtain ⟨y13, hy13⟩ : ∃ q, txt f.body = q := ⟨_, rfl⟩
    rw [hy13] at hR13 ⊢
    obtain ⟨n13, hn13⟩ : ∃ q, y13.length = q := ⟨_, rfl⟩
    rw [hn13] at hR13 ⊢
    have HN13 : Hid (n13 ≤ 2097162) := Lib.hid (by rw [← hn13, ← hy13]; exact Nat.le_trans (txt_length (by have := HL.out.body; omega)) (by have := HL.out.body; omega))
    have HLN13 : Hid (a12.length + n13 ≤ 140737488355328) := Lib.hid (by have := HN13.out; have := HB12.out; omega)
    have HY13 := Lib.hid hy13
    have HE13 := Lib.hid hn13
    clear hb12 hF12 hO12 hc13 hP13 q13 hy13 hn13
    go_wp2_with (at_builtin; refine push_row (w0 := w) w.heap.size rfl (.tmp 69) (.tmp 72) 38 y13 A13 n13 c13 rfl Try.underlying38 u8_info rfl rfl hO13 hR13 hb13 hb13.size HLN13.out ?_)
    intro v14 w14 hO14 hb14 hg14 _
    have hF14 := keepG hF13 hO13 hg14
    obtain ⟨a14, ha14⟩ : ∃ q, a12 ++ y13 = q := ⟨_, rfl⟩
    rw [ha14] at hO14
    have HB14 : Hid (a14.length ≤ 2130070) := Lib.hid (by rw [← ha14, List.length_append, HE13.out]; have := HN13.out; have := HB12.out; omega)
    have HA14 : Hid (a14 = a12 ++ txt f.body) := Lib.hid (by rw [← ha14, HY13.out])
    clear hF13 hO13 hb13 hR13 hg14 HLN13 ha14
    have HE : Hid (a14 = bodyF f) := Lib.hid (by rw [HA14.out, HA12.out, HA10.out, HA8.out, HA6.out, HA4.out, HA2.out]; unfold bodyF layF; rw [if_neg (by rw [HKK.out]; decide), if_pos HKK.out]; simp only [List.append_assoc])
    rw [HE.out] at hO14
    go_wp2_with fail
    go_ret
    exact ⟨_, rfl, hO14, hb14⟩
  have b2 : (f.k == 2) = false := by rw [beq_eq_false_iff_ne]; exact k2
  by_cases k3 : f.k = 3
  · have b3 : (f.k == 3) = true := by rw [beq_iff_eq]; exact k3
    have HKK := Lib.hid k3
    clear k3
    have q3 := hF2.c1
    go_wp2_with fail
    refine (rUint_of f.id (HWF.out.id0) (HWF.out.id1) _).mono ?_
    rintro e w3 ⟨v3, rfl, hP3, hc3⟩
    have hF3 := hF2.below hc3
    have hO3 := hO2.below hc3
    have hb3 := below_step hb2 hc3
    obtain ⟨A3, c3, rfl, hR3, _⟩ := hP3.reads'
    obtain ⟨y3, hy3⟩ : ∃ q, sh f.id.toNat = q := ⟨_, rfl⟩
    rw [hy3] at hR3 ⊢
    obtain ⟨n3, hn3⟩ : ∃ q, y3.length = q := ⟨_, rfl⟩
    rw [hn3] at hR3 ⊢
    have HN3 : Hid (n3 ≤ 10) := Lib.hid (by rw [← hn3, ← hy3]; exact sh_ten (by have := HWF.out.id1; omega))
    have HLN3 : Hid (a2.length + n3 ≤ 140737488355328) := Lib.hid (by have := HN3.out; have := HB2.out; omega)
    have HY3 := Lib.hid hy3
    have HE3 := Lib.hid hn3
    clear hb2 hF2 hO2 hc3 hP3 q3 hy3 hn3
    go_wp2_with (at_builtin; refine push_row (w0 := w) w.heap.size rfl (.tmp 76) (.tmp 79) 38 y3 A3 n3 c3 rfl Try.underlying38 u8_info rfl rfl hO3 hR3 hb3 hb3.size HLN3.out ?_)
    intro v4 w4 hO4 hb4 hg4 _
    have hF4 := keepG hF3 hO3 hg4
    obtain ⟨a4, ha4⟩ : ∃ q, a2 ++ y3 = q := ⟨_, rfl⟩
    rw [ha4] at hO4
    have HB4 : Hid (a4.length ≤ 20) := Lib.hid (by rw [← ha4, List.length_append, HE3.out]; have := HN3.out; have := HB2.out; omega)
    have HA4 : Hid (a4 = a2 ++ sh f.id.toNat) := Lib.hid (by rw [← ha4, HY3.out])
    clear hF3 hO3 hb3 hR3 hg4 HLN3 ha4
    have q5 := hF4.c36
    have hwrst := u64_nn (x := f.st) (HL.out.resp (HKK.out)) HWF.out.st.2
    go_wp2_with fail
    refine (rUint_of f.st (HL.out.resp (HKK.out)) (by have := HWF.out.st.2; omega) _).mono ?_
    rintro e w5 ⟨v5, rfl, hP5, hc5⟩
    have hF5 := hF4.below hc5
    have hO5 := hO4.below hc5
    have hb5 := below_step hb4 hc5
    obtain ⟨A5, c5, rfl, hR5, _⟩ := hP5.reads'
    obtain ⟨y5, hy5⟩ : ∃ q, sh f.st.toNat = q := ⟨_, rfl⟩
    rw [hy5] at hR5 ⊢
    obtain ⟨n5, hn5⟩ : ∃ q, y5.length = q := ⟨_, rfl⟩
    rw [hn5] at hR5 ⊢
    have HN5 : Hid (n5 ≤ 10) := Lib.hid (by rw [← hn5, ← hy5]; exact sh_ten (by have := HWF.out.st.2; omega))
    have HLN5 : Hid (a4.length + n5 ≤ 140737488355328) := Lib.hid (by have := HN5.out; have := HB4.out; omega)
    have HY5 := Lib.hid hy5
    have HE5 := Lib.hid hn5
    clear hb4 hF4 hO4 hc5 hP5 q5 hy5 hn5
    go_wp2_with (at_builtin; refine push_row (w0 := w) w.heap.size rfl (.tmp 81) (.tmp 85) 38 y5 A5 n5 c5 rfl Try.underlying38 u8_info rfl rfl hO5 hR5 hb5 hb5.size HLN5.out ?_)
    intro v6 w6 hO6 hb6 hg6 _
    have hF6 := keepG hF5 hO5 hg6
    obtain ⟨a6, ha6⟩ : ∃ q, a4 ++ y5 = q := ⟨_, rfl⟩
    rw [ha6] at hO6
    have HB6 : Hid (a6.length ≤ 30) := Lib.hid (by rw [← ha6, List.length_append, HE5.out]; have := HN5.out; have := HB4.out; omega)
    have HA6 : Hid (a6 = a4 ++ sh f.st.toNat) := Lib.hid (by rw [← ha6, HY5.out])
    clear hF5 hO5 hb5 hR5 hg6 HLN5 ha6
    have q7 := hF6.c41
    go_wp2_with fail
    refine (rText_any f.body (by have := HL.out.body; omega)).mono ?_
    rintro e w7 ⟨v7, rfl, hP7, hc7⟩
    have hF7 := hF6.below hc7
    have hO7 := hO6.below hc7
    have hb7 := below_step hb6 hc7
    obtain ⟨A7, c7, rfl, hR7, _⟩ := hP7.reads'
    obtain ⟨y7, hy7⟩ : ∃ q, txt f.body = q := ⟨_, rfl⟩
    rw [hy7] at hR7 ⊢
    obtain ⟨n7, hn7⟩ : ∃ q, y7.length = q := ⟨_, rfl⟩
    rw [hn7] at hR7 ⊢
    have HN7 : Hid (n7 ≤ 2097162) := Lib.hid (by rw [← hn7, ← hy7]; exact Nat.le_trans (txt_length (by have := HL.out.body; omega)) (by have := HL.out.body; omega))
    have HLN7 : Hid (a6.length + n7 ≤ 140737488355328) := Lib.hid (by have := HN7.out; have := HB6.out; omega)
    have HY7 := Lib.hid hy7
    have HE7 := Lib.hid hn7
    clear hb6 hF6 hO6 hc7 hP7 q7 hy7 hn7
    go_wp2_with (at_builtin; refine push_row (w0 := w) w.heap.size rfl (.tmp 87) (.tmp 90) 38 y7 A7 n7 c7 rfl Try.underlying38 u8_info rfl rfl hO7 hR7 hb7 hb7.size HLN7.out ?_)
    intro v8 w8 hO8 hb8 hg8 _
    have hF8 := keepG hF7 hO7 hg8
    obtain ⟨a8, ha8⟩ : ∃ q, a6 ++ y7 = q := ⟨_, rfl⟩
    rw [ha8] at hO8
    have HB8 : Hid (a8.length ≤ 2097192) := Lib.hid (by rw [← ha8, List.length_append, HE7.out]; have := HN7.out; have := HB6.out; omega)
    have HA8 : Hid (a8 = a6 ++ txt f.body) := Lib.hid (by rw [← ha8, HY7.out])
    clear hF7 hO7 hb7 hR7 hg8 HLN7 ha8
    have HE : Hid (a8 = bodyF f) := Lib.hid (by rw [HA8.out, HA6.out, HA4.out, HA2.out]; unfold bodyF layF; rw [if_neg (by rw [HKK.out]; decide), if_neg (by rw [HKK.out]; decide), if_pos HKK.out]; simp only [List.append_assoc])
    rw [HE.out] at hO8
    go_wp2_with fail
    go_ret
    exact ⟨_, rfl, hO8, hb8⟩
  have b3 : (f.k == 3) = false := by rw [beq_eq_false_iff_ne]; exact k3
  by_cases k4 : f.k = 4
  · have b4 : (f.k == 4) = true := by rw [beq_iff_eq]; exact k4
    have HKK := Lib.hid k4
    clear k4
    have q3 := hF2.c1
    go_wp2_with fail
    refine (rUint_of f.id (HWF.out.id0) (HWF.out.id1) _).mono ?_
    rintro e w3 ⟨v3, rfl, hP3, hc3⟩
    have hF3 := hF2.below hc3
    have hO3 := hO2.below hc3
    have hb3 := below_step hb2 hc3
    obtain ⟨A3, c3, rfl, hR3, _⟩ := hP3.reads'
    obtain ⟨y3, hy3⟩ : ∃ q, sh f.id.toNat = q := ⟨_, rfl⟩
    rw [hy3] at hR3 ⊢
    obtain ⟨n3, hn3⟩ : ∃ q, y3.length = q := ⟨_, rfl⟩
    rw [hn3] at hR3 ⊢
    have HN3 : Hid (n3 ≤ 10) := Lib.hid (by rw [← hn3, ← hy3]; exact sh_ten (by have := HWF.out.id1; omega))
    have HLN3 : Hid (a2.length + n3 ≤ 140737488355328) := Lib.hid (by have := HN3.out; have := HB2.out; omega)
    have HY3 := Lib.hid hy3
    have HE3 := Lib.hid hn3
    clear hb2 hF2 hO2 hc3 hP3 q3 hy3 hn3
    go_wp2_with (at_builtin; refine push_row (w0 := w) w.heap.size rfl (.tmp 94) (.tmp 97) 38 y3 A3 n3 c3 rfl Try.underlying38 u8_info rfl rfl hO3 hR3 hb3 hb3.size HLN3.out ?_)
    intro v4 w4 hO4 hb4 hg4 _
    have hF4 := keepG hF3 hO3 hg4
    obtain ⟨a4, ha4⟩ : ∃ q, a2 ++ y3 = q := ⟨_, rfl⟩
    rw [ha4] at hO4
    have HB4 : Hid (a4.length ≤ 20) := Lib.hid (by rw [← ha4, List.length_append, HE3.out]; have := HN3.out; have := HB2.out; omega)
    have HA4 : Hid (a4 = a2 ++ sh f.id.toNat) := Lib.hid (by rw [← ha4, HY3.out])
    clear hF3 hO3 hb3 hR3 hg4 HLN3 ha4
    have HE : Hid (a4 = bodyF f) := Lib.hid (by rw [HA4.out, HA2.out]; unfold bodyF layF; rw [if_neg (by rw [HKK.out]; decide), if_neg (by rw [HKK.out]; decide), if_neg (by rw [HKK.out]; decide), if_pos HKK.out])
    rw [HE.out] at hO4
    go_wp2_with fail
    go_ret
    exact ⟨_, rfl, hO4, hb4⟩
  have b4 : (f.k == 4) = false := by rw [beq_eq_false_iff_ne]; exact k4
  by_cases k6 : f.k = 6
  · have b6 : (f.k == 6) = true := by rw [beq_iff_eq]; exact k6
    have HKK := Lib.hid k6
    clear k6
    have q3 := hF2.c41
    go_wp2_with fail
    refine (rText_any f.body (by have := HL.out.body; omega)).mono ?_
    rintro e w3 ⟨v3, rfl, hP3, hc3⟩
    have hF3 := hF2.below hc3
    have hO3 := hO2.below hc3
    have hb3 := below_step hb2 hc3
    obtain ⟨A3, c3, rfl, hR3, _⟩ := hP3.reads'
    obtain ⟨y3, hy3⟩ : ∃ q, txt f.body = q := ⟨_, rfl⟩
    rw [hy3] at hR3 ⊢
    obtain ⟨n3, hn3⟩ : ∃ q, y3.length = q := ⟨_, rfl⟩
    rw [hn3] at hR3 ⊢
    have HN3 : Hid (n3 ≤ 2097162) := Lib.hid (by rw [← hn3, ← hy3]; exact Nat.le_trans (txt_length (by have := HL.out.body; omega)) (by have := HL.out.body; omega))
    have HLN3 : Hid (a2.length + n3 ≤ 140737488355328) := Lib.hid (by have := HN3.out; have := HB2.out; omega)
    have HY3 := Lib.hid hy3
    have HE3 := Lib.hid hn3
    clear hb2 hF2 hO2 hc3 hP3 q3 hy3 hn3
    go_wp2_with (at_builtin; refine push_row (w0 := w) w.heap.size rfl (.tmp 101) (.tmp 104) 38 y3 A3 n3 c3 rfl Try.underlying38 u8_info rfl rfl hO3 hR3 hb3 hb3.size HLN3.out ?_)
    intro v4 w4 hO4 hb4 hg4 _
    have hF4 := keepG hF3 hO3 hg4
    obtain ⟨a4, ha4⟩ : ∃ q, a2 ++ y3 = q := ⟨_, rfl⟩
    rw [ha4] at hO4
    have HB4 : Hid (a4.length ≤ 2097172) := Lib.hid (by rw [← ha4, List.length_append, HE3.out]; have := HN3.out; have := HB2.out; omega)
    have HA4 : Hid (a4 = a2 ++ txt f.body) := Lib.hid (by rw [← ha4, HY3.out])
    clear hF3 hO3 hb3 hR3 hg4 HLN3 ha4
    have HE : Hid (a4 = bodyF f) := Lib.hid (by rw [HA4.out, HA2.out]; unfold bodyF layF; rw [if_neg (by rw [HKK.out]; decide), if_neg (by rw [HKK.out]; decide), if_neg (by rw [HKK.out]; decide), if_neg (by rw [HKK.out]; decide), if_pos HKK.out])
    rw [HE.out] at hO4
    go_wp2_with fail
    go_ret
    exact ⟨_, rfl, hO4, hb4⟩
  have b6 : (f.k == 6) = false := by rw [beq_eq_false_iff_ne]; exact k6
  have HE : Hid (a2 = bodyF f) := Lib.hid (by rw [HA2.out]; unfold bodyF layF; rw [if_neg k1, if_neg k2, if_neg k3, if_neg k4, if_neg k6, List.append_nil])
  rw [HE.out] at hO2
  clear k1 k2 k3 k4 k6
  go_wp2_with fail
  go_ret
  exact ⟨_, rfl, hO2, hb2⟩
end
end Go.Proofs.Ytelfephmjkipoaa
end
/-! The contracts of what reads a kind's fields: hello, request. -/
section
namespace Go.Proofs.Ytelfephmjkipoaa
open Go.RowKit Go.Kit Go.Proofs.YtelfephmjkipoaaW.PrintWords
/-- A call of a region that draws its order, by a contract. -/
theorem at_call {P : Program} {ops : Array Oper} {o : Oper} {a : Act} {w : World} {K : Act → World → Prop} {Q : Exit → Act → World → Prop} {E : Prop} {f : FuncId} {args : Array Value} {R : Value → World → Prop} (hw : Region.wanted o (yielded ops a.tmps) = true)
    (he : (execOp a.eval o).run P w = .ok (.enter f args) w) (hc : Calls P f args w fun e w' => ∃ v, e = .returned v ∧ R v w') (hK : ∀ v w', R v w' → K (a.put o.dst v) w') : if Region.wanted o (yielded ops a.tmps) = true then Oper.wp P o a w K Q else E := by
  rw [if_pos hw]
  unfold Oper.wp
  rw [he, Oper.upon_enter]
  refine hc.mono ?_
  rintro e w' ⟨v, rfl, hR⟩
  exact hK v w' hR
/-- The tool copied out of what was read. -/
theorem at_copy_tool {ops : Array Oper} {o : Oper} {a : Act} {W : World} {K : Act → World → Prop} {Q : Exit → Act → World → Prop} {E : Prop} (x y : Operand) (hgd : o.guard = none)
    (ho : o.op = .call { callee := .builtin .copy, args := #[x, y], argTypes := #[38, 38] }) {g base : Nat} {v : Value} {ts : List Int} {F : Fr} (hd : a.eval x = .slice (some ⟨g, 4, none⟩) 32 32) (hs : a.eval y = v)
    (hO : OB 5 W base v ts) (hl : ts.length = 32 ∨ ts = []) (hF : F.at_ 29 W g)
    (hK : ∀ w' k, ({ F with tool := if ts.length = 32 then ts else F.tool } : Fr).at_ 29 w' g → Only W w' (fun k => k = g) → K (a.put o.dst (goInt k)) w') : if Region.wanted o (yielded ops a.tmps) = true then Oper.wp Try.prog o a W K Q else E := by
  refine at_list (by simp [Region.wanted, hgd]) (fun Q2 hQ => ?_)
  obtain ⟨A, c, hv, hr⟩ := hO.reads
  rcases hl with hl | hl
  · obtain ⟨ad, rfl, hc⟩ := hr.cells (by omega)
    have h32 : (nums .u8 ts).length = 32 := by rw [nums_length, hl]
    refine wpList_copy_own hgd x y 38 38 ho 5 Try.underlying38 u8_size g 4 32 32 ad ts.length c hd (hs.trans hv) F.arr 29 hF.blk (nums .u8 ts) (by rw [h32, hl]; rfl) hc (by rw [h32, Fr.arr_size F hF.tool]; omega) (nums_one _ _) ?_
    unfold wpList
    refine hQ _ _ (hK _ _ ?_ (Fr.only_row _ _ _))
    rw [if_pos hl]
    exact hF.tooled ts hl
  · subst hl
    refine wpList_copy_nothing hgd x y 38 38 ho 5 Try.underlying38 u8_size (some ⟨g, 4, none⟩) A 32 32 0 c hd (hs.trans hv) rfl ?_
    unfold wpList
    exact hQ _ _ (hK _ 0 hF (Only.refl _ _))
section
variable {w : World} {r g n c : Nat} {A : Option Addr} {D : Rd}
theorem rawS_len {D D1 : Rd} {ts : List Int} (hok : D.ok) (h : rawS D 32 = (D1, ts)) : ts.length = 32 ∨ ts = [] := by
  unfold rawS at h
  split at h
  · cases h; exact .inr rfl
  split at h
  · cases h; exact .inr rfl
  split at h
  · cases h; exact .inr rfl
  · have := hok.2.1
    cases h
    left
    rw [List.length_take, List.length_drop]
    omega
set_option maxHeartbeats 8000000 in
set_option maxRecDepth 100000 in
theorem hello_read (h : RS w r A n c D) (hF : (kF 1).at_ 29 w g) (hs : ¬ rdf r A g) : Calls Try.prog 76 #[.pointer (some ⟨r, 0, none⟩), .pointer (some ⟨g, 0, none⟩)] w (KindPost w r g n c A D 1) := by
  go_enter Try.func76, Try.ntmps76
  go_wp2_with fail
  refine (part_any h 1 (by omega)).mono ?_
  rintro e w2 ⟨D1, v, HC, hR, ho, (⟨HV, rfl⟩ | ⟨HV, rfl⟩)⟩
  · have hF2 := hF.only ho (notr hs)
    have q1 := hF2.c2
    have f1 := hF2.fz 2
    have ho2 := (Only.refl w (fun k => k = r ∨ k = g)).orr ho
    have hF3 := hF2.set2 (v : Int)
    have hR3 := hR.only (Fr.only_at w2 g 2 (.int .i64 (v : Int))) (sepg hs)
    have ho3 := ho2.org (Fr.only_at w2 g 2 (.int .i64 (v : Int)))
    clear hF hF2 hR ho ho2
    go_wp2_with fail
    generalize w2.setCell ⟨g, 2, none⟩ (.int .i64 (v : Int)) = w3 at *
    clear q1 f1
    refine (part_any hR3 64 (by omega)).mono ?_
    rintro e w4 ⟨D2, s, HC2, hR4, ho4, (⟨HV2, rfl⟩ | ⟨HV2, rfl⟩)⟩
    · have hF4 := hF3.only ho4 (notr hs)
      have q1 := hF4.c3
      have f1 := hF4.fz 3
      have ho5 := ho3.orr ho4
      have hF5 := hF4.set3 (s : Int)
      have hR5 := hR4.only (Fr.only_at w4 g 3 (.int .i64 (s : Int))) (sepg hs)
      have ho6 := ho5.org (Fr.only_at w4 g 3 (.int .i64 (s : Int)))
      clear hF3 hF4 hR3 hR4 ho3 ho4 ho5
      go_wp2_with fail
      generalize w4.setCell ⟨g, 3, none⟩ (.int .i64 (s : Int)) = w5 at *
      clear q1 f1
      have hb5 : Below w5.heap.size w5 w5.drew := below_drew (Below.refl _ _)
      have hF6 := hF5.below hb5
      have hR6 := hR5.below hb5
      have ho7 := ho6.below hb5
      clear hF5 hR5 ho6 hb5
      have hc : Calls Try.prog 69 #[.pointer (some ⟨r, 0, none⟩), .int .i64 32] w5.drew fun e w' => ∃ v, e = .returned v ∧ ∃ D3 ts, Hid (rawS D2 32 = (D3, ts)) ∧ OB 5 w' w5.drew.heap.size v ts ∧ RS w' r A n c D3 ∧ Only w5.drew w' (fun k => k = r) :=
        (Raw_any hR6 32 (by omega)).mono (fun e w7 ⟨D3, v7, ts, he, h7⟩ => ⟨v7, he, D3, ts, h7⟩)
      have hok := hR6.ok
      go_region_law (first
        | (refine at_call ?_ ?_ hc ?_; kernel_rfl; go_simp; rintro v7 w7 ⟨D3, ts, HT, hO7, hR7, ho8⟩; have hF7 := hF6.only ho8 (notr hs); have ho9 := ho7.orr ho8; have hts := rawS_len hok HT.out; clear hF6 hR6 ho7 ho8)
        | (refine at_copy_tool (.tmp 17) (.tmp 19) rfl rfl rfl rfl hO7 hts hF7 ?_; intro w8 k8 hF8 ho8))
      have hR8 := hR7.only ho8 (sepg hs)
      have ho10 := ho9.org ho8
      have HK : Hid (kindS D 1 = (D3, ({ kF 1 with v := (v : Int), s := (s : Int), tool := if ts.length = 32 then ts else z32 } : Fr).core)) := Lib.hid (by
        show helloS D = _
        unfold helloS; rw [someS_some HC.out HV.out]; dsimp only; rw [someS_some HC2.out HV2.out]; dsimp only; rw [HT.out]; rfl)
      clear hc hO7 hR7 hF7 ho9 ho8 hts hok
      go_wp2_with fail
      exact bodyPost_end (v := .tuple #[]) (by simp [results, Try.results76, go_sem]) rfl (.inl ⟨D3, _, rfl, HK, hR8, hF8, ⟨hF8.tool, rt_none _ rfl rfl rfl⟩, OwnA.none _ _ ⟨rfl, rfl, rfl, rfl⟩, ho10⟩)
    · have ho5 := ho3.orr ho4
      have hF4 := hF3.only ho4 (notr hs)
      have HK : Hid ((kindS D 1).1 = D1.fail 70 D1.at_) := Lib.hid (by
        have hbad : (D1.fail 70 D1.at_).why ≠ 0 := by show (70 : Int) ≠ 0; decide
        show (helloS D).1 = _
        have h0 := HV2.out.2
        subst h0
        unfold helloS; rw [someS_some HC.out HV.out]; dsimp only; rw [someS_none HC2.out HV2.out.1]; dsimp only; rw [rawS_bad hbad])
      clear hF3 hR3 ho3 hR4 ho4
      refine ⟨rfl, .inr ⟨_, ?_, ?_, hF4, ho5⟩⟩
      · rw [HK.out]; rfl
      · exact Lib.hid (by rw [HK.out]; rfl)
  · have ho5 := (Only.refl w (fun k => k = r ∨ k = g)).orr ho
    have hF4 := hF.only ho (notr hs)
    have HK : Hid ((kindS D 1).1 = D.fail 70 D.at_) := Lib.hid (by
      have hbad : (D.fail 70 D.at_).why ≠ 0 := by show (70 : Int) ≠ 0; decide
      show (helloS D).1 = _
      have h0 := HV.out.2
      subst h0
      unfold helloS; rw [someS_none HC.out HV.out.1]; dsimp only; rw [someS_bad hbad]; dsimp only; rw [rawS_bad hbad])
    clear hF hR ho
    refine ⟨rfl, .inr ⟨_, ?_, ?_, hF4, ho5⟩⟩
    · rw [HK.out]; rfl
    · exact Lib.hid (by rw [HK.out]; rfl)
set_option maxHeartbeats 8000000 in
set_option maxRecDepth 100000 in
theorem request_read (h : RS w r A n c D) (hn : n ≤ 4398046511104) (hF : (kF 2).at_ 29 w g) (hs : ¬ rdf r A g) : Calls Try.prog 82 #[.pointer (some ⟨r, 0, none⟩), .pointer (some ⟨g, 0, none⟩)] w (KindPost w r g n c A D 2) := by
  go_enter Try.func82, Try.ntmps82
  have hoz := Only.refl w (fun k => k = r ∨ k = g)
  go_wp2_with fail
  refine (Uint_any h).mono ?_
  rintro e w2 ⟨D1, v1, rfl, H1, hR1a, ho1a⟩
  have hF1a := hF.only ho1a (notr hs)
  have q1 := hF1a.c1
  have f1 := hF1a.fz 1
  have ho1b := hoz.orr ho1a
  have hF1 := hF1a.set1 (v1 : Int)
  have hR1 := hR1a.only (Fr.only_at w2 g 1 (.int .u64 (v1 : Int))) (sepg hs)
  have ho1 := ho1b.org (Fr.only_at w2 g 1 (.int .u64 (v1 : Int)))
  clear h hF hoz hF1a hR1a ho1a ho1b
  go_wp2_with fail
  generalize w2.setCell ⟨g, 1, none⟩ (.int .u64 (v1 : Int)) = w3 at *
  clear q1 f1
  refine (Count_any hR1 2147483648 (by omega)).mono ?_
  rintro e w4 ⟨D2, v2, rfl, H2, hR2a, ho2a⟩
  have hF2a := hF1.only ho2a (notr hs)
  have q2 := hF2a.c37
  have f2 := hF2a.fz 37
  have ho2b := ho1.orr ho2a
  have hF2 := hF2a.set37 (v2 : Int)
  have hR2 := hR2a.only (Fr.only_at w4 g 37 (.int .i64 (v2 : Int))) (sepg hs)
  have ho2 := ho2b.org (Fr.only_at w4 g 37 (.int .i64 (v2 : Int)))
  clear hR1 hF1 ho1 hF2a hR2a ho2a ho2b
  go_wp2_with fail
  generalize w4.setCell ⟨g, 37, none⟩ (.int .i64 (v2 : Int)) = w5 at *
  clear q2 f2
  refine (Count_any hR2 2147483648 (by omega)).mono ?_
  rintro e w6 ⟨D3, v3, rfl, H3, hR3a, ho3a⟩
  have hF3a := hF2.only ho3a (notr hs)
  have q3 := hF3a.c38
  have f3 := hF3a.fz 38
  have ho3b := ho2.orr ho3a
  have hF3 := hF3a.set38 (v3 : Int)
  have hR3 := hR3a.only (Fr.only_at w6 g 38 (.int .i64 (v3 : Int))) (sepg hs)
  have ho3 := ho3b.org (Fr.only_at w6 g 38 (.int .i64 (v3 : Int)))
  clear hR2 hF2 ho2 hF3a hR3a ho3a ho3b
  go_wp2_with fail
  generalize w6.setCell ⟨g, 38, none⟩ (.int .i64 (v3 : Int)) = w7 at *
  clear q3 f3
  refine (Count_any hR3 2147483648 (by omega)).mono ?_
  rintro e w8 ⟨D4, v4, rfl, H4, hR4a, ho4a⟩
  have hF4a := hF3.only ho4a (notr hs)
  have q4 := hF4a.c39
  have f4 := hF4a.fz 39
  have ho4b := ho3.orr ho4a
  have hF4 := hF4a.set39 (v4 : Int)
  have hR4 := hR4a.only (Fr.only_at w8 g 39 (.int .i64 (v4 : Int))) (sepg hs)
  have ho4 := ho4b.org (Fr.only_at w8 g 39 (.int .i64 (v4 : Int)))
  clear hR3 hF3 ho3 hF4a hR4a ho4a ho4b
  go_wp2_with fail
  generalize w8.setCell ⟨g, 39, none⟩ (.int .i64 (v4 : Int)) = w9 at *
  clear q4 f4
  refine (List_any hR4 hn 8 4096 (by omega) (by omega)).mono ?_
  rintro e w10 ⟨D5, v5, l5, rfl, H5, hO5, hR5a, ho5a⟩
  obtain ⟨A5, c5, rfl, hT5, hc5, hA5⟩ := hO5.open_
  have hF5a := hF4.only ho5a (notr hs)
  have q5 := hF5a.c40
  have f5 := hF5a.fz 40
  have ho5b := ho4.orr ho5a
  have hF5 := hF5a.set40 A5 l5.length c5 l5
  have hR5 := hR5a.only (Fr.only_at w10 g 40 (.slice A5 l5.length c5)) (sepg hs)
  have ho5 := ho5b.org (Fr.only_at w10 g 40 (.slice A5 l5.length c5))
  have hb5 := ho4.size
  have hT5b := hT5.apart (Fr.only_at w10 g 40 (.slice A5 l5.length c5)) (fun a e hg => by have := (hA5 a e).1; have := hF4.lt; omega)
  replace hA5 : ∀ a, A5 = some a → w.heap.size ≤ a.block ∧ ¬ a.block = r ∧ ¬ a.block = g := fun a e => by
    have h1 := (hA5 a e).1
    have h2 := hF4.lt
    have h3 := lt_of_block hR4.rk
    exact ⟨by omega, by omega, by omega⟩
  have hO5b := ot_only hO5 (Fr.only_at w10 g 40 (.slice A5 l5.length c5)) (fun k hk e => by obtain ⟨a, e2, rfl⟩ := own_block_at hk; exact (hA5 a e2).2.2 e)
  replace hO5b := hO5b.less (Nat.le_trans hb5 (Nat.le_refl _))
  clear hO5 hT5
  clear hR4 hF4 ho4 hF5a hR5a ho5a ho5b
  go_wp2_with fail
  generalize w10.setCell ⟨g, 40, none⟩ (.slice A5 l5.length c5) = w11 at *
  clear q5 f5
  refine (Text_any hR5 2097152 (by omega)).mono ?_
  rintro e w12 ⟨D6, v6, rfl, H6, hR6a, ho6a⟩
  have hF6a := hF5.only ho6a (notr hs)
  have q6 := hF6a.c41
  have f6 := hF6a.fz 41
  have ho6b := ho5.orr ho6a
  have hF6 := hF6a.set41 v6
  have hR6 := hR6a.only (Fr.only_at w12 g 41 (.string v6)) (sepg hs)
  have ho6 := ho6b.org (Fr.only_at w12 g 41 (.string v6))
  have hT6 := (hT5b.apart ho6a (fun a e => (hA5 a e).2.1)).apart (Fr.only_at w12 g 41 (.string v6)) (fun a e => (hA5 a e).2.2)
  have hO6 := ot_only (ot_only hO5b ho6a (fun k hk e => by obtain ⟨a, e2, rfl⟩ := own_block_at hk; exact (hA5 a e2).2.1 e)) (Fr.only_at w12 g 41 (.string v6)) (fun k hk e => by obtain ⟨a, e2, rfl⟩ := own_block_at hk; exact (hA5 a e2).2.2 e)
  clear hR5 hF5 ho5 hF6a hR6a ho6a ho6b
  have HK : Hid (kindS D 2 = (D6, ({ kF 2 with id := (v1 : Int), mo := (v2 : Int), fu := (v3 : Int), di := (v4 : Int), A := A5, n := l5.length, c := c5, args := l5, body := v6 } : Fr).core)) := Lib.hid (by
    show requestS D = _
    unfold requestS; rw [H1.out]; dsimp only; rw [H2.out]; dsimp only; rw [H3.out]; dsimp only; rw [H4.out]; dsimp only; rw [H5.out]; dsimp only; rw [H6.out]; rfl)
  go_wp2_with fail
  exact bodyPost_end (v := .tuple #[]) (by simp [results, Try.results82, go_sem]) rfl (.inl ⟨D6, _, rfl, HK, hR6, hF6, ⟨rfl, hT6⟩, hO6, ho6⟩)
end
end Go.Proofs.Ytelfephmjkipoaa
end
/-! The contracts of the document's Check and Encode. (mk_frzc.py) -/
section
namespace Go.Proofs.Ytelfephmjkipoaa
open Go.RowKit Go.Kit Go.Proofs.YtelfephmjkipoaaW.PrintWords
section
variable {f : Fr} {w : World}
theorem same_sym2 (f g : Fr) (s : Bool) (h : g.same f = s) : f.same g = s := by rw [same_sym]; exact h
theorem ne_true {b : Bool} (h : b = false) : ¬ b = true := by rw [h]; exact Bool.false_ne_true
/-- The round of the document's Check. -/
def CkLoop (f : Fr) (w4 : World) (gk : Nat) (v3 v4 : Value) (w' : World) : Prop := ∃ (i : Nat) (b : Bool), v4 = .int .i64 (i : Int) ∧ v3 = .bool b ∧ w' = w4 ∧
  Hid (i ≤ f.n ∧ (b = false → ∀ j, j < i → ∀ s, f.args[j]? = some s → s.size ≤ 4096) ∧ (b = true → ∃ s ∈ f.args, 4096 < s.size) ∧ gk = f.n - i)
/-- The loads of a frame's fields. -/
structure Lds (f : Fr) (g : Nat) (W : World) : Prop where
  k : (Instr.loadAt 3 (.pointer (some ⟨g, 0, none⟩))).run Try.prog W = .ok (.int .i64 f.k) W
  v : (Instr.loadAt 3 (.pointer (some ⟨g, 2, none⟩))).run Try.prog W = .ok (.int .i64 f.v) W
  s : (Instr.loadAt 3 (.pointer (some ⟨g, 3, none⟩))).run Try.prog W = .ok (.int .i64 f.s) W
  st : (Instr.loadAt 3 (.pointer (some ⟨g, 36, none⟩))).run Try.prog W = .ok (.int .i64 f.st) W
  mo : (Instr.loadAt 3 (.pointer (some ⟨g, 37, none⟩))).run Try.prog W = .ok (.int .i64 f.mo) W
  fu : (Instr.loadAt 3 (.pointer (some ⟨g, 38, none⟩))).run Try.prog W = .ok (.int .i64 f.fu) W
  di : (Instr.loadAt 3 (.pointer (some ⟨g, 39, none⟩))).run Try.prog W = .ok (.int .i64 f.di) W
  args : (Instr.loadAt 27 (.pointer (some ⟨g, 40, none⟩))).run Try.prog W = .ok (.slice f.A f.n f.c) W
  body : (Instr.loadAt 9 (.pointer (some ⟨g, 41, none⟩))).run Try.prog W = .ok (.string f.body) W
theorem lds {W : World} {g : Nat} (h : f.at_ 29 W g) : Lds f g W :=
  ⟨load_int h.c0, load_int h.c2, load_int h.c3, load_int h.c36, load_int h.c37, load_int h.c38, load_int h.c39, load_txts h.c40, load_str h.c41⟩
theorem load_s {W : World} {a : Addr} {v : Value} (h : W.cell? a = some v) : (Instr.loadAt 9 (.pointer (some a))).run Try.prog W = .ok v W := load_str h
attribute [-go_sem] Instr.loadAt
set_option maxHeartbeats 16000000 in
set_option maxRecDepth 100000 in
theorem rCheck_any (hf : f.ok w) (hw : f.wf) (ha : ∀ s ∈ f.args, s.size ≤ 9223372036854775807) : Calls Try.prog 37 #[f.val] w fun e w' => e = .returned (.int .i64 (chkF f)) ∧ Below w.heap.size w w' := by
  have hb := below_alloc (Below.refl _ w) (.cells f.arr 29)
  have hF := boxed hf.tool w
  have hmx := hf.args.max
  have hif : (Try.prog.info? 29).map (·.size) = some f.cells.length := by rw [frame_size]; have := Fr.arr_size f hf.tool; simp [Fr.arr] at this; rw [this]
  show Calls Try.prog _ #[.agg f.arr] w _
  obtain ⟨c, hc⟩ : ∃ c, chkF f = c := ⟨_, rfl⟩
  rw [hc]
  have HC := Lib.hid hc
  clear hc
  have HOK := Lib.hid hf
  have HWF := Lib.hid hw
  have HHA := Lib.hid ha
  clear hf hw ha
  go_enter Try.func37, Try.ntmps37
  go_upto_region 1 with (fail)
  generalize w.alloc (.cells f.arr 29) = w1 at *
  obtain ⟨g, hg⟩ : ∃ g, w.heap.size = g := ⟨_, rfl⟩
  rw [hg] at hF ⊢
  clear hg
  have hl0 : ∀ W, f.at_ 29 W g → (Instr.loadAt 3 (.pointer (some ⟨g, 0, none⟩))).run Try.prog W = .ok (.int .i64 f.k) W := fun W h => load_int h.c0
  have hl1 : ∀ W, f.at_ 29 W g → (Instr.loadAt 29 (.pointer (some ⟨g, 0, none⟩))).run Try.prog W = .ok (.agg f.arr) W := fun W h => load_frame f hif W _ h
  have hl2 : ∀ W, f.at_ 29 W g → (Instr.loadAt 27 (.pointer (some ⟨g, 40, none⟩))).run Try.prog W = .ok (.slice f.A f.n f.c) W := fun W h => load_txts h.c40
  have hbd : Below w.heap.size w w1.drew := below_step hb (below_drew (Below.refl _ _))
  have hFd : f.at_ 29 w1.drew g := hF.below (below_drew (Below.refl _ _))
  by_cases k1 : f.k < 1
  · have d1 : decide (f.k < 1) = true := decide_eq_true k1
    have HX : Hid (c = 70) := Lib.hid (by rw [← HC.out]; exact chk_no (fun h => by have := h.k1; omega))
    refine wp_region_held_drew (S := fun W => f.at_ 29 W g) (by kernel_rfl) (hFd) (fun hHeld => ?_)
    refine wpAnyH_take (i := 0) (v := (.pointer (some ⟨g, 0, none⟩))) (oi := ⟨_, _, _, _, _, _⟩) rfl (by kernel_rfl) (by kernel_rfl) (by kernel_rfl) (fun _ _ _ h => h) (Or.inl ⟨by kernel_rfl, fun W hS => ?_⟩) (by assumption) ?_
    · dsimp only at hS; go_split_ands; go_simp
    simp only [Act.put, List.setIfInBounds_toArray, List.set_cons_zero, List.set_cons_succ]
    refine wpAnyH_take (i := 1) (v := (.int .i64 f.k)) (oi := ⟨_, _, _, _, _, _⟩) rfl (by kernel_rfl) (by kernel_rfl) (by kernel_rfl) (fun _ _ _ h => h) (Or.inl ⟨by kernel_rfl, fun W hS => ?_⟩) (by assumption) ?_
    · dsimp only at hS; go_split_ands; go_simp
    simp only [Act.put, List.setIfInBounds_toArray, List.set_cons_zero, List.set_cons_succ]
    refine wpAnyH_take (i := 2) (v := (.bool true)) (oi := ⟨_, _, _, _, _, _⟩) rfl (by kernel_rfl) (by kernel_rfl) (by kernel_rfl) (fun _ _ _ h => h) (Or.inl ⟨by kernel_rfl, fun W hS => ?_⟩) (by assumption) ?_
    · dsimp only at hS; go_split_ands; go_simp
    simp only [Act.put, List.setIfInBounds_toArray, List.set_cons_zero, List.set_cons_succ]
    refine wpAnyH_take (i := 3) (v := (.bool true)) (oi := ⟨_, _, _, _, _, _⟩) rfl (by kernel_rfl) (by kernel_rfl) (by kernel_rfl) (fun _ _ _ h => h) (Or.inl ⟨by kernel_rfl, fun W hS => ?_⟩) (by assumption) ?_
    · dsimp only at hS; go_split_ands; go_simp
    simp only [Act.put, List.setIfInBounds_toArray, List.set_cons_zero, List.set_cons_succ]
    refine wpAnyH_ready (rs := [4]) (by kernel_rfl) (by decide) (AllReadyH.cons (o := ⟨_, _, _, _, _, _⟩) rfl (fun K hK => ?_) AllReadyH.nil)
    rw [if_neg (ne_true (by kernel_rfl))]
    refine hK.out _ _ (hHeld) (fun hHeld => ?_)
    clear hK K
    try simp only [Act.put, List.setIfInBounds_toArray, List.set_cons_zero, List.set_cons_succ]
    refine wpAnyH_ready (rs := [5]) (by kernel_rfl) (by decide) (AllReadyH.cons (o := ⟨_, _, _, _, _, _⟩) rfl (fun K hK => ?_) AllReadyH.nil)
    rw [if_neg (ne_true (by kernel_rfl))]
    refine hK.out _ _ (hHeld) (fun hHeld => ?_)
    clear hK K
    try simp only [Act.put, List.setIfInBounds_toArray, List.set_cons_zero, List.set_cons_succ]
    refine wpAnyH_ready (rs := [6]) (by kernel_rfl) (by decide) (AllReadyH.cons (o := ⟨_, _, _, _, _, _⟩) rfl (fun K hK => ?_) AllReadyH.nil)
    rw [if_neg (ne_true (by kernel_rfl))]
    refine hK.out _ _ (hHeld) (fun hHeld => ?_)
    clear hK K
    try simp only [Act.put, List.setIfInBounds_toArray, List.set_cons_zero, List.set_cons_succ]
    refine wpAnyH_take (i := 7) (v := (.bool true)) (oi := ⟨_, _, _, _, _, _⟩) rfl (by kernel_rfl) (by kernel_rfl) (by kernel_rfl) (fun _ _ _ h => h) (Or.inl ⟨by kernel_rfl, fun W hS => ?_⟩) (by assumption) ?_
    · dsimp only at hS; go_split_ands; go_simp
    simp only [Act.put, List.setIfInBounds_toArray, List.set_cons_zero, List.set_cons_succ]
    refine wpAnyH_take (i := 8) (v := (.bool true)) (oi := ⟨_, _, _, _, _, _⟩) rfl (by kernel_rfl) (by kernel_rfl) (by kernel_rfl) (fun _ _ _ h => h) (Or.inl ⟨by kernel_rfl, fun W hS => ?_⟩) (by assumption) ?_
    · dsimp only at hS; go_split_ands; go_simp
    simp only [Act.put, List.setIfInBounds_toArray, List.set_cons_zero, List.set_cons_succ]
    refine wpAnyH_ready (rs := [9, 10]) (by kernel_rfl) (by decide) (AllReadyH.cons (o := ⟨_, _, _, _, _, _⟩) rfl (fun K hK => ?_) (AllReadyH.cons (o := ⟨_, _, _, _, _, _⟩) rfl (fun K hK => ?_) AllReadyH.nil))
    · skip
      rw [if_neg (ne_true (by kernel_rfl))]
      refine hK.out _ _ (hHeld) (fun hHeld => ?_)
      clear hK K
      try simp only [Act.put, List.setIfInBounds_toArray, List.set_cons_zero, List.set_cons_succ]
      refine wpAnyH_ready (rs := [10]) (by kernel_rfl) (by decide) (AllReadyH.cons (o := ⟨_, _, _, _, _, _⟩) rfl (fun K hK => ?_) AllReadyH.nil)
      rw [if_neg (ne_true (by kernel_rfl))]
      refine hK.out _ _ (hHeld) (fun hHeld => ?_)
      clear hK K
      try simp only [Act.put, List.setIfInBounds_toArray, List.set_cons_zero, List.set_cons_succ]
      refine wpAnyH_ready (rs := [11]) (by kernel_rfl) (by decide) (AllReadyH.cons (o := ⟨_, _, _, _, _, _⟩) rfl (fun K hK => ?_) AllReadyH.nil)
      rw [if_neg (ne_true (by kernel_rfl))]
      refine hK.out _ _ (hHeld) (fun hHeld => ?_)
      clear hK K
      try simp only [Act.put, List.setIfInBounds_toArray, List.set_cons_zero, List.set_cons_succ]
      refine wpAnyH_ready (rs := [12]) (by kernel_rfl) (by decide) (AllReadyH.cons (o := ⟨_, _, _, _, _, _⟩) rfl (fun K hK => ?_) AllReadyH.nil)
      rw [if_neg (ne_true (by kernel_rfl))]
      refine hK.out _ _ (hHeld) (fun hHeld => ?_)
      clear hK K
      try simp only [Act.put, List.setIfInBounds_toArray, List.set_cons_zero, List.set_cons_succ]
      refine wpAnyH_ready (rs := [13]) (by kernel_rfl) (by decide) (AllReadyH.cons (o := ⟨_, _, _, _, _, _⟩) rfl (fun K hK => ?_) AllReadyH.nil)
      rw [if_neg (ne_true (by kernel_rfl))]
      refine hK.out _ _ (hHeld) (fun hHeld => ?_)
      clear hK K
      try simp only [Act.put, List.setIfInBounds_toArray, List.set_cons_zero, List.set_cons_succ]
      refine wpAnyH_take (i := 14) (v := (.bool true)) (oi := ⟨_, _, _, _, _, _⟩) rfl (by kernel_rfl) (by kernel_rfl) (by kernel_rfl) (fun _ _ _ h => h) (Or.inl ⟨by kernel_rfl, fun W hS => ?_⟩) (by assumption) ?_
      · dsimp only at hS; go_split_ands; go_simp
      simp only [Act.put, List.setIfInBounds_toArray, List.set_cons_zero, List.set_cons_succ]
      refine wpAnyH_take (i := 15) (v := (.bool true)) (oi := ⟨_, _, _, _, _, _⟩) rfl (by kernel_rfl) (by kernel_rfl) (by kernel_rfl) (fun _ _ _ h => h) (Or.inl ⟨by kernel_rfl, fun W hS => ?_⟩) (by assumption) ?_
      · dsimp only at hS; go_split_ands; go_simp
      simp only [Act.put, List.setIfInBounds_toArray, List.set_cons_zero, List.set_cons_succ]
      refine wpAnyH_ready (rs := [16]) (by kernel_rfl) (by decide) (AllReadyH.cons (o := ⟨_, _, _, _, _, _⟩) rfl (fun K hK => ?_) AllReadyH.nil)
      rw [if_neg (ne_true (by kernel_rfl))]
      refine hK.out _ _ (hHeld) (fun hHeld => ?_)
      clear hK K
      try simp only [Act.put, List.setIfInBounds_toArray, List.set_cons_zero, List.set_cons_succ]
      refine wpAnyH_ready (rs := [17]) (by kernel_rfl) (by decide) (AllReadyH.cons (o := ⟨_, _, _, _, _, _⟩) rfl (fun K hK => ?_) AllReadyH.nil)
      rw [if_neg (ne_true (by kernel_rfl))]
      refine hK.out _ _ (hHeld) (fun hHeld => ?_)
      clear hK K
      try simp only [Act.put, List.setIfInBounds_toArray, List.set_cons_zero, List.set_cons_succ]
      refine wpAnyH_ready (rs := [18]) (by kernel_rfl) (by decide) (AllReadyH.cons (o := ⟨_, _, _, _, _, _⟩) rfl (fun K hK => ?_) AllReadyH.nil)
      rw [if_neg (ne_true (by kernel_rfl))]
      refine hK.out _ _ (hHeld) (fun hHeld => ?_)
      clear hK K
      try simp only [Act.put, List.setIfInBounds_toArray, List.set_cons_zero, List.set_cons_succ]
      refine wpAnyH_ready (rs := [19]) (by kernel_rfl) (by decide) (AllReadyH.cons (o := ⟨_, _, _, _, _, _⟩) rfl (fun K hK => ?_) AllReadyH.nil)
      rw [if_neg (ne_true (by kernel_rfl))]
      refine hK.out _ _ (hHeld) (fun hHeld => ?_)
      clear hK K
      try simp only [Act.put, List.setIfInBounds_toArray, List.set_cons_zero, List.set_cons_succ]
      refine wpAnyH_take (i := 20) (v := (.bool true)) (oi := ⟨_, _, _, _, _, _⟩) rfl (by kernel_rfl) (by kernel_rfl) (by kernel_rfl) (fun _ _ _ h => h) (Or.inl ⟨by kernel_rfl, fun W hS => ?_⟩) (by assumption) ?_
      · dsimp only at hS; go_split_ands; go_simp
      simp only [Act.put, List.setIfInBounds_toArray, List.set_cons_zero, List.set_cons_succ]
      refine wpAnyH_take (i := 21) (v := (.bool true)) (oi := ⟨_, _, _, _, _, _⟩) rfl (by kernel_rfl) (by kernel_rfl) (by kernel_rfl) (fun _ _ _ h => h) (Or.inl ⟨by kernel_rfl, fun W hS => ?_⟩) (by assumption) ?_
      · dsimp only at hS; go_split_ands; go_simp
      simp only [Act.put, List.setIfInBounds_toArray, List.set_cons_zero, List.set_cons_succ]
      refine wpAnyH_done (by kernel_rfl) ?_ _
      try simp only [Act.put, List.setIfInBounds_toArray, List.set_cons_zero, List.set_cons_succ]
      have L := lds hFd
      have l0 := L.k; have l1 := L.v; have l2 := L.s; have l3 := L.st; have l4 := L.mo; have l5 := L.fu; have l6 := L.di; have l7 := L.args; have l8 := L.body
      clear L
      go_wp2_with fail
      go_loopg [3, 4] 1 (fun gk v3 v4 w' => v3 = .bool true ∧ v4 = .int .i64 0 ∧ w' = w1.drew)
      case atStart => exact ⟨rfl, rfl, rfl⟩
      case round =>
        obtain ⟨rfl, rfl, rfl⟩ := hrel
        go_wp2_with fail
        all_goals
          go_ret
          exact ⟨by rw [HX.out]; rfl, hbd⟩
    · skip
      rw [if_neg (ne_true (by kernel_rfl))]
      refine hK.out _ _ (hHeld) (fun hHeld => ?_)
      clear hK K
      try simp only [Act.put, List.setIfInBounds_toArray, List.set_cons_zero, List.set_cons_succ]
      refine wpAnyH_ready (rs := [9, 11]) (by kernel_rfl) (by decide) (AllReadyH.cons (o := ⟨_, _, _, _, _, _⟩) rfl (fun K hK => ?_) (AllReadyH.cons (o := ⟨_, _, _, _, _, _⟩) rfl (fun K hK => ?_) AllReadyH.nil))
      · skip
        rw [if_neg (ne_true (by kernel_rfl))]
        refine hK.out _ _ (hHeld) (fun hHeld => ?_)
        clear hK K
        try simp only [Act.put, List.setIfInBounds_toArray, List.set_cons_zero, List.set_cons_succ]
        refine wpAnyH_ready (rs := [11]) (by kernel_rfl) (by decide) (AllReadyH.cons (o := ⟨_, _, _, _, _, _⟩) rfl (fun K hK => ?_) AllReadyH.nil)
        rw [if_neg (ne_true (by kernel_rfl))]
        refine hK.out _ _ (hHeld) (fun hHeld => ?_)
        clear hK K
        try simp only [Act.put, List.setIfInBounds_toArray, List.set_cons_zero, List.set_cons_succ]
        refine wpAnyH_ready (rs := [12]) (by kernel_rfl) (by decide) (AllReadyH.cons (o := ⟨_, _, _, _, _, _⟩) rfl (fun K hK => ?_) AllReadyH.nil)
        rw [if_neg (ne_true (by kernel_rfl))]
        refine hK.out _ _ (hHeld) (fun hHeld => ?_)
        clear hK K
        try simp only [Act.put, List.setIfInBounds_toArray, List.set_cons_zero, List.set_cons_succ]
        refine wpAnyH_ready (rs := [13]) (by kernel_rfl) (by decide) (AllReadyH.cons (o := ⟨_, _, _, _, _, _⟩) rfl (fun K hK => ?_) AllReadyH.nil)
        rw [if_neg (ne_true (by kernel_rfl))]
        refine hK.out _ _ (hHeld) (fun hHeld => ?_)
        clear hK K
        try simp only [Act.put, List.setIfInBounds_toArray, List.set_cons_zero, List.set_cons_succ]
        refine wpAnyH_take (i := 14) (v := (.bool true)) (oi := ⟨_, _, _, _, _, _⟩) rfl (by kernel_rfl) (by kernel_rfl) (by kernel_rfl) (fun _ _ _ h => h) (Or.inl ⟨by kernel_rfl, fun W hS => ?_⟩) (by assumption) ?_
        · dsimp only at hS; go_split_ands; go_simp
        simp only [Act.put, List.setIfInBounds_toArray, List.set_cons_zero, List.set_cons_succ]
        refine wpAnyH_take (i := 15) (v := (.bool true)) (oi := ⟨_, _, _, _, _, _⟩) rfl (by kernel_rfl) (by kernel_rfl) (by kernel_rfl) (fun _ _ _ h => h) (Or.inl ⟨by kernel_rfl, fun W hS => ?_⟩) (by assumption) ?_
        · dsimp only at hS; go_split_ands; go_simp
        simp only [Act.put, List.setIfInBounds_toArray, List.set_cons_zero, List.set_cons_succ]
        refine wpAnyH_ready (rs := [16]) (by kernel_rfl) (by decide) (AllReadyH.cons (o := ⟨_, _, _, _, _, _⟩) rfl (fun K hK => ?_) AllReadyH.nil)
        rw [if_neg (ne_true (by kernel_rfl))]
        refine hK.out _ _ (hHeld) (fun hHeld => ?_)
        clear hK K
        try simp only [Act.put, List.setIfInBounds_toArray, List.set_cons_zero, List.set_cons_succ]
        refine wpAnyH_ready (rs := [17]) (by kernel_rfl) (by decide) (AllReadyH.cons (o := ⟨_, _, _, _, _, _⟩) rfl (fun K hK => ?_) AllReadyH.nil)
        rw [if_neg (ne_true (by kernel_rfl))]
        refine hK.out _ _ (hHeld) (fun hHeld => ?_)
        clear hK K
        try simp only [Act.put, List.setIfInBounds_toArray, List.set_cons_zero, List.set_cons_succ]
        refine wpAnyH_ready (rs := [18]) (by kernel_rfl) (by decide) (AllReadyH.cons (o := ⟨_, _, _, _, _, _⟩) rfl (fun K hK => ?_) AllReadyH.nil)
        rw [if_neg (ne_true (by kernel_rfl))]
        refine hK.out _ _ (hHeld) (fun hHeld => ?_)
        clear hK K
        try simp only [Act.put, List.setIfInBounds_toArray, List.set_cons_zero, List.set_cons_succ]
        refine wpAnyH_ready (rs := [19]) (by kernel_rfl) (by decide) (AllReadyH.cons (o := ⟨_, _, _, _, _, _⟩) rfl (fun K hK => ?_) AllReadyH.nil)
        rw [if_neg (ne_true (by kernel_rfl))]
        refine hK.out _ _ (hHeld) (fun hHeld => ?_)
        clear hK K
        try simp only [Act.put, List.setIfInBounds_toArray, List.set_cons_zero, List.set_cons_succ]
        refine wpAnyH_take (i := 20) (v := (.bool true)) (oi := ⟨_, _, _, _, _, _⟩) rfl (by kernel_rfl) (by kernel_rfl) (by kernel_rfl) (fun _ _ _ h => h) (Or.inl ⟨by kernel_rfl, fun W hS => ?_⟩) (by assumption) ?_
        · dsimp only at hS; go_split_ands; go_simp
        simp only [Act.put, List.setIfInBounds_toArray, List.set_cons_zero, List.set_cons_succ]
        refine wpAnyH_take (i := 21) (v := (.bool true)) (oi := ⟨_, _, _, _, _, _⟩) rfl (by kernel_rfl) (by kernel_rfl) (by kernel_rfl) (fun _ _ _ h => h) (Or.inl ⟨by kernel_rfl, fun W hS => ?_⟩) (by assumption) ?_
        · dsimp only at hS; go_split_ands; go_simp
        simp only [Act.put, List.setIfInBounds_toArray, List.set_cons_zero, List.set_cons_succ]
        refine wpAnyH_done (by kernel_rfl) ?_ _
        try simp only [Act.put, List.setIfInBounds_toArray, List.set_cons_zero, List.set_cons_succ]
        have L := lds hFd
        have l0 := L.k; have l1 := L.v; have l2 := L.s; have l3 := L.st; have l4 := L.mo; have l5 := L.fu; have l6 := L.di; have l7 := L.args; have l8 := L.body
        clear L
        go_wp2_with fail
        go_loopg [3, 4] 1 (fun gk v3 v4 w' => v3 = .bool true ∧ v4 = .int .i64 0 ∧ w' = w1.drew)
        case atStart => exact ⟨rfl, rfl, rfl⟩
        case round =>
          obtain ⟨rfl, rfl, rfl⟩ := hrel
          go_wp2_with fail
          all_goals
            go_ret
            exact ⟨by rw [HX.out]; rfl, hbd⟩
      · skip
        rw [if_neg (ne_true (by kernel_rfl))]
        refine hK.out _ _ (hHeld) (fun hHeld => ?_)
        clear hK K
        try simp only [Act.put, List.setIfInBounds_toArray, List.set_cons_zero, List.set_cons_succ]
        refine wpAnyH_ready (rs := [9]) (by kernel_rfl) (by decide) (AllReadyH.cons (o := ⟨_, _, _, _, _, _⟩) rfl (fun K hK => ?_) AllReadyH.nil)
        rw [if_neg (ne_true (by kernel_rfl))]
        refine hK.out _ _ (hHeld) (fun hHeld => ?_)
        clear hK K
        try simp only [Act.put, List.setIfInBounds_toArray, List.set_cons_zero, List.set_cons_succ]
        refine wpAnyH_ready (rs := [12]) (by kernel_rfl) (by decide) (AllReadyH.cons (o := ⟨_, _, _, _, _, _⟩) rfl (fun K hK => ?_) AllReadyH.nil)
        rw [if_neg (ne_true (by kernel_rfl))]
        refine hK.out _ _ (hHeld) (fun hHeld => ?_)
        clear hK K
        try simp only [Act.put, List.setIfInBounds_toArray, List.set_cons_zero, List.set_cons_succ]
        refine wpAnyH_ready (rs := [13]) (by kernel_rfl) (by decide) (AllReadyH.cons (o := ⟨_, _, _, _, _, _⟩) rfl (fun K hK => ?_) AllReadyH.nil)
        rw [if_neg (ne_true (by kernel_rfl))]
        refine hK.out _ _ (hHeld) (fun hHeld => ?_)
        clear hK K
        try simp only [Act.put, List.setIfInBounds_toArray, List.set_cons_zero, List.set_cons_succ]
        refine wpAnyH_take (i := 14) (v := (.bool true)) (oi := ⟨_, _, _, _, _, _⟩) rfl (by kernel_rfl) (by kernel_rfl) (by kernel_rfl) (fun _ _ _ h => h) (Or.inl ⟨by kernel_rfl, fun W hS => ?_⟩) (by assumption) ?_
        · dsimp only at hS; go_split_ands; go_simp
        simp only [Act.put, List.setIfInBounds_toArray, List.set_cons_zero, List.set_cons_succ]
        refine wpAnyH_take (i := 15) (v := (.bool true)) (oi := ⟨_, _, _, _, _, _⟩) rfl (by kernel_rfl) (by kernel_rfl) (by kernel_rfl) (fun _ _ _ h => h) (Or.inl ⟨by kernel_rfl, fun W hS => ?_⟩) (by assumption) ?_
        · dsimp only at hS; go_split_ands; go_simp
        simp only [Act.put, List.setIfInBounds_toArray, List.set_cons_zero, List.set_cons_succ]
        refine wpAnyH_ready (rs := [16]) (by kernel_rfl) (by decide) (AllReadyH.cons (o := ⟨_, _, _, _, _, _⟩) rfl (fun K hK => ?_) AllReadyH.nil)
        rw [if_neg (ne_true (by kernel_rfl))]
        refine hK.out _ _ (hHeld) (fun hHeld => ?_)
        clear hK K
        try simp only [Act.put, List.setIfInBounds_toArray, List.set_cons_zero, List.set_cons_succ]
        refine wpAnyH_ready (rs := [17]) (by kernel_rfl) (by decide) (AllReadyH.cons (o := ⟨_, _, _, _, _, _⟩) rfl (fun K hK => ?_) AllReadyH.nil)
        rw [if_neg (ne_true (by kernel_rfl))]
        refine hK.out _ _ (hHeld) (fun hHeld => ?_)
        clear hK K
        try simp only [Act.put, List.setIfInBounds_toArray, List.set_cons_zero, List.set_cons_succ]
        refine wpAnyH_ready (rs := [18]) (by kernel_rfl) (by decide) (AllReadyH.cons (o := ⟨_, _, _, _, _, _⟩) rfl (fun K hK => ?_) AllReadyH.nil)
        rw [if_neg (ne_true (by kernel_rfl))]
        refine hK.out _ _ (hHeld) (fun hHeld => ?_)
        clear hK K
        try simp only [Act.put, List.setIfInBounds_toArray, List.set_cons_zero, List.set_cons_succ]
        refine wpAnyH_ready (rs := [19]) (by kernel_rfl) (by decide) (AllReadyH.cons (o := ⟨_, _, _, _, _, _⟩) rfl (fun K hK => ?_) AllReadyH.nil)
        rw [if_neg (ne_true (by kernel_rfl))]
        refine hK.out _ _ (hHeld) (fun hHeld => ?_)
        clear hK K
        try simp only [Act.put, List.setIfInBounds_toArray, List.set_cons_zero, List.set_cons_succ]
        refine wpAnyH_take (i := 20) (v := (.bool true)) (oi := ⟨_, _, _, _, _, _⟩) rfl (by kernel_rfl) (by kernel_rfl) (by kernel_rfl) (fun _ _ _ h => h) (Or.inl ⟨by kernel_rfl, fun W hS => ?_⟩) (by assumption) ?_
        · dsimp only at hS; go_split_ands; go_simp
        simp only [Act.put, List.setIfInBounds_toArray, List.set_cons_zero, List.set_cons_succ]
        refine wpAnyH_take (i := 21) (v := (.bool true)) (oi := ⟨_, _, _, _, _, _⟩) rfl (by kernel_rfl) (by kernel_rfl) (by kernel_rfl) (fun _ _ _ h => h) (Or.inl ⟨by kernel_rfl, fun W hS => ?_⟩) (by assumption) ?_
        · dsimp only at hS; go_split_ands; go_simp
        simp only [Act.put, List.setIfInBounds_toArray, List.set_cons_zero, List.set_cons_succ]
        refine wpAnyH_done (by kernel_rfl) ?_ _
        try simp only [Act.put, List.setIfInBounds_toArray, List.set_cons_zero, List.set_cons_succ]
        have L := lds hFd
        have l0 := L.k; have l1 := L.v; have l2 := L.s; have l3 := L.st; have l4 := L.mo; have l5 := L.fu; have l6 := L.di; have l7 := L.args; have l8 := L.body
        clear L
        go_wp2_with fail
        go_loopg [3, 4] 1 (fun gk v3 v4 w' => v3 = .bool true ∧ v4 = .int .i64 0 ∧ w' = w1.drew)
        case atStart => exact ⟨rfl, rfl, rfl⟩
        case round =>
          obtain ⟨rfl, rfl, rfl⟩ := hrel
          go_wp2_with fail
          all_goals
            go_ret
            exact ⟨by rw [HX.out]; rfl, hbd⟩
  have d1 : decide (f.k < 1) = false := decide_eq_false k1
  by_cases k6 : 6 < f.k
  · have d6 : decide (6 < f.k) = true := decide_eq_true k6
    have HX : Hid (c = 70) := Lib.hid (by rw [← HC.out]; exact chk_no (fun h => by have := h.k6; omega))
    refine wp_region_held_drew (S := fun W => f.at_ 29 W g) (by kernel_rfl) (hFd) (fun hHeld => ?_)
    refine wpAnyH_take (i := 0) (v := (.pointer (some ⟨g, 0, none⟩))) (oi := ⟨_, _, _, _, _, _⟩) rfl (by kernel_rfl) (by kernel_rfl) (by kernel_rfl) (fun _ _ _ h => h) (Or.inl ⟨by kernel_rfl, fun W hS => ?_⟩) (by assumption) ?_
    · dsimp only at hS; go_split_ands; go_simp
    simp only [Act.put, List.setIfInBounds_toArray, List.set_cons_zero, List.set_cons_succ]
    refine wpAnyH_take (i := 1) (v := (.int .i64 f.k)) (oi := ⟨_, _, _, _, _, _⟩) rfl (by kernel_rfl) (by kernel_rfl) (by kernel_rfl) (fun _ _ _ h => h) (Or.inl ⟨by kernel_rfl, fun W hS => ?_⟩) (by assumption) ?_
    · dsimp only at hS; go_split_ands; go_simp
    simp only [Act.put, List.setIfInBounds_toArray, List.set_cons_zero, List.set_cons_succ]
    refine wpAnyH_take (i := 2) (v := (.bool false)) (oi := ⟨_, _, _, _, _, _⟩) rfl (by kernel_rfl) (by kernel_rfl) (by kernel_rfl) (fun _ _ _ h => h) (Or.inl ⟨by kernel_rfl, fun W hS => ?_⟩) (by assumption) ?_
    · dsimp only at hS; go_split_ands; go_simp
    simp only [Act.put, List.setIfInBounds_toArray, List.set_cons_zero, List.set_cons_succ]
    refine wpAnyH_take (i := 3) (v := (.bool false)) (oi := ⟨_, _, _, _, _, _⟩) rfl (by kernel_rfl) (by kernel_rfl) (by kernel_rfl) (fun _ _ _ h => h) (Or.inl ⟨by kernel_rfl, fun W hS => ?_⟩) (by assumption) ?_
    · dsimp only at hS; go_split_ands; go_simp
    simp only [Act.put, List.setIfInBounds_toArray, List.set_cons_zero, List.set_cons_succ]
    refine wpAnyH_take (i := 4) (v := (.pointer (some ⟨g, 0, none⟩))) (oi := ⟨_, _, _, _, _, _⟩) rfl (by kernel_rfl) (by kernel_rfl) (by kernel_rfl) (fun _ _ _ h => h) (Or.inl ⟨by kernel_rfl, fun W hS => ?_⟩) (by assumption) ?_
    · dsimp only at hS; go_split_ands; go_simp
    simp only [Act.put, List.setIfInBounds_toArray, List.set_cons_zero, List.set_cons_succ]
    refine wpAnyH_take (i := 5) (v := (.int .i64 f.k)) (oi := ⟨_, _, _, _, _, _⟩) rfl (by kernel_rfl) (by kernel_rfl) (by kernel_rfl) (fun _ _ _ h => h) (Or.inl ⟨by kernel_rfl, fun W hS => ?_⟩) (by assumption) ?_
    · dsimp only at hS; go_split_ands; go_simp
    simp only [Act.put, List.setIfInBounds_toArray, List.set_cons_zero, List.set_cons_succ]
    refine wpAnyH_take (i := 6) (v := (.bool true)) (oi := ⟨_, _, _, _, _, _⟩) rfl (by kernel_rfl) (by kernel_rfl) (by kernel_rfl) (fun _ _ _ h => h) (Or.inl ⟨by kernel_rfl, fun W hS => ?_⟩) (by assumption) ?_
    · dsimp only at hS; go_split_ands; go_simp
    simp only [Act.put, List.setIfInBounds_toArray, List.set_cons_zero, List.set_cons_succ]
    refine wpAnyH_take (i := 7) (v := (.bool true)) (oi := ⟨_, _, _, _, _, _⟩) rfl (by kernel_rfl) (by kernel_rfl) (by kernel_rfl) (fun _ _ _ h => h) (Or.inl ⟨by kernel_rfl, fun W hS => ?_⟩) (by assumption) ?_
    · dsimp only at hS; go_split_ands; go_simp
    simp only [Act.put, List.setIfInBounds_toArray, List.set_cons_zero, List.set_cons_succ]
    refine wpAnyH_take (i := 8) (v := (.bool true)) (oi := ⟨_, _, _, _, _, _⟩) rfl (by kernel_rfl) (by kernel_rfl) (by kernel_rfl) (fun _ _ _ h => h) (Or.inl ⟨by kernel_rfl, fun W hS => ?_⟩) (by assumption) ?_
    · dsimp only at hS; go_split_ands; go_simp
    simp only [Act.put, List.setIfInBounds_toArray, List.set_cons_zero, List.set_cons_succ]
    refine wpAnyH_ready (rs := [9, 10]) (by kernel_rfl) (by decide) (AllReadyH.cons (o := ⟨_, _, _, _, _, _⟩) rfl (fun K hK => ?_) (AllReadyH.cons (o := ⟨_, _, _, _, _, _⟩) rfl (fun K hK => ?_) AllReadyH.nil))
    · skip
      rw [if_neg (ne_true (by kernel_rfl))]
      refine hK.out _ _ (hHeld) (fun hHeld => ?_)
      clear hK K
      try simp only [Act.put, List.setIfInBounds_toArray, List.set_cons_zero, List.set_cons_succ]
      refine wpAnyH_ready (rs := [10]) (by kernel_rfl) (by decide) (AllReadyH.cons (o := ⟨_, _, _, _, _, _⟩) rfl (fun K hK => ?_) AllReadyH.nil)
      rw [if_neg (ne_true (by kernel_rfl))]
      refine hK.out _ _ (hHeld) (fun hHeld => ?_)
      clear hK K
      try simp only [Act.put, List.setIfInBounds_toArray, List.set_cons_zero, List.set_cons_succ]
      refine wpAnyH_ready (rs := [11]) (by kernel_rfl) (by decide) (AllReadyH.cons (o := ⟨_, _, _, _, _, _⟩) rfl (fun K hK => ?_) AllReadyH.nil)
      rw [if_neg (ne_true (by kernel_rfl))]
      refine hK.out _ _ (hHeld) (fun hHeld => ?_)
      clear hK K
      try simp only [Act.put, List.setIfInBounds_toArray, List.set_cons_zero, List.set_cons_succ]
      refine wpAnyH_ready (rs := [12]) (by kernel_rfl) (by decide) (AllReadyH.cons (o := ⟨_, _, _, _, _, _⟩) rfl (fun K hK => ?_) AllReadyH.nil)
      rw [if_neg (ne_true (by kernel_rfl))]
      refine hK.out _ _ (hHeld) (fun hHeld => ?_)
      clear hK K
      try simp only [Act.put, List.setIfInBounds_toArray, List.set_cons_zero, List.set_cons_succ]
      refine wpAnyH_ready (rs := [13]) (by kernel_rfl) (by decide) (AllReadyH.cons (o := ⟨_, _, _, _, _, _⟩) rfl (fun K hK => ?_) AllReadyH.nil)
      rw [if_neg (ne_true (by kernel_rfl))]
      refine hK.out _ _ (hHeld) (fun hHeld => ?_)
      clear hK K
      try simp only [Act.put, List.setIfInBounds_toArray, List.set_cons_zero, List.set_cons_succ]
      refine wpAnyH_take (i := 14) (v := (.bool true)) (oi := ⟨_, _, _, _, _, _⟩) rfl (by kernel_rfl) (by kernel_rfl) (by kernel_rfl) (fun _ _ _ h => h) (Or.inl ⟨by kernel_rfl, fun W hS => ?_⟩) (by assumption) ?_
      · dsimp only at hS; go_split_ands; go_simp
      simp only [Act.put, List.setIfInBounds_toArray, List.set_cons_zero, List.set_cons_succ]
      refine wpAnyH_take (i := 15) (v := (.bool true)) (oi := ⟨_, _, _, _, _, _⟩) rfl (by kernel_rfl) (by kernel_rfl) (by kernel_rfl) (fun _ _ _ h => h) (Or.inl ⟨by kernel_rfl, fun W hS => ?_⟩) (by assumption) ?_
      · dsimp only at hS; go_split_ands; go_simp
      simp only [Act.put, List.setIfInBounds_toArray, List.set_cons_zero, List.set_cons_succ]
      refine wpAnyH_ready (rs := [16]) (by kernel_rfl) (by decide) (AllReadyH.cons (o := ⟨_, _, _, _, _, _⟩) rfl (fun K hK => ?_) AllReadyH.nil)
      rw [if_neg (ne_true (by kernel_rfl))]
      refine hK.out _ _ (hHeld) (fun hHeld => ?_)
      clear hK K
      try simp only [Act.put, List.setIfInBounds_toArray, List.set_cons_zero, List.set_cons_succ]
      refine wpAnyH_ready (rs := [17]) (by kernel_rfl) (by decide) (AllReadyH.cons (o := ⟨_, _, _, _, _, _⟩) rfl (fun K hK => ?_) AllReadyH.nil)
      rw [if_neg (ne_true (by kernel_rfl))]
      refine hK.out _ _ (hHeld) (fun hHeld => ?_)
      clear hK K
      try simp only [Act.put, List.setIfInBounds_toArray, List.set_cons_zero, List.set_cons_succ]
      refine wpAnyH_ready (rs := [18]) (by kernel_rfl) (by decide) (AllReadyH.cons (o := ⟨_, _, _, _, _, _⟩) rfl (fun K hK => ?_) AllReadyH.nil)
      rw [if_neg (ne_true (by kernel_rfl))]
      refine hK.out _ _ (hHeld) (fun hHeld => ?_)
      clear hK K
      try simp only [Act.put, List.setIfInBounds_toArray, List.set_cons_zero, List.set_cons_succ]
      refine wpAnyH_ready (rs := [19]) (by kernel_rfl) (by decide) (AllReadyH.cons (o := ⟨_, _, _, _, _, _⟩) rfl (fun K hK => ?_) AllReadyH.nil)
      rw [if_neg (ne_true (by kernel_rfl))]
      refine hK.out _ _ (hHeld) (fun hHeld => ?_)
      clear hK K
      try simp only [Act.put, List.setIfInBounds_toArray, List.set_cons_zero, List.set_cons_succ]
      refine wpAnyH_take (i := 20) (v := (.bool true)) (oi := ⟨_, _, _, _, _, _⟩) rfl (by kernel_rfl) (by kernel_rfl) (by kernel_rfl) (fun _ _ _ h => h) (Or.inl ⟨by kernel_rfl, fun W hS => ?_⟩) (by assumption) ?_
      · dsimp only at hS; go_split_ands; go_simp
      simp only [Act.put, List.setIfInBounds_toArray, List.set_cons_zero, List.set_cons_succ]
      refine wpAnyH_take (i := 21) (v := (.bool true)) (oi := ⟨_, _, _, _, _, _⟩) rfl (by kernel_rfl) (by kernel_rfl) (by kernel_rfl) (fun _ _ _ h => h) (Or.inl ⟨by kernel_rfl, fun W hS => ?_⟩) (by assumption) ?_
      · dsimp only at hS; go_split_ands; go_simp
      simp only [Act.put, List.setIfInBounds_toArray, List.set_cons_zero, List.set_cons_succ]
      refine wpAnyH_done (by kernel_rfl) ?_ _
      try simp only [Act.put, List.setIfInBounds_toArray, List.set_cons_zero, List.set_cons_succ]
      have L := lds hFd
      have l0 := L.k; have l1 := L.v; have l2 := L.s; have l3 := L.st; have l4 := L.mo; have l5 := L.fu; have l6 := L.di; have l7 := L.args; have l8 := L.body
      clear L
      go_wp2_with fail
      go_loopg [3, 4] 1 (fun gk v3 v4 w' => v3 = .bool true ∧ v4 = .int .i64 0 ∧ w' = w1.drew)
      case atStart => exact ⟨rfl, rfl, rfl⟩
      case round =>
        obtain ⟨rfl, rfl, rfl⟩ := hrel
        go_wp2_with fail
        all_goals
          go_ret
          exact ⟨by rw [HX.out]; rfl, hbd⟩
    · skip
      rw [if_neg (ne_true (by kernel_rfl))]
      refine hK.out _ _ (hHeld) (fun hHeld => ?_)
      clear hK K
      try simp only [Act.put, List.setIfInBounds_toArray, List.set_cons_zero, List.set_cons_succ]
      refine wpAnyH_ready (rs := [9, 11]) (by kernel_rfl) (by decide) (AllReadyH.cons (o := ⟨_, _, _, _, _, _⟩) rfl (fun K hK => ?_) (AllReadyH.cons (o := ⟨_, _, _, _, _, _⟩) rfl (fun K hK => ?_) AllReadyH.nil))
      · skip
        rw [if_neg (ne_true (by kernel_rfl))]
        refine hK.out _ _ (hHeld) (fun hHeld => ?_)
        clear hK K
        try simp only [Act.put, List.setIfInBounds_toArray, List.set_cons_zero, List.set_cons_succ]
        refine wpAnyH_ready (rs := [11]) (by kernel_rfl) (by decide) (AllReadyH.cons (o := ⟨_, _, _, _, _, _⟩) rfl (fun K hK => ?_) AllReadyH.nil)
        rw [if_neg (ne_true (by kernel_rfl))]
        refine hK.out _ _ (hHeld) (fun hHeld => ?_)
        clear hK K
        try simp only [Act.put, List.setIfInBounds_toArray, List.set_cons_zero, List.set_cons_succ]
        refine wpAnyH_ready (rs := [12]) (by kernel_rfl) (by decide) (AllReadyH.cons (o := ⟨_, _, _, _, _, _⟩) rfl (fun K hK => ?_) AllReadyH.nil)
        rw [if_neg (ne_true (by kernel_rfl))]
        refine hK.out _ _ (hHeld) (fun hHeld => ?_)
        clear hK K
        try simp only [Act.put, List.setIfInBounds_toArray, List.set_cons_zero, List.set_cons_succ]
        refine wpAnyH_ready (rs := [13]) (by kernel_rfl) (by decide) (AllReadyH.cons (o := ⟨_, _, _, _, _, _⟩) rfl (fun K hK => ?_) AllReadyH.nil)
        rw [if_neg (ne_true (by kernel_rfl))]
        refine hK.out _ _ (hHeld) (fun hHeld => ?_)
        clear hK K
        try simp only [Act.put, List.setIfInBounds_toArray, List.set_cons_zero, List.set_cons_succ]
        refine wpAnyH_take (i := 14) (v := (.bool true)) (oi := ⟨_, _, _, _, _, _⟩) rfl (by kernel_rfl) (by kernel_rfl) (by kernel_rfl) (fun _ _ _ h => h) (Or.inl ⟨by kernel_rfl, fun W hS => ?_⟩) (by assumption) ?_
        · dsimp only at hS; go_split_ands; go_simp
        simp only [Act.put, List.setIfInBounds_toArray, List.set_cons_zero, List.set_cons_succ]
        refine wpAnyH_take (i := 15) (v := (.bool true)) (oi := ⟨_, _, _, _, _, _⟩) rfl (by kernel_rfl) (by kernel_rfl) (by kernel_rfl) (fun _ _ _ h => h) (Or.inl ⟨by kernel_rfl, fun W hS => ?_⟩) (by assumption) ?_
        · dsimp only at hS; go_split_ands; go_simp
        simp only [Act.put, List.setIfInBounds_toArray, List.set_cons_zero, List.set_cons_succ]
        refine wpAnyH_ready (rs := [16]) (by kernel_rfl) (by decide) (AllReadyH.cons (o := ⟨_, _, _, _, _, _⟩) rfl (fun K hK => ?_) AllReadyH.nil)
        rw [if_neg (ne_true (by kernel_rfl))]
        refine hK.out _ _ (hHeld) (fun hHeld => ?_)
        clear hK K
        try simp only [Act.put, List.setIfInBounds_toArray, List.set_cons_zero, List.set_cons_succ]
        refine wpAnyH_ready (rs := [17]) (by kernel_rfl) (by decide) (AllReadyH.cons (o := ⟨_, _, _, _, _, _⟩) rfl (fun K hK => ?_) AllReadyH.nil)
        rw [if_neg (ne_true (by kernel_rfl))]
        refine hK.out _ _ (hHeld) (fun hHeld => ?_)
        clear hK K
        try simp only [Act.put, List.setIfInBounds_toArray, List.set_cons_zero, List.set_cons_succ]
        refine wpAnyH_ready (rs := [18]) (by kernel_rfl) (by decide) (AllReadyH.cons (o := ⟨_, _, _, _, _, _⟩) rfl (fun K hK => ?_) AllReadyH.nil)
        rw [if_neg (ne_true (by kernel_rfl))]
        refine hK.out _ _ (hHeld) (fun hHeld => ?_)
        clear hK K
        try simp only [Act.put, List.setIfInBounds_toArray, List.set_cons_zero, List.set_cons_succ]
        refine wpAnyH_ready (rs := [19]) (by kernel_rfl) (by decide) (AllReadyH.cons (o := ⟨_, _, _, _, _, _⟩) rfl (fun K hK => ?_) AllReadyH.nil)
        rw [if_neg (ne_true (by kernel_rfl))]
        refine hK.out _ _ (hHeld) (fun hHeld => ?_)
        clear hK K
        try simp only [Act.put, List.setIfInBounds_toArray, List.set_cons_zero, List.set_cons_succ]
        refine wpAnyH_take (i := 20) (v := (.bool true)) (oi := ⟨_, _, _, _, _, _⟩) rfl (by kernel_rfl) (by kernel_rfl) (by kernel_rfl) (fun _ _ _ h => h) (Or.inl ⟨by kernel_rfl, fun W hS => ?_⟩) (by assumption) ?_
        · dsimp only at hS; go_split_ands; go_simp
        simp only [Act.put, List.setIfInBounds_toArray, List.set_cons_zero, List.set_cons_succ]
        refine wpAnyH_take (i := 21) (v := (.bool true)) (oi := ⟨_, _, _, _, _, _⟩) rfl (by kernel_rfl) (by kernel_rfl) (by kernel_rfl) (fun _ _ _ h => h) (Or.inl ⟨by kernel_rfl, fun W hS => ?_⟩) (by assumption) ?_
        · dsimp only at hS; go_split_ands; go_simp
        simp only [Act.put, List.setIfInBounds_toArray, List.set_cons_zero, List.set_cons_succ]
        refine wpAnyH_done (by kernel_rfl) ?_ _
        try simp only [Act.put, List.setIfInBounds_toArray, List.set_cons_zero, List.set_cons_succ]
        have L := lds hFd
        have l0 := L.k; have l1 := L.v; have l2 := L.s; have l3 := L.st; have l4 := L.mo; have l5 := L.fu; have l6 := L.di; have l7 := L.args; have l8 := L.body
        clear L
        go_wp2_with fail
        go_loopg [3, 4] 1 (fun gk v3 v4 w' => v3 = .bool true ∧ v4 = .int .i64 0 ∧ w' = w1.drew)
        case atStart => exact ⟨rfl, rfl, rfl⟩
        case round =>
          obtain ⟨rfl, rfl, rfl⟩ := hrel
          go_wp2_with fail
          all_goals
            go_ret
            exact ⟨by rw [HX.out]; rfl, hbd⟩
      · skip
        rw [if_neg (ne_true (by kernel_rfl))]
        refine hK.out _ _ (hHeld) (fun hHeld => ?_)
        clear hK K
        try simp only [Act.put, List.setIfInBounds_toArray, List.set_cons_zero, List.set_cons_succ]
        refine wpAnyH_ready (rs := [9]) (by kernel_rfl) (by decide) (AllReadyH.cons (o := ⟨_, _, _, _, _, _⟩) rfl (fun K hK => ?_) AllReadyH.nil)
        rw [if_neg (ne_true (by kernel_rfl))]
        refine hK.out _ _ (hHeld) (fun hHeld => ?_)
        clear hK K
        try simp only [Act.put, List.setIfInBounds_toArray, List.set_cons_zero, List.set_cons_succ]
        refine wpAnyH_ready (rs := [12]) (by kernel_rfl) (by decide) (AllReadyH.cons (o := ⟨_, _, _, _, _, _⟩) rfl (fun K hK => ?_) AllReadyH.nil)
        rw [if_neg (ne_true (by kernel_rfl))]
        refine hK.out _ _ (hHeld) (fun hHeld => ?_)
        clear hK K
        try simp only [Act.put, List.setIfInBounds_toArray, List.set_cons_zero, List.set_cons_succ]
        refine wpAnyH_ready (rs := [13]) (by kernel_rfl) (by decide) (AllReadyH.cons (o := ⟨_, _, _, _, _, _⟩) rfl (fun K hK => ?_) AllReadyH.nil)
        rw [if_neg (ne_true (by kernel_rfl))]
        refine hK.out _ _ (hHeld) (fun hHeld => ?_)
        clear hK K
        try simp only [Act.put, List.setIfInBounds_toArray, List.set_cons_zero, List.set_cons_succ]
        refine wpAnyH_take (i := 14) (v := (.bool true)) (oi := ⟨_, _, _, _, _, _⟩) rfl (by kernel_rfl) (by kernel_rfl) (by kernel_rfl) (fun _ _ _ h => h) (Or.inl ⟨by kernel_rfl, fun W hS => ?_⟩) (by assumption) ?_
        · dsimp only at hS; go_split_ands; go_simp
        simp only [Act.put, List.setIfInBounds_toArray, List.set_cons_zero, List.set_cons_succ]
        refine wpAnyH_take (i := 15) (v := (.bool true)) (oi := ⟨_, _, _, _, _, _⟩) rfl (by kernel_rfl) (by kernel_rfl) (by kernel_rfl) (fun _ _ _ h => h) (Or.inl ⟨by kernel_rfl, fun W hS => ?_⟩) (by assumption) ?_
        · dsimp only at hS; go_split_ands; go_simp
        simp only [Act.put, List.setIfInBounds_toArray, List.set_cons_zero, List.set_cons_succ]
        refine wpAnyH_ready (rs := [16]) (by kernel_rfl) (by decide) (AllReadyH.cons (o := ⟨_, _, _, _, _, _⟩) rfl (fun K hK => ?_) AllReadyH.nil)
        rw [if_neg (ne_true (by kernel_rfl))]
        refine hK.out _ _ (hHeld) (fun hHeld => ?_)
        clear hK K
        try simp only [Act.put, List.setIfInBounds_toArray, List.set_cons_zero, List.set_cons_succ]
        refine wpAnyH_ready (rs := [17]) (by kernel_rfl) (by decide) (AllReadyH.cons (o := ⟨_, _, _, _, _, _⟩) rfl (fun K hK => ?_) AllReadyH.nil)
        rw [if_neg (ne_true (by kernel_rfl))]
        refine hK.out _ _ (hHeld) (fun hHeld => ?_)
        clear hK K
        try simp only [Act.put, List.setIfInBounds_toArray, List.set_cons_zero, List.set_cons_succ]
        refine wpAnyH_ready (rs := [18]) (by kernel_rfl) (by decide) (AllReadyH.cons (o := ⟨_, _, _, _, _, _⟩) rfl (fun K hK => ?_) AllReadyH.nil)
        rw [if_neg (ne_true (by kernel_rfl))]
        refine hK.out _ _ (hHeld) (fun hHeld => ?_)
        clear hK K
        try simp only [Act.put, List.setIfInBounds_toArray, List.set_cons_zero, List.set_cons_succ]
        refine wpAnyH_ready (rs := [19]) (by kernel_rfl) (by decide) (AllReadyH.cons (o := ⟨_, _, _, _, _, _⟩) rfl (fun K hK => ?_) AllReadyH.nil)
        rw [if_neg (ne_true (by kernel_rfl))]
        refine hK.out _ _ (hHeld) (fun hHeld => ?_)
        clear hK K
        try simp only [Act.put, List.setIfInBounds_toArray, List.set_cons_zero, List.set_cons_succ]
        refine wpAnyH_take (i := 20) (v := (.bool true)) (oi := ⟨_, _, _, _, _, _⟩) rfl (by kernel_rfl) (by kernel_rfl) (by kernel_rfl) (fun _ _ _ h => h) (Or.inl ⟨by kernel_rfl, fun W hS => ?_⟩) (by assumption) ?_
        · dsimp only at hS; go_split_ands; go_simp
        simp only [Act.put, List.setIfInBounds_toArray, List.set_cons_zero, List.set_cons_succ]
        refine wpAnyH_take (i := 21) (v := (.bool true)) (oi := ⟨_, _, _, _, _, _⟩) rfl (by kernel_rfl) (by kernel_rfl) (by kernel_rfl) (fun _ _ _ h => h) (Or.inl ⟨by kernel_rfl, fun W hS => ?_⟩) (by assumption) ?_
        · dsimp only at hS; go_split_ands; go_simp
        simp only [Act.put, List.setIfInBounds_toArray, List.set_cons_zero, List.set_cons_succ]
        refine wpAnyH_done (by kernel_rfl) ?_ _
        try simp only [Act.put, List.setIfInBounds_toArray, List.set_cons_zero, List.set_cons_succ]
        have L := lds hFd
        have l0 := L.k; have l1 := L.v; have l2 := L.s; have l3 := L.st; have l4 := L.mo; have l5 := L.fu; have l6 := L.di; have l7 := L.args; have l8 := L.body
        clear L
        go_wp2_with fail
        go_loopg [3, 4] 1 (fun gk v3 v4 w' => v3 = .bool true ∧ v4 = .int .i64 0 ∧ w' = w1.drew)
        case atStart => exact ⟨rfl, rfl, rfl⟩
        case round =>
          obtain ⟨rfl, rfl, rfl⟩ := hrel
          go_wp2_with fail
          all_goals
            go_ret
            exact ⟨by rw [HX.out]; rfl, hbd⟩
  have d6 : decide (6 < f.k) = false := decide_eq_false k6
  have hO := own_core (f := f) (by omega) (by omega)
  obtain ⟨s, hs⟩ : ∃ s, (ownG f).same f = s := ⟨_, rfl⟩
  have HSI : Hid (s = true ↔ f.core = onlyF f) := Lib.hid (by rw [← hs, same_iff, hO]; exact eq_comm)
  have HKK : Hid (1 ≤ f.k ∧ f.k ≤ 6) := Lib.hid (by omega)
  have c1 : ∀ W, Calls Try.prog 51 #[.agg f.arr] W (fun e w' => e = .returned (.agg (ownG f).arr) ∧ Below W.heap.size W w') := fun W => ronly_any f HOK.out.tool (fun a b c d e => by have := HKK.out; omega) W
  have c2 : ∀ W, Below w.heap.size w W → Calls Try.prog 13 #[.agg f.arr, .agg (ownG f).arr] W (fun e w' => e = .returned (.bool s) ∧ Below W.heap.size W w') := fun W hbw => by
    refine rSame_is f (ownG f) s (same_sym2 _ _ _ hs) W (HOK.out.below hbw) ⟨own_tool HOK.out.tool, ?_⟩
    unfold ownG onlyG
    rcases (by have := HKK.out; omega : f.k = 1 ∨ f.k = 2 ∨ f.k = 3 ∨ f.k = 4 ∨ f.k = 5 ∨ f.k = 6) with h | h | h | h | h | h <;> simp [h, only1, only2, only3, only4, only6, noF]
    · exact RT.nil W
    · exact HOK.out.args.below hbw
    · exact RT.nil W
    · exact RT.nil W
    · exact RT.nil W
    · exact RT.nil W
  clear hs hO k1 k6
  have keep : ∀ {W W1 : World}, (Below w.heap.size w W ∧ f.at_ 29 W g) → Below W.heap.size W W1 → (Below w.heap.size w W1 ∧ f.at_ 29 W1 g) := fun h hk => ⟨below_step h.1 hk, h.2.below hk⟩
  cases s with
  | false =>
    have HX : Hid (c = 70) := Lib.hid (by rw [← HC.out]; exact chk_no (fun h => by have := HSI.out.2 h.only; cases this))
    have hcO : Calls Try.prog 51 #[.agg f.arr] w1.drew fun e w' => ∃ v, e = .returned v ∧ v = .agg (ownG f).arr ∧ Below w1.drew.heap.size w1.drew w' := (c1 _).mono fun e w' h => ⟨_, h.1, rfl, h.2⟩
    have hcS : ∀ W, Below w.heap.size w W → Calls Try.prog 13 #[.agg f.arr, .agg (ownG f).arr] W fun e w' => ∃ v, e = .returned v ∧ v = .bool false ∧ Below W.heap.size W w' := fun W h => (c2 W h).mono fun e w' h => ⟨_, h.1, rfl, h.2⟩
    refine wp_region_held_drew (S := fun W => f.at_ 29 W g) (by kernel_rfl) (hFd) (fun hHeld => ?_)
    refine wpAnyH_take (i := 0) (v := (.pointer (some ⟨g, 0, none⟩))) (oi := ⟨_, _, _, _, _, _⟩) rfl (by kernel_rfl) (by kernel_rfl) (by kernel_rfl) (fun _ _ _ h => h) (Or.inl ⟨by kernel_rfl, fun W hS => ?_⟩) (by assumption) ?_
    · dsimp only at hS; go_split_ands; go_simp
    simp only [Act.put, List.setIfInBounds_toArray, List.set_cons_zero, List.set_cons_succ]
    refine wpAnyH_take (i := 1) (v := (.int .i64 f.k)) (oi := ⟨_, _, _, _, _, _⟩) rfl (by kernel_rfl) (by kernel_rfl) (by kernel_rfl) (fun _ _ _ h => h) (Or.inl ⟨by kernel_rfl, fun W hS => ?_⟩) (by assumption) ?_
    · dsimp only at hS; go_split_ands; go_simp
    simp only [Act.put, List.setIfInBounds_toArray, List.set_cons_zero, List.set_cons_succ]
    refine wpAnyH_take (i := 2) (v := (.bool false)) (oi := ⟨_, _, _, _, _, _⟩) rfl (by kernel_rfl) (by kernel_rfl) (by kernel_rfl) (fun _ _ _ h => h) (Or.inl ⟨by kernel_rfl, fun W hS => ?_⟩) (by assumption) ?_
    · dsimp only at hS; go_split_ands; go_simp
    simp only [Act.put, List.setIfInBounds_toArray, List.set_cons_zero, List.set_cons_succ]
    refine wpAnyH_take (i := 3) (v := (.bool false)) (oi := ⟨_, _, _, _, _, _⟩) rfl (by kernel_rfl) (by kernel_rfl) (by kernel_rfl) (fun _ _ _ h => h) (Or.inl ⟨by kernel_rfl, fun W hS => ?_⟩) (by assumption) ?_
    · dsimp only at hS; go_split_ands; go_simp
    simp only [Act.put, List.setIfInBounds_toArray, List.set_cons_zero, List.set_cons_succ]
    refine wpAnyH_take (i := 4) (v := (.pointer (some ⟨g, 0, none⟩))) (oi := ⟨_, _, _, _, _, _⟩) rfl (by kernel_rfl) (by kernel_rfl) (by kernel_rfl) (fun _ _ _ h => h) (Or.inl ⟨by kernel_rfl, fun W hS => ?_⟩) (by assumption) ?_
    · dsimp only at hS; go_split_ands; go_simp
    simp only [Act.put, List.setIfInBounds_toArray, List.set_cons_zero, List.set_cons_succ]
    refine wpAnyH_take (i := 5) (v := (.int .i64 f.k)) (oi := ⟨_, _, _, _, _, _⟩) rfl (by kernel_rfl) (by kernel_rfl) (by kernel_rfl) (fun _ _ _ h => h) (Or.inl ⟨by kernel_rfl, fun W hS => ?_⟩) (by assumption) ?_
    · dsimp only at hS; go_split_ands; go_simp
    simp only [Act.put, List.setIfInBounds_toArray, List.set_cons_zero, List.set_cons_succ]
    refine wpAnyH_take (i := 6) (v := (.bool false)) (oi := ⟨_, _, _, _, _, _⟩) rfl (by kernel_rfl) (by kernel_rfl) (by kernel_rfl) (fun _ _ _ h => h) (Or.inl ⟨by kernel_rfl, fun W hS => ?_⟩) (by assumption) ?_
    · dsimp only at hS; go_split_ands; go_simp
    simp only [Act.put, List.setIfInBounds_toArray, List.set_cons_zero, List.set_cons_succ]
    refine wpAnyH_take (i := 7) (v := (.bool false)) (oi := ⟨_, _, _, _, _, _⟩) rfl (by kernel_rfl) (by kernel_rfl) (by kernel_rfl) (fun _ _ _ h => h) (Or.inl ⟨by kernel_rfl, fun W hS => ?_⟩) (by assumption) ?_
    · dsimp only at hS; go_split_ands; go_simp
    simp only [Act.put, List.setIfInBounds_toArray, List.set_cons_zero, List.set_cons_succ]
    refine wpAnyH_take (i := 8) (v := (.bool false)) (oi := ⟨_, _, _, _, _, _⟩) rfl (by kernel_rfl) (by kernel_rfl) (by kernel_rfl) (fun _ _ _ h => h) (Or.inl ⟨by kernel_rfl, fun W hS => ?_⟩) (by assumption) ?_
    · dsimp only at hS; go_split_ands; go_simp
    simp only [Act.put, List.setIfInBounds_toArray, List.set_cons_zero, List.set_cons_succ]
    refine wpAnyH_take (i := 9) (v := (.agg f.arr)) (oi := ⟨_, _, _, _, _, _⟩) rfl (by kernel_rfl) (by kernel_rfl) (by kernel_rfl) (fun _ _ _ h => h) (Or.inl ⟨by kernel_rfl, fun W hS => ?_⟩) (by assumption) ?_
    · dsimp only at hS; go_split_ands; go_simp
    simp only [Act.put, List.setIfInBounds_toArray, List.set_cons_zero, List.set_cons_succ]
    refine wpAnyH_take (i := 10) (v := (.agg f.arr)) (oi := ⟨_, _, _, _, _, _⟩) rfl (by kernel_rfl) (by kernel_rfl) (by kernel_rfl) (fun _ _ _ h => h) (Or.inl ⟨by kernel_rfl, fun W hS => ?_⟩) (by assumption) ?_
    · dsimp only at hS; go_split_ands; go_simp
    simp only [Act.put, List.setIfInBounds_toArray, List.set_cons_zero, List.set_cons_succ]
    refine wpAnyH_ready (rs := [11]) (by kernel_rfl) (by decide) (AllReadyH.cons (o := ⟨_, _, _, _, _, _⟩) rfl (fun K hK => ?_) AllReadyH.nil)
    refine at_call ?_ ?_ hcO ?_
    · kernel_rfl
    · go_simp
    rintro v3 w3 ⟨rfl, hb3⟩
    have hF3 := hFd.below hb3
    have hbw3 := below_step hbd hb3
    refine hK.out _ _ (hF3) (fun hHeld => ?_)
    clear hK K
    try simp only [Act.put, List.setIfInBounds_toArray, List.set_cons_zero, List.set_cons_succ]
    refine wpAnyH_ready (rs := [12]) (by kernel_rfl) (by decide) (AllReadyH.cons (o := ⟨_, _, _, _, _, _⟩) rfl (fun K hK => ?_) AllReadyH.nil)
    refine at_call ?_ ?_ (hcS w3 hbw3) ?_
    · kernel_rfl
    · go_simp
    rintro v4 w4 ⟨rfl, hb4⟩
    have hF5 := hF3.below hb4
    have hb5 := below_step hbw3 hb4
    refine hK.out _ _ (hF5) (fun hHeld => ?_)
    clear hK K
    try simp only [Act.put, List.setIfInBounds_toArray, List.set_cons_zero, List.set_cons_succ]
    refine wpAnyH_take (i := 13) (v := (.bool true)) (oi := ⟨_, _, _, _, _, _⟩) rfl (by kernel_rfl) (by kernel_rfl) (by kernel_rfl) (fun _ _ _ h => h) (Or.inl ⟨by kernel_rfl, fun W hS => ?_⟩) (by assumption) ?_
    · dsimp only at hS; go_split_ands; go_simp
    simp only [Act.put, List.setIfInBounds_toArray, List.set_cons_zero, List.set_cons_succ]
    refine wpAnyH_take (i := 14) (v := (.bool true)) (oi := ⟨_, _, _, _, _, _⟩) rfl (by kernel_rfl) (by kernel_rfl) (by kernel_rfl) (fun _ _ _ h => h) (Or.inl ⟨by kernel_rfl, fun W hS => ?_⟩) (by assumption) ?_
    · dsimp only at hS; go_split_ands; go_simp
    simp only [Act.put, List.setIfInBounds_toArray, List.set_cons_zero, List.set_cons_succ]
    refine wpAnyH_take (i := 15) (v := (.bool true)) (oi := ⟨_, _, _, _, _, _⟩) rfl (by kernel_rfl) (by kernel_rfl) (by kernel_rfl) (fun _ _ _ h => h) (Or.inl ⟨by kernel_rfl, fun W hS => ?_⟩) (by assumption) ?_
    · dsimp only at hS; go_split_ands; go_simp
    simp only [Act.put, List.setIfInBounds_toArray, List.set_cons_zero, List.set_cons_succ]
    refine wpAnyH_ready (rs := [16]) (by kernel_rfl) (by decide) (AllReadyH.cons (o := ⟨_, _, _, _, _, _⟩) rfl (fun K hK => ?_) AllReadyH.nil)
    rw [if_neg (ne_true (by kernel_rfl))]
    refine hK.out _ _ (hHeld) (fun hHeld => ?_)
    clear hK K
    try simp only [Act.put, List.setIfInBounds_toArray, List.set_cons_zero, List.set_cons_succ]
    refine wpAnyH_ready (rs := [17]) (by kernel_rfl) (by decide) (AllReadyH.cons (o := ⟨_, _, _, _, _, _⟩) rfl (fun K hK => ?_) AllReadyH.nil)
    rw [if_neg (ne_true (by kernel_rfl))]
    refine hK.out _ _ (hHeld) (fun hHeld => ?_)
    clear hK K
    try simp only [Act.put, List.setIfInBounds_toArray, List.set_cons_zero, List.set_cons_succ]
    refine wpAnyH_ready (rs := [18]) (by kernel_rfl) (by decide) (AllReadyH.cons (o := ⟨_, _, _, _, _, _⟩) rfl (fun K hK => ?_) AllReadyH.nil)
    rw [if_neg (ne_true (by kernel_rfl))]
    refine hK.out _ _ (hHeld) (fun hHeld => ?_)
    clear hK K
    try simp only [Act.put, List.setIfInBounds_toArray, List.set_cons_zero, List.set_cons_succ]
    refine wpAnyH_ready (rs := [19]) (by kernel_rfl) (by decide) (AllReadyH.cons (o := ⟨_, _, _, _, _, _⟩) rfl (fun K hK => ?_) AllReadyH.nil)
    rw [if_neg (ne_true (by kernel_rfl))]
    refine hK.out _ _ (hHeld) (fun hHeld => ?_)
    clear hK K
    try simp only [Act.put, List.setIfInBounds_toArray, List.set_cons_zero, List.set_cons_succ]
    refine wpAnyH_take (i := 20) (v := (.bool true)) (oi := ⟨_, _, _, _, _, _⟩) rfl (by kernel_rfl) (by kernel_rfl) (by kernel_rfl) (fun _ _ _ h => h) (Or.inl ⟨by kernel_rfl, fun W hS => ?_⟩) (by assumption) ?_
    · dsimp only at hS; go_split_ands; go_simp
    simp only [Act.put, List.setIfInBounds_toArray, List.set_cons_zero, List.set_cons_succ]
    refine wpAnyH_take (i := 21) (v := (.bool true)) (oi := ⟨_, _, _, _, _, _⟩) rfl (by kernel_rfl) (by kernel_rfl) (by kernel_rfl) (fun _ _ _ h => h) (Or.inl ⟨by kernel_rfl, fun W hS => ?_⟩) (by assumption) ?_
    · dsimp only at hS; go_split_ands; go_simp
    simp only [Act.put, List.setIfInBounds_toArray, List.set_cons_zero, List.set_cons_succ]
    refine wpAnyH_done (by kernel_rfl) ?_ _
    try simp only [Act.put, List.setIfInBounds_toArray, List.set_cons_zero, List.set_cons_succ]
    have L := lds hF5
    have l0 := L.k; have l1 := L.v; have l2 := L.s; have l3 := L.st; have l4 := L.mo; have l5 := L.fu; have l6 := L.di; have l7 := L.args; have l8 := L.body
    clear L
    go_wp2_with fail
    go_loopg [3, 4] 1 (fun gk v3 v4 w' => v3 = .bool true ∧ v4 = .int .i64 0 ∧ w' = w4)
    case atStart => exact ⟨rfl, rfl, rfl⟩
    case round =>
      obtain ⟨rfl, rfl, rfl⟩ := hrel
      go_wp2_with fail
      all_goals
        go_ret
        exact ⟨by rw [HX.out]; rfl, hb5⟩
  | true =>
    have HCO := Lib.hid (HSI.out.1 rfl)
    have hn := HOK.out.args.len
    by_cases ha8 : 8 < f.n
    · have HX : Hid (c = 70) := Lib.hid (by rw [← HC.out]; exact chk_no (fun h => by have := h.many; omega))
      have ha9 : decide ((8 : Int) < (f.n : Int)) = true := decide_eq_true (by omega)
      clear hn ha8
      go_region_held3 (fun w' => Below w.heap.size w w' ∧ f.at_ 29 w' g)
        (first
          | assumption
          | exact ⟨hbd, hFd⟩
          | (go_split_ands; refine keep ⟨?_, ?_⟩ hb3 <;> assumption)
          | (go_split_ands; refine keep ⟨?_, ?_⟩ hb4 <;> assumption))
        (first
          | (go_at_call 51; (with_reducible refine (c1 _).mono ?_); rintro e w3 ⟨rfl, hb3⟩)
          | (go_at_call 13; go_split_ands; (with_reducible refine (c2 _ (by assumption)).mono ?_); rintro e w4 ⟨rfl, hb4⟩))
      all_goals
        go_split_ands
        have hF5 : f.at_ 29 w4 g := by assumption
        have hb5 : Below w.heap.size w w4 := by assumption
        have L := lds hF5
        have l0 := L.k; have l1 := L.v; have l2 := L.s; have l3 := L.st; have l4 := L.mo; have l5 := L.fu; have l6 := L.di; have l7 := L.args; have l8 := L.body
        clear L
        go_wp2_with fail
        go_loopg [3, 4] 1 (fun gk v3 v4 w' => v3 = .bool true ∧ v4 = .int .i64 0 ∧ w' = w4)
        case atStart => exact ⟨rfl, rfl, rfl⟩
        case round =>
          obtain ⟨rfl, rfl, rfl⟩ := hrel
          go_wp2_with fail
          all_goals
            go_ret
            exact ⟨by rw [HX.out]; rfl, hb5⟩
    have ha9 : decide ((8 : Int) < (f.n : Int)) = false := decide_eq_false (by omega)
    have HN8 : Hid (f.args.length ≤ 8) := Lib.hid (by omega)
    clear hn ha8
    go_region_held3 (fun w' => Below w.heap.size w w' ∧ f.at_ 29 w' g)
      (first
        | assumption
        | exact ⟨hbd, hFd⟩
        | (go_split_ands; refine keep ⟨?_, ?_⟩ hb3 <;> assumption)
        | (go_split_ands; refine keep ⟨?_, ?_⟩ hb4 <;> assumption))
      (first
        | (go_at_call 51; (with_reducible refine (c1 _).mono ?_); rintro e w3 ⟨rfl, hb3⟩)
        | (go_at_call 13; go_split_ands; (with_reducible refine (c2 _ (by assumption)).mono ?_); rintro e w4 ⟨rfl, hb4⟩))
    all_goals
      go_split_ands
      have hF5 : f.at_ 29 w4 g := by assumption
      have hb5 : Below w.heap.size w w4 := by assumption
      clear hb3 hb4 hl0 hl2 c1 c2 hbd hFd hb hF
      by_cases m1 : f.mo < 0
      · skip
        have HX : Hid (c = 70) := Lib.hid (by rw [← HC.out]; exact chk_no (fun h => by have := h.mo; omega))
        clear HOK HWF HHA
        have L := lds hF5
        have l0 := L.k; have l1 := L.v; have l2 := L.s; have l3 := L.st; have l4 := L.mo; have l5 := L.fu; have l6 := L.di; have l7 := L.args; have l8 := L.body
        clear L
        go_wp2_with fail
        go_loopg [3, 4] 1 (fun gk v3 v4 w' => v3 = .bool true ∧ v4 = .int .i64 0 ∧ w' = w4)
        case atStart => exact ⟨rfl, rfl, rfl⟩
        case round =>
          obtain ⟨rfl, rfl, rfl⟩ := hrel
          go_wp2_with fail
          all_goals
            go_ret
            exact ⟨by rw [HX.out]; rfl, hb5⟩
      by_cases m2 : f.fu < 0
      · skip
        have HX : Hid (c = 70) := Lib.hid (by rw [← HC.out]; exact chk_no (fun h => by have := h.fu; omega))
        clear HOK HWF HHA
        have L := lds hF5
        have l0 := L.k; have l1 := L.v; have l2 := L.s; have l3 := L.st; have l4 := L.mo; have l5 := L.fu; have l6 := L.di; have l7 := L.args; have l8 := L.body
        clear L
        go_wp2_with fail
        go_loopg [3, 4] 1 (fun gk v3 v4 w' => v3 = .bool true ∧ v4 = .int .i64 0 ∧ w' = w4)
        case atStart => exact ⟨rfl, rfl, rfl⟩
        case round =>
          obtain ⟨rfl, rfl, rfl⟩ := hrel
          go_wp2_with fail
          all_goals
            go_ret
            exact ⟨by rw [HX.out]; rfl, hb5⟩
      by_cases m3 : f.di < 0
      · skip
        have HX : Hid (c = 70) := Lib.hid (by rw [← HC.out]; exact chk_no (fun h => by have := h.di; omega))
        clear HOK HWF HHA
        have L := lds hF5
        have l0 := L.k; have l1 := L.v; have l2 := L.s; have l3 := L.st; have l4 := L.mo; have l5 := L.fu; have l6 := L.di; have l7 := L.args; have l8 := L.body
        clear L
        go_wp2_with fail
        go_loopg [3, 4] 1 (fun gk v3 v4 w' => v3 = .bool true ∧ v4 = .int .i64 0 ∧ w' = w4)
        case atStart => exact ⟨rfl, rfl, rfl⟩
        case round =>
          obtain ⟨rfl, rfl, rfl⟩ := hrel
          go_wp2_with fail
          all_goals
            go_ret
            exact ⟨by rw [HX.out]; rfl, hb5⟩
      by_cases e1 : f.k = 1
      · have b1 : (f.k == 1) = true := by rw [beq_iff_eq]; exact e1
        have b3 : (f.k == 3) = false := by rw [beq_eq_false_iff_ne]; omega
        by_cases v1 : f.v = 1
        · have bv : (f.v != 1) = false := by simp [v1]
          by_cases s1 : f.s < 1
          · skip
            have HX : Hid (c = 70) := Lib.hid (by rw [← HC.out]; exact chk_no (fun h => by have := (h.hello e1).2.1; omega))
            clear HOK HWF HHA
            have L := lds hF5
            have l0 := L.k; have l1 := L.v; have l2 := L.s; have l3 := L.st; have l4 := L.mo; have l5 := L.fu; have l6 := L.di; have l7 := L.args; have l8 := L.body
            clear L
            go_wp2_with fail
            go_loopg [3, 4] 1 (fun gk v3 v4 w' => v3 = .bool true ∧ v4 = .int .i64 0 ∧ w' = w4)
            case atStart => exact ⟨rfl, rfl, rfl⟩
            case round =>
              obtain ⟨rfl, rfl, rfl⟩ := hrel
              go_wp2_with fail
              all_goals
                go_ret
                exact ⟨by rw [HX.out]; rfl, hb5⟩
          by_cases s2 : 64 < f.s
          · skip
            have HX : Hid (c = 70) := Lib.hid (by rw [← HC.out]; exact chk_no (fun h => by have := (h.hello e1).2.2; omega))
            clear HOK HWF HHA
            have L := lds hF5
            have l0 := L.k; have l1 := L.v; have l2 := L.s; have l3 := L.st; have l4 := L.mo; have l5 := L.fu; have l6 := L.di; have l7 := L.args; have l8 := L.body
            clear L
            go_wp2_with fail
            go_loopg [3, 4] 1 (fun gk v3 v4 w' => v3 = .bool true ∧ v4 = .int .i64 0 ∧ w' = w4)
            case atStart => exact ⟨rfl, rfl, rfl⟩
            case round =>
              obtain ⟨rfl, rfl, rfl⟩ := hrel
              go_wp2_with fail
              all_goals
                go_ret
                exact ⟨by rw [HX.out]; rfl, hb5⟩
          have HP : Hid ((∀ s ∈ f.args, s.size ≤ 4096) → May f) := Lib.hid (fun he => ⟨HKK.out.1, HKK.out.2, HCO.out, HN8.out, by omega, by omega, by omega, fun _ => ⟨v1, by omega, by omega⟩, fun e => by omega, he⟩)
          have HOK2 := HOK
          have L := lds hF5
          have l0 := L.k; have l1 := L.v; have l2 := L.s; have l3 := L.st; have l4 := L.mo; have l5 := L.fu; have l6 := L.di; have l7 := L.args; have l8 := L.body
          clear L e1 v1
          go_wp2_with fail
          go_loopg [3, 4] f.n (fun gk v3 v4 w' => CkLoop f w4 gk v3 v4 w')
          case atStart => exact ⟨0, false, rfl, rfl, rfl, Lib.hid ⟨by omega, fun _ j hj => (by omega), fun e => (by cases e), by omega⟩⟩
          case round =>
            obtain ⟨i, b, rfl, rfl, rfl, HG⟩ := hrel
            cases b with
            | true =>
              have HX : Hid (c = 70) := Lib.hid (by
                rw [← HC.out]
                obtain ⟨s, hm, hl⟩ := HG.out.2.2.1 (by simp)
                exact chk_no (fun h => by have := h.each s hm; omega))
              go_wp2_with fail
              all_goals
                go_ret
                exact ⟨by rw [HX.out]; rfl, hb5⟩
            | false =>
              by_cases hi : i < f.n
              · obtain ⟨ad, s, HAE, hcell, HXX⟩ := (HOK2.out.args.below hb5).at_ i hi
                have hi2 : (i : Int) < (f.n : Int) := by omega
                have hls := load_s hcell
                have hsz := HHA.out s (List.mem_of_getElem? HXX.out)
                rw [HAE] at l7
                clear HAE
                by_cases hl : 4096 < s.size
                · have hl2 : (4096 : Int) < (s.size : Int) := by omega
                  have HL := Lib.hid hl
                  clear hl
                  go_wp2_with fail
                  go_roundg (gk - 1)
                  case measure => have := HG.out.2.2.2; have := HG.out.1; omega
                  case rel => exact ⟨i + 1, true, by simp, by simp, rfl, Lib.hid ⟨by omega, fun e => by (cases e), fun _ => ⟨s, List.mem_of_getElem? HXX.out, HL.out⟩, by have := HG.out.2.2.2; omega⟩⟩
                · have hl2 : ¬ (4096 : Int) < (s.size : Int) := by omega
                  have HL := Lib.hid hl
                  clear hl
                  go_wp2_with fail
                  go_roundg (gk - 1)
                  case measure => have := HG.out.2.2.2; have := HG.out.1; omega
                  case rel =>
                    refine ⟨i + 1, false, by simp, by simp, rfl, Lib.hid ⟨by omega, fun _ j hj s2 h2 => ?_, fun e => by (cases e), by have := HG.out.2.2.2; omega⟩⟩
                    rcases Nat.lt_or_ge j i with h | h
                    · exact HG.out.2.1 (by simp) j h s2 h2
                    · obtain rfl : j = i := by omega
                      rw [HXX.out] at h2
                      cases h2
                      have := HL.out
                      omega
              · have hi2 : ¬ (i : Int) < (f.n : Int) := by omega
                have HM : Hid (May f) := Lib.hid (HP.out (fun s hm => by
                  obtain ⟨j, hj, e⟩ := List.mem_iff_getElem.1 hm
                  have := HOK2.out.args.len
                  exact HG.out.2.1 (by simp) j (by omega) s (by rw [List.getElem?_eq_getElem hj, e])))
                clear hi
                by_cases hs : 2097152 < f.body.size
                · have HX : Hid (c = 3) := Lib.hid (by rw [← HC.out]; exact chk_long HM.out (.inl hs))
                  have hs2 : (2097152 : Int) < (f.body.size : Int) := by omega
                  clear hs
                  go_wp2_with fail
                  go_ret
                  exact ⟨by rw [HX.out]; rfl, hb5⟩
                · have hs2 : ¬ (2097152 : Int) < (f.body.size : Int) := by omega
                  have HS := Lib.hid hs
                  have e2 := hl1 _ hF5
                  clear hs
                  go_wp2_with fail
                  refine (rbody_any HM.out.k1 HM.out.k6 (HOK2.out.below hb5) HWF.out (may_lay HM.out HOK2.out.args.len (by have := HS.out; omega))).mono ?_
                  rintro e wd ⟨v, rfl, hOd, hbf⟩
                  have hbg := below_step hb5 hbf
                  obtain ⟨Ad, cd, rfl, hRd⟩ := hOd.reads
                  obtain ⟨nd, hnd⟩ : ∃ nd, (bodyF f).length = nd := ⟨_, rfl⟩
                  rw [hnd] at hOd hRd ⊢
                  by_cases hl : 2097152 < nd
                  · have HX : Hid (c = 3) := Lib.hid (by rw [← HC.out]; exact chk_long HM.out (.inr (by rw [hnd]; exact hl)))
                    have hl2 : (2097152 : Int) < (nd : Int) := by omega
                    clear hl hnd
                    go_wp2_with fail
                    go_ret
                    exact ⟨by rw [HX.out]; rfl, hbg⟩
                  · have HX : Hid (c = 0) := Lib.hid (by rw [← HC.out]; exact chk_ok HM.out (by rw [hnd]; have := HS.out; omega))
                    have hl2 : ¬ (2097152 : Int) < (nd : Int) := by omega
                    clear hl hnd
                    go_wp2_with fail
                    go_ret
                    exact ⟨by rw [HX.out]; rfl, hbg⟩
        · have bv : (f.v != 1) = true := by simpa using v1
          have HX : Hid (c = 70) := Lib.hid (by rw [← HC.out]; exact chk_no (fun h => by exact v1 (h.hello e1).1))
          clear HOK HWF HHA
          have L := lds hF5
          have l0 := L.k; have l1 := L.v; have l2 := L.s; have l3 := L.st; have l4 := L.mo; have l5 := L.fu; have l6 := L.di; have l7 := L.args; have l8 := L.body
          clear L
          go_wp2_with fail
          go_loopg [3, 4] 1 (fun gk v3 v4 w' => v3 = .bool true ∧ v4 = .int .i64 0 ∧ w' = w4)
          case atStart => exact ⟨rfl, rfl, rfl⟩
          case round =>
            obtain ⟨rfl, rfl, rfl⟩ := hrel
            go_wp2_with fail
            all_goals
              go_ret
              exact ⟨by rw [HX.out]; rfl, hb5⟩
      have b1 : (f.k == 1) = false := by rw [beq_eq_false_iff_ne]; exact e1
      by_cases e3 : f.k = 3
      · have b3 : (f.k == 3) = true := by rw [beq_iff_eq]; exact e3
        by_cases t1 : f.st < 1
        · skip
          have HX : Hid (c = 70) := Lib.hid (by rw [← HC.out]; exact chk_no (fun h => by have := (h.resp e3).1; omega))
          clear HOK HWF HHA
          have L := lds hF5
          have l0 := L.k; have l1 := L.v; have l2 := L.s; have l3 := L.st; have l4 := L.mo; have l5 := L.fu; have l6 := L.di; have l7 := L.args; have l8 := L.body
          clear L
          go_wp2_with fail
          go_loopg [3, 4] 1 (fun gk v3 v4 w' => v3 = .bool true ∧ v4 = .int .i64 0 ∧ w' = w4)
          case atStart => exact ⟨rfl, rfl, rfl⟩
          case round =>
            obtain ⟨rfl, rfl, rfl⟩ := hrel
            go_wp2_with fail
            all_goals
              go_ret
              exact ⟨by rw [HX.out]; rfl, hb5⟩
        by_cases t2 : 3 < f.st
        · skip
          have HX : Hid (c = 70) := Lib.hid (by rw [← HC.out]; exact chk_no (fun h => by have := (h.resp e3).2.1; omega))
          clear HOK HWF HHA
          have L := lds hF5
          have l0 := L.k; have l1 := L.v; have l2 := L.s; have l3 := L.st; have l4 := L.mo; have l5 := L.fu; have l6 := L.di; have l7 := L.args; have l8 := L.body
          clear L
          go_wp2_with fail
          go_loopg [3, 4] 1 (fun gk v3 v4 w' => v3 = .bool true ∧ v4 = .int .i64 0 ∧ w' = w4)
          case atStart => exact ⟨rfl, rfl, rfl⟩
          case round =>
            obtain ⟨rfl, rfl, rfl⟩ := hrel
            go_wp2_with fail
            all_goals
              go_ret
              exact ⟨by rw [HX.out]; rfl, hb5⟩
        by_cases t3 : f.st = 1
        · have bt : (f.st != 1) = false := by simp [t3]
          have HP : Hid ((∀ s ∈ f.args, s.size ≤ 4096) → May f) := Lib.hid (fun he => ⟨HKK.out.1, HKK.out.2, HCO.out, HN8.out, by omega, by omega, by omega, fun e => absurd e e1, fun _ => ⟨by omega, by omega, fun h => absurd t3 h⟩, he⟩)
          have HOK2 := HOK
          have L := lds hF5
          have l0 := L.k; have l1 := L.v; have l2 := L.s; have l3 := L.st; have l4 := L.mo; have l5 := L.fu; have l6 := L.di; have l7 := L.args; have l8 := L.body
          clear L e1 e3 t3
          go_wp2_with fail
          go_loopg [3, 4] f.n (fun gk v3 v4 w' => CkLoop f w4 gk v3 v4 w')
          case atStart => exact ⟨0, false, rfl, rfl, rfl, Lib.hid ⟨by omega, fun _ j hj => (by omega), fun e => (by cases e), by omega⟩⟩
          case round =>
            obtain ⟨i, b, rfl, rfl, rfl, HG⟩ := hrel
            cases b with
            | true =>
              have HX : Hid (c = 70) := Lib.hid (by
                rw [← HC.out]
                obtain ⟨s, hm, hl⟩ := HG.out.2.2.1 (by simp)
                exact chk_no (fun h => by have := h.each s hm; omega))
              go_wp2_with fail
              all_goals
                go_ret
                exact ⟨by rw [HX.out]; rfl, hb5⟩
            | false =>
              by_cases hi : i < f.n
              · obtain ⟨ad, s, HAE, hcell, HXX⟩ := (HOK2.out.args.below hb5).at_ i hi
                have hi2 : (i : Int) < (f.n : Int) := by omega
                have hls := load_s hcell
                have hsz := HHA.out s (List.mem_of_getElem? HXX.out)
                rw [HAE] at l7
                clear HAE
                by_cases hl : 4096 < s.size
                · have hl2 : (4096 : Int) < (s.size : Int) := by omega
                  have HL := Lib.hid hl
                  clear hl
                  go_wp2_with fail
                  go_roundg (gk - 1)
                  case measure => have := HG.out.2.2.2; have := HG.out.1; omega
                  case rel => exact ⟨i + 1, true, by simp, by simp, rfl, Lib.hid ⟨by omega, fun e => by (cases e), fun _ => ⟨s, List.mem_of_getElem? HXX.out, HL.out⟩, by have := HG.out.2.2.2; omega⟩⟩
                · have hl2 : ¬ (4096 : Int) < (s.size : Int) := by omega
                  have HL := Lib.hid hl
                  clear hl
                  go_wp2_with fail
                  go_roundg (gk - 1)
                  case measure => have := HG.out.2.2.2; have := HG.out.1; omega
                  case rel =>
                    refine ⟨i + 1, false, by simp, by simp, rfl, Lib.hid ⟨by omega, fun _ j hj s2 h2 => ?_, fun e => by (cases e), by have := HG.out.2.2.2; omega⟩⟩
                    rcases Nat.lt_or_ge j i with h | h
                    · exact HG.out.2.1 (by simp) j h s2 h2
                    · obtain rfl : j = i := by omega
                      rw [HXX.out] at h2
                      cases h2
                      have := HL.out
                      omega
              · have hi2 : ¬ (i : Int) < (f.n : Int) := by omega
                have HM : Hid (May f) := Lib.hid (HP.out (fun s hm => by
                  obtain ⟨j, hj, e⟩ := List.mem_iff_getElem.1 hm
                  have := HOK2.out.args.len
                  exact HG.out.2.1 (by simp) j (by omega) s (by rw [List.getElem?_eq_getElem hj, e])))
                clear hi
                by_cases hs : 2097152 < f.body.size
                · have HX : Hid (c = 3) := Lib.hid (by rw [← HC.out]; exact chk_long HM.out (.inl hs))
                  have hs2 : (2097152 : Int) < (f.body.size : Int) := by omega
                  clear hs
                  go_wp2_with fail
                  go_ret
                  exact ⟨by rw [HX.out]; rfl, hb5⟩
                · have hs2 : ¬ (2097152 : Int) < (f.body.size : Int) := by omega
                  have HS := Lib.hid hs
                  have e2 := hl1 _ hF5
                  clear hs
                  go_wp2_with fail
                  refine (rbody_any HM.out.k1 HM.out.k6 (HOK2.out.below hb5) HWF.out (may_lay HM.out HOK2.out.args.len (by have := HS.out; omega))).mono ?_
                  rintro e wd ⟨v, rfl, hOd, hbf⟩
                  have hbg := below_step hb5 hbf
                  obtain ⟨Ad, cd, rfl, hRd⟩ := hOd.reads
                  obtain ⟨nd, hnd⟩ : ∃ nd, (bodyF f).length = nd := ⟨_, rfl⟩
                  rw [hnd] at hOd hRd ⊢
                  by_cases hl : 2097152 < nd
                  · have HX : Hid (c = 3) := Lib.hid (by rw [← HC.out]; exact chk_long HM.out (.inr (by rw [hnd]; exact hl)))
                    have hl2 : (2097152 : Int) < (nd : Int) := by omega
                    clear hl hnd
                    go_wp2_with fail
                    go_ret
                    exact ⟨by rw [HX.out]; rfl, hbg⟩
                  · have HX : Hid (c = 0) := Lib.hid (by rw [← HC.out]; exact chk_ok HM.out (by rw [hnd]; have := HS.out; omega))
                    have hl2 : ¬ (2097152 : Int) < (nd : Int) := by omega
                    clear hl hnd
                    go_wp2_with fail
                    go_ret
                    exact ⟨by rw [HX.out]; rfl, hbg⟩
        · have bt : (f.st != 1) = true := by simpa using t3
          by_cases h0 : f.body.size = 0
          · have be : f.body.toList.isEmpty = true := by rw [body_empty]; exact decide_eq_true h0
            have be2 : (!f.body.toList.isEmpty) = false := by rw [be]; rfl
            have HP : Hid ((∀ s ∈ f.args, s.size ≤ 4096) → May f) := Lib.hid (fun he => ⟨HKK.out.1, HKK.out.2, HCO.out, HN8.out, by omega, by omega, by omega, fun e => absurd e e1, fun _ => ⟨by omega, by omega, fun _ => h0⟩, he⟩)
            have HOK2 := HOK
            have L := lds hF5
            have l0 := L.k; have l1 := L.v; have l2 := L.s; have l3 := L.st; have l4 := L.mo; have l5 := L.fu; have l6 := L.di; have l7 := L.args; have l8 := L.body
            clear L e1 e3 t3 h0
            go_wp2_with fail
            go_loopg [3, 4] f.n (fun gk v3 v4 w' => CkLoop f w4 gk v3 v4 w')
            case atStart => exact ⟨0, false, rfl, rfl, rfl, Lib.hid ⟨by omega, fun _ j hj => (by omega), fun e => (by cases e), by omega⟩⟩
            case round =>
              obtain ⟨i, b, rfl, rfl, rfl, HG⟩ := hrel
              cases b with
              | true =>
                have HX : Hid (c = 70) := Lib.hid (by
                  rw [← HC.out]
                  obtain ⟨s, hm, hl⟩ := HG.out.2.2.1 (by simp)
                  exact chk_no (fun h => by have := h.each s hm; omega))
                go_wp2_with fail
                all_goals
                  go_ret
                  exact ⟨by rw [HX.out]; rfl, hb5⟩
              | false =>
                by_cases hi : i < f.n
                · obtain ⟨ad, s, HAE, hcell, HXX⟩ := (HOK2.out.args.below hb5).at_ i hi
                  have hi2 : (i : Int) < (f.n : Int) := by omega
                  have hls := load_s hcell
                  have hsz := HHA.out s (List.mem_of_getElem? HXX.out)
                  rw [HAE] at l7
                  clear HAE
                  by_cases hl : 4096 < s.size
                  · have hl2 : (4096 : Int) < (s.size : Int) := by omega
                    have HL := Lib.hid hl
                    clear hl
                    go_wp2_with fail
                    go_roundg (gk - 1)
                    case measure => have := HG.out.2.2.2; have := HG.out.1; omega
                    case rel => exact ⟨i + 1, true, by simp, by simp, rfl, Lib.hid ⟨by omega, fun e => by (cases e), fun _ => ⟨s, List.mem_of_getElem? HXX.out, HL.out⟩, by have := HG.out.2.2.2; omega⟩⟩
                  · have hl2 : ¬ (4096 : Int) < (s.size : Int) := by omega
                    have HL := Lib.hid hl
                    clear hl
                    go_wp2_with fail
                    go_roundg (gk - 1)
                    case measure => have := HG.out.2.2.2; have := HG.out.1; omega
                    case rel =>
                      refine ⟨i + 1, false, by simp, by simp, rfl, Lib.hid ⟨by omega, fun _ j hj s2 h2 => ?_, fun e => by (cases e), by have := HG.out.2.2.2; omega⟩⟩
                      rcases Nat.lt_or_ge j i with h | h
                      · exact HG.out.2.1 (by simp) j h s2 h2
                      · obtain rfl : j = i := by omega
                        rw [HXX.out] at h2
                        cases h2
                        have := HL.out
                        omega
                · have hi2 : ¬ (i : Int) < (f.n : Int) := by omega
                  have HM : Hid (May f) := Lib.hid (HP.out (fun s hm => by
                    obtain ⟨j, hj, e⟩ := List.mem_iff_getElem.1 hm
                    have := HOK2.out.args.len
                    exact HG.out.2.1 (by simp) j (by omega) s (by rw [List.getElem?_eq_getElem hj, e])))
                  clear hi
                  by_cases hs : 2097152 < f.body.size
                  · have HX : Hid (c = 3) := Lib.hid (by rw [← HC.out]; exact chk_long HM.out (.inl hs))
                    have hs2 : (2097152 : Int) < (f.body.size : Int) := by omega
                    clear hs
                    go_wp2_with fail
                    go_ret
                    exact ⟨by rw [HX.out]; rfl, hb5⟩
                  · have hs2 : ¬ (2097152 : Int) < (f.body.size : Int) := by omega
                    have HS := Lib.hid hs
                    have e2 := hl1 _ hF5
                    clear hs
                    go_wp2_with fail
                    refine (rbody_any HM.out.k1 HM.out.k6 (HOK2.out.below hb5) HWF.out (may_lay HM.out HOK2.out.args.len (by have := HS.out; omega))).mono ?_
                    rintro e wd ⟨v, rfl, hOd, hbf⟩
                    have hbg := below_step hb5 hbf
                    obtain ⟨Ad, cd, rfl, hRd⟩ := hOd.reads
                    obtain ⟨nd, hnd⟩ : ∃ nd, (bodyF f).length = nd := ⟨_, rfl⟩
                    rw [hnd] at hOd hRd ⊢
                    by_cases hl : 2097152 < nd
                    · have HX : Hid (c = 3) := Lib.hid (by rw [← HC.out]; exact chk_long HM.out (.inr (by rw [hnd]; exact hl)))
                      have hl2 : (2097152 : Int) < (nd : Int) := by omega
                      clear hl hnd
                      go_wp2_with fail
                      go_ret
                      exact ⟨by rw [HX.out]; rfl, hbg⟩
                    · have HX : Hid (c = 0) := Lib.hid (by rw [← HC.out]; exact chk_ok HM.out (by rw [hnd]; have := HS.out; omega))
                      have hl2 : ¬ (2097152 : Int) < (nd : Int) := by omega
                      clear hl hnd
                      go_wp2_with fail
                      go_ret
                      exact ⟨by rw [HX.out]; rfl, hbg⟩
          · have be : f.body.toList.isEmpty = false := by rw [body_empty]; exact decide_eq_false h0
            have be2 : (!f.body.toList.isEmpty) = true := by rw [be]; rfl
            have HX : Hid (c = 70) := Lib.hid (by rw [← HC.out]; exact chk_no (fun h => by exact h0 ((h.resp e3).2.2 t3)))
            clear HOK HWF HHA
            have L := lds hF5
            have l0 := L.k; have l1 := L.v; have l2 := L.s; have l3 := L.st; have l4 := L.mo; have l5 := L.fu; have l6 := L.di; have l7 := L.args; have l8 := L.body
            clear L
            go_wp2_with fail
            go_loopg [3, 4] 1 (fun gk v3 v4 w' => v3 = .bool true ∧ v4 = .int .i64 0 ∧ w' = w4)
            case atStart => exact ⟨rfl, rfl, rfl⟩
            case round =>
              obtain ⟨rfl, rfl, rfl⟩ := hrel
              go_wp2_with fail
              all_goals
                go_ret
                exact ⟨by rw [HX.out]; rfl, hb5⟩
      have b3 : (f.k == 3) = false := by rw [beq_eq_false_iff_ne]; exact e3
      have HP : Hid ((∀ s ∈ f.args, s.size ≤ 4096) → May f) := Lib.hid (fun he => ⟨HKK.out.1, HKK.out.2, HCO.out, HN8.out, by omega, by omega, by omega, fun e => absurd e e1, fun e => absurd e e3, he⟩)
      have HOK2 := HOK
      have L := lds hF5
      have l0 := L.k; have l1 := L.v; have l2 := L.s; have l3 := L.st; have l4 := L.mo; have l5 := L.fu; have l6 := L.di; have l7 := L.args; have l8 := L.body
      clear L e1 e3
      go_wp2_with fail
      go_loopg [3, 4] f.n (fun gk v3 v4 w' => CkLoop f w4 gk v3 v4 w')
      case atStart => exact ⟨0, false, rfl, rfl, rfl, Lib.hid ⟨by omega, fun _ j hj => (by omega), fun e => (by cases e), by omega⟩⟩
      case round =>
        obtain ⟨i, b, rfl, rfl, rfl, HG⟩ := hrel
        cases b with
        | true =>
          have HX : Hid (c = 70) := Lib.hid (by
            rw [← HC.out]
            obtain ⟨s, hm, hl⟩ := HG.out.2.2.1 (by simp)
            exact chk_no (fun h => by have := h.each s hm; omega))
          go_wp2_with fail
          all_goals
            go_ret
            exact ⟨by rw [HX.out]; rfl, hb5⟩
        | false =>
          by_cases hi : i < f.n
          · obtain ⟨ad, s, HAE, hcell, HXX⟩ := (HOK2.out.args.below hb5).at_ i hi
            have hi2 : (i : Int) < (f.n : Int) := by omega
            have hls := load_s hcell
            have hsz := HHA.out s (List.mem_of_getElem? HXX.out)
            rw [HAE] at l7
            clear HAE
            by_cases hl : 4096 < s.size
            · have hl2 : (4096 : Int) < (s.size : Int) := by omega
              have HL := Lib.hid hl
              clear hl
              go_wp2_with fail
              go_roundg (gk - 1)
              case measure => have := HG.out.2.2.2; have := HG.out.1; omega
              case rel => exact ⟨i + 1, true, by simp, by simp, rfl, Lib.hid ⟨by omega, fun e => by (cases e), fun _ => ⟨s, List.mem_of_getElem? HXX.out, HL.out⟩, by have := HG.out.2.2.2; omega⟩⟩
            · have hl2 : ¬ (4096 : Int) < (s.size : Int) := by omega
              have HL := Lib.hid hl
              clear hl
              go_wp2_with fail
              go_roundg (gk - 1)
              case measure => have := HG.out.2.2.2; have := HG.out.1; omega
              case rel =>
                refine ⟨i + 1, false, by simp, by simp, rfl, Lib.hid ⟨by omega, fun _ j hj s2 h2 => ?_, fun e => by (cases e), by have := HG.out.2.2.2; omega⟩⟩
                rcases Nat.lt_or_ge j i with h | h
                · exact HG.out.2.1 (by simp) j h s2 h2
                · obtain rfl : j = i := by omega
                  rw [HXX.out] at h2
                  cases h2
                  have := HL.out
                  omega
          · have hi2 : ¬ (i : Int) < (f.n : Int) := by omega
            have HM : Hid (May f) := Lib.hid (HP.out (fun s hm => by
              obtain ⟨j, hj, e⟩ := List.mem_iff_getElem.1 hm
              have := HOK2.out.args.len
              exact HG.out.2.1 (by simp) j (by omega) s (by rw [List.getElem?_eq_getElem hj, e])))
            clear hi
            by_cases hs : 2097152 < f.body.size
            · have HX : Hid (c = 3) := Lib.hid (by rw [← HC.out]; exact chk_long HM.out (.inl hs))
              have hs2 : (2097152 : Int) < (f.body.size : Int) := by omega
              clear hs
              go_wp2_with fail
              go_ret
              exact ⟨by rw [HX.out]; rfl, hb5⟩
            · have hs2 : ¬ (2097152 : Int) < (f.body.size : Int) := by omega
              have HS := Lib.hid hs
              have e2 := hl1 _ hF5
              clear hs
              go_wp2_with fail
              refine (rbody_any HM.out.k1 HM.out.k6 (HOK2.out.below hb5) HWF.out (may_lay HM.out HOK2.out.args.len (by have := HS.out; omega))).mono ?_
              rintro e wd ⟨v, rfl, hOd, hbf⟩
              have hbg := below_step hb5 hbf
              obtain ⟨Ad, cd, rfl, hRd⟩ := hOd.reads
              obtain ⟨nd, hnd⟩ : ∃ nd, (bodyF f).length = nd := ⟨_, rfl⟩
              rw [hnd] at hOd hRd ⊢
              by_cases hl : 2097152 < nd
              · have HX : Hid (c = 3) := Lib.hid (by rw [← HC.out]; exact chk_long HM.out (.inr (by rw [hnd]; exact hl)))
                have hl2 : (2097152 : Int) < (nd : Int) := by omega
                clear hl hnd
                go_wp2_with fail
                go_ret
                exact ⟨by rw [HX.out]; rfl, hbg⟩
              · have HX : Hid (c = 0) := Lib.hid (by rw [← HC.out]; exact chk_ok HM.out (by rw [hnd]; have := HS.out; omega))
                have hl2 : ¬ (2097152 : Int) < (nd : Int) := by omega
                clear hl hnd
                go_wp2_with fail
                go_ret
                exact ⟨by rw [HX.out]; rfl, hbg⟩
end
end Go.Proofs.Ytelfephmjkipoaa
end
/-! The document's reader in memory; New, short, fail, Uint, Int, Raw, Byte. -/
section
namespace Go.Kit
theorem add_shift {acc k x : Nat} (h : acc < 128 ^ k) (hk : k < 9 ∨ k = 9 ∧ x ≤ 1) : IntKind.u64.wrap ((acc : Int) + IntKind.u64.wrap ((x : Int) % 128 * 2 ^ (7 * k))) = ((acc + x % 128 * 128 ^ k : Nat) : Int) := by
  have e2 : (2 : Nat) ^ (7 * k) = 128 ^ k := by rw [Nat.pow_mul]
  have hs := acc_step (x := x) h
  have e4 : acc + x % 128 * 128 ^ k < 18446744073709551616 := by
    rcases hk with hk | ⟨rfl, hx⟩
    · have e3 : 128 ^ (k + 1) ≤ 128 ^ 9 := Nat.pow_le_pow_right (by omega) (by omega)
      have e4 : (128 : Nat) ^ 9 < 18446744073709551616 := by decide
      omega
    · have h6 := Nat.mul_le_mul_right (128 ^ 9) (show x % 128 ≤ 1 by omega)
      have e3 : (128 : Nat) ^ 9 = 9223372036854775808 := by decide
      rw [e3] at h h6 ⊢
      omega
  have e5 : ((x : Int) % 128 * 2 ^ (7 * k)) = ((x % 128 * 128 ^ k : Nat) : Int) := by
    rw [← e2]; push_cast; rfl
  rw [e5, IntWalk.u64_in ((x % 128 * 128 ^ k : Nat) : Int) ⟨by omega, by omega⟩, IntWalk.u64_in _ ⟨by omega, by omega⟩]
  omega
end Go.Kit
namespace Go.Proofs.Ytelfephmjkipoaa
open Go.RowKit Go.Kit Go.Proofs.YtelfephmjkipoaaW.PrintWords
set_option maxHeartbeats 4000000 in
set_option maxRecDepth 100000 in
theorem rshort_any {w : World} {A : Option Addr} {n c : Nat} {bs : List Int} (hR : RB w A n bs) (hm : n ≤ 140737488355328) (a : Nat) (ha : a ≤ n) : Calls Try.prog 66 #[.slice A n c, .int .i64 (a : Int)] w fun e w' => ∃ (m k : Nat) (x : Int), e = .returned (.tuple #[.int .u64 (m : Int), .int .i64 (k : Int), .int .i64 x]) ∧ Hid (num bs a = (m, k, x)) ∧ w' = w := by
  have HL := Lib.hid hR.len
  have HR := Lib.hid hR
  clear hR
  go_enter Try.func66, Try.ntmps66
  go_wp2_with fail
  go_loopg [7, 8] (n - a) (fun gk v7 v8 w' => ∃ (k acc : Nat), v8 = .int .i64 (k : Int) ∧ v7 = .int .u64 (acc : Int) ∧ w' = w ∧ Hid (k ≤ 9 ∧ acc < 128 ^ k ∧ a + k ≤ n ∧ num bs a = numR (bs.drop (a + k)) k acc ∧ gk = n - a - k))
  case atStart => exact ⟨0, 0, rfl, rfl, rfl, by omega, by decide, by omega, rfl, rfl⟩
  case round =>
    obtain ⟨k, acc, rfl, rfl, rfl, HG⟩ := hrel
    have hk9 : k ≤ 9 := HG.out.1
    by_cases hlt : a + k < n
    · have hi2 : (a : Int) + (k : Int) < (n : Int) := by omega
      obtain ⟨ad, x, rfl, hc, hx0, hx1, HX⟩ := HR.out.at_ (a + k) hlt
      have hnat : ((a : Int) + (k : Int)).toNat = a + k := by omega
      obtain ⟨xn, rfl⟩ := Int.eq_ofNat_of_zero_le hx0
      have hxn : xn < 256 := by omega
      have hk10 : (k : Int) < 10 := by omega
      have hwr : IntKind.u64.wrap ((xn : Int) % 128) = (xn : Int) % 128 := IntWalk.u64_in _ ⟨by omega, by omega⟩
      have HST := Lib.hid (numR_step HX.out k acc)
      by_cases hwd : k = 9 ∧ 1 < xn
      · have hkb : ((k : Int) == 9) = true := by rw [beq_iff_eq]; omega
        have hx2 : (1 : Int) < (xn : Int) := by omega
        have HF : Hid (num bs a = (0, 0, 10)) := Lib.hid (by rw [HG.out.2.2.2.1, HST.out, if_pos ⟨hwd.1, hx2⟩])
        clear hwd
        go_wp2_with fail
        go_ret3
        exact ⟨_, _, _, rfl, HF, rfl⟩
      · obtain ⟨acc1, hacc1⟩ : ∃ acc1, acc1 = acc + xn % 128 * 128 ^ k := ⟨_, rfl⟩
        have hor : IntKind.u64.wrap ((acc : Int) + IntKind.u64.wrap ((xn : Int) % 128 * 2 ^ (7 * k))) = (acc1 : Int) := by rw [hacc1]; exact add_shift HG.out.2.1 (by omega)
        have HA1 := Lib.hid hacc1
        clear hacc1
        have hstep : ∀ P, P = num bs a → P = (if (xn : Int) < 128 then (if (xn : Int) = 0 ∧ 0 < k then (0, 0, 5) else (acc1, k + 1, 0)) else numR (bs.drop (a + k + 1)) (k + 1) acc1) := fun P hP => by
          rw [hP, HG.out.2.2.2.1, HST.out, if_neg (by omega), HA1.out]; rfl
        have HN := Lib.hid (hstep _ rfl)
        clear hstep
        by_cases hk : k = 9
        · have hkb : ((k : Int) == 9) = true := by rw [beq_iff_eq]; omega
          have hx2 : (xn : Int) ≤ 1 := by omega
          have hx8 : (xn : Int) < 128 := by omega
          have hk1 : (0 : Int) < (k : Int) := by omega
          by_cases hx00 : xn = 0
          · have hxb : ((xn : Int) == 0) = true := by rw [beq_iff_eq]; omega
            have HF : Hid (num bs a = (0, 0, 5)) := Lib.hid (by rw [HN.out, if_pos hx8, if_pos ⟨by omega, by omega⟩])
            clear hk hx00 hwd
            go_wp2_with fail
            go_ret3
            exact ⟨_, _, _, rfl, HF, rfl⟩
          · have hxb : ((xn : Int) == 0) = false := by rw [beq_eq_false_iff_ne]; omega
            have HF : Hid (num bs a = (acc1, k + 1, 0)) := Lib.hid (by rw [HN.out, if_pos hx8, if_neg (by omega)])
            clear hk hx00 hwd
            go_wp2_with fail
            go_ret3
            exact ⟨_, _, _, rfl, HF, rfl⟩
        · have hkb : ((k : Int) == 9) = false := by rw [beq_eq_false_iff_ne]; omega
          clear hwd
          by_cases hx8 : (xn : Int) < 128
          · by_cases hx00 : xn = 0
            · have hxb : ((xn : Int) == 0) = true := by rw [beq_iff_eq]; omega
              by_cases hk0 : k = 0
              · have hk1 : (k : Int) ≤ 0 := by omega
                have HF : Hid (num bs a = (acc1, k + 1, 0)) := Lib.hid (by rw [HN.out, if_pos hx8, if_neg (by omega)])
                clear hk0 hx00
                go_wp2_with fail
                go_ret3
                exact ⟨_, _, _, rfl, HF, rfl⟩
              · have hk1 : (0 : Int) < (k : Int) := by omega
                have HF : Hid (num bs a = (0, 0, 5)) := Lib.hid (by rw [HN.out, if_pos hx8, if_pos ⟨by omega, by omega⟩])
                clear hk0 hx00
                go_wp2_with fail
                go_ret3
                exact ⟨_, _, _, rfl, HF, rfl⟩
            · have hxb : ((xn : Int) == 0) = false := by rw [beq_eq_false_iff_ne]; omega
              have HF : Hid (num bs a = (acc1, k + 1, 0)) := Lib.hid (by rw [HN.out, if_pos hx8, if_neg (by omega)])
              clear hx00
              go_wp2_with fail
              go_ret3
              exact ⟨_, _, _, rfl, HF, rfl⟩
          · go_wp2_with fail
            go_roundg (n - a - (k + 1))
            case measure => have := HG.out.2.2.2.2; omega
            case rel => exact ⟨k + 1, acc1, by simp, rfl, rfl, by omega, by rw [HA1.out]; exact acc_step HG.out.2.1, by omega, by rw [HN.out, if_neg (by omega)]; rfl, by have := HG.out.2.2.2.2; omega⟩
    · have HF : Hid (num bs a = (0, 0, 4)) := Lib.hid (by rw [HG.out.2.2.2.1, numR_end (by rw [HL.out]; omega)])
      have hi2 : (n : Int) ≤ (a : Int) + (k : Int) := by omega
      go_wp2_with fail
      go_ret3
      exact ⟨_, _, _, rfl, HF, rfl⟩
end Go.Proofs.Ytelfephmjkipoaa
end
/-! The document's reader in memory; fail, New, Uint, Int, Raw, Byte. -/
section
namespace Go.Kit
theorem numQ {D : Rd} (hok : D.ok) {m k : Nat} {x : Int} (h : num D.bs D.at_ = (m, k, x)) : m < 18446744073709551616 ∧ D.at_ + k ≤ D.bs.length ∧ k ≤ 10 ∧ (x = 0 → 1 ≤ k) ∧ (x = 0 ∨ x = 4 ∨ x = 5 ∨ x = 10) := by
  have := num_facts hok.1 hok.2.1
  rw [h] at this
  exact this
end Go.Kit
namespace Go.Proofs.Ytelfephmjkipoaa
open Go.RowKit Go.Kit Go.Proofs.YtelfephmjkipoaaW.PrintWords
theorem rshort_at {w : World} {A : Option Addr} {n c : Nat} {bs : List Int} (hR : RB w A n bs) (hm : n ≤ 140737488355328) (a : Nat) (ha : a ≤ n) {m k : Nat} {x : Int} (hN : num bs a = (m, k, x)) :
    Calls Try.prog 66 #[.slice A n c, .int .i64 (a : Int)] w fun e w' => e = .returned (.tuple #[.int .u64 (m : Int), .int .i64 (k : Int), .int .i64 x]) ∧ w' = w := by
  refine (rshort_any hR hm a ha).mono ?_
  rintro e w1 ⟨m', k', x', rfl, HN, rfl⟩
  have := HN.out
  rw [hN] at this
  cases this
  exact ⟨rfl, rfl⟩
/-- The document's reader at q, over the bytes at A. -/
structure QR (w : World) (q : Nat) (A : Option Addr) (n c : Nat) (D : Rd) : Prop where
  qk : w.heap[q]? = some (.cells #[.slice A n c, .int .i64 (D.at_ : Int), .int .i64 D.why, .int .i64 D.wat] 81 (0, 0))
  row : RB w A n D.bs
  cap : n ≤ c
  max : n ≤ 140737488355328
  low : D.at_ ≤ n
  inv : D.why = 0 → D.wat = 0
  out : ∀ a, A = some a → a.block ≠ q
  old : ∀ a, A = some a → a.block < w.heap.size
/-- Its footprint. -/
def qrf (r : Nat) (A : Option Addr) (k : Nat) : Prop := k = r ∨ ∃ a, A = some a ∧ a.block = k
section
variable {w w1 : World} {q n c : Nat} {A : Option Addr} {D : Rd} {S : Nat → Prop}
theorem QR.q0 (h : QR w q A n c D) : w.cell? ⟨q, 0, none⟩ = some (.slice A n c) := cell_of_row w q 0 _ _ _ h.qk
theorem QR.q1 (h : QR w q A n c D) : w.cell? ⟨q, 1, none⟩ = some (.int .i64 (D.at_ : Int)) := cell_of_row w q 1 _ _ _ h.qk
theorem QR.q2 (h : QR w q A n c D) : w.cell? ⟨q, 2, none⟩ = some (.int .i64 D.why) := cell_of_row w q 2 _ _ _ h.qk
theorem QR.q3 (h : QR w q A n c D) : w.cell? ⟨q, 3, none⟩ = some (.int .i64 D.wat) := cell_of_row w q 3 _ _ _ h.qk
theorem QR.fq (h : QR w q A n c D) (j : Nat) : w.frozen? ⟨q, j, none⟩ = false := frozen_of_row w q j _ _ h.qk
theorem QR.only (h : QR w q A n c D) (ho : Only w w1 S) (hs : Sep (qrf q A) S) : QR w1 q A n c D :=
  ⟨ho.kept h.qk (hs q (.inl rfl)), h.row.apart ho (fun a e => hs a.block (.inr ⟨a, e, rfl⟩)), h.cap, h.max, h.low, h.inv, h.out, fun a e => Nat.lt_of_lt_of_le (h.old a e) ho.size⟩
theorem QR.below (h : QR w q A n c D) (hb : Below w.heap.size w w1) : QR w1 q A n c D := ⟨(hb.block q (lt_of_block h.qk)).trans h.qk, h.row.below hb, h.cap, h.max, h.low, h.inv, h.out, fun a e => Nat.lt_of_lt_of_le (h.old a e) hb.size⟩
theorem QR.drewN (h : QR w q A n c D) (k : Nat) : QR (w.drewN k) q A n c D := h.below (pw_below_drewN (Below.refl _ _) k)
theorem QR.oldF (h : QR w q A n c D) : Old w (qrf q A) := fun k hk => by
  rcases hk with rfl | ⟨a, e, rfl⟩
  · exact lt_of_block h.qk
  · exact h.old a e
theorem QR.ok (h : QR w q A n c D) : D.ok := ⟨h.row.byt, by rw [h.row.len]; exact h.low, h.inv⟩
theorem only_q (w : World) (r j : Nat) (v : Value) : Only w (w.setCell ⟨r, j, none⟩ v) (fun k => k = r) := (Only.refl w _).set r j v (.inl rfl)
theorem QR.set1 (h : QR w q A n c D) (x : Int) (a : Nat) (hx : x = (a : Int)) (ha : a ≤ n) : QR (w.setCell ⟨q, 1, none⟩ (.int .i64 x)) q A n c (D.to a) :=
  ⟨by rw [hx]; exact heap_set_same w q 1 _ _ _ h.qk, h.row.apart (only_q w q 1 _) (fun a e => h.out a e), h.cap, h.max, ha, h.inv, h.out, fun a e => Nat.lt_of_lt_of_le (h.old a e) (only_q w q 1 _).size⟩
theorem QR.set23 (h : QR w q A n c D) (e : Int) (a : Nat) (he : e ≠ 0) : QR ((w.setCell ⟨q, 2, none⟩ (.int .i64 e)).setCell ⟨q, 3, none⟩ (.int .i64 (a : Int))) q A n c (D.fail e a) := by
  have h3 := heap_set_same w q 2 _ _ (.int .i64 e) h.qk
  have h4 := heap_set_same _ q 3 _ _ (.int .i64 (a : Int)) h3
  exact ⟨h4, (h.row.apart (only_q w q 2 _) (fun a e => h.out a e)).apart (only_q _ q 3 _) (fun a e => h.out a e), h.cap, h.max, h.low, fun h0 => absurd h0 he, h.out, fun a e => Nat.lt_of_lt_of_le (h.old a e) (((only_q w q 2 (.int .i64 _)).set q 3 _ (.inl rfl)).size)⟩
set_option maxHeartbeats 1000000 in
theorem rfail_any (h : QR w q A n c D) (e : Int) (a : Nat) (he : e ≠ 0) : Calls Try.prog 67 #[.pointer (some ⟨q, 0, none⟩), .int .i64 e, .int .i64 (a : Int)] w fun x w' => x = .returned (.tuple #[]) ∧ QR w' q A n c (D.fail e a) ∧ Only w w' (fun k => k = q) := by
  have h2 := h.q2
  have h3 := h.q3
  have f2 := h.fq 2
  have f3 := h.fq 3
  go_enter Try.func67, Try.ntmps67
  go_wp2_with fail
  refine bodyPost_end (v := .tuple #[]) (by simp [results, Try.results67, go_sem]) rfl ⟨rfl, h.set23 e a he, ((Only.refl w (fun k => k = q)).set q 2 _ (.inl rfl)).set q 3 _ (.inl rfl)⟩
set_option maxHeartbeats 1000000 in
theorem rRUint_any (h : QR w q A n c D) : Calls Try.prog 44 #[.pointer (some ⟨q, 0, none⟩)] w fun e w' => ∃ D1 v, e = .returned (.int .u64 ((v : Nat) : Int)) ∧ Hid (uintS D = (D1, v)) ∧ QR w' q A n c D1 ∧ Only w w' (fun k => k = q) := by
  have h0 := h.q0
  have h1 := h.q1
  have h2 := h.q2
  have hf1 := h.fq 1
  have hm := h.max
  by_cases hw : D.why = 0
  · have HW := Lib.hid hw
    have hwb : (D.why != 0) = false := by simp [hw]
    clear hw
    go_enter Try.func44, Try.ntmps44
    obtain ⟨m, k, x, HN⟩ : ∃ m k x, Hid (num D.bs D.at_ = (m, k, x)) := ⟨_, _, _, rfl⟩
    obtain ⟨g1, g2, g3, g4, g5⟩ := numQ h.ok HN.out
    rw [h.row.len] at g2
    have hlo := h.low
    go_wp2_with fail
    go_quiet ((go_at_call 66; exact (rshort_at (h.row.drewN _) hm D.at_ hlo HN.out).mono fun e w' ⟨he, hw⟩ => ⟨he, _, hw⟩))
    replace h := h.drewN nq
    have h1 := h.q1
    have hf1 := h.fq 1
    by_cases hx : x = 0
    · have HF : Hid (uintS D = (D.to (D.at_ + k), m)) := Lib.hid (by
        unfold uintS
        rw [if_neg (by rw [HW.out]; simp), HN.out]
        rw [if_neg (by simpa using hx)])
      have hxb : (x != 0) = false := by simp [hx]
      have hs := h.set1 ((D.at_ : Int) + (k : Int)) (D.at_ + k) (by omega) g2
      have ho := ((Only.refl w (fun k => k = q)).drewN nq).set q 1 (.int .i64 ((D.at_ : Int) + (k : Int))) (.inl rfl)
      clear hx g1 g4 g5
      go_wp2_with fail
      go_ret
      exact ⟨_, _, rfl, HF, hs, ho⟩
    · have HF : Hid (uintS D = (D.fail x D.at_, 0)) := Lib.hid (by
        unfold uintS
        rw [if_neg (by rw [HW.out]; simp), HN.out]
        rw [if_pos (by simpa using hx)])
      have hxb : (x != 0) = true := by simp [hx]
      have HX := Lib.hid hx
      have ho := ((Only.refl w (fun k => k = q)).drewN nq)
      clear hx g1 g2 g3 g4 g5
      go_wp2_with fail
      refine (rfail_any h x D.at_ HX.out).mono ?_
      rintro e w4 ⟨rfl, hs, ho2⟩
      replace ho := ho.same ho2
      go_wp2_with fail
      go_ret
      exact ⟨_, 0, rfl, HF, hs, ho⟩
  · have HF : Hid (uintS D = (D, 0)) := Lib.hid (by unfold uintS; rw [if_pos hw])
    have hwb : (D.why != 0) = true := by simp [hw]
    clear hw
    go_enter Try.func44, Try.ntmps44
    go_wp2_with fail
    go_ret
    exact ⟨_, 0, rfl, HF, h, Only.refl _ _⟩
end
end Go.Proofs.Ytelfephmjkipoaa
end
/-! The document's reader: New, Int, Raw, Byte, Fail, End. -/
section
namespace Go.Proofs.Ytelfephmjkipoaa
open Go.RowKit Go.Kit Go.Proofs.YtelfephmjkipoaaW.PrintWords
section
variable {w w1 : World} {q n c : Nat} {A : Option Addr} {D : Rd} {S : Nat → Prop}
attribute [-go_sem] run_slice_lh run_slice_any
end
end Go.Proofs.Ytelfephmjkipoaa
end
/-! The document's reader: New, Count, Bool, Text. -/
section
namespace Go.Proofs.Ytelfephmjkipoaa
open Go.RowKit Go.Kit Go.Proofs.YtelfephmjkipoaaW.PrintWords
def qV (A : Option Addr) (n c : Nat) : Array Value := #[.slice A n c, .int .i64 0, .int .i64 0, .int .i64 0]
theorem q_size (A : Option Addr) (n c : Nat) : (Try.prog.info? 81).map (·.size) = some (qV A n c).size := by
  have h : (Try.prog.info? 81).map (·.size) = some 4 := by kernel_rfl
  exact h
set_option maxHeartbeats 2000000 in
theorem rNew_any (A : Option Addr) (n cap : Nat) (xs : List Int) (w : World) (hx : RB w A n xs) (hl : n ≤ 140737488355328) :
    Calls Try.prog 43 #[.slice A n cap] w fun e w' => ∃ A' c, e = .returned (.agg #[.slice A' n c, .int .i64 0, .int .i64 0, .int .i64 0]) ∧ RB w' A' n xs ∧ n ≤ c ∧ (∀ a, A' = some a → w.heap.size ≤ a.block ∧ a.block < w'.heap.size) ∧ Below w.heap.size w w' := by
  have HL := Lib.hid hx.len
  have hbel := below_alloc (Below.refl w.heap.size w) (.cells #[.slice none 0 0, .int .i64 0, .int .i64 0, .int .i64 0] 81)
  have hz := heap_alloc_new w (.cells #[.slice none 0 0, .int .i64 0, .int .i64 0, .int .i64 0] 81)
  have hx1 := hx.below hbel
  go_enter Try.func43, Try.ntmps43
  go_upto_region 1 with (fail)
  show Code.wp _ _ _ _ (w.alloc (.cells #[.slice none 0 0, .int .i64 0, .int .i64 0, .int .i64 0] 81))
  generalize w.alloc (.cells #[.slice none 0 0, .int .i64 0, .int .i64 0, .int .i64 0] 81) = w1 at *
  have hs1 := hbel.size
  go_wp2_with (at_builtin; refine push_row (w0 := w) w.heap.size rfl (.const (.slice none 0 0)) (.tmp 3) 38 xs A n cap rfl Try.underlying38 u8_info rfl rfl (OB.nil _ _ _) hx1 hbel hs1 (by simp; omega) ?_)
  intro v w2 hO hb2 hg _
  have hz2 : w2.heap[w.heap.size]? = some (.cells #[.slice none 0 0, .int .i64 0, .int .i64 0, .int .i64 0] 81 (0, 0)) := (hg.block _ (lt_of_block hz) (by simp [Value.ownBlock])).trans hz
  obtain ⟨A', c, rfl, hR, hc⟩ := hO.reads'
  have hnb := hO.not_block hz2 (by decide)
  have hold := hO.old
  have hfrom := hO.from
  rw [HL.out] at hR hc hnb hold hfrom ⊢
  clear hO
  generalize hgg : w.heap.size = g at hz2 hnb ⊢
  have HGG := Lib.hid hgg
  clear hgg
  go_wp2_with (with_reducible show wpList _ _ _ (Oper.mk none _ _ _ _ _ :: _) _ _; refine wpList_store_row rfl 81 (.tmp 2) (.tmp 5) rfl g (qV A' n c) rfl rfl 81 _ hz2 (q_size _ _ _) rfl (by simp [qV, Value.oneCell']) ?_)
  have hbg : Only w2 (w2.setRow g (qV A' n c)) (fun k => k = g) := ⟨rfl, rfl, rfl, by simp [World.setRow], fun k _ hk => setRow_other w2 g k _ hk⟩
  have hR3 : RB (w2.setRow g (qV A' n c)) A' n xs := hR.apart hbg (fun a e h => hnb (by rw [e]; exact congrArg some h))
  exact bodyPost_ret (v := .agg (qV A' n c)) (results_cell_row rfl _ _ g 81 (qV A' n c) (0, 0) _ rfl (setRow_heap _ _ _ _ _ _ hz2) Try.underlying81 rfl (q_size _ _ _)) rfl
    ⟨A', c, rfl, hR3, hc, fun a e => ⟨hfrom a.block (by rw [e]; rfl), Nat.lt_of_lt_of_le (hold a.block (by rw [e]; rfl)) hbg.size⟩, below_setRow hb2 (by rw [HGG.out]; exact Nat.le_refl _) _⟩
section
variable {w w1 : World} {q n c : Nat} {A : Option Addr} {D : Rd} {S : Nat → Prop}
end
end Go.Proofs.Ytelfephmjkipoaa
end
