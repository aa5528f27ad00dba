/- The contract of the document's Open; the walk of CrcSeals. -/
import Derived.Test.YtjpbanhbdddanaaCrcK
import Derived.Deep.QuietTactic
import Derived.BigQuiet
namespace Go.Proofs.Ytjpbanhbdddanaa
open Go.RowKit Go.Kit CrcM Go.Proofs.YtjpbanhbdddanaaW.PrintWords

theorem bne_same {x y : Int} (h : x = y) : (x != y) = false := by simp [h]
theorem bne_diff {x y : Int} (h : ¬ x = y) : (x != y) = true := by simp [h]
theorem same_upto {X Y : List Int} (hX : X.length = 4) (hY : Y.length = 4) (h : X.take 4 = Y.take 4) : X = Y := by
  rwa [List.take_of_length_le (by omega), List.take_of_length_le (by omega)] at h
set_option maxHeartbeats 2000000 in
set_option maxRecDepth 100000 in
theorem rOpen_any (A : Option Addr) (len cap : Nat) (xs : List Int) (w : World) (hx : RB w A len xs) (hcap : len ≤ cap) (hl : len ≤ 140737488355000) :
    Calls Try.prog 23 #[.slice A len cap] w fun e w' => ∃ v ys err, e = .returned (.tuple #[v, .int .i64 err]) ∧ OB 5 w' w.heap.size v ys ∧ Hid ((ys, err) = openR xs) ∧ Below w.heap.size w w' := by
  by_cases h4 : len < 4
  · have HF : Hid (([], 4) = openR xs) := (openR_short (by rw [hx.len]; exact h4)).symm
    go_enter Try.func23, Try.ntmps23
    go_wp2_with fail
    go_ret2
    exact ⟨_, _, _, rfl, OB.nil _ _ _, HF, Below.refl _ _⟩
  · obtain ⟨N, rfl⟩ : ∃ N, len = N + 4 := ⟨len - 4, by omega⟩
    have hxN := RB.take_ hx N (by omega)
    go_enter Try.func23, Try.ntmps23
    go_wp2_with fail
    refine (rMore_any 0#32 _ (by decide) A N cap _ _ hxN).mono ?_
    rintro e w2 ⟨rfl, rfl⟩
    obtain ⟨s, hs⟩ : ∃ s, s = more 0#32 (xs.take N) := ⟨_, rfl⟩
    rw [← hs]
    have HS := Lib.hid hs
    clear hs
    go_wp2_with fail
    refine (rBytes_any s _ rfl _).mono ?_
    rintro e w3 ⟨x0, x1, x2, x3, rfl, HB, hb3⟩
    have hz := (zero_of_info info_b4).1
    have hfour : Byt [x0, x1, x2, x3] := by rw [← HB.out]; exact b4_byt s
    have HR := RB.lit w3 [x0, x1, x2, x3] hfour (by simp) 31 (0, 0)
    simp only [nums, List.map_cons, List.map_nil, List.length_cons, List.length_nil, Nat.reduceAdd] at HR
    have hbw := below_alloc hb3 (.cells #[.int .u8 x0, .int .u8 x1, .int .u8 x2, .int .u8 x3] 31)
    go_wp2_with fail
    clear hz hb3
    obtain ⟨gb, hgb⟩ : ∃ gb, gb = w3.heap.size := ⟨_, rfl⟩
    rw [← hgb] at HR ⊢
    clear hgb
    generalize (w3.alloc (.cells #[.int .u8 x0, .int .u8 x1, .int .u8 x2, .int .u8 x3] 31)) = W3 at *
    have hx3 := hx.below hbw
    have hDl : Hid ((xs.drop N).length = 4) := by rw [List.length_drop, hx.len]; show N + 4 - N = 4; omega
    generalize hX : [x0, x1, x2, x3] = X at *
    have HXl : Hid (X.length = 4) := by rw [← hX]; rfl
    clear hX
    go_loopg [6] 4 (fun g v6 w' => ∃ i : Nat, v6 = .int .i64 (i : Int) ∧ i ≤ 4 ∧ (∃ m, w' = W3.drewN m) ∧ Hid (g + i = 4 ∧ X.take i = (xs.drop N).take i))
    case atStart => exact ⟨0, rfl, by omega, ⟨0, rfl⟩, rfl, by simp⟩
    case round =>
      obtain ⟨i, rfl, hi, ⟨m, rfl⟩, HD⟩ := hrel
      cases gk with
      | zero =>
        obtain rfl : i = 4 := by have := HD.out.1; omega
        have HF : Hid ((xs.take N, 0) = openR xs) := (openR_good hx.len (by rw [← HS.out, HB.out]; exact same_upto HXl.out hDl.out HD.out.2)).symm
        have hxm := RB.take_ ((hx3.drewN m)) N (by omega)
        have hbm := pw_below_drewN hbw m
        have hml := hxm.len
        have HM := Lib.hid hml
        clear hml
        go_wp2_with (at_builtin; refine print_append_row (w0 := w2) w2.heap.size rfl (.const (.slice none 0 0)) (.tmp 33) 24 5 .u8 1 rfl Try.underlying24 u8_info (by decide) (.slice none 0 0) [] (xs.take N) A N cap rfl rfl (own_nil _ _ _ _) hxm.rd hbm (by have := hbm.size; simpa using this) (by simp; omega) ?_)
        intro v1 w4 hown hb4 _ _
        have hF : OB 5 w4 w2.heap.size v1 (xs.take N) := ⟨by simpa using hown, hx.byt.take N⟩
        clear hown
        go_wp2_with fail
        go_ret2
        exact ⟨_, _, _, rfl, hF, HF, hb4⟩
      | succ g =>
        have hlt : i < 4 := by have := HD.out.1; omega
        obtain ⟨ad, y, rfl, hcy, hy0, hy1, HY⟩ := hx3.at_ (N + i) (by omega)
        obtain ⟨ad2, x, hq, hcx, hx0, hx1, HXX⟩ := HR.at_ i hlt
        injection hq with hq
        subst hq
        rw [add_plain] at hcx
        have hbi : (i : Int) < 4 := by omega
        have hbn : (N : Int) + (i : Int) < (N : Int) + 4 := by omega
        have hwr : IntKind.i64.wrap ((N : Int) + (i : Int)) = (N : Int) + (i : Int) := IntWalk.i64_in _ (by omega)
        have hnn : (0 : Int) ≤ (N : Int) + (i : Int) := by omega
        have hnt : ((N : Int) + (i : Int)).toNat = N + i := by omega
        by_cases hxy : y = x
        · have hbb := bne_same hxy
          have HE : Hid (X.take (i + 1) = (xs.drop N).take (i + 1)) := by
            have e1 := snoc HXX.out
            have e2 : (xs.drop N).take (i + 1) = (xs.drop N).take i ++ [y] := snoc (by rw [List.getElem?_drop]; exact HY.out)
            show X.take (i + 1) = _
            rw [e1, e2, HD.out.2, hxy]
          clear hxy
          go_wp2_with fail
          go_quiet (fail)
          clear hwr hnt
          go_wp2_with fail
          go_roundg g
          case measure => omega
          case rel => exact ⟨i + 1, by simp, by omega, ⟨_, rfl⟩, by have := HD.out.1; omega, HE.out⟩
        · have hbb := bne_diff hxy
          have HF : Hid (([], 71) = openR xs) := by
            refine (openR_bad hx.len ?_).symm
            rw [← HS.out, HB.out]
            intro he
            have e1 := HXX.out
            rw [he, List.getElem?_drop, HY.out] at e1
            exact hxy (Option.some.inj e1)
          clear hxy
          go_wp2_with fail
          go_quiet (fail)
          clear hwr hnt
          go_wp2_with fail
          go_ret2
          exact ⟨_, _, _, rfl, OB.nil _ _ _, HF, pw_below_drewN (pw_below_drewN hbw m) _⟩
end Go.Proofs.Ytjpbanhbdddanaa
