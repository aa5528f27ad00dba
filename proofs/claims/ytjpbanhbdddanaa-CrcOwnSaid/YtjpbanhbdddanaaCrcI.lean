/- The walks of CrcJoined, CrcTurns, CrcTurned. -/
import Derived.Test.YtjpbanhbdddanaaCrcH
namespace Go.Proofs.Ytjpbanhbdddanaa
open Go.RowKit Go.Kit CrcM Go.Proofs.YtjpbanhbdddanaaW.PrintWords

theorem join_sum (xs ys : List Int) (n : Nat) (hn : ys.length = n) : joinR (more 0#32 xs) (more 0#32 ys) (n : Int) = (((more 0#32 (xs ++ ys)).toNat : Int), 0) := by
  subst hn
  unfold joinR
  rw [if_neg (by omega)]
  simp only [Int.toNat_natCast, Prod.mk.injEq, and_true]
  congr 2
  unfold more
  rw [over_append, join_law]
  apply BitVec.eq_of_getLsbD_eq
  intro i hi
  simp only [BitVec.getLsbD_xor, BitVec.getLsbD_not, hi, decide_true, Bool.true_and]
  have e : over (~~~ 0#32) xs ^^^ ~~~ 0#32 = ~~~ over (~~~ 0#32) xs := by
    have hn : (~~~ 0#32 : W) = BitVec.allOnes 32 := by decide
    rw [hn, BitVec.xor_allOnes]
  rw [e]
  cases (Mn (8 * ys.length) (~~~ over (~~~ 0#32) xs)).getLsbD i <;> cases (over (~~~ 0#32) ys).getLsbD i <;> rfl
/-- Sum of one text, as a variadic call hands it over. -/
theorem Sum_one {A : Option Addr} {n cap : Nat} {xs : List Int} (t : TypeId) {w : World} (h : RB w A n xs) (ad : Option Addr) (had : ad = some ⟨w.heap.size, 0, none⟩) :
    Calls Try.prog 14 #[.slice ad 1 1] (w.alloc (.cells #[.slice A n cap] t)) fun e w' => ∃ s : W, e = .returned (.int .u32 (s.toNat : Int)) ∧ Hid (s = more 0#32 xs) ∧ Below w.heap.size w w' := by
  subst had
  refine (Sum_any _ 1 1 [xs] _ (RBs.one t h)).mono ?_
  rintro e w1 ⟨rfl, hb1⟩
  exact ⟨_, rfl, Lib.hid (by simp), below_then (below_alloc (Below.refl _ w) _) (by simp) hb1⟩
theorem Sum_two {A B : Option Addr} {n cap m cap2 : Nat} {xs ys : List Int} (t : TypeId) {w : World} (h : RB w A n xs) (k : RB w B m ys) :
    Calls Try.prog 14 #[.slice (some ⟨w.heap.size, 0, none⟩) 2 2] (w.alloc (.cells #[.slice A n cap, .slice B m cap2] t)) fun e w' => ∃ s : W, e = .returned (.int .u32 (s.toNat : Int)) ∧ Hid (s = more 0#32 (xs ++ ys)) ∧ Below w.heap.size w w' := by
  refine (Sum_any _ 2 2 [xs, ys] _ (RBs.two t h k)).mono ?_
  rintro e w1 ⟨rfl, hb1⟩
  exact ⟨_, rfl, Lib.hid (by simp), below_then (below_alloc (Below.refl _ w) _) (by simp) hb1⟩
set_option maxHeartbeats 1000000 in
theorem CrcJoined_walk (A B : Option Addr) (la ca lb cb : Nat) (xs ys : List Int) (w : World) (hx : RB w A la xs) (hy : RB w B lb ys) :
    Calls Try.prog 9 #[.slice A la ca, .slice B lb cb] w fun e w' => e = .returned (.bool true) ∧ Below w.heap.size w w' := by
  have hmx := hy.max
  go_enter Try.func9, Try.ntmps9
  go_wp2_with fail
  refine (Sum_one _ hx _ rfl).mono ?_
  rintro e w1 ⟨s1, rfl, HS1, hb1⟩
  have hx1 := hx.below hb1
  have hy1 := hy.below hb1
  go_wp2_with fail
  refine (Sum_one _ hy1 _ rfl).mono ?_
  rintro e w2 ⟨s2, rfl, HS2, hb2⟩
  have hx2 := hx1.below hb2
  have hy2 := hy1.below hb2
  have hbz := below_step hb1 hb2
  have HJ := Lib.hid (join_sum xs ys lb hy.len)
  rw [← HS1.out, ← HS2.out] at HJ
  go_wp2_with fail
  refine (Join_any s1 s2 _ _ rfl rfl _ (by omega) _).mono ?_
  rintro e w3 ⟨rfl, rfl⟩
  rw [HJ.out]
  go_wp2_with fail
  refine (Sum_two _ hx2 hy2).mono ?_
  rintro e w3 ⟨s3, rfl, HS3, hb3⟩
  rw [← HS3.out]
  have hbz3 := below_step hbz hb3
  go_wp2_with fail
  refine (check_any _).mono ?_
  rintro e w4 ⟨rfl, hb4⟩
  have hbz4 := below_step hbz3 hb4
  go_wp2_with fail
  go_ret
  exact ⟨rfl, hbz4⟩

set_option maxHeartbeats 1000000 in
theorem CrcTurns_walk (c : W) (x : Int) (hx : x = (c.toNat : Int)) (size at_ m : Int) (hs : size < 9223372036854775808) (ha : at_ < 9223372036854775808) (h0 : 0 ≤ m) (h1 : m < 256) (w : World) :
    Calls Try.prog 10 #[.agg #[.int .u32 x, .int .i64 size, .int .i64 at_, .int .u8 m]] w fun e w' => e = .returned (.bool true) ∧ Below w.heap.size w w' := by
  subst hx
  go_enter Try.func10, Try.ntmps10
  go_wp2_with fail
  refine (Turned_any c _ rfl size at_ m hs ha h0 h1 _).mono ?_
  rintro e w1 ⟨rfl, rfl⟩
  go_wp2_with fail
  refine (rTurned_any c _ rfl size at_ m hs ha h0 h1 _).mono ?_
  rintro e w1 ⟨rfl, rfl⟩
  generalize turnR c size at_ m = r at *
  go_wp2_with fail
  refine (check_any _).mono ?_
  rintro e w3 ⟨rfl, hb3⟩
  have hbz := below_then (below_alloc (Below.refl _ w) _) (by simp) hb3
  go_wp2_with fail
  go_ret
  exact ⟨rfl, hbz⟩

theorem u8_info : (Try.prog.info? 5).map (fun i => (i.zero, i.size, i.bytes)) = some (some (.int .u8 0), 1, 1) := by kernel_rfl
theorem turn_sum (xs : List Int) (T : Nat) (m x y : Int) (hT : T < xs.length) (hx : xs[T]? = some x) (h0 : 0 ≤ x) (h1 : x < 256) (m0 : 0 ≤ m) (m1 : m < 256) (hy : y = bits .xor .u8 x m) :
    turnR (more 0#32 xs) (xs.length : Int) (T : Int) m = (((more 0#32 (xs.set T y)).toNat : Int), 0) := by
  unfold turnR
  rw [if_neg (by omega), if_neg (by omega)]
  simp only [Int.toNat_natCast, Prod.mk.injEq, and_true]
  congr 2
  have hb : byt y = byt (xs.getD T 0) ^^^ byt m := by
    rw [List.getD_eq_getElem?_getD, hx]
    obtain ⟨a, rfl⟩ := Int.eq_ofNat_of_zero_le h0
    obtain ⟨b, rfl⟩ := Int.eq_ofNat_of_zero_le m0
    rw [hy, u8_xor_nat _ _ (by omega) (by omega)]
    show byt _ = byt (a : Int) ^^^ byt (b : Int)
    unfold byt
    rw [BitVec.ofInt_natCast, BitVec.ofInt_natCast, BitVec.ofInt_natCast]
    apply BitVec.eq_of_getLsbD_eq
    intro i hi
    simp [hi]
  unfold more
  rw [over_set xs T m y _ hT hb]
  apply BitVec.eq_of_getLsbD_eq
  intro i hi
  simp only [BitVec.getLsbD_xor, BitVec.getLsbD_not, hi, decide_true, Bool.true_and]
  cases (Mn (8 * (xs.length - 1 - T)) (Mn 8 (byt m))).getLsbD i <;> cases (over (~~~ 0#32) xs).getLsbD i <;> rfl
theorem turn_bad (c : W) (n : Nat) (at_ m : Int) (h : at_ < 0 ∨ (n : Int) ≤ at_) : turnR c (n : Int) at_ m = (0, 30) := by
  unfold turnR; rw [if_neg (by omega), if_pos h]
set_option maxHeartbeats 1000000 in
set_option maxRecDepth 100000 in
theorem CrcTurned_walk (A : Option Addr) (la ca : Nat) (xs : List Int) (at_ m : Int) (w : World) (hx : RB w A la xs) (hla : la ≤ 140737488351232) (ha : at_ < 9223372036854775808) (h0 : 0 ≤ m) (h1 : m < 256) :
    Calls Try.prog 11 #[.slice A la ca, .int .i64 at_, .int .u8 m] w fun e w' => e = .returned (.bool true) ∧ Below w.heap.size w w' := by
  by_cases hbad : at_ < 0 ∨ (la : Int) ≤ at_
  · have hT := fun c => turn_bad c la at_ m hbad
    have HT := Lib.hid hT
    clear hT
    rcases hbad with hbad | hbad
    all_goals
      go_enter Try.func11, Try.ntmps11
      go_wp2_with fail
      refine (check_any _).mono ?_
      rintro e w1 ⟨rfl, hb1⟩
      have hx1 := hx.below hb1
      go_wp2_with fail
      refine (Sum_one _ hx1 _ rfl).mono ?_
      rintro e w2 ⟨s1, rfl, HS1, hb2⟩
      have hbz := below_step hb1 hb2
      go_wp2_with fail
      refine (Turned_any s1 _ rfl la at_ m (by omega) ha h0 h1 _).mono ?_
      rintro e w3 ⟨rfl, rfl⟩
      rw [HT.out]
      go_wp2_with fail
      go_ret
      exact ⟨rfl, hbz⟩
  · obtain ⟨T, rfl⟩ := Int.eq_ofNat_of_zero_le (show 0 ≤ at_ by omega)
    have hT : T < la := by omega
    clear hbad ha
    go_enter Try.func11, Try.ntmps11
    go_wp2_with fail
    refine (check_any _).mono ?_
    rintro e w1 ⟨rfl, hb1⟩
    have hx1 := hx.below hb1
    go_wp2_with fail
    refine (Sum_one _ hx1 _ rfl).mono ?_
    rintro e w2 ⟨s1, rfl, HS1, hb2⟩
    have hbz := below_step hb1 hb2
    have hx2 := hx1.below hb2
    go_wp2_with fail
    refine (Turned_any s1 _ rfl la T m (by omega) (by omega) h0 h1 _).mono ?_
    rintro e w3 ⟨rfl, rfl⟩
    have hTl : T < xs.length := by rw [hx.len]; exact hT
    obtain ⟨z, HZ1, HZ2⟩ : ∃ z : W, Hid (turnR s1 la T m = ((z.toNat : Int), 0)) ∧ Hid (∀ x, xs[T]? = some x → z = more 0#32 (xs.set T (bits .xor .u8 x m))) := by
      have hb := hx.byt xs[T] (List.getElem_mem hTl)
      have := turn_sum xs T m xs[T] _ hTl (List.getElem?_eq_getElem hTl) hb.1 hb.2 h0 h1 rfl
      rw [hx.len] at this
      refine ⟨_, by rw [HS1.out]; exact this, fun x hx => ?_⟩
      rw [List.getElem?_eq_getElem hTl] at hx
      obtain rfl := Option.some.inj hx
      rfl
    rw [HZ1.out]
    go_upto_region 6 with (fail)
    go_step
    go_step
    go_step
    go_step
    refine print_append_row (w0 := w3) w3.heap.size rfl (.const (.slice none 0 0)) (.tmp 37) 24 5 .u8 1 rfl Try.underlying24 u8_info (by decide) (.slice none 0 0) [] xs A la ca rfl rfl (own_nil w3 _ _ _) hx2.rd (Below.refl _ _) (Nat.le_refl _) (by simp; omega) ?_
    intro v1 w4 hown hb4 _ _
    have hO : OB 5 w4 w3.heap.size v1 xs := ⟨by simpa using hown, hx.byt⟩
    clear hown
    obtain ⟨g, cap, rfl, hg, hgl⟩ := hO.open_ (by omega)
    obtain ⟨x, hc, hf, x0, x1, HX⟩ := hO.at_ rfl T hTl
    have hyr := u8_xor_range x0 x1 h0 h1
    obtain ⟨y, hy⟩ : ∃ y, bits .xor .u8 x m = y := ⟨_, rfl⟩
    have hO2 := hO.store rfl T y (by rw [← hy]; exact hyr.1) (by rw [← hy]; exact hyr.2)
    have HZ3 : Hid (z = more 0#32 (xs.set T y)) := by rw [← hy]; exact HZ2.out x HX.out
    have hbz5 := below_set (j := T) (v := .int .u8 y) (below_step hbz hb4) (show w.heap.size ≤ g from Nat.le_trans hbz.size hg)
    clear hyr
    go_wp2_with fail
    refine (Sum_one _ (hO2.rb (by simp)) _ (by simp)).mono ?_
    rintro e w5 ⟨s2, rfl, HS2, hb5⟩
    have hbz6 := below_step hbz5 hb5
    rw [HS2.out, ← HZ3.out]
    go_wp2_with fail
    go_ret
    exact ⟨rfl, hbz6⟩
end Go.Proofs.Ytjpbanhbdddanaa
