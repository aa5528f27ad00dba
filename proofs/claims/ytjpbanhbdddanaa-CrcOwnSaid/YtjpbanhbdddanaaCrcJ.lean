/- The contracts of bytes.Equal, Bytes and Seal, and of the document's Bytes and Seal. -/
import Derived.Test.YtjpbanhbdddanaaCrcI
namespace Go.Proofs.Ytjpbanhbdddanaa
open Go.RowKit Go.Kit CrcM Go.Proofs.YtjpbanhbdddanaaW.PrintWords

theorem bytes_back (l : List Int) (hl : Byt l) : (l.map fun n => UInt8.ofNat n.toNat).map (fun b => (b.toNat : Int)) = l := by
  rw [List.map_map]
  conv => rhs; rw [← List.map_id l]
  apply List.map_congr_left
  intro x hx
  have := hl x hx
  simp [UInt8.toNat_ofNat']
  omega
theorem strOf_list (xs : List Int) : (strOfNums xs).toList = xs.map fun n => UInt8.ofNat n.toNat := by
  rw [ByteArray.toList_eq]; simp [strOfNums]
theorem strOf_inj {xs ys : List Int} (hx : Byt xs) (hy : Byt ys) : ((strOfNums xs).toList == (strOfNums ys).toList) = decide (xs = ys) := by
  rw [strOf_list, strOf_list]
  by_cases h : xs = ys
  · subst h; simp
  · have hne : (xs.map fun n => UInt8.ofNat n.toNat) ≠ (ys.map fun n => UInt8.ofNat n.toNat) := by
      intro e
      apply h
      rw [← bytes_back xs hx, ← bytes_back ys hy, e]
    rw [decide_eq_false h]
    exact beq_eq_false_iff_ne.2 hne
set_option maxHeartbeats 400000 in
theorem Equal_any (A B : Option Addr) (la ca lb cb : Nat) (xs ys : List Int) (w : World) (hx : RB w A la xs) (hy : RB w B lb ys) :
    Calls Try.prog 19 #[.slice A la ca, .slice B lb cb] w fun e w' => ∃ b, e = .returned (.bool b) ∧ Hid (b = decide (xs = ys)) ∧ w' = w := by
  have ka := string_of_reads (P := Try.prog) (c := ca) Try.underlying24 Try.underlying5 Try.underlying9 hx.rd
  have kb := string_of_reads (P := Try.prog) (c := cb) Try.underlying24 Try.underlying5 Try.underlying9 hy.rd
  have HQ := Lib.hid (strOf_inj hx.byt hy.byt)
  generalize strOfNums xs = sx at *
  generalize strOfNums ys = sy at *
  go_enter Try.func19, Try.ntmps19
  go_wp2_with fail
  go_ret
  exact ⟨_, rfl, HQ, rfl⟩
theorem Equal_same {A B : Option Addr} {la ca lb cb : Nat} {xs ys : List Int} {w : World} (hx : RB w A la xs) (hy : RB w B lb ys) (h : xs = ys) :
    Calls Try.prog 19 #[.slice A la ca, .slice B lb cb] w fun e w' => e = .returned (.bool true) ∧ w' = w := by
  refine (Equal_any A B la ca lb cb xs ys w hx hy).mono ?_
  rintro e w1 ⟨b, rfl, hb, rfl⟩
  exact ⟨by rw [hb.out]; simp [h], rfl⟩

/-! Four bytes -/
theorem b4_four (c : W) : ∃ x0 x1 x2 x3 : Int, b4 c = [x0, x1, x2, x3] ∧ (c.toNat : Int) % 256 = x0 ∧ (c.toNat : Int) / 256 % 256 = x1 ∧ (c.toNat : Int) / 65536 % 256 = x2 ∧ (c.toNat : Int) / 16777216 = x3 ∧
    (0 ≤ x0 ∧ x0 < 256) ∧ (0 ≤ x1 ∧ x1 < 256) ∧ (0 ≤ x2 ∧ x2 < 256) ∧ 0 ≤ x3 ∧ x3 < 256 := by
  have h255 : ∀ d : W, (d &&& 255#32).toNat = d.toNat % 256 := fun d => by rw [BitVec.toNat_and]; exact Nat.and_two_pow_sub_one_eq_mod _ 8
  refine ⟨_, _, _, _, rfl, ?_, ?_, ?_, ?_, ?_, ?_, ?_, ?_⟩
  all_goals have hlt := c.isLt
  all_goals simp only [h255, BitVec.toNat_ushiftRight, Nat.shiftRight_eq_div_pow]
  all_goals omega
theorem b4_byt (c : W) : Byt (b4 c) := by
  obtain ⟨x0, x1, x2, x3, h, _, _, _, _, h0, h1, h2, h3⟩ := b4_four c
  rw [h]; intro x hx; simp at hx; omega
theorem b4_length (c : W) : (b4 c).length = 4 := rfl
theorem info_b4 : (Try.prog.info? 31).map (fun i => (i.zero, i.size)) = some (some (.agg #[.int .u8 0, .int .u8 0, .int .u8 0, .int .u8 0]), 4) := by kernel_rfl
set_option maxHeartbeats 400000 in
theorem Bytes_any (c : W) (n : Int) (hn : n = (c.toNat : Int)) (w : World) :
    Calls Try.prog 17 #[.int .u32 n] w fun e w' => ∃ x0 x1 x2 x3, e = .returned (.agg #[.int .u8 x0, .int .u8 x1, .int .u8 x2, .int .u8 x3]) ∧ Hid (b4 c = [x0, x1, x2, x3]) ∧ Below w.heap.size w w' := by
  subst hn
  have hlt := u32_lt c
  obtain ⟨x0, x1, x2, x3, h, e0, e1, e2, e3, h0, h1, h2, h3⟩ := b4_four c
  have H := Lib.hid h
  clear h
  have hz := (zero_of_info info_b4).1
  go_enter Try.func17, Try.ntmps17
  go_wp2_with fail
  refine bodyPost_ret (v := .agg #[.int .u8 x0, .int .u8 x1, .int .u8 x2, .int .u8 x3]) (by simp [results, Try.results17, go_sem]) rfl ⟨x0, x1, x2, x3, rfl, H, (Below.refl _ _).alloc (Nat.le_refl _) _⟩
set_option maxHeartbeats 400000 in
theorem rBytes_any (c : W) (n : Int) (hn : n = (c.toNat : Int)) (w : World) :
    Calls Try.prog 18 #[.int .u32 n] w fun e w' => ∃ x0 x1 x2 x3, e = .returned (.agg #[.int .u8 x0, .int .u8 x1, .int .u8 x2, .int .u8 x3]) ∧ Hid (b4 c = [x0, x1, x2, x3]) ∧ Below w.heap.size w w' := by
  subst hn
  have hlt := u32_lt c
  obtain ⟨x0, x1, x2, x3, h, e0, e1, e2, e3, h0, h1, h2, h3⟩ := b4_four c
  have H := Lib.hid h
  clear h
  have hz := (zero_of_info info_b4).1
  go_enter Try.func18, Try.ntmps18
  go_wp2_with fail
  refine bodyPost_ret (v := .agg #[.int .u8 x0, .int .u8 x1, .int .u8 x2, .int .u8 x3]) (by simp [results, Try.results18, go_sem]) rfl ⟨x0, x1, x2, x3, rfl, H, (Below.refl _ _).alloc (Nat.le_refl _) _⟩

/-! Sealed bytes -/
def sealed (xs : List Int) : List Int := xs ++ b4 (more 0#32 xs)
theorem sealed_byt {xs : List Int} (h : Byt xs) : Byt (sealed xs) := h.append (b4_byt _)
theorem sealed_length (xs : List Int) : (sealed xs).length = xs.length + 4 := by unfold sealed; rw [List.length_append, b4_length]
theorem run_make_rowN (t e : TypeId) (i : TypeInfo) (z : Value) (ht : Try.prog.underlying t = some (.slice e)) (hi : Try.prog.info? e = some i) (hz : i.zero = some z)
    (n c : Nat) (hnc : n ≤ c) (hbytes : i.bytes * c ≤ 281474976710656) (h63 : c ≤ 9223372036854775807) (w : World) (l k : Int) (hl : l = (n : Int)) (hk : k = (c : Int)) :
    (Instr.makeSlice t (.int .i64 l) (.int .i64 k)).run Try.prog w = .ok (.slice (some ⟨w.heap.size, 0, none⟩) n c) (w.alloc (.cells (madeCells z.cells (c * i.size)) e)) := by
  subst hl
  subst hk
  have hb : (i.bytes : Int) * (c : Int) ≤ 281474976710656 := by
    have h : ((i.bytes * c : Nat) : Int) ≤ 281474976710656 := by omega
    rwa [Int.natCast_mul] at h
  have hr := run_make (P := Try.prog) w t e i z ht hi hz .i64 .i64 n c (by omega) (by omega) hb (by omega)
  simp only [Int.toNat_natCast] at hr
  exact hr
theorem u8_size : (Try.prog.info? 5).map (·.size) = some 1 := by kernel_rfl
theorem made_u8 (c : Nat) : madeCells #[Value.int .u8 0] c = (nums .u8 (List.replicate c 0)).toArray := by
  apply Array.ext
  · simp [size_madeCells, nums]
  · intro i h1 h2; simp [madeCells, nums, Nat.mod_one]
set_option maxHeartbeats 1000000 in
set_option maxRecDepth 100000 in
theorem Seal_any (A : Option Addr) (len cap : Nat) (xs : List Int) (w : World) (hx : RB w A len xs) (hl : len ≤ 140737488355000) :
    Calls Try.prog 20 #[.slice A len cap] w fun e w' => ∃ v, e = .returned v ∧ OB 5 w' w.heap.size v (sealed xs) ∧ Below w.heap.size w w' := by
  obtain ⟨i0, hi, hz0, hz1, hz2⟩ := info_parts u8_info
  have hmk := fun W => run_make_rowN 24 5 i0 _ Try.underlying24 hi hz0 len (len + 4) (by omega) (by rw [hz2]; omega) (by omega) W (len : Int) ((len : Int) + 4) rfl (by simp)
  simp only [hz1, Value.cells, Nat.mul_one, made_u8] at hmk
  clear hi hz0 hz1 hz2
  go_enter Try.func20, Try.ntmps20
  go_wp2_with (refine wpList_copy_bytes (w := w) rfl (.tmp 11) (.tmp 12) 24 5 rfl Try.underlying24 u8_size A len (len + 4) len cap xs w.heap.size rfl rfl (hx.alloc _) (Nat.le_refl _) (heap_alloc_new w _) (by omega) (by omega) (below_alloc (Below.refl _ w) _) (Nat.le_refl _) ?_)
  intro w1 hO hb1
  rw [all_of (by rw [hx.len]; exact Nat.le_refl _)] at hO
  have hx1 := hx.below hb1
  clear hmk
  go_wp2_with fail
  refine (Sum_one _ hx1 _ rfl).mono ?_
  rintro e w2 ⟨s, rfl, HS, hb2⟩
  replace hO := hO.below hb2
  replace hb1 := below_step hb1 hb2
  go_wp2_with fail
  refine (Bytes_any s _ rfl _).mono ?_
  rintro e w3 ⟨x0, x1, x2, x3, rfl, HB, hb3⟩
  replace hO := hO.below hb3
  replace hb1 := below_step hb1 hb3
  have hz := (zero_of_info info_b4).1
  clear hb2 hb3 hx1
  have hfour : Byt [x0, x1, x2, x3] := by rw [← HB.out]; exact b4_byt s
  have HR := RB.lit w3 [x0, x1, x2, x3] hfour (by simp) 31 (0, 0)
  simp only [nums, List.map_cons, List.map_nil, List.length_cons, List.length_nil, Nat.reduceAdd] at HR
  have HO := hO.below (below_alloc (Below.refl _ w3) (.cells #[.int .u8 x0, .int .u8 x1, .int .u8 x2, .int .u8 x3] 31))
  have hbw := below_alloc hb1 (.cells #[.int .u8 x0, .int .u8 x1, .int .u8 x2, .int .u8 x3] 31)
  clear hO hb1
  have hlen := hx.len
  have HL := Lib.hid hlen
  clear hlen
  go_wp2_with (at_builtin; refine print_append_row (w0 := w) w.heap.size rfl (.tmp 18) (.tmp 19) 24 5 .u8 1 rfl Try.underlying24 u8_info (by decide) _ xs [x0, x1, x2, x3] _ 4 4 rfl rfl HO.own HR.rd hbw (by have := hbw.size; simpa using this) (by rw [HL.out]; omega) ?_)
  intro v1 w4 hown hb4 _ _
  have hF : OB 5 w4 w.heap.size v1 (sealed xs) := by
    unfold sealed
    rw [← HS.out, HB.out]
    exact ⟨by simpa using hown, hx.byt.append hfour⟩
  clear HO HR hbw hown
  go_wp2_with fail
  go_ret
  exact ⟨_, rfl, hF, hb4⟩

set_option maxHeartbeats 1000000 in
set_option maxRecDepth 100000 in
theorem rSeal_any (A : Option Addr) (len cap : Nat) (xs : List Int) (w : World) (hx : RB w A len xs) (hl : len ≤ 140737488355000) :
    Calls Try.prog 21 #[.slice A len cap] w fun e w' => ∃ v, e = .returned v ∧ OB 5 w' w.heap.size v (sealed xs) ∧ Below w.heap.size w w' := by
  have HL := Lib.hid hx.len
  go_enter Try.func21, Try.ntmps21
  go_wp2_with (at_builtin; refine print_append_row (w0 := w) w.heap.size rfl (.const (.slice none 0 0)) (.tmp 5) 24 5 .u8 1 rfl Try.underlying24 u8_info (by decide) (.slice none 0 0) [] xs A len cap rfl rfl (own_nil w _ _ _) hx.rd (Below.refl _ _) (Nat.le_refl _) (by simp; omega) ?_)
  intro v1 w1 hown hb1 _ _
  have hO : OB 5 w1 w.heap.size v1 xs := ⟨by simpa using hown, hx.byt⟩
  clear hown
  have hx1 := hx.below hb1
  go_wp2_with fail
  refine (rMore_any 0#32 _ (by decide) A len cap xs _ hx1).mono ?_
  rintro e w2 ⟨rfl, rfl⟩
  obtain ⟨s, hs⟩ : ∃ s, s = more 0#32 xs := ⟨_, rfl⟩
  rw [← hs]
  have HS := Lib.hid hs
  clear hs
  go_wp2_with fail
  refine (rBytes_any s _ rfl _).mono ?_
  rintro e w3 ⟨x0, x1, x2, x3, rfl, HB, hb3⟩
  replace hO := hO.below hb3
  replace hb1 := below_step hb1 hb3
  have hz := (zero_of_info info_b4).1
  clear hb3 hx1
  have hfour : Byt [x0, x1, x2, x3] := by rw [← HB.out]; exact b4_byt s
  obtain ⟨wb, hwb⟩ : ∃ wb, wb = w3.alloc (.cells #[.int .u8 x0, .int .u8 x1, .int .u8 x2, .int .u8 x3] 31) := ⟨_, rfl⟩
  have HR := RB.lit wb [x0, x1, x2, x3] hfour (by simp) 5 (0, 0)
  simp only [nums, List.map_cons, List.map_nil, List.length_cons, List.length_nil, Nat.reduceAdd] at HR
  have HO := (hO.below (below_alloc (Below.refl _ w3) (.cells #[.int .u8 x0, .int .u8 x1, .int .u8 x2, .int .u8 x3] 31)))
  have hbw := below_alloc hb1 (.cells #[.int .u8 x0, .int .u8 x1, .int .u8 x2, .int .u8 x3] 31)
  rw [← hwb] at HO hbw
  replace HO := HO.below (below_alloc (Below.refl _ wb) (.cells #[.int .u8 x0, .int .u8 x1, .int .u8 x2, .int .u8 x3] 5))
  replace hbw := below_alloc hbw (.cells #[.int .u8 x0, .int .u8 x1, .int .u8 x2, .int .u8 x3] 5)
  subst hwb
  simp only [World.size_alloc] at HR
  clear hO hb1
  go_wp2_with (at_builtin; refine print_append_row (w0 := w) w.heap.size rfl (.tmp 10) (.tmp 19) 24 5 .u8 1 rfl Try.underlying24 u8_info (by decide) _ xs [x0, x1, x2, x3] _ 4 4 rfl rfl HO.own HR.rd hbw (by have := hbw.size; simpa using this) (by rw [HL.out]; omega) ?_)
  intro v2 w4 hown hb4 _ _
  have hF : OB 5 w4 w.heap.size v2 (sealed xs) := by
    unfold sealed
    rw [← HS.out, HB.out]
    exact ⟨by simpa using hown, hx.byt.append hfour⟩
  clear HO HR hbw hown
  go_wp2_with fail
  go_ret
  exact ⟨_, rfl, hF, hb4⟩
end Go.Proofs.Ytjpbanhbdddanaa
