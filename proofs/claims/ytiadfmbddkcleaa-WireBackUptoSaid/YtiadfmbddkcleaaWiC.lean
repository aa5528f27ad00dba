/- wire.Size; the document's Int, Bool, Text, Texts, List; the law's lay and told. -/
import Derived.Test.YtiadfmbddkcleaaWiB
namespace Go.Proofs.Ytiadfmbddkcleaa
open Go.RowKit Go.Kit Go.Proofs.YtiadfmbddkcleaaW.PrintWords
set_option maxHeartbeats 2000000 in
set_option maxRecDepth 100000 in
theorem Size_any (n : Nat) (w : World) (hn : n < 18446744073709551616) :
    Calls Try.prog 12 #[.int .u64 (n : Int)] w fun e w' => e = .returned (.int .i64 ((sh n).length : Int)) ∧ w' = w := by
  have HT := Lib.hid (sh_ten hn)
  clear hn
  go_enter Try.func12, Try.ntmps12
  go_wp2_with fail
  go_loopg [3, 0] n (fun gk v0 v1 w' => ∃ (m k : Nat), v0 = .int .i64 (k : Int) ∧ v1 = .int .u64 (m : Int) ∧ w' = w ∧ Hid (k + (sh m).length = (sh n).length + 1 ∧ gk = m))
  case atStart => exact ⟨n, 1, rfl, rfl, rfl, by omega, rfl⟩
  case round =>
    obtain ⟨m, k, rfl, rfl, rfl, HG⟩ := hrel
    have hk : k ≤ 100 := by
      have h1 := HG.out.1
      have h2 := HT.out
      omega
    by_cases hm : 128 ≤ m
    · have h1 : (128 : Int) ≤ (m : Int) := by omega
      have HP : Hid (k + 1 + (sh (m / 128)).length = (sh n).length + 1) := Lib.hid (by
        have h2 := HG.out.1
        rw [sh_big hm, List.length_cons] at h2
        omega)
      go_wp2_with fail
      go_roundg (m / 128)
      case measure => have := HG.out.2; omega
      case rel => exact ⟨m / 128, k + 1, by simp, by simp, rfl, HP.out, rfl⟩
    · have h1 : (m : Int) < 128 := by omega
      have hkk : k = (sh n).length := by
        have h2 := HG.out.1
        rw [sh_small (by omega)] at h2
        simp at h2
        omega
      subst hkk
      go_wp2_with fail
      go_ret
      exact ⟨rfl, rfl⟩
section
variable {w : World}
set_option maxHeartbeats 1000000 in
theorem rInt_any (i : Int) (h0 : -9223372036854775808 ≤ i) (h1 : i ≤ 9223372036854775807) :
    Calls Try.prog 37 #[.int .i64 i] w fun e w' => ∃ v, e = .returned v ∧ OB 5 w' w.heap.size v (sh (zig i)) ∧ Below w.heap.size w w' := by
  have HM : Hid (zig i < 18446744073709551616) := Lib.hid (zig_lt h0 h1)
  go_enter Try.func37, Try.ntmps37
  by_cases hi : 0 ≤ i
  · have e1 : IntKind.u64.wrap i = i := IntWalk.u64_in _ ⟨by omega, by omega⟩
    have e2 : IntKind.u64.wrap (2 * i) = ((zig i : Nat) : Int) := by rw [IntWalk.u64_in _ ⟨by omega, by omega⟩]; unfold zig; rw [if_pos hi]; omega
    go_wp2_with fail
    refine (rUint_any (zig i) w HM.out).mono ?_
    rintro e w1 ⟨v, rfl, hO, hb⟩
    go_wp2_with fail
    go_ret
    exact ⟨_, rfl, hO, hb⟩
  · have e1 : IntKind.u64.wrap (-(i + 1)) = -(i + 1) := IntWalk.u64_in _ ⟨by omega, by omega⟩
    have e2 : IntKind.u64.wrap (2 * -(i + 1)) = 2 * -(i + 1) := IntWalk.u64_in _ ⟨by omega, by omega⟩
    have e3 : IntKind.u64.wrap (2 * -(i + 1) + 1) = ((zig i : Nat) : Int) := by rw [IntWalk.u64_in _ ⟨by omega, by omega⟩]; unfold zig; rw [if_neg hi]; omega
    go_wp2_with fail
    refine (rUint_any (zig i) w HM.out).mono ?_
    rintro e w1 ⟨v, rfl, hO, hb⟩
    go_wp2_with fail
    go_ret
    exact ⟨_, rfl, hO, hb⟩
set_option maxHeartbeats 1000000 in
theorem rBool_any (t : Bool) : Calls Try.prog 38 #[.bool t] w fun e w' => ∃ v, e = .returned v ∧ OB 5 w' w.heap.size v (tru t) ∧ Below w.heap.size w w' := by
  have h0 : ∀ x : Int, 0 ≤ x → x < 256 → OB 5 (w.alloc (.cells #[.int .u8 x] 5)) w.heap.size (.slice (some ⟨w.heap.size, 0, none⟩) 1 1) [x] := fun x h0 h1 =>
    OB.of_block (rest := []) (Nat.le_refl _) (heap_alloc_new w _) rfl rfl (by decide) (Byt.one h0 h1)
  have hb : ∀ x : Int, Below w.heap.size w (w.alloc (.cells #[.int .u8 x] 5)) := fun x => below_alloc (Below.refl _ _) _
  go_enter Try.func38, Try.ntmps38
  cases t
  · have hO := Lib.hid (h0 0 (by omega) (by omega))
    clear h0
    go_wp2_with fail
    go_ret
    exact ⟨_, rfl, hO.out, hb 0⟩
  · have hO := Lib.hid (h0 1 (by omega) (by omega))
    clear h0
    go_wp2_with fail
    go_ret
    exact ⟨_, rfl, hO.out, hb 1⟩
set_option maxHeartbeats 1000000 in
theorem rText_any (s : ByteArray) (hs : s.size ≤ 140737488355000) : Calls Try.prog 51 #[.string s] w fun e w' => ∃ v, e = .returned v ∧ OB 5 w' w.heap.size v (txt s) ∧ Below w.heap.size w w' := by
  have HS := Lib.hid hs
  go_enter Try.func51, Try.ntmps51
  go_wp2_with fail
  refine (rUint_any s.size w (by omega)).mono ?_
  rintro e w1 ⟨v, rfl, hO, hb⟩
  have hln : (sh s.size).length + s.size ≤ 140737488355328 := by
    have h3 := sh_ten (n := s.size) (by omega)
    omega
  go_wp2_with (at_builtin; refine push_text (w0 := w) w.heap.size rfl (.tmp 6) (.tmp 7) 23 9 s rfl Try.underlying23 Try.underlying9 u8_info rfl rfl hO hb hb.size hln ?_)
  intro v2 w2 hO2 hb4 _
  go_wp2_with fail
  go_ret
  exact ⟨_, rfl, hO2, hb4⟩
end
set_option maxHeartbeats 2000000 in
set_option maxRecDepth 100000 in
theorem rTexts_any {w : World} {B : Option Addr} {m c : Nat} {l : List ByteArray} (hT : RT w B m l) (K : Nat) (hK : K ≤ 140737488355000) (hs : ∀ s ∈ l, s.size ≤ K) (hl : m * (10 + K) ≤ 140737488355328) :
    Calls Try.prog 39 #[.slice B m c] w fun e w' => ∃ v', e = .returned v' ∧ OB 5 w' w.heap.size v' (txts l) ∧ Below w.heap.size w w' := by
  have hmm := hT.max
  have HLn := Lib.hid hT.len
  have HS := Lib.hid hs
  have HL : Hid (∀ i, i < m → (txts (l.take i)).length + 10 + K ≤ 140737488355328) := Lib.hid (fun i hi => by
    have h1 := txts_length (l.take i) K (by omega) (fun s h => hs s (List.mem_of_mem_take h))
    have h2 : (l.take i).length ≤ i := List.length_take_le _ _
    have h3 := Nat.mul_le_mul_right (10 + K) (show (l.take i).length + 1 ≤ m by omega)
    rw [Nat.add_mul] at h3
    omega)
  clear hs hl
  go_enter Try.func39, Try.ntmps39
  go_wp2_with fail
  go_loopg [3, 4] m (fun gk v0 v1 w' => ∃ (i : Nat), v1 = .int .i64 (i : Int) ∧ OB 5 w' w.heap.size v0 (txts (l.take i)) ∧ Below w.heap.size w w' ∧ Hid (i ≤ m ∧ gk = m - i))
  case atStart => exact ⟨0, rfl, by simpa [txts] using OB.nil _ _ _, Below.refl _ _, by omega, rfl⟩
  case round =>
    obtain ⟨i, rfl, hO, hb1, HG⟩ := hrel
    have hsz := hb1.size
    by_cases hi : i < m
    · have hi2 : (i : Int) < (m : Int) := by omega
      obtain ⟨ad, s, rfl, hc, HX⟩ := (hT.below hb1).at_ i hi
      have HSZ : Hid (s.size ≤ K) := Lib.hid (HS.out s (List.mem_of_getElem? HX.out))
      have HLi := Lib.hid (HL.out i hi)
      go_wp2_with fail
      refine (rText_any s (by have := HSZ.out; omega)).mono ?_
      rintro e w1 ⟨v1, rfl, hO1, hb2⟩
      replace hO := hO.below hb2
      have hb3 : Below w.heap.size w w1 := below_step hb1 hb2
      have hs3 := hb3.size
      obtain ⟨A1, c1, rfl, hR1, _⟩ := hO1.reads'
      have hln : (txts (l.take i)).length + (txt s).length ≤ 140737488355328 := by
        have h1 := HLi.out
        have h2 := HSZ.out
        have h3 := txt_length (s := s) (by omega)
        omega
      go_wp2_with (at_builtin; refine push_row (w0 := w) w.heap.size rfl (.tmp 11) (.tmp 16) 23 (txt s) A1 _ c1 rfl Try.underlying23 u8_info rfl rfl hO hR1 hb3 hs3 hln ?_)
      intro v2 w2 hO2 hb4 _ _
      have hO3 : OB 5 w2 w.heap.size v2 (txts (l.take (i + 1))) := by
        rw [txts_snoc HX.out]; exact hO2
      clear hO2 hO1 hO hln
      go_wp2_with fail
      go_roundg (gk - 1)
      case measure => have := HG.out.2; omega
      case rel => exact ⟨i + 1, by simp, hO3, hb4, by omega, by have := HG.out.2; omega⟩
    · have hn : i = m := by have := HG.out; omega
      subst hn
      rw [all_of (by rw [HLn.out]; exact Nat.le_refl _)] at hO
      go_wp2_with fail
      go_ret
      exact ⟨_, rfl, hO, hb1⟩
set_option maxHeartbeats 1000000 in
theorem rList_any {w : World} {B : Option Addr} {m c : Nat} {l : List ByteArray} (hT : RT w B m l) (K : Nat) (hK : K ≤ 140737488355000) (hs : ∀ s ∈ l, s.size ≤ K) (hl : 16 + m * (10 + K) ≤ 140737488355328) :
    Calls Try.prog 40 #[.slice B m c] w fun e w' => ∃ v', e = .returned v' ∧ OB 5 w' w.heap.size v' (lst l) ∧ Below w.heap.size w w' := by
  have HS := Lib.hid hs
  have HM := Lib.hid hT.len
  have hmx := hT.max
  have HLL : Hid ((txts l).length ≤ m * (10 + K)) := Lib.hid (by have := txts_length l K (by omega) hs; rw [hT.len] at this; exact this)
  clear hs
  go_enter Try.func40, Try.ntmps40
  go_wp2_with fail
  refine (rUint_any m w (by omega)).mono ?_
  rintro e w1 ⟨v, rfl, hO, hb⟩
  have hT1 := hT.below hb
  have HSH := Lib.hid (sh_ten (n := m) (by omega))
  go_wp2_with fail
  refine (rTexts_any hT1 K hK HS.out (by omega)).mono ?_
  rintro e w2 ⟨v2, rfl, hO2, hb2⟩
  replace hO := hO.below hb2
  have hb3 : Below w.heap.size w w2 := below_step hb hb2
  have hs3 := hb3.size
  obtain ⟨A1, c1, rfl, hR1, _⟩ := hO2.reads'
  have hln : (sh m).length + (txts l).length ≤ 140737488355328 := by
    have h1 := HLL.out
    have h2 := HSH.out
    omega
  go_wp2_with (at_builtin; refine push_row (w0 := w) w.heap.size rfl (.tmp 6) (.tmp 8) 23 (txts l) A1 _ c1 rfl Try.underlying23 u8_info rfl rfl hO hR1 hb3 hs3 hln ?_)
  intro v3 w3 hO3 hb4 _ _
  have hO4 : OB 5 w3 w.heap.size v3 (lst l) := by unfold lst; rw [HM.out]; exact hO3
  go_wp2_with fail
  go_ret
  exact ⟨_, rfl, hO4, hb4⟩
end Go.Proofs.Ytiadfmbddkcleaa
