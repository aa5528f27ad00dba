/- wire.PutUint, PutInt, PutBool, texts, PutText, PutList, Size; the document's Int, Bool, Text, Texts, List. -/
import Derived.Test.YtiadfmbddkcleaaWiA
namespace Go.Proofs.Ytiadfmbddkcleaa
open Go.RowKit Go.Kit Go.Proofs.YtiadfmbddkcleaaW.PrintWords
section
variable {A : Option Addr} {n cap : Nat} {xs : List Int} {w : World}
set_option maxHeartbeats 1000000 in
theorem PutUint_any (u : Int) (hx : RB w A n xs) (hl : n + 10 ≤ 140737488355328) (h0 : 0 ≤ u) (h1 : u ≤ 18446744073709551615) :
    Calls Try.prog 14 #[.slice A n cap, .int .u64 u] w fun e w' => ∃ v, e = .returned v ∧ OB 5 w' w.heap.size v (xs ++ sh u.toNat) ∧ Below w.heap.size w w' := by
  obtain ⟨m, rfl⟩ := Int.eq_ofNat_of_zero_le h0
  have HM : Hid (m < 18446744073709551616) := Lib.hid (by omega)
  have HL := Lib.hid hx.len
  clear h0 h1
  go_enter Try.func14, Try.ntmps14
  go_wp2_with fail
  refine (fresh_any A n cap 10 xs w hx (by omega)).mono ?_
  rintro e w1 ⟨v, rfl, hO, hb⟩
  go_wp2_with fail
  refine (short_any w.heap.size v xs m w1 hO hb.size (by rw [HL.out]; exact hl) HM.out).mono ?_
  rintro e w2 ⟨v2, rfl, hO2, hb2⟩
  have hb3 : Below w.heap.size w w2 := hb.trans hb2
  go_wp2_with fail
  go_ret
  exact ⟨_, rfl, hO2, hb3⟩
set_option maxHeartbeats 1000000 in
theorem PutInt_any (i : Int) (hx : RB w A n xs) (hl : n + 10 ≤ 140737488355328) (h0 : -9223372036854775808 ≤ i) (h1 : i ≤ 9223372036854775807) :
    Calls Try.prog 29 #[.slice A n cap, .int .i64 i] w fun e w' => ∃ v, e = .returned v ∧ OB 5 w' w.heap.size v (xs ++ sh (zig i)) ∧ Below w.heap.size w w' := by
  have HM : Hid (zig i < 18446744073709551616) := Lib.hid (zig_lt h0 h1)
  have HI0 := Lib.hid h0
  have HI1 := Lib.hid h1
  have HL := Lib.hid hx.len
  go_enter Try.func29, Try.ntmps29
  go_wp2_with fail
  refine (fresh_any A n cap 10 xs w hx (by omega)).mono ?_
  rintro e w1 ⟨v, rfl, hO, hb⟩
  go_wp2_with fail
  rw [zig_bits HI0.out HI1.out]
  refine (short_any w.heap.size v xs (zig i) w1 hO hb.size (by rw [HL.out]; exact hl) HM.out).mono ?_
  rintro e w2 ⟨v2, rfl, hO2, hb2⟩
  have hb3 : Below w.heap.size w w2 := hb.trans hb2
  go_wp2_with fail
  go_ret
  exact ⟨_, rfl, hO2, hb3⟩
set_option maxHeartbeats 1000000 in
theorem PutBool_any (t : Bool) (hx : RB w A n xs) (hl : n + 10 ≤ 140737488355328) :
    Calls Try.prog 30 #[.slice A n cap, .bool t] w fun e w' => ∃ v, e = .returned v ∧ OB 5 w' w.heap.size v (xs ++ tru t) ∧ Below w.heap.size w w' := by
  have HL := Lib.hid hx.len
  go_enter Try.func30, Try.ntmps30
  cases t
  · go_wp2_with fail
    refine (fresh_any A n cap 1 xs w hx (by omega)).mono ?_
    rintro e w1 ⟨v, rfl, hO, hb⟩
    have hs := hb.size
    go_wp2_with (at_builtin; refine push_byte (w0 := w) w.heap.size rfl (.tmp 11) (.tmp 12) 23 0 rfl Try.underlying23 u8_info rfl rfl hO hb hs (by rw [HL.out]; omega) (by omega) (by omega) ?_)
    intro v1 w2 hO1 hb2 _ _
    go_wp2_with fail
    go_ret
    exact ⟨_, rfl, hO1, hb2⟩
  · go_wp2_with fail
    refine (fresh_any A n cap 1 xs w hx (by omega)).mono ?_
    rintro e w1 ⟨v, rfl, hO, hb⟩
    have hs := hb.size
    go_wp2_with (at_builtin; refine push_byte (w0 := w) w.heap.size rfl (.tmp 7) (.tmp 8) 23 1 rfl Try.underlying23 u8_info rfl rfl hO hb hs (by rw [HL.out]; omega) (by omega) (by omega) ?_)
    intro v1 w2 hO1 hb2 _ _
    go_wp2_with fail
    go_ret
    exact ⟨_, rfl, hO1, hb2⟩
end
set_option maxHeartbeats 2000000 in
set_option maxRecDepth 100000 in
theorem texts_any (base : Nat) (v : Value) (xs : List Int) (w : World) (B : Option Addr) (m c : Nat) (l : List ByteArray) (hO : OB 5 w base v xs) (hb : base ≤ w.heap.size) (hT : RT w B m l)
    (hB : ∀ W, Below base w W → RT W B m l) (K : Nat) (hK : K ≤ 140737488355328) (hs : ∀ s ∈ l, s.size ≤ K) (hl : xs.length + m * (10 + K) ≤ 140737488355328) :
    Calls Try.prog 49 #[v, .slice B m c] w fun e w' => ∃ v', e = .returned v' ∧ OB 5 w' base v' (xs ++ txts l) ∧ Below base w w' := by
  have hmm := hT.max
  have HLn := Lib.hid hT.len
  have HS := Lib.hid hs
  have HL : Hid (∀ i, i < m → xs.length + (txts (l.take i)).length + 10 + K ≤ 140737488355328) := Lib.hid (fun i hi => by
    have h1 := txts_length (l.take i) K (by omega) (fun s h => hs s (List.mem_of_mem_take h))
    have h2 : (l.take i).length ≤ i := List.length_take_le _ _
    have h3 := Nat.mul_le_mul_right (10 + K) (show (l.take i).length + 1 ≤ m by omega)
    rw [Nat.add_mul] at h3
    omega)
  have HB := Lib.hid hB
  clear hs hl hB
  go_enter Try.func49, Try.ntmps49
  go_wp2_with fail
  go_loopg [0, 9] m (fun gk v0 v1 w' => ∃ (i : Nat), v1 = .int .i64 (i : Int) ∧ OB 5 w' base v0 (xs ++ txts (l.take i)) ∧ Below base w w' ∧ Hid (i ≤ m ∧ gk = m - i))
  case atStart => exact ⟨0, rfl, by simpa [txts] using hO, Below.refl _ _, by omega, rfl⟩
  case round =>
    clear hO
    obtain ⟨i, rfl, hO, hb1, HG⟩ := hrel
    have hsz := hb1.size
    by_cases hi : i < m
    · have hi2 : (i : Int) < (m : Int) := by omega
      obtain ⟨ad, s, rfl, hc, HX⟩ := (HB.out _ hb1).at_ i hi
      have HSZ : Hid (s.size ≤ K) := Lib.hid (HS.out s (List.mem_of_getElem? HX.out))
      have HLi := Lib.hid (HL.out i hi)
      have hss : s.size < 9223372036854775808 := by have := HSZ.out; omega
      go_wp2_with fail
      refine (short_any base u0 _ s.size wr hO (Nat.le_trans hb hsz) (by have := HLi.out; rw [List.length_append]; omega) (by omega)).mono ?_
      rintro e w1 ⟨v1, rfl, hO1, hb2⟩
      have hb3 : Below base w w1 := hb1.trans hb2
      have hs3 := hb3.size
      have hln : ((xs ++ txts (l.take i)) ++ sh s.size).length + s.size ≤ 140737488355328 := by
        have h1 := HLi.out
        have h2 := HSZ.out
        have h3 := sh_ten (n := s.size) (by omega)
        rw [List.length_append, List.length_append]; omega
      go_wp2_with (at_builtin; refine push_text (w0 := w) base rfl (.tmp 17) (.tmp 18) 23 9 s rfl Try.underlying23 Try.underlying9 u8_info rfl rfl hO1 hb3 (Nat.le_trans hb hs3) hln ?_)
      intro v2 w2 hO2 hb4 _
      have hO3 : OB 5 w2 base v2 (xs ++ txts (l.take (i + 1))) := by
        rw [txts_snoc HX.out, txt]
        simpa only [List.append_assoc] using hO2
      clear hO2 hO1 hO hln
      go_wp2_with fail
      go_roundg (gk - 1)
      case measure => have := HG.out.2; omega
      case rel => exact ⟨i + 1, by simp, hO3, hb4, by omega, by have := HG.out.2; omega⟩
    · have hn : i = m := by have := HG.out; omega
      subst hn
      rw [all_of (by rw [HLn.out]; exact Nat.le_refl _)] at hO
      go_wp2_with fail
      go_ret
      exact ⟨_, rfl, hO, hb1⟩
section
variable {A B : Option Addr} {n cap m c : Nat} {xs : List Int} {l : List ByteArray} {w : World}
set_option maxHeartbeats 1000000 in
theorem PutText_any (hx : RB w A n xs) (hT : RT w B m l) (K : Nat) (hK : K ≤ 140737488355328) (hs : ∀ s ∈ l, s.size ≤ K) (hl : n + 16 + m * (10 + K) ≤ 140737488355328) :
    Calls Try.prog 31 #[.slice A n cap, .slice B m c] w fun e w' => ∃ v, e = .returned v ∧ OB 5 w' w.heap.size v (xs ++ txts l) ∧ Below w.heap.size w w' := by
  have HL := Lib.hid hx.len
  have HS := Lib.hid hs
  clear hs
  go_enter Try.func31, Try.ntmps31
  go_wp2_with fail
  refine (fresh_any A n cap 16 xs w hx (by omega)).mono ?_
  rintro e w1 ⟨v, rfl, hO, hb⟩
  have hT1 := hT.below hb
  go_wp2_with fail
  refine (texts_any w.heap.size v xs w1 B m c l hO hb.size hT1 (fun W h => hT.below (hb.trans h)) K hK HS.out (by rw [HL.out]; omega)).mono ?_
  rintro e w2 ⟨v2, rfl, hO2, hb2⟩
  have hb3 : Below w.heap.size w w2 := hb.trans hb2
  go_wp2_with fail
  go_ret
  exact ⟨_, rfl, hO2, hb3⟩
set_option maxHeartbeats 1000000 in
theorem PutList_any (hx : RB w A n xs) (hT : RT w B m l) (K : Nat) (hK : K ≤ 140737488355328) (hs : ∀ s ∈ l, s.size ≤ K) (hl : n + 16 + m * (10 + K) ≤ 140737488355328) :
    Calls Try.prog 32 #[.slice A n cap, .slice B m c] w fun e w' => ∃ v, e = .returned v ∧ OB 5 w' w.heap.size v (xs ++ lst l) ∧ Below w.heap.size w w' := by
  have HL := Lib.hid hx.len
  have HS := Lib.hid hs
  have HM := Lib.hid hT.len
  have hmx := hT.max
  clear hs
  go_enter Try.func32, Try.ntmps32
  go_wp2_with fail
  refine (fresh_any A n cap 16 xs w hx (by omega)).mono ?_
  rintro e w1 ⟨v, rfl, hO, hb⟩
  go_wp2_with fail
  refine (short_any w.heap.size v xs m w1 hO hb.size (by rw [HL.out]; omega) (by omega)).mono ?_
  rintro e w2 ⟨v2, rfl, hO2, hb2⟩
  have hb3 : Below w.heap.size w w2 := hb.trans hb2
  have hT2 := hT.below hb3
  have hsh := sh_ten (n := m) (by omega)
  have HSH := Lib.hid hsh
  clear hsh
  go_wp2_with fail
  refine (texts_any w.heap.size v2 _ w2 B m c l hO2 hb3.size hT2 (fun W h => hT.below (hb3.trans h)) K hK HS.out (by rw [List.length_append, HL.out]; have := HSH.out; omega)).mono ?_
  rintro e w3 ⟨v3, rfl, hO3, hb4⟩
  have hb5 : Below w.heap.size w w3 := hb3.trans hb4
  have hO4 : OB 5 w3 w.heap.size v3 (xs ++ lst l) := by unfold lst; rw [HM.out]; simpa only [List.append_assoc] using hO3
  go_wp2_with fail
  go_ret
  exact ⟨_, rfl, hO4, hb5⟩
end
end Go.Proofs.Ytiadfmbddkcleaa
