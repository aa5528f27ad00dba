/- The contracts of the document's Peek, Read, Lose. -/
import Derived.Test.YtodhcgidmdeifaaDuR
namespace Go.Proofs.Ytodhcgidmdeifaa
open Go.RowKit Go.Kit Go.Proofs.YtodhcgidmdeifaaW.PrintWords
def readQ (D : Dk) (k : Nat) : Dk := { D with held := D.held.drop k, co := wrap64 (D.co + k) }
section
variable {w : World} {q n c : Nat} {A : Option Addr} {D : Dk}
set_option maxHeartbeats 2000000 in
theorem rPeek_any (h : QS w q A n c D) (m : Int) (k : Nat) (hk : (k : Int) = min (max m 0) n) : Calls Try.prog 36 #[.pointer (some ⟨q, 0, none⟩), .int .i64 m] w fun e w' => ∃ v, e = .returned v ∧ OB 5 w' w.heap.size v (D.held.take k) ∧ Below w.heap.size w w' := by
  have h1 := h.q1
  have hcap := h.cap
  have hkn : k ≤ n := by omega
  have hmx := h.max
  have hr := RB.take_ (h.row.rb h.len.symm) k hkn
  have hkc : (k : Int) ≤ (c : Int) := by omega
  clear h
  go_enter Try.func36, Try.ntmps36
  by_cases hm : m < 1
  · obtain rfl : k = 0 := by omega
    clear hk
    go_wp2_with fail
    go_ret
    exact ⟨_, rfl, OB.nil _ _ _, Below.refl _ _⟩
  · by_cases hmn : m > (n : Int)
    · obtain rfl : k = n := by omega
      clear hk
      go_wp2_with (at_builtin; refine print_append_row (w0 := w) w.heap.size rfl (.const (.slice none 0 0)) (.tmp 24) 22 5 .u8 1 rfl Try.underlying22 u8_info (by decide) (.slice none 0 0) [] (D.held.take k) A k c rfl rfl (own_nil _ _ _ _) hr.rd (Below.refl _ _) (Nat.le_refl _) (by simp; omega) ?_)
      intro v1 w1 hown hb1 _ _
      have hO : OB 5 w1 w.heap.size v1 (D.held.take k) := ⟨by simpa using hown, hr.byt⟩
      clear hown
      go_wp2_with fail
      go_ret
      exact ⟨_, rfl, hO, hb1⟩
    · obtain rfl : m = (k : Int) := by omega
      clear hk
      go_wp2_with (at_builtin; refine print_append_row (w0 := w) w.heap.size rfl (.const (.slice none 0 0)) (.tmp 24) 22 5 .u8 1 rfl Try.underlying22 u8_info (by decide) (.slice none 0 0) [] (D.held.take k) A k c rfl rfl (own_nil _ _ _ _) hr.rd (Below.refl _ _) (Nat.le_refl _) (by simp; omega) ?_)
      intro v1 w1 hown hb1 _ _
      have hO : OB 5 w1 w.heap.size v1 (D.held.take k) := ⟨by simpa using hown, hr.byt⟩
      clear hown
      go_wp2_with fail
      go_ret
      exact ⟨_, rfl, hO, hb1⟩
set_option maxHeartbeats 2000000 in
theorem rRead_any (h : QS w q A n c D) (m : Int) (k : Nat) (hk : (k : Int) = min (max m 0) n) : Calls Try.prog 35 #[.pointer (some ⟨q, 0, none⟩), .int .i64 m] w fun e w' => ∃ v A1 n1 c1, e = .returned v ∧ OB 5 w' w.heap.size v (D.held.take k) ∧ QS w' q A1 n1 c1 (readQ D k) ∧ Only w w' (qf q A n c) ∧ Onto w (qf q A n c) (qf q A1 n1 c1) ∧ Sep (rf v) (qf q A1 n1 c1) := by
  have H := Lib.hid h
  have hcap := h.cap
  have hkn : k ≤ n := by omega
  have HK := Lib.hid hk
  have hmx := h.max
  obtain ⟨A', hcut, hA'⟩ := cut_bytes A n c k hkn hcap
  have hl : (D.held.drop k).length = n - k := by rw [List.length_drop, h.len]
  have hlk : (D.held.take k).length = k := by rw [List.length_take, h.len]; omega
  have HL := Lib.hid hl
  clear hk h hl
  go_enter Try.func35, Try.ntmps35
  go_wp2_with fail
  refine (rPeek_any H.out m k HK.out).mono ?_
  rintro e w2 ⟨v2, rfl, hO2, hb2⟩
  obtain ⟨A2, c2, rfl, _, _⟩ := hO2.reads'
  rw [hlk] at hO2 ⊢
  have H2 := Lib.hid (H.out.below hb2)
  have h1 := H2.out.q1
  have hrd : RB w2 A' (n - k) (D.held.drop k) := hA' _ _ (H2.out.row.rb H2.out.len.symm)
  clear hlk hA'
  go_wp2_with (at_builtin; refine print_append_row (w0 := w2) w2.heap.size rfl (.const (.slice none 0 0)) (.tmp 16) 22 5 .u8 1 rfl Try.underlying22 u8_info (by decide) (.slice none 0 0) [] (D.held.drop k) A' (n - k) (c - k) rfl rfl (own_nil _ _ _ _) hrd.rd (Below.refl _ _) (Nat.le_refl _) (by simp; omega) ?_)
  intro v3 w3 hown hb3 hg3 _
  have hO3 : OB 5 w3 w2.heap.size v3 (D.held.drop k) := ⟨by simpa using hown, hrd.byt⟩
  clear hown
  obtain ⟨A3, c3, rfl, _, _⟩ := hO3.reads'
  rw [HL.out] at hO3 ⊢
  have hq3 := H2.out.below hb3
  have hf3 := hq3.fq 1
  have hc3 := hq3.q1
  have H5 := Lib.hid (H2.out.setHeld hg3 (.inl rfl) (hO3.less (Nat.zero_le _)) HL.out (by have := H2.out.fit; omega))
  have hd5 := H5.out.q4
  have hf5 := H5.out.fq 4
  clear hq3 h1 hrd hcut
  go_wp2_with fail
  go_ret
  have hs2 := hb2.size
  have hs3 := hb3.size
  have hq1 := lt_of_block H.out.qk
  have h3f : ∀ j, rf (.slice A3 (n - k) c3) j → w2.heap.size ≤ j := fun j hj => hO3.from j hj
  have hv5 : OB 5 (w3.setCell ⟨q, 1, none⟩ (.slice A3 (n - k) c3)) w.heap.size (.slice A2 k c2) (D.held.take k) := (hO2.below hb3).kept (grown_set w3 q 1 _) (.inr (fun e => by have := hO2.from q e; omega))
  have ho5 : Only w (w3.setCell ⟨q, 1, none⟩ (.slice A3 (n - k) c3)) (qf q A n c) := ((Only.of_below (below_step hb2 hb3) _).set q 1 _ (.inl (.inl rfl)))
  refine ⟨_, rfl, hv5.kept (grown_set _ q 4 _) (.inr (fun e => by have := hO2.from q e; omega)), A3, n - k, c3, ?_, ho5.set q 4 _ (.inl (.inl rfl)), ?_, ?_⟩
  · exact H5.out.setOut _
  · rintro j (rfl | hj)
    · exact .inl (.inl rfl)
    · exact .inr (by have := h3f j hj; omega)
  · rintro j hj (rfl | hk)
    · have := hO2.from _ hj; omega
    · have := h3f j hk; have := hO2.old j hj; omega
end
end Go.Proofs.Ytodhcgidmdeifaa
