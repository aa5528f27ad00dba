/- The contracts of a duct's small methods: Len, Room, first, Shut, Done, Count. -/
import Derived.Test.YtodhcgidmdeifaaDuA
import Derived.Test.YtodhcgidmdeifaaWMore
namespace Go.Proofs.Ytodhcgidmdeifaa
open Go.RowKit Go.Kit Go.Proofs.YtodhcgidmdeifaaW.PrintWords
attribute [local go_sem] Go.Proofs.YtodhcgidmdeifaaW.PrintMore.max_two Go.Proofs.YtodhcgidmdeifaaW.PrintMore.min_two
section
variable {w : World} {d b n c : Nat} {A : Option Addr} {D : Dk}
theorem bLen_any (h : DS w d b A n c D) : Calls Try.prog 32 #[.pointer (some ⟨b, 0, none⟩)] w fun e w' => e = .returned (.int .i64 (n : Int)) ∧ w' = w := by
  have h0 := h.b0
  clear h
  go_enter Try.func32, Try.ntmps32
  go_wp2_with fail
  go_ret
  exact ⟨rfl, rfl⟩
theorem Len_any (h : DS w d b A n c D) : Calls Try.prog 20 #[.pointer (some ⟨d, 0, none⟩)] w fun e w' => e = .returned (.int .i64 (n : Int)) ∧ w' = w := by
  have h0 := h.d0
  have H := Lib.hid h
  clear h
  go_enter Try.func20, Try.ntmps20
  go_wp2_with fail
  refine (made_any H.out).mono ?_
  rintro e w1 ⟨rfl, rfl⟩
  go_wp2_with fail
  refine (bLen_any H.out).mono ?_
  rintro e w1 ⟨rfl, rfl⟩
  go_wp2_with fail
  go_ret
  exact ⟨rfl, rfl⟩
theorem first_any (h : DS w d b A n c D) (m : Int) (k : Nat) (hk : (k : Int) = min (max m 0) n) : Calls Try.prog 31 #[.pointer (some ⟨d, 0, none⟩), .int .i64 m] w fun e w' => e = .returned (.int .i64 (k : Int)) ∧ w' = w := by
  have h0 := h.d0
  have h1 := h.b0
  have H := Lib.hid h
  obtain ⟨x, hx⟩ : ∃ x : Int, max m 0 = x := ⟨_, rfl⟩
  rw [hx] at hk
  have b1 : Builtin.max2 (.int .i64 m) (.int .i64 0) = pure (.int .i64 x) := max2_is hx
  have b2 : Builtin.min2 (.int .i64 x) (.int .i64 (n : Int)) = pure (.int .i64 (k : Int)) := min2_is hk.symm
  clear hx hk
  clear h
  go_enter Try.func31, Try.ntmps31
  go_wp2_with fail
  refine (made_any H.out).mono ?_
  rintro e w1 ⟨rfl, rfl⟩
  go_wp2_with fail
  go_ret
  exact ⟨rfl, rfl⟩
theorem Room_any (h : DS w d b A n c D) : Calls Try.prog 19 #[.pointer (some ⟨d, 0, none⟩)] w fun e w' => e = .returned (.int .i64 (if D.shut then 0 else D.room - n)) ∧ ∃ k, w' = w.drewN k := by
  have h0 := h.d0
  have h1 := h.d1
  have h2 := h.b0
  have h3 := h.b1
  have H := Lib.hid h
  have hf := h.fit
  have ht := h.top
  obtain ⟨r, hr⟩ : ∃ r : Int, D.room = r := ⟨_, rfl⟩
  rw [hr] at h3 hf ht ⊢
  clear h
  go_enter Try.func19, Try.ntmps19
  cases hs : D.shut
  · rw [hs] at h1
    go_wp2_with fail
    refine (made_any H.out).mono ?_
    rintro e w1 ⟨rfl, rfl⟩
    go_wp2_with fail
    go_quiet (fail)
    go_wp2_with fail
    go_ret
    exact ⟨rfl, _, rfl⟩
  · rw [hs] at h1
    go_wp2_with fail
    refine (made_any H.out).mono ?_
    rintro e w1 ⟨rfl, rfl⟩
    go_wp2_with fail
    go_ret
    exact ⟨rfl, 0, rfl⟩
theorem Shut_any (h : DS w d b A n c D) : Calls Try.prog 21 #[.pointer (some ⟨d, 0, none⟩)] w fun e w' => e = .returned (.int .i64 (if D.shut then 91 else 0)) ∧ DS w' d b A n c { D with shut := true } ∧ Only w w' (df d b A n c) := by
  have h0 := h.d0
  have h1 := h.d1
  have h2 := h.fd 1
  have H := Lib.hid h
  clear h
  go_enter Try.func21, Try.ntmps21
  cases hs : D.shut
  · rw [hs] at h1
    go_wp2_with fail
    refine (made_any H.out).mono ?_
    rintro e w1 ⟨rfl, rfl⟩
    go_wp2_with fail
    go_ret
    exact ⟨rfl, H.out.setShut true, (Only.refl _ _).set d 1 _ (.inl (.inl rfl))⟩
  · rw [hs] at h1
    go_wp2_with fail
    refine (made_any H.out).mono ?_
    rintro e w1 ⟨rfl, rfl⟩
    go_wp2_with fail
    go_ret
    have hD : D = { D with shut := true } := by cases D; cases hs; rfl
    exact ⟨rfl, hD ▸ H.out, Only.refl _ _⟩
theorem Done_any (h : DS w d b A n c D) : Calls Try.prog 28 #[.pointer (some ⟨d, 0, none⟩)] w fun e w' => e = .returned (.bool (D.shut && decide (n = 0))) ∧ w' = w := by
  have h0 := h.d0
  have h1 := h.d1
  have h2 := h.b0
  have H := Lib.hid h
  clear h
  go_enter Try.func28, Try.ntmps28
  cases hs : D.shut
  · rw [hs] at h1
    go_wp2_with fail
    refine (made_any H.out).mono ?_
    rintro e w1 ⟨rfl, rfl⟩
    go_wp2_with fail
    go_ret
    exact ⟨rfl, rfl⟩
  · rw [hs] at h1
    go_wp2_with fail
    refine (made_any H.out).mono ?_
    rintro e w1 ⟨rfl, rfl⟩
    by_cases hn : n = 0
    · subst hn
      go_wp2_with fail
      go_ret
      exact ⟨rfl, rfl⟩
    · have hb : ((n : Int) == 0) = false := by simp; omega
      go_wp2_with fail
      go_ret
      refine ⟨?_, rfl⟩
      simp [hn]
end
end Go.Proofs.Ytodhcgidmdeifaa
