/- The program's reader in memory; well, left, fails, number. -/
import Derived.Test.YtiadfmbddkcleaaWiA
import Derived.Test.YtiadfmbddkcleaaWiN
import Derived.Test.YtiadfmbddkcleaaWEqStruct
namespace Go.Proofs.Ytiadfmbddkcleaa
open Go.RowKit Go.Kit Go.Proofs.YtiadfmbddkcleaaW.PrintWords
/-- The program's reader at r, over the bytes at A. -/
structure RS (w : World) (r : Nat) (A : Option Addr) (n c : Nat) (D : Rd) : Prop where
  rk : w.heap[r]? = some (.cells #[.slice A n c, .int .i64 (D.at_ : Int), .bool true, .int .i64 D.why, .int .i64 D.wat] 78 (0, 0))
  row : RB w A n D.bs
  cap : n ≤ c
  max : n ≤ 140737488355328
  low : D.at_ ≤ n
  inv : D.why = 0 → D.wat = 0
  out : ∀ a, A = some a → a.block ≠ r
  old : ∀ a, A = some a → a.block < w.heap.size
/-- Its footprint. -/
def rdf (r : Nat) (A : Option Addr) (k : Nat) : Prop := k = r ∨ ∃ a, A = some a ∧ a.block = k
section
variable {w w1 : World} {r n c : Nat} {A : Option Addr} {D : Rd} {S : Nat → Prop}
theorem RS.r0 (h : RS w r A n c D) : w.cell? ⟨r, 0, none⟩ = some (.slice A n c) := cell_of_row w r 0 _ _ _ h.rk
theorem RS.r1 (h : RS w r A n c D) : w.cell? ⟨r, 1, none⟩ = some (.int .i64 (D.at_ : Int)) := cell_of_row w r 1 _ _ _ h.rk
theorem RS.r2 (h : RS w r A n c D) : w.cell? ⟨r, 2, none⟩ = some (.bool true) := cell_of_row w r 2 _ _ _ h.rk
theorem RS.r3 (h : RS w r A n c D) : w.cell? ⟨r, 3, none⟩ = some (.int .i64 D.why) := cell_of_row w r 3 _ _ _ h.rk
theorem RS.r4 (h : RS w r A n c D) : w.cell? ⟨r, 4, none⟩ = some (.int .i64 D.wat) := cell_of_row w r 4 _ _ _ h.rk
theorem RS.fr (h : RS w r A n c D) (j : Nat) : w.frozen? ⟨r, j, none⟩ = false := frozen_of_row w r j _ _ h.rk
theorem RS.oldF (h : RS w r A n c D) : Old w (rdf r A) := fun k hk => by
  rcases hk with rfl | ⟨a, e, rfl⟩
  · exact lt_of_block h.rk
  · exact h.old a e
theorem RS.ok (h : RS w r A n c D) : D.ok := ⟨h.row.byt, by rw [h.row.len]; exact h.low, h.inv⟩
theorem RS.only (h : RS w r A n c D) (ho : Only w w1 S) (hs : Sep (rdf r A) S) : RS w1 r A n c D :=
  ⟨ho.kept h.rk (hs r (.inl rfl)), h.row.apart ho (fun a e => hs a.block (.inr ⟨a, e, rfl⟩)), h.cap, h.max, h.low, h.inv, h.out, fun a e => Nat.lt_of_lt_of_le (h.old a e) ho.size⟩
theorem RS.below (h : RS w r A n c D) (hb : Below w.heap.size w w1) : RS w1 r A n c D := ⟨(hb.block r (lt_of_block h.rk)).trans h.rk, h.row.below hb, h.cap, h.max, h.low, h.inv, h.out, fun a e => Nat.lt_of_lt_of_le (h.old a e) hb.size⟩
theorem RS.drewN (h : RS w r A n c D) (k : Nat) : RS (w.drewN k) r A n c D := h.below (pw_below_drewN (Below.refl _ _) k)
theorem only_r (w : World) (r j : Nat) (v : Value) : Only w (w.setCell ⟨r, j, none⟩ v) (fun k => k = r) := (Only.refl w _).set r j v (.inl rfl)
theorem RS.set1 (h : RS w r A n c D) (x : Int) (a : Nat) (hx : x = (a : Int)) (ha : a ≤ n) : RS (w.setCell ⟨r, 1, none⟩ (.int .i64 x)) r A n c (D.to a) :=
  ⟨by rw [hx]; exact heap_set_same w r 1 _ _ _ h.rk, h.row.apart (only_r w r 1 _) (fun a e => h.out a e), h.cap, h.max, ha, h.inv, h.out, fun a e => Nat.lt_of_lt_of_le (h.old a e) (only_r w r 1 _).size⟩
theorem RS.set34 (h : RS w r A n c D) (e : Int) (a : Nat) (he : e ≠ 0) : RS ((w.setCell ⟨r, 3, none⟩ (.int .i64 e)).setCell ⟨r, 4, none⟩ (.int .i64 (a : Int))) r A n c (D.fail e a) := by
  have h3 := heap_set_same w r 3 _ _ (.int .i64 e) h.rk
  have h4 := heap_set_same _ r 4 _ _ (.int .i64 (a : Int)) h3
  exact ⟨h4, (h.row.apart (only_r w r 3 _) (fun a e => h.out a e)).apart (only_r _ r 4 _) (fun a e => h.out a e), h.cap, h.max, h.low, fun h0 => absurd h0 he, h.out, fun a e => Nat.lt_of_lt_of_le (h.old a e) (((only_r w r 3 (.int .i64 _)).set r 4 _ (.inl rfl)).size)⟩
theorem run_fault (x y : Int) (b : Bool) (hb : ((x == 0) && (y == 0)) = b) (W : World) : (binOp .eql 50 (.agg #[.int .i64 x, .int .i64 y]) (.agg #[.int .i64 0, .int .i64 0])).run Try.prog W = .ok (.bool b) W := by
  have he : (Op.equalIn 10000 50 (.agg #[.int .i64 x, .int .i64 y]) (.agg #[.int .i64 0, .int .i64 0])).run Try.prog W = .ok b W := by
    subst hb
    by_cases h1 : x = 0 <;> by_cases h2 : y = 0 <;> go_simp
  simp [run_eql_struct W 50 _ _, he]
set_option maxHeartbeats 1000000 in
theorem well_any (h : RS w r A n c D) (b : Bool) (hb : decide (D.why = 0) = b) : Calls Try.prog 44 #[.pointer (some ⟨r, 0, none⟩)] w fun e w' => e = .returned (.bool b) ∧ w' = w := by
  have h2 := h.r2
  have h3 := h.r3
  have h4 := h.r4
  have hqg : Try.prog.eqGuardType Try.prog.depth 50 = false := by kernel_rfl
  have heq := run_fault D.why D.wat b (by
    by_cases h0 : D.why = 0
    · have := h.inv h0
      simp [← hb, h0, this]
    · simp [← hb, h0])
  clear hb
  go_enter Try.func44, Try.ntmps44
  go_wp2_with fail
  go_ret
  exact ⟨rfl, rfl⟩
set_option maxHeartbeats 1000000 in
theorem left_any (h : RS w r A n c D) : Calls Try.prog 46 #[.pointer (some ⟨r, 0, none⟩)] w fun e w' => e = .returned (.int .i64 ((n : Int) - (D.at_ : Int))) ∧ ∃ k, w' = w.drewN k := by
  have h0 := h.r0
  have h1 := h.r1
  have hl := h.low
  have hm := h.max
  have hw : IntKind.i64.wrap ((n : Int) - (D.at_ : Int)) = (n : Int) - (D.at_ : Int) := IntWalk.i64_in _ ⟨by omega, by omega⟩
  go_enter Try.func46, Try.ntmps46
  go_wp2_with fail
  go_quiet (fail)
  go_wp2_with fail
  go_ret
  exact ⟨rfl, _, rfl⟩
set_option maxHeartbeats 1000000 in
theorem fails_any (h : RS w r A n c D) (e : Int) (a : Nat) (he : e ≠ 0) : Calls Try.prog 45 #[.pointer (some ⟨r, 0, none⟩), .int .i64 e, .int .i64 (a : Int)] w fun x w' => x = .returned (.tuple #[]) ∧ RS w' r A n c (D.fail e a) ∧ Only w w' (fun k => k = r) := by
  have h3 := h.r3
  have h4 := h.r4
  have f3 := h.fr 3
  have f4 := h.fr 4
  go_enter Try.func45, Try.ntmps45
  go_wp2_with fail
  refine bodyPost_end (v := .tuple #[]) (by simp [results, Try.results45, go_sem]) rfl ⟨rfl, h.set34 e a he, ((Only.refl w (fun k => k = r)).set r 3 _ (.inl rfl)).set r 4 _ (.inl rfl)⟩
set_option maxHeartbeats 4000000 in
set_option maxRecDepth 100000 in
theorem number_any (h : RS w r A n c D) (a : Nat) (ha : a ≤ n) : Calls Try.prog 47 #[.pointer (some ⟨r, 0, none⟩), .int .i64 (a : Int)] w fun e w' => ∃ (m k : Nat) (x : Int), e = .returned (.tuple #[.int .u64 (m : Int), .int .i64 (k : Int), .int .i64 x]) ∧ Hid (num D.bs a = (m, k, x)) ∧ w' = w := by
  have h0 := h.r0
  have hm := h.max
  have HL := Lib.hid h.row.len
  have HB := Lib.hid h.row.byt
  have HR := Lib.hid h.row
  have HC := Lib.hid h.cap
  go_enter Try.func47, Try.ntmps47
  go_wp2_with fail
  go_loopg [7, 8] (n - a) (fun gk v7 v8 w' => ∃ (k acc : Nat), v8 = .int .i64 (k : Int) ∧ v7 = .int .u64 (acc : Int) ∧ w' = w ∧ Hid (k ≤ 9 ∧ acc < 128 ^ k ∧ a + k ≤ n ∧ num D.bs a = numR (D.bs.drop (a + k)) k acc ∧ gk = n - a - k))
  case atStart => exact ⟨0, 0, rfl, rfl, rfl, by omega, by decide, by omega, rfl, rfl⟩
  case round =>
    obtain ⟨k, acc, rfl, rfl, rfl, HG⟩ := hrel
    have hk9 : k ≤ 9 := HG.out.1
    by_cases hlt : a + k < n
    · have hi2 : (a : Int) + (k : Int) < (n : Int) := by omega
      obtain ⟨ad, x, rfl, hc, hx0, hx1, HX⟩ := HR.out.at_ (a + k) hlt
      have hnat : ((a : Int) + (k : Int)).toNat = a + k := by omega
      obtain ⟨xn, rfl⟩ := Int.eq_ofNat_of_zero_le hx0
      have hxn : xn < 256 := by omega
      have hand : bits .and .u8 (xn : Int) 127 = ((xn % 128 : Nat) : Int) := and127 hx0 hx1
      have hwr : IntKind.u64.wrap ((xn : Int) % 128) = (xn : Int) % 128 := IntWalk.u64_in _ ⟨by omega, by omega⟩
      have HST := Lib.hid (numR_step HX.out k acc)
      by_cases hwd : k = 9 ∧ 1 < xn
      · have hkb : ((k : Int) == 9) = true := by rw [beq_iff_eq]; omega
        have hx2 : (1 : Int) < (xn : Int) := by omega
        have HF : Hid (num D.bs a = (0, 0, 10)) := Lib.hid (by rw [HG.out.2.2.2.1, HST.out, if_pos ⟨hwd.1, hx2⟩])
        clear hwd
        go_wp2_with fail
        go_ret3
        exact ⟨_, _, _, rfl, HF, rfl⟩
      · obtain ⟨acc1, hacc1⟩ : ∃ acc1, acc1 = acc + xn % 128 * 128 ^ k := ⟨_, rfl⟩
        have hor : bits .or .u64 (acc : Int) (IntKind.u64.wrap ((xn : Int) % 128 * 2 ^ (7 * k))) = (acc1 : Int) := by rw [hacc1]; exact or_shift HG.out.2.1 (by omega)
        have HA1 := Lib.hid hacc1
        clear hacc1
        have hstep : ∀ P, P = num D.bs a → P = (if (xn : Int) < 128 then (if (xn : Int) = 0 ∧ 0 < k then (0, 0, 5) else (acc1, k + 1, 0)) else numR (D.bs.drop (a + k + 1)) (k + 1) acc1) := fun P hP => by
          rw [hP, HG.out.2.2.2.1, HST.out, if_neg (by omega), HA1.out]; rfl
        have HN := Lib.hid (hstep _ rfl)
        clear hstep
        by_cases hk : k = 9
        · have hkb : ((k : Int) == 9) = true := by rw [beq_iff_eq]; omega
          have hx2 : (xn : Int) ≤ 1 := by omega
          have hx8 : (xn : Int) < 128 := by omega
          have hk1 : (0 : Int) < (k : Int) := by omega
          by_cases hx00 : xn = 0
          · have hxb : ((xn : Int) == 0) = true := by rw [beq_iff_eq]; omega
            have HF : Hid (num D.bs a = (0, 0, 5)) := Lib.hid (by rw [HN.out, if_pos hx8, if_pos ⟨by omega, by omega⟩])
            clear hk hx00 hwd
            go_wp2_with fail
            go_ret3
            exact ⟨_, _, _, rfl, HF, rfl⟩
          · have hxb : ((xn : Int) == 0) = false := by rw [beq_eq_false_iff_ne]; omega
            have HF : Hid (num D.bs a = (acc1, k + 1, 0)) := Lib.hid (by rw [HN.out, if_pos hx8, if_neg (by omega)])
            clear hk hx00 hwd
            go_wp2_with fail
            go_ret3
            exact ⟨_, _, _, rfl, HF, rfl⟩
        · have hkb : ((k : Int) == 9) = false := by rw [beq_eq_false_iff_ne]; omega
          clear hwd
          by_cases hx8 : (xn : Int) < 128
          · by_cases hx00 : xn = 0
            · have hxb : ((xn : Int) == 0) = true := by rw [beq_iff_eq]; omega
              by_cases hk0 : k = 0
              · have hk1 : (k : Int) ≤ 0 := by omega
                have HF : Hid (num D.bs a = (acc1, k + 1, 0)) := Lib.hid (by rw [HN.out, if_pos hx8, if_neg (by omega)])
                clear hk0 hx00
                go_wp2_with fail
                go_ret3
                exact ⟨_, _, _, rfl, HF, rfl⟩
              · have hk1 : (0 : Int) < (k : Int) := by omega
                have HF : Hid (num D.bs a = (0, 0, 5)) := Lib.hid (by rw [HN.out, if_pos hx8, if_pos ⟨by omega, by omega⟩])
                clear hk0 hx00
                go_wp2_with fail
                go_ret3
                exact ⟨_, _, _, rfl, HF, rfl⟩
            · have hxb : ((xn : Int) == 0) = false := by rw [beq_eq_false_iff_ne]; omega
              have HF : Hid (num D.bs a = (acc1, k + 1, 0)) := Lib.hid (by rw [HN.out, if_pos hx8, if_neg (by omega)])
              clear hx00
              go_wp2_with fail
              go_ret3
              exact ⟨_, _, _, rfl, HF, rfl⟩
          · go_wp2_with fail
            go_roundg (n - a - (k + 1))
            case measure => have := HG.out.2.2.2.2; omega
            case rel => exact ⟨k + 1, acc1, by simp, rfl, rfl, by omega, by rw [HA1.out]; exact acc_step HG.out.2.1, by omega, by rw [HN.out, if_neg (by omega)]; rfl, by have := HG.out.2.2.2.2; omega⟩
    · have HF : Hid (num D.bs a = (0, 0, 4)) := Lib.hid (by rw [HG.out.2.2.2.1, numR_end (by rw [HL.out]; omega)])
      have hi2 : (n : Int) ≤ (a : Int) + (k : Int) := by omega
      go_wp2_with fail
      go_ret3
      exact ⟨_, _, _, rfl, HF, rfl⟩
end
end Go.Proofs.Ytiadfmbddkcleaa
