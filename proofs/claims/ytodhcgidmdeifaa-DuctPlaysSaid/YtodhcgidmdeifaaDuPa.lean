/- Pairs of ducts; the document's New; the bits of a number. -/
import Derived.Test.YtodhcgidmdeifaaDuF
import Derived.Laws.Bits128
namespace Go.Proofs.Ytodhcgidmdeifaa
open Go.RowKit Go.Kit Go.Proofs.YtodhcgidmdeifaaW.PrintWords
theorem i64_and1 (n : Int) : bits .and .i64 n 1 = n % 2 := by
  have h : (BitVec.ofInt 64 n &&& BitVec.ofInt 64 1).toNat = (BitVec.ofInt 64 n).toNat % 2 := by
    rw [BitVec.toNat_and]; exact Nat.and_two_pow_sub_one_eq_mod _ 1
  show IntKind.i64.wrap ((BitVec.ofInt 64 n &&& BitVec.ofInt 64 1).toNat : Int) = _
  rw [h, IntKind.wrap_i64, BitVec.toNat_ofInt]
  omega
theorem i64_and3 (n : Int) : bits .and .i64 n 3 = n % 4 := by
  have h : (BitVec.ofInt 64 n &&& BitVec.ofInt 64 3).toNat = (BitVec.ofInt 64 n).toNat % 4 := by
    rw [BitVec.toNat_and]; exact Nat.and_two_pow_sub_one_eq_mod _ 2
  show IntKind.i64.wrap ((BitVec.ofInt 64 n &&& BitVec.ofInt 64 3).toNat : Int) = _
  rw [h, IntKind.wrap_i64, BitVec.toNat_ofInt]
  omega
theorem nat_and2 (m : Nat) : m &&& 2 = m % 4 - m % 2 := by
  have h : m &&& 2 = (m % 4) &&& 2 := by
    rw [show m % 4 = m &&& 3 from (Nat.and_two_pow_sub_one_eq_mod m 2).symm, Nat.and_assoc]
    rfl
  rw [h, show m % 2 = (m % 4) % 2 from by omega]
  have h4 : m % 4 < 4 := Nat.mod_lt _ (by omega)
  generalize m % 4 = q at *
  match q, h4 with
  | 0, _ => rfl
  | 1, _ => rfl
  | 2, _ => rfl
  | 3, _ => rfl
theorem i64_and2 (n : Int) : bits .and .i64 n 2 = n % 4 - n % 2 := by
  have h : (BitVec.ofInt 64 n &&& BitVec.ofInt 64 2).toNat = (BitVec.ofInt 64 n).toNat % 4 - (BitVec.ofInt 64 n).toNat % 2 := by
    rw [BitVec.toNat_and]; exact nat_and2 _
  show IntKind.i64.wrap ((BitVec.ofInt 64 n &&& BitVec.ofInt 64 2).toNat : Int) = _
  rw [h, IntKind.wrap_i64, BitVec.toNat_ofInt]
  omega
set_option maxHeartbeats 1000000 in
theorem rNew_bad (r : Int) (h : ¬ (1 ≤ r ∧ r ≤ 4194304)) (w : World) : Calls Try.prog 18 #[.int .i64 r] w fun e w' => e = .returned (.tuple #[.agg #[.int .i64 0, .slice none 0 0, .bool false, .int .i64 0, .int .i64 0, .int .i64 0, .int .i64 0], .int .i64 90]) ∧ Below w.heap.size w w' := by
  go_enter Try.func18, Try.ntmps18
  by_cases h1 : r < 1
  · clear h
    go_wp2_with fail
    exact bodyPost_ret (v := .tuple #[.agg #[.int .i64 0, .slice none 0 0, .bool false, .int .i64 0, .int .i64 0, .int .i64 0, .int .i64 0], .int .i64 90]) (by simp [results, Try.results18, go_sem]) rfl ⟨rfl, below_alloc (Below.refl _ _) _⟩
  · have h2 : r > 4194304 := by omega
    clear h
    go_wp2_with fail
    exact bodyPost_ret (v := .tuple #[.agg #[.int .i64 0, .slice none 0 0, .bool false, .int .i64 0, .int .i64 0, .int .i64 0, .int .i64 0], .int .i64 90]) (by simp [results, Try.results18, go_sem]) rfl ⟨rfl, below_alloc (Below.refl _ _) _⟩
set_option maxHeartbeats 1000000 in
theorem rNew_any (r : Int) (h1 : 1 ≤ r) (h2 : r ≤ 4194304) (w : World) : Calls Try.prog 18 #[.int .i64 r] w fun e w' => e = .returned (.tuple #[.agg #[.int .i64 r, .slice none 0 0, .bool false, .int .i64 0, .int .i64 0, .int .i64 0, .int .i64 0], .int .i64 0]) ∧ Below w.heap.size w w' := by
  go_enter Try.func18, Try.ntmps18
  have h3 : ¬ r < 1 := by omega
  have h4 : ¬ r > 4194304 := by omega
  go_wp2_with fail
  exact bodyPost_ret (v := .tuple #[.agg #[.int .i64 r, .slice none 0 0, .bool false, .int .i64 0, .int .i64 0, .int .i64 0, .int .i64 0], .int .i64 0]) (by simp [results, Try.results18, go_sem]) rfl ⟨rfl, below_alloc (Below.refl _ _) _⟩
set_option maxHeartbeats 1000000 in
theorem pair_bad (r : Int) (h : ¬ (1 ≤ r ∧ r ≤ 4194304)) (w : World) : Calls Try.prog 17 #[.int .i64 r] w fun e w' => e = .returned (.tuple #[.pointer none, .int .i64 90]) ∧ w' = w := by
  have H := Lib.hid h
  clear h
  go_enter Try.func17, Try.ntmps17
  go_wp2_with fail
  refine (New_bad r H.out _).mono ?_
  rintro e w1 ⟨rfl, rfl⟩
  go_wp2_with fail
  go_ret2
  exact ⟨rfl, rfl⟩
/-- A pair at p: its ducts at d and q. -/
structure PS (w : World) (p d q : Nat) : Prop where
  blk : w.heap[p]? = some (.cells #[.pointer (some ⟨d, 0, none⟩), .pointer (some ⟨q, 0, none⟩)] 47 (0, 0))
theorem PS.c0 {w : World} {p d q : Nat} (h : PS w p d q) : w.cell? ⟨p, 0, none⟩ = some (.pointer (some ⟨d, 0, none⟩)) := cell_of_row w p 0 _ _ _ h.blk
theorem PS.c1 {w : World} {p d q : Nat} (h : PS w p d q) : w.cell? ⟨p, 1, none⟩ = some (.pointer (some ⟨q, 0, none⟩)) := cell_of_row w p 1 _ _ _ h.blk
theorem PS.only {w w1 : World} {p d q : Nat} {S : Nat → Prop} (h : PS w p d q) (ho : Only w w1 S) (hs : ¬ S p) : PS w1 p d q := ⟨ho.kept h.blk hs⟩
set_option maxHeartbeats 1000000 in
theorem pair_any (r : Int) (h1 : 1 ≤ r) (h2 : r ≤ 4194304) (w : World) : Calls Try.prog 17 #[.int .i64 r] w fun e w' => ∃ p d q F G, e = .returned (.tuple #[.pointer (some ⟨p, 0, none⟩), .int .i64 0]) ∧ PS w' p d q ∧ Du w' d F (newD r) ∧ Du w' q G (newD r) ∧ Sep F G ∧ ¬ F p ∧ ¬ G p ∧ d ≠ q ∧ w.heap.size ≤ p ∧ (∀ k, F k → w.heap.size ≤ k) ∧ (∀ k, G k → w.heap.size ≤ k) ∧ Below w.heap.size w w' := by
  go_enter Try.func17, Try.ntmps17
  go_wp2_with fail
  refine (new_p r h1 h2 _).mono ?_
  rintro e w1 ⟨d, F, rfl, hD, hF, hb1⟩
  go_wp2_with fail
  refine (new_p r h1 h2 _).mono ?_
  rintro e w2 ⟨q, G, rfl, hE, hG, hb2⟩
  go_wp2_with fail
  go_ret2
  have hs1 := hb1.size
  have hs2 := hb2.size
  have hFG : Sep F G := Sep.new hD.old hG
  have hdq : d ≠ q := fun e => by
    have k1 : F d := by obtain ⟨b, A, n, c, _, hf⟩ := hD; rw [hf]; exact .inl rfl
    have k2 : G q := by obtain ⟨b, A, n, c, _, hf⟩ := hE; rw [hf]; exact .inl rfl
    rw [← e] at k2
    exact hFG d k1 k2
  have hba := below_alloc (Below.refl w2.heap.size w2) (.cells #[.pointer (some ⟨d, 0, none⟩), .pointer (some ⟨q, 0, none⟩)] 47)
  refine ⟨w2.heap.size, d, q, F, G, rfl, ⟨heap_alloc_new w2 _⟩, (hD.below hb2).below hba, hE.below hba, hFG, fun h => ?_, fun h => ?_, hdq, by omega, hF, fun k hk => by have := hG k hk; omega, below_step (below_step hb1 hb2) hba⟩
  · have := hD.old _ h; omega
  · have := hE.old _ h; omega
set_option maxHeartbeats 1000000 in
theorem pshut_core {w : World} {p d q : Nat} {F G : Nat → Prop} {D E : Dk} (x y z : Int) (hx : (if D.shut then (91 : Int) else 0) = x) (hy : (if E.shut then (91 : Int) else 0) = y) (hz : (x = 0 ∧ z = 0) ∨ (x = 91 ∧ y = 0 ∧ z = 0) ∨ (x = 91 ∧ y = 91 ∧ z = 91)) (hP : PS w p d q) (hD : Du w d F D) (hE : Du w q G E) (hs : Sep F G) (hpF : ¬ F p) (hpG : ¬ G p) :
    Calls Try.prog 22 #[.pointer (some ⟨p, 0, none⟩)] w fun e w' => e = .returned (.int .i64 z) ∧ PS w' p d q ∧ Du w' d F { D with shut := true } ∧ Du w' q G { E with shut := true } ∧ Only w w' (fun k => F k ∨ G k) := by
  have h0 := hP.c0
  have h1 := hP.c1
  have hDd := hD.drewN 1
  have hEd := hE.drewN 1
  have HP := Lib.hid hP
  have HD := Lib.hid hD
  have HE := Lib.hid hE
  have HX : Hid (∀ (W : World), Du W d F D → Calls Try.prog 30 #[.pointer (some ⟨d, 0, none⟩)] W fun e w' => e = .returned (.bool true) ∧ w' = W) := Lib.hid (fun W h => by obtain ⟨b, A, n, c, h1, _⟩ := h; exact made_any h1)
  have HY : Hid (∀ (W : World), Du W q G E → Calls Try.prog 30 #[.pointer (some ⟨q, 0, none⟩)] W fun e w' => e = .returned (.bool true) ∧ w' = W) := Lib.hid (fun W h => by obtain ⟨b, A, n, c, h1, _⟩ := h; exact made_any h1)
  have HXX := Lib.hid hx
  have HYY := Lib.hid hy
  clear hP hD hE hx hy
  go_enter Try.func22, Try.ntmps22
  go_wp2_with fail
  refine (HX.out _ HD.out).mono ?_
  rintro e w1 ⟨rfl, rfl⟩
  go_wp2_with fail
  refine (HY.out _ HE.out).mono ?_
  rintro e w1 ⟨rfl, rfl⟩
  go_wp2_with fail
  refine wp_region_held_drew (S := fun w' => w'.cell? ⟨p, 0, none⟩ = some (.pointer (some ⟨d, 0, none⟩)) ∧ w'.cell? ⟨p, 1, none⟩ = some (.pointer (some ⟨q, 0, none⟩))) (by kernel_rfl) (⟨h0, h1⟩) (fun hHeld => ?_)
  refine wpAnyH_take (i := 0) (v := (.pointer (some ⟨p, 0, none⟩))) (oi := ⟨_, _, _, _, _, _⟩) rfl (by kernel_rfl) (by kernel_rfl) (by kernel_rfl) (fun _ _ _ h => h) (Or.inl ⟨by kernel_rfl, fun W hS => ?_⟩) (by assumption) ?_
  · dsimp only at hS; go_split_ands; go_simp
  simp only [Act.put, List.setIfInBounds_toArray, List.set_cons_zero, List.set_cons_succ]
  refine wpAnyH_take (i := 1) (v := (.pointer (some ⟨p, 0, none⟩))) (oi := ⟨_, _, _, _, _, _⟩) rfl (by kernel_rfl) (by kernel_rfl) (by kernel_rfl) (fun _ _ _ h => h) (Or.inl ⟨by kernel_rfl, fun W hS => ?_⟩) (by assumption) ?_
  · dsimp only at hS; go_split_ands; go_simp
  simp only [Act.put, List.setIfInBounds_toArray, List.set_cons_zero, List.set_cons_succ]
  refine wpAnyH_take (i := 2) (v := (.pointer (some ⟨p, 0, none⟩))) (oi := ⟨_, _, _, _, _, _⟩) rfl (by kernel_rfl) (by kernel_rfl) (by kernel_rfl) (fun _ _ _ h => h) (Or.inl ⟨by kernel_rfl, fun W hS => ?_⟩) (by assumption) ?_
  · dsimp only at hS; go_split_ands; go_simp
  simp only [Act.put, List.setIfInBounds_toArray, List.set_cons_zero, List.set_cons_succ]
  refine wpAnyH_take (i := 3) (v := (.pointer (some ⟨d, 0, none⟩))) (oi := ⟨_, _, _, _, _, _⟩) rfl (by kernel_rfl) (by kernel_rfl) (by kernel_rfl) (fun _ _ _ h => h) (Or.inl ⟨by kernel_rfl, fun W hS => ?_⟩) (by assumption) ?_
  · dsimp only at hS; go_split_ands; go_simp
  simp only [Act.put, List.setIfInBounds_toArray, List.set_cons_zero, List.set_cons_succ]
  refine wpAnyH_take (i := 5) (v := (.pointer (some ⟨p, 0, none⟩))) (oi := ⟨_, _, _, _, _, _⟩) rfl (by kernel_rfl) (by kernel_rfl) (by kernel_rfl) (fun _ _ _ h => h) (Or.inl ⟨by kernel_rfl, fun W hS => ?_⟩) (by assumption) ?_
  · dsimp only at hS; go_split_ands; go_simp
  simp only [Act.put, List.setIfInBounds_toArray, List.set_cons_zero, List.set_cons_succ]
  refine wpAnyH_take (i := 6) (v := (.pointer (some ⟨p, 0, none⟩))) (oi := ⟨_, _, _, _, _, _⟩) rfl (by kernel_rfl) (by kernel_rfl) (by kernel_rfl) (fun _ _ _ h => h) (Or.inl ⟨by kernel_rfl, fun W hS => ?_⟩) (by assumption) ?_
  · dsimp only at hS; go_split_ands; go_simp
  simp only [Act.put, List.setIfInBounds_toArray, List.set_cons_zero, List.set_cons_succ]
  refine wpAnyH_take (i := 7) (v := (.pointer (some ⟨p, 1, none⟩))) (oi := ⟨_, _, _, _, _, _⟩) rfl (by kernel_rfl) (by kernel_rfl) (by kernel_rfl) (fun _ _ _ h => h) (Or.inl ⟨by kernel_rfl, fun W hS => ?_⟩) (by assumption) ?_
  · dsimp only at hS; go_split_ands; go_simp
  simp only [Act.put, List.setIfInBounds_toArray, List.set_cons_zero, List.set_cons_succ]
  refine wpAnyH_take (i := 8) (v := (.pointer (some ⟨q, 0, none⟩))) (oi := ⟨_, _, _, _, _, _⟩) rfl (by kernel_rfl) (by kernel_rfl) (by kernel_rfl) (fun _ _ _ h => h) (Or.inl ⟨by kernel_rfl, fun W hS => ?_⟩) (by assumption) ?_
  · dsimp only at hS; go_split_ands; go_simp
  simp only [Act.put, List.setIfInBounds_toArray, List.set_cons_zero, List.set_cons_succ]
  refine wpAnyH_ready (rs := [4]) (by kernel_rfl) (by decide) (AllReadyH.cons (o := ⟨_, _, _, _, _, _⟩) rfl (fun K hK => ?_) AllReadyH.nil)
  rw [if_pos (by kernel_rfl)]
  go_simp
  refine (shut_p hDd).mono ?_
  rintro e w3 ⟨rfl, hD3, ho3⟩
  have hE3 := hEd.only ho3 hs.symm
  rw [HXX.out]
  go_wp2_with fail
  refine hK.out _ _ (⟨ho3.cell hHeld.1 hpF, ho3.cell hHeld.2 hpF⟩) (fun hHeld => ?_)
  clear hK K
  try simp only [Act.put, List.setIfInBounds_toArray, List.set_cons_zero, List.set_cons_succ]
  refine wpAnyH_ready (rs := [9]) (by kernel_rfl) (by decide) (AllReadyH.cons (o := ⟨_, _, _, _, _, _⟩) rfl (fun K hK => ?_) AllReadyH.nil)
  rw [if_pos (by kernel_rfl)]
  go_simp
  refine (shut_p hE3).mono ?_
  rintro e w4 ⟨rfl, hE4, ho4⟩
  have hD4 := hD3.only ho4 hs
  rw [HYY.out]
  go_wp2_with fail
  refine hK.out _ _ (⟨ho4.cell hHeld.1 hpG, ho4.cell hHeld.2 hpG⟩) (fun hHeld => ?_)
  clear hK K
  try simp only [Act.put, List.setIfInBounds_toArray, List.set_cons_zero, List.set_cons_succ]
  refine wpAnyH_take (i := 10) (v := (.int .i64 x)) (oi := ⟨_, _, _, _, _, _⟩) rfl (by kernel_rfl) (by kernel_rfl) (by kernel_rfl) (fun _ _ _ h => h) (Or.inl ⟨by kernel_rfl, fun W hS => ?_⟩) (by assumption) ?_
  · dsimp only at hS; go_split_ands; go_simp
  simp only [Act.put, List.setIfInBounds_toArray, List.set_cons_zero, List.set_cons_succ]
  refine wpAnyH_take (i := 11) (v := (.int .i64 y)) (oi := ⟨_, _, _, _, _, _⟩) rfl (by kernel_rfl) (by kernel_rfl) (by kernel_rfl) (fun _ _ _ h => h) (Or.inl ⟨by kernel_rfl, fun W hS => ?_⟩) (by assumption) ?_
  · dsimp only at hS; go_split_ands; go_simp
  simp only [Act.put, List.setIfInBounds_toArray, List.set_cons_zero, List.set_cons_succ]
  refine wpAnyH_done (by kernel_rfl) ?_ _
  have hPf : PS w4 p d q := (HP.out.only (Only.of_below (pw_below_drewN (Below.refl _ _) 1) (fun _ => False)) id).only ho3 hpF |>.only ho4 hpG
  have hof : Only w1 w4 (fun k => F k ∨ G k) := (((Only.refl w1 (fun k => F k ∨ G k)).drew).then_ ho3 (fun k hk => .inl (.inl hk))).then_ ho4 (fun k hk => .inl (.inr hk))
  rcases hz with ⟨rfl, rfl⟩ | ⟨rfl, rfl, rfl⟩ | ⟨rfl, rfl, rfl⟩
  all_goals
    go_wp2_with fail
    go_ret
    exact ⟨rfl, hPf, hD4, hE4, hof⟩
theorem pshut_any {w : World} {p d q : Nat} {F G : Nat → Prop} {D E : Dk} (hP : PS w p d q) (hD : Du w d F D) (hE : Du w q G E) (hs : Sep F G) (hpF : ¬ F p) (hpG : ¬ G p) :
    Calls Try.prog 22 #[.pointer (some ⟨p, 0, none⟩)] w fun e w' => e = .returned (.int .i64 (if D.shut && E.shut then 91 else 0)) ∧ PS w' p d q ∧ Du w' d F { D with shut := true } ∧ Du w' q G { E with shut := true } ∧ Only w w' (fun k => F k ∨ G k) :=
  pshut_core _ _ _ rfl rfl (by cases D.shut <;> cases E.shut <;> simp) hP hD hE hs hpF hpG
end Go.Proofs.Ytodhcgidmdeifaa
