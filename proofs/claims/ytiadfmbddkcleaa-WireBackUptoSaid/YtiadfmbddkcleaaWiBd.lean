/- The walk of WireOwn. -/
import Derived.Test.YtiadfmbddkcleaaWiBc
import Derived.Test.YtiadfmbddkcleaaWiD
namespace Go.Proofs.Ytiadfmbddkcleaa
open Go.RowKit Go.Kit Go.Proofs.YtiadfmbddkcleaaW.PrintWords
theorem cells4 {w : World} {g : Nat} {a b c d : Value} {t : TypeId} (h : w.heap[g]? = some (.cells #[a, b, c, d] t (0, 0))) : w.cell? ⟨g, 0, none⟩ = some a ∧ w.cell? ⟨g, 1, none⟩ = some b ∧ w.cell? ⟨g, 2, none⟩ = some c ∧ w.cell? ⟨g, 3, none⟩ = some d :=
  ⟨cell_of_row w g 0 _ _ _ h, cell_of_row w g 1 _ _ _ h, cell_of_row w g 2 _ _ _ h, cell_of_row w g 3 _ _ _ h⟩
theorem ob_take {e : TypeId} {w : World} {base n c k : Nat} {A : Option Addr} {xs ys : List Int} (h : OB e w base (.slice A n c) (xs ++ ys)) (hk : xs.length = k) (hn : k ≤ n) (hl : (xs ++ ys).length = n) : OB e w base (.slice A k c) xs := by
  have h1 := h.own
  rw [hl] at h1
  have h2 := own_take h1 hn
  refine ⟨?_, fun x hx => h.byt x (List.mem_append_left _ hx)⟩
  rw [nums_take, Nat.mul_one, List.take_append_of_le_length (by omega), List.take_of_length_le (by omega)] at h2
  rw [hk]; exact h2
attribute [-go_sem] run_slice_l run_slice_h run_slice_any
attribute [local go_sem] Go.Proofs.YtiadfmbddkcleaaW.PrintMore.max_two Go.Proofs.YtiadfmbddkcleaaW.PrintMore.min_two
set_option maxHeartbeats 16000000 in
set_option maxRecDepth 100000 in
theorem WireOwn_walk (A : Option Addr) (n cap : Nat) (xs : List Int) (p : Pu) (B : Option Addr) (m c : Nat) (z : Int) (w : World) (hx : RB w A n xs) (hcap : n ≤ cap) (hn : n ≤ 1048576) (hT : RT w B m p.texts) (hok : p.ok) (hpw : pw p ≤ 1048576) :
    Calls Try.prog 4 #[.slice A n cap, .agg #[.int .i64 p.kind, .int .u64 p.u, .int .i64 p.i, .slice B m c], .int .i64 z] w fun e w' => e = .returned (.bool true) ∧ Below w.heap.size w w' := by
  have hba := below_alloc (Below.refl w.heap.size w) (.cells #[.int .i64 p.kind, .int .u64 p.u, .int .i64 p.i, .slice B m c] 27)
  have hbk := heap_alloc_new w (.cells #[.int .i64 p.kind, .int .u64 p.u, .int .i64 p.i, .slice B m c] 27)
  have HK : Hid (∀ s ∈ p.texts, s.size ≤ 1048576) := Lib.hid (fun s hs => by have := tw_mem hs; unfold pw at hpw; omega)
  have hm : m ≤ 1048576 := by have h := tw_len p.texts; rw [hT.len] at h; unfold pw at hpw; omega
  have HLL : Hid ((laid p).length ≤ 10485760) := Lib.hid (by have := laid_length hok (by omega); omega)
  have HOK := Lib.hid hok
  have HL := Lib.hid hx.len
  clear hok hpw
  go_enter Try.func4, Try.ntmps4
  go_upto_region 1 with (fail)
  generalize w.alloc (.cells #[.int .i64 p.kind, .int .u64 p.u, .int .i64 p.i, .slice B m c] 27) = w1 at *
  go_wp2_with fail
  refine (alive_any _).mono ?_
  rintro e w2 ⟨rfl, hb2⟩
  have hB2 := below_step hba hb2
  have hbk2 := (hb2.block _ (lt_of_block hbk)).trans hbk
  clear hba hb2 hbk
  generalize hgp : w.heap.size = gp at hbk2 ⊢
  have HGP := Lib.hid hgp
  clear hgp
  have hmk := fun W => mk_bytes 0 (n + 32) (by omega) (by omega) W 0 ((n : Int) + 32) rfl (by simp)
  have hbm := below_alloc (Below.refl _ w2) (.cells (nums .u8 (List.replicate (n + 32) 0)).toArray 5)
  have hO0 := OB.fresh w2 (n + 32) (by omega)
  have hx2 := hx.below hB2
  go_wp2_with (at_builtin; refine push_row (w0 := w2) w2.heap.size rfl (.tmp 19) (.tmp 20) 23 xs A n cap rfl Try.underlying23 u8_info rfl rfl hO0 (hx2.below hbm) hbm hbm.size (by simp; omega) ?_)
  intro v3 w3 hO3 hb3 _ _
  have hbl := below_alloc hb3 (.cells #[.int .u8 1, .int .u8 2, .int .u8 3, .int .u8 4, .int .u8 5, .int .u8 6, .int .u8 7, .int .u8 8] 5)
  have hR8 := RB.lit w3 [1, 2, 3, 4, 5, 6, 7, 8] (by intro x hx; simp at hx; omega) (by simp) 5 (0, 0)
  have hO3b := hO3.below (below_alloc (Below.refl _ w3) (.cells #[.int .u8 1, .int .u8 2, .int .u8 3, .int .u8 4, .int .u8 5, .int .u8 6, .int .u8 7, .int .u8 8] 5))
  have hs3 := hbl.size
  clear hmk hbm hO0
  go_wp2_with (at_builtin; refine push_row (w0 := w2) w2.heap.size rfl (.tmp 21) (.tmp 22) 23 [1, 2, 3, 4, 5, 6, 7, 8] _ 8 8 rfl Try.underlying23 u8_info rfl rfl hO3b hR8 hbl hs3 (by rw [HL.out]; omega) ?_)
  intro v4 w4 hO4 hb4 _ _
  have HL8 : Hid ((xs ++ [1, 2, 3, 4, 5, 6, 7, 8] : List Int).length = n + 8) := Lib.hid (by rw [List.length_append, HL.out]; rfl)
  obtain ⟨Ar, cr, rfl, hRr, hcr⟩ := hO4.reads'
  rw [HL8.out] at hO4 hRr hcr ⊢
  have hOm := ob_take hO4 HL.out (by omega) HL8.out
  have hB4 : Below w.heap.size w w4 := below_step hB2 hb4
  have hbk4 := (hb4.block _ (lt_of_block hbk2)).trans hbk2
  have hs2 := hB2.size
  have hRm := hOm.rb HL.out.symm
  have hT4 := hT.below hB4
  obtain ⟨q0, q1, q2, q3⟩ := cells4 hbk4
  have hOld5 : w2.heap.size ≤ w4.heap.size := hb4.size
  clear hO3 hb3 hbl hR8 hO3b hs3 hbk2 hx2 hb4
  have hhd := head_bytes Ar (n + 8) cr n (by omega)
  go_wp2_with fail
  clear hhd
  refine (lay_any hRm p hT4 HOK.out 1048576 (by omega) HK.out (by omega)).mono ?_
  rintro e w5 ⟨va, rfl, hOa, hb5⟩
  have hB5 := below_step hB4 hb5
  have hbk5 := (hb5.block _ (lt_of_block hbk4)).trans hbk4
  have hO5 := hO4.below hb5
  have hOm5 := hOm.below hb5
  have hRm5 := hRm.below hb5
  have hT5 := hT.below hB5
  clear q0 q1 q2 q3
  obtain ⟨q0, q1, q2, q3⟩ := cells4 hbk5
  go_wp2_with fail
  refine (lay_any hRm5 p hT5 HOK.out 1048576 (by omega) HK.out (by omega)).mono ?_
  rintro e w6 ⟨vc, rfl, hOc, hb6⟩
  have hB6 := below_step hB5 hb6
  have hbk6 := (hb6.block _ (lt_of_block hbk5)).trans hbk5
  have hO6 := hO5.below hb6
  have hOm6 := hOm5.below hb6
  have hOa6 := hOa.below hb6
  have hT6 := hT.below hB6
  have hx6 := hx.below hB6
  have hs46 : w4.heap.size ≤ w5.heap.size := hb5.size
  have hold4 := hO4.old
  clear q0 q1 q2 q3 hO4 hOm hRm hbk4 hT4 hO5 hOm5 hRm5 hT5 hbk5 hRr
  obtain ⟨q0, q1, q2, q3⟩ := cells4 hbk6
  go_wp2_with fail
  replace hx6 := hx6.drew
  have hold4m : Old w4 (rf (.slice Ar n cr)) := by cases Ar <;> exact hold4
  refine wp_region_held_drew (S := fun w' => w'.cell? ⟨gp, 0, none⟩ = some (.int .i64 p.kind) ∧ w'.cell? ⟨gp, 1, none⟩ = some (.int .u64 p.u) ∧ w'.cell? ⟨gp, 2, none⟩ = some (.int .i64 p.i) ∧ w'.cell? ⟨gp, 3, none⟩ = some (.slice B m c)) (by kernel_rfl) (⟨q0, q1, q2, q3⟩) (fun hHeld => ?_)
  refine wpAnyH_take (i := 0) (v := (.slice A n cap)) (oi := ⟨_, _, _, _, _, _⟩) rfl (by kernel_rfl) (by kernel_rfl) (by kernel_rfl) (fun _ _ _ h => h) (Or.inl ⟨by kernel_rfl, fun W hS => ?_⟩) (by assumption) ?_
  · dsimp only at hS; go_split_ands; go_simp
  simp only [Act.put, List.setIfInBounds_toArray, List.set_cons_zero, List.set_cons_succ]
  refine wpAnyH_take (i := 2) (v := (.agg #[.int .i64 p.kind, .int .u64 p.u, .int .i64 p.i, .slice B m c])) (oi := ⟨_, _, _, _, _, _⟩) rfl (by kernel_rfl) (by kernel_rfl) (by kernel_rfl) (fun _ _ _ h => h) (Or.inl ⟨by kernel_rfl, fun W hS => ?_⟩) (by assumption) ?_
  · dsimp only at hS; go_split_ands; go_simp
  simp only [Act.put, List.setIfInBounds_toArray, List.set_cons_zero, List.set_cons_succ]
  refine wpAnyH_ready (rs := [1]) (by kernel_rfl) (by decide) (AllReadyH.cons (o := ⟨_, _, _, _, _, _⟩) rfl (fun K hK => ?_) AllReadyH.nil)
  refine at_list rfl ?_; intro Q2 hQ2; at_builtin; refine push_row (w0 := w6.drew) w6.drew.heap.size rfl (.const (.slice none 0 0)) (.tmp 34) 23 (xs) A n cap rfl Try.underlying23 u8_info rfl rfl (OB.nil _ _ _) hx6 (Below.refl _ _) (Nat.le_refl _) (by simp; omega) ?_; intro v7 w7 hO7 hb7 _ _; rw [List.nil_append] at hO7; refine hQ2 _ _ ?_; clear hQ2 Q2
  have hn7 : ¬ rf v7 gp := hO7.not_block ((hb7.block _ (lt_of_block hbk6)).trans hbk6) (by decide)
  refine hK.out _ _ (⟨pw_cell_below hb7 hHeld.1, pw_cell_below hb7 hHeld.2.1, pw_cell_below hb7 hHeld.2.2.1, pw_cell_below hb7 hHeld.2.2.2⟩) (fun hHeld => ?_)
  clear hK K
  try simp only [Act.put, List.setIfInBounds_toArray, List.set_cons_zero, List.set_cons_succ]
  refine wpAnyH_ready (rs := [3]) (by kernel_rfl) (by decide) (AllReadyH.cons (o := ⟨_, _, _, _, _, _⟩) rfl (fun K hK => ?_) AllReadyH.nil)
  rw [if_pos (by kernel_rfl)]
  go_simp
  refine (told_any p ((RT.drewN hT6 1).below hb7) HOK.out 1048576 (by omega) HK.out (by omega)).mono ?_
  rintro e w8 ⟨vt, rfl, hOt, hb8⟩
  obtain ⟨At, ct, rfl, hRt, _⟩ := hOt.reads'
  have hO78 := hO7.below hb8
  have hB8 := below_step hb7 hb8
  go_wp2_with fail
  refine hK.out _ _ (⟨pw_cell_below hb8 hHeld.1, pw_cell_below hb8 hHeld.2.1, pw_cell_below hb8 hHeld.2.2.1, pw_cell_below hb8 hHeld.2.2.2⟩) (fun hHeld => ?_)
  clear hK K
  try simp only [Act.put, List.setIfInBounds_toArray, List.set_cons_zero, List.set_cons_succ]
  refine wpAnyH_ready (rs := [4]) (by kernel_rfl) (by decide) (AllReadyH.cons (o := ⟨_, _, _, _, _, _⟩) rfl (fun K hK => ?_) AllReadyH.nil)
  refine at_list rfl ?_; intro Q2 hQ2; at_builtin; refine push_row (w0 := w6.drew) w6.drew.heap.size rfl (.tmp 35) (.tmp 37) 23 (laid p) At _ ct rfl Try.underlying23 u8_info rfl rfl hO78 hRt hB8 hB8.size (by rw [HL.out]; have := HLL.out; omega) ?_; intro v9 w9 hO9 hb9 hg9 _; have hk9 := (Only.refl w8 (rf v7)).grown hg9 (fun k e => .inl e); refine hQ2 _ _ ?_; clear hQ2 Q2
  refine hK.out _ _ (⟨hk9.cell hHeld.1 hn7, hk9.cell hHeld.2.1 hn7, hk9.cell hHeld.2.2.1 hn7, hk9.cell hHeld.2.2.2 hn7⟩) (fun hHeld => ?_)
  clear hK K
  try simp only [Act.put, List.setIfInBounds_toArray, List.set_cons_zero, List.set_cons_succ]
  refine wpAnyH_take (i := 5) (v := v9) (oi := ⟨_, _, _, _, _, _⟩) rfl (by kernel_rfl) (by kernel_rfl) (by kernel_rfl) (fun _ _ _ h => h) (Or.inl ⟨by kernel_rfl, fun W hS => ?_⟩) (by assumption) ?_
  · dsimp only at hS; go_split_ands; go_simp
  simp only [Act.put, List.setIfInBounds_toArray, List.set_cons_zero, List.set_cons_succ]
  refine wpAnyH_done (by kernel_rfl) ?_ _
  have hB9 := below_step (below_drew hB6) hb9
  have hd9 := below_step (below_drew (Below.refl w6.heap.size w6)) hb9
  have hOa9 := hOa6.below hd9
  have hOc9 := hOc.below hd9
  have hOr9 := hO6.below hd9
  have hOm9 := hOm6.below hd9
  have hoa5 := hOa.old
  have hfa := hOa9.from
  have hfc := hOc9.from
  have hfw := hO9.from
  have hs56 := hb6.size
  have hoa6 := hOa6.old
  obtain ⟨L, hL⟩ : ∃ L, xs ++ laid p = L := ⟨_, rfl⟩
  have hnl2 : L.length ≤ 20000000 := by rw [← hL, List.length_append, HL.out]; have := HLL.out; omega
  rw [hL] at hOa9 hOc9 hO9
  obtain ⟨nl, hnl⟩ : ∃ nl, L.length = nl := ⟨_, rfl⟩
  obtain ⟨Aa, ca, rfl, hRa, _⟩ := hOa9.reads'
  obtain ⟨Ac, cc, rfl, hRc, _⟩ := hOc9.reads'
  obtain ⟨Aw, cw, rfl, hRw, _⟩ := hO9.reads'
  rw [hnl] at hOa9 hOc9 hO9 hRa hRc hRw hnl2 hfa hfc hfw hoa5 hoa6 ⊢
  have HNL := Lib.hid hnl
  have hs24 := hB4.size
  have hs59 := hB6.size
  have hBs9 : w6.heap.size ≤ w9.heap.size := hb9.size
  clear hL hnl hb9 hg9 hk9 hO7 hb7 hO78 hB8 hb8 hOt hRt hn7 hHeld hd9 q0 q1 q2 q3 hOa6 hOc hO6 hOm6 hOa hb5 hb6 hB5 hB6
  go_wp2_with fail
  refine (Equal_same hRa hRw rfl).mono ?_
  rintro e w10 ⟨rfl, rfl⟩
  go_wp2_with fail
  refine (Equal_same hRc hRw rfl).mono ?_
  rintro e w9 ⟨rfl, rfl⟩
  clear hRa hRc hRw
  go_wp2_with fail
  refine (mark_any hOa9 170 (by omega) (by omega)).mono ?_
  rintro e w11 ⟨rfl, ⟨ya, hOa11, hya⟩, ho11⟩
  have HYA : Hid (ya.length = nl) := Lib.hid (hya.trans HNL.out)
  clear hya
  have hlb := below_alloc (Below.refl _ w11) (.cells #[.int .u8 171, .int .u8 171] 5)
  have hR71 := RB.lit w11 [171, 171] (by intro x hx; simp at hx; omega) (by simp) 5 (0, 0)
  have hOa12 := hOa11.below hlb
  have ho12 := ho11.alloc (.cells #[.int .u8 171, .int .u8 171] 5)
  have hBm : Below w4.heap.size w4 w4 := Below.refl _ _
  go_wp2_with (at_builtin; refine push_row (w0 := w11.alloc (.cells #[.int .u8 171, .int .u8 171] 5)) w4.heap.size rfl (.tmp 51) (.tmp 52) 23 [171, 171] _ 2 2 rfl Try.underlying23 u8_info rfl rfl hOa12 hR71 (Below.refl _ _) (Nat.le_trans hs46 (Nat.le_trans hs56 (Nat.le_trans hBs9 ho12.size))) (by rw [HYA.out]; omega) ?_)
  intro v13 w13 hO13 hb13 hg13 _
  have ho13 : Only w9 w13 (rf (.slice Aa nl ca)) := ho12.grown hg13 (fun k e => .inl e)
  have hB13 : Below w.heap.size w w13 := Below.only hB9 ho13 hB9.size (fun j hj => Nat.le_trans hs24 (hfa j hj))
  have hOr13 := hOr9.only ho13 (Sep.new hold4 hfa)
  have hOm13 := hOm9.only ho13 (Sep.new hold4m hfa)
  have hOc13 := hOc9.only ho13 (Sep.symm (Sep.new hoa5 hfc))
  have hOw13 := hO9.only ho13 (Sep.symm (Sep.new hoa6 hfw))
  have hRc := hOc13.rb HNL.out.symm
  have hRw := hOw13.rb HNL.out.symm
  have hRm := hOm13.rb HL.out.symm
  have hRr := hOr13.rb HL8.out.symm
  have hx13 := hx.below hB13
  clear hO13 hb13 hg13 hOa12 hOa11 hOa9 hlb hR71 ho11 ho12 ho13 hOc13 hOw13 hOr9 hOm9 hOc9 hO9
  obtain ⟨A8, hcut, hA8⟩ := cut_bytes Ar (n + 8) cr n (by omega) hcr
  have hR8 := hA8 _ _ hRr
  have hx8 : (xs ++ [1, 2, 3, 4, 5, 6, 7, 8] : List Int).drop n = [1, 2, 3, 4, 5, 6, 7, 8] := by
    rw [← HL.out, List.drop_left]
  rw [show n + 8 - n = 8 by omega] at hcut hR8
  rw [hx8] at hR8
  clear hA8 hRr hx8
  go_wp2_with fail
  refine (Equal_same hRc hRw rfl).mono ?_
  rintro e w14 ⟨rfl, rfl⟩
  go_wp2_with fail
  refine (Equal_same hRm hx13 rfl).mono ?_
  rintro e w15 ⟨rfl, rfl⟩
  have hbl := below_alloc (Below.refl _ w15) (.cells #[.int .u8 1, .int .u8 2, .int .u8 3, .int .u8 4, .int .u8 5, .int .u8 6, .int .u8 7, .int .u8 8] 5)
  have hR9 := RB.lit w15 [1, 2, 3, 4, 5, 6, 7, 8] (by intro x hx; simp at hx; omega) (by simp) 5 (0, 0)
  have hB16 := below_step hB13 hbl
  have hR8b := hR8.below hbl
  have hOm16 := hOm13.below hbl
  clear hRc hRw hR8 hOr13 hOm13
  go_wp2_with fail
  refine (Equal_same hR8b hR9 rfl).mono ?_
  rintro e w16 ⟨rfl, hw16⟩
  rw [← hw16] at hB16 hOm16
  clear hR8b hR9 hbl hw16 hcut
  have hRm16 := hOm16.rb HL.out.symm
  have hom16 := hOm16.old
  have hfm16 := hOm16.from
  go_wp2_with fail
  refine (NewReader_any Ar n cr xs _ hRm16 (by omega)).mono ?_
  rintro e w17 ⟨r, A', c17, rfl, hr, hf, hb17⟩
  have hOm17 := hOm16.below hb17
  have hB17 := below_step hB16 hb17
  have hs16 := hB16.size
  have hrg : w.heap.size ≤ r := Nat.le_trans hs16 (hf r (.inl rfl))
  have hs0 := hB2.size
  clear hRm16 hOm16 hb17 hB16
  go_wp2_with fail
  refine (mark_any hOm17 172 (by omega) (by omega)).mono ?_
  rintro e w18 ⟨rfl, _, ho18⟩
  have hr18 := hr.only ho18 (Sep.symm (Sep.new hom16 hf))
  have hB18 : Below w.heap.size w w18 := Below.only hB17 ho18 hB17.size (fun j hj => Nat.le_trans hs0 (hfm16 j hj))
  obtain ⟨mx, k, hmx, hmn, hkl⟩ : ∃ (m : Int) (k : Nat), Builtin.max2 (.int .i64 z) (.int .i64 0) = pure (.int .i64 m) ∧ Builtin.min2 (.int .i64 m) (.int .i64 (n : Int)) = pure (.int .i64 (k : Int)) ∧ k ≤ n :=
    ⟨_, (min (max z 0) (n : Int)).toNat, max2_is rfl, min2_is (by omega), by omega⟩
  have hx18 := hx.below hB18
  clear hOm17 hr ho18 hB17
  go_wp2_with fail
  refine (Raw_any hr18 (k : Int) (by omega)).mono ?_
  rintro e w19 ⟨D1, v19, y19, rfl, HR1, hO19, hr19, ho19⟩
  have hraw : D1 = (Rd.new xs).to k ∧ y19 = xs.take k := by
    have := HR1.out
    unfold rawS at this
    rw [if_neg (by show ¬ (0 : Int) ≠ 0; simp), if_neg (by omega), if_neg (by show ¬ ((xs.length : Int) - ((0 : Nat) : Int) < (k : Int)); rw [HL.out]; omega)] at this
    cases this
    exact ⟨by show (Rd.new xs).to (0 + (k : Int).toNat) = _; simp, by simp [Rd.new]⟩
  obtain ⟨rfl, rfl⟩ := hraw
  have HKL : Hid ((xs.take k).length = k) := Lib.hid (by rw [List.length_take, HL.out]; omega)
  obtain ⟨A19, c19, rfl, hR19, _⟩ := hO19.reads'
  rw [HKL.out] at hO19 hR19 ⊢
  have hsz19 := ho19.size
  have hs018 := hB18.size
  have hB19 : Below w.heap.size w w19 := Below.only hB18 ho19 hB18.size (fun j e => by rw [e]; exact hrg)
  have hold18 := hr18.oldF
  have hf19 := hO19.from
  have hxt := RB.take_ (hx.below hB19) k hkl
  have hhd := head_bytes A n cap k (by omega)
  clear hr18 HR1 hB18 ho19
  go_wp2_with fail
  refine (Equal_same hR19 hxt rfl).mono ?_
  rintro e w20 ⟨rfl, rfl⟩
  clear hhd hxt hR19
  go_wp2_with fail
  refine (mark_any hO19 173 (by omega) (by omega)).mono ?_
  rintro e w21 ⟨rfl, ⟨yx, hO21, hyx⟩, ho21⟩
  have HYX : Hid (yx.length = k) := Lib.hid (hyx.trans HKL.out)
  have hlb := below_alloc (Below.refl _ w21) (.cells #[.int .u8 174, .int .u8 174, .int .u8 174] 5)
  have hR74 := RB.lit w21 [174, 174, 174] (by intro x hx; simp at hx; omega) (by simp) 5 (0, 0)
  have hO22 := hO21.below hlb
  have ho22 := ho21.alloc (.cells #[.int .u8 174, .int .u8 174, .int .u8 174] 5)
  have hs22 := ho22.size
  have hs19 := hsz19
  clear hyx
  go_wp2_with (at_builtin; refine push_row (w0 := w21.alloc (.cells #[.int .u8 174, .int .u8 174, .int .u8 174] 5)) w18.heap.size rfl (.tmp 95) (.tmp 96) 23 [174, 174, 174] _ 3 3 rfl Try.underlying23 u8_info rfl rfl hO22 hR74 (Below.refl _ _) (Nat.le_trans hs19 hs22) (by rw [HYX.out]; omega) ?_)
  intro v23 w23 hO23 hb23 hg23 _
  have ho23 : Only w20 w23 (rf (.slice A19 k c19)) := ho22.grown hg23 (fun k e => .inl e)
  have hr := hr19.only ho23 (Sep.new hold18 hf19)
  have hB19' : Below w.heap.size w w23 := Below.only hB19 ho23 hB19.size (fun j hj => Nat.le_trans hs018 (hf19 j hj))
  obtain ⟨A', hcut, hA'⟩ := cut_bytes A n cap k hkl hcap
  have HAX := Lib.hid hA'
  have HLAST : Hid (∀ D2 y, rawS ((Rd.new xs).to k) ((n : Int) - (k : Int)) = (D2, y) → D2 = (Rd.new xs).to n ∧ y = xs.drop k) := Lib.hid (fun D2 y h => by
    unfold rawS at h
    rw [if_neg (by show ¬ (0 : Int) ≠ 0; simp), if_neg (by omega), if_neg (by show ¬ ((xs.length : Int) - (k : Int) < (n : Int) - (k : Int)); rw [HL.out]; omega)] at h
    cases h
    refine ⟨?_, ?_⟩
    · show (Rd.new xs).to (k + ((n : Int) - (k : Int)).toNat) = _
      rw [show k + ((n : Int) - (k : Int)).toNat = n by omega]
    · show (xs.drop k).take _ = _
      exact List.take_of_length_le (by rw [List.length_drop, HL.out]; omega))
  have HLFT : Hid ((n : Int) - (((Rd.new xs).to n).at_ : Int) = 0) := Lib.hid (by show (n : Int) - (n : Int) = 0; omega)
  have HDL : Hid ((xs.drop k).length = n - k) := Lib.hid (by rw [List.length_drop, HL.out])
  have hwnk : IntKind.i64.wrap ((n : Int) - (k : Int)) = (n : Int) - (k : Int) := IntWalk.i64_in _ ⟨by omega, by omega⟩
  clear hO23 hb23 hg23 hO22 hO21 hO19 hlb hR74 ho22 ho23 ho21 hr19 hB19 hA' hmx hmn
  have hB19 := hB19'
  clear hB19'
  go_wp2_with fail
  replace hr := hr.drewN 1
  replace hB19 := below_drew hB19
  refine wp_region_held_drew (S := fun _ => True) (by kernel_rfl) (trivial) (fun hHeld => ?_)
  refine wpAnyH_take (i := 0) (v := (.pointer (some ⟨r, 0, none⟩))) (oi := ⟨_, _, _, _, _, _⟩) rfl (by kernel_rfl) (by kernel_rfl) (by kernel_rfl) (fun _ _ _ h => h) (Or.inl ⟨by kernel_rfl, fun W hS => ?_⟩) (by assumption) ?_
  · dsimp only at hS; go_split_ands; go_simp
  simp only [Act.put, List.setIfInBounds_toArray, List.set_cons_zero, List.set_cons_succ]
  refine wpAnyH_take (i := 1) (v := (.slice A n cap)) (oi := ⟨_, _, _, _, _, _⟩) rfl (by kernel_rfl) (by kernel_rfl) (by kernel_rfl) (fun _ _ _ h => h) (Or.inl ⟨by kernel_rfl, fun W hS => ?_⟩) (by assumption) ?_
  · dsimp only at hS; go_split_ands; go_simp
  simp only [Act.put, List.setIfInBounds_toArray, List.set_cons_zero, List.set_cons_succ]
  refine wpAnyH_take (i := 2) (v := (.int .i64 (n : Int))) (oi := ⟨_, _, _, _, _, _⟩) rfl (by kernel_rfl) (by kernel_rfl) (by kernel_rfl) (fun _ _ _ h => h) (Or.inl ⟨by kernel_rfl, fun W hS => ?_⟩) (by assumption) ?_
  · dsimp only at hS; go_split_ands; go_simp
  simp only [Act.put, List.setIfInBounds_toArray, List.set_cons_zero, List.set_cons_succ]
  refine wpAnyH_take (i := 3) (v := (.int .i64 (k : Int))) (oi := ⟨_, _, _, _, _, _⟩) rfl (by kernel_rfl) (by kernel_rfl) (by kernel_rfl) (fun _ _ _ h => h) (Or.inl ⟨by kernel_rfl, fun W hS => ?_⟩) (by assumption) ?_
  · dsimp only at hS; go_split_ands; go_simp
  simp only [Act.put, List.setIfInBounds_toArray, List.set_cons_zero, List.set_cons_succ]
  refine wpAnyH_take (i := 4) (v := (.int .i64 ((n : Int) - (k : Int)))) (oi := ⟨_, _, _, _, _, _⟩) rfl (by kernel_rfl) (by kernel_rfl) (by kernel_rfl) (fun _ _ _ h => h) (Or.inl ⟨by kernel_rfl, fun W hS => ?_⟩) (by assumption) ?_
  · dsimp only at hS; go_split_ands; go_simp
  simp only [Act.put, List.setIfInBounds_toArray, List.set_cons_zero, List.set_cons_succ]
  refine wpAnyH_take (i := 6) (v := (.slice A n cap)) (oi := ⟨_, _, _, _, _, _⟩) rfl (by kernel_rfl) (by kernel_rfl) (by kernel_rfl) (fun _ _ _ h => h) (Or.inl ⟨by kernel_rfl, fun W hS => ?_⟩) (by assumption) ?_
  · dsimp only at hS; go_split_ands; go_simp
  simp only [Act.put, List.setIfInBounds_toArray, List.set_cons_zero, List.set_cons_succ]
  refine wpAnyH_take (i := 7) (v := (.int .i64 (k : Int))) (oi := ⟨_, _, _, _, _, _⟩) rfl (by kernel_rfl) (by kernel_rfl) (by kernel_rfl) (fun _ _ _ h => h) (Or.inl ⟨by kernel_rfl, fun W hS => ?_⟩) (by assumption) ?_
  · dsimp only at hS; go_split_ands; go_simp
  simp only [Act.put, List.setIfInBounds_toArray, List.set_cons_zero, List.set_cons_succ]
  refine wpAnyH_take (i := 8) (v := (.slice A' (n - k) (cap - k))) (oi := ⟨_, _, _, _, _, _⟩) rfl (by kernel_rfl) (by kernel_rfl) (by kernel_rfl) (fun _ _ _ h => h) (Or.inl ⟨by kernel_rfl, fun W hS => ?_⟩) (by assumption) ?_
  · dsimp only at hS; go_split_ands; go_simp
  simp only [Act.put, List.setIfInBounds_toArray, List.set_cons_zero, List.set_cons_succ]
  refine wpAnyH_ready (rs := [5]) (by kernel_rfl) (by decide) (AllReadyH.cons (o := ⟨_, _, _, _, _, _⟩) rfl (fun K hK => ?_) AllReadyH.nil)
  rw [if_pos (by kernel_rfl)]
  go_simp
  refine (Raw_any hr ((n : Int) - (k : Int)) (by omega)).mono ?_
  rintro e w20 ⟨D2, v20, y20, rfl, HR2, hO20, hr20, ho20⟩
  obtain ⟨rfl, rfl⟩ := HLAST.out _ _ HR2.out
  obtain ⟨A20, c20, rfl, hR20, _⟩ := hO20.reads'
  rw [HDL.out] at hR20 ⊢
  have hB20 := Below.only hB19 ho20 hB19.size (fun j e => by rw [e]; exact hrg)
  have hxd := HAX.out _ _ (hx.below hB20)
  go_wp2_with fail
  refine hK.out _ _ (trivial) (fun hHeld => ?_)
  clear hK K
  try simp only [Act.put, List.setIfInBounds_toArray, List.set_cons_zero, List.set_cons_succ]
  refine wpAnyH_ready (rs := [9]) (by kernel_rfl) (by decide) (AllReadyH.cons (o := ⟨_, _, _, _, _, _⟩) rfl (fun K hK => ?_) AllReadyH.nil)
  rw [if_pos (by kernel_rfl)]
  go_simp
  refine (Equal_same hR20 hxd rfl).mono ?_
  rintro e w21 ⟨rfl, rfl⟩
  go_wp2_with fail
  refine hK.out _ _ (trivial) (fun hHeld => ?_)
  clear hK K
  try simp only [Act.put, List.setIfInBounds_toArray, List.set_cons_zero, List.set_cons_succ]
  refine wpAnyH_take (i := 10) (v := (.bool true)) (oi := ⟨_, _, _, _, _, _⟩) rfl (by kernel_rfl) (by kernel_rfl) (by kernel_rfl) (fun _ _ _ h => h) (Or.inl ⟨by kernel_rfl, fun W hS => ?_⟩) (by assumption) ?_
  · dsimp only at hS; go_split_ands; go_simp
  simp only [Act.put, List.setIfInBounds_toArray, List.set_cons_zero, List.set_cons_succ]
  refine wpAnyH_take (i := 11) (v := (.pointer (some ⟨r, 0, none⟩))) (oi := ⟨_, _, _, _, _, _⟩) rfl (by kernel_rfl) (by kernel_rfl) (by kernel_rfl) (fun _ _ _ h => h) (Or.inl ⟨by kernel_rfl, fun W hS => ?_⟩) (by assumption) ?_
  · dsimp only at hS; go_split_ands; go_simp
  simp only [Act.put, List.setIfInBounds_toArray, List.set_cons_zero, List.set_cons_succ]
  refine wpAnyH_ready (rs := [12]) (by kernel_rfl) (by decide) (AllReadyH.cons (o := ⟨_, _, _, _, _, _⟩) rfl (fun K hK => ?_) AllReadyH.nil)
  rw [if_pos (by kernel_rfl)]
  go_simp
  refine (Left_any hr20).mono ?_
  rintro e w22 ⟨rfl, kq, rfl⟩
  have hB22 := pw_below_drewN hB20 kq
  rw [HLFT.out]
  go_wp2_with fail
  refine hK.out _ _ (trivial) (fun hHeld => ?_)
  clear hK K
  try simp only [Act.put, List.setIfInBounds_toArray, List.set_cons_zero, List.set_cons_succ]
  refine wpAnyH_take (i := 13) (v := (.bool true)) (oi := ⟨_, _, _, _, _, _⟩) rfl (by kernel_rfl) (by kernel_rfl) (by kernel_rfl) (fun _ _ _ h => h) (Or.inl ⟨by kernel_rfl, fun W hS => ?_⟩) (by assumption) ?_
  · dsimp only at hS; go_split_ands; go_simp
  simp only [Act.put, List.setIfInBounds_toArray, List.set_cons_zero, List.set_cons_succ]
  refine wpAnyH_take (i := 14) (v := (.bool true)) (oi := ⟨_, _, _, _, _, _⟩) rfl (by kernel_rfl) (by kernel_rfl) (by kernel_rfl) (fun _ _ _ h => h) (Or.inl ⟨by kernel_rfl, fun W hS => ?_⟩) (by assumption) ?_
  · dsimp only at hS; go_split_ands; go_simp
  simp only [Act.put, List.setIfInBounds_toArray, List.set_cons_zero, List.set_cons_succ]
  refine wpAnyH_take (i := 15) (v := (.bool true)) (oi := ⟨_, _, _, _, _, _⟩) rfl (by kernel_rfl) (by kernel_rfl) (by kernel_rfl) (fun _ _ _ h => h) (Or.inl ⟨by kernel_rfl, fun W hS => ?_⟩) (by assumption) ?_
  · dsimp only at hS; go_split_ands; go_simp
  simp only [Act.put, List.setIfInBounds_toArray, List.set_cons_zero, List.set_cons_succ]
  refine wpAnyH_done (by kernel_rfl) ?_ _
  go_wp2_with fail
  go_ret
  exact ⟨rfl, hB22⟩
end Go.Proofs.Ytiadfmbddkcleaa
