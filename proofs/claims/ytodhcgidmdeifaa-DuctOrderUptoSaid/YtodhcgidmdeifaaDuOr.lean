/- The walk of DuctOrder. -/
import Derived.Test.YtodhcgidmdeifaaDuK
import Derived.Test.YtodhcgidmdeifaaMid
namespace Go.Proofs.Ytodhcgidmdeifaa
open Go.RowKit Go.Kit Go.Proofs.YtodhcgidmdeifaaW.PrintWords
theorem RAc.below {w w1 : World} {A : Option Addr} {n : Nat} {L : List Ac} (h : RAc w A n L) (hb : Below w.heap.size w w1) : RAc w1 A n L :=
  ⟨h.len, h.max, fun i hi => by
    obtain ⟨ad, Ai, ni, ci, x, e, h0, h1, h2, h3, hr, hc, hx⟩ := h.at0 i hi
    exact ⟨ad, Ai, ni, ci, x, e, pw_cell_below hb h0, pw_cell_below hb h1, pw_cell_below hb h2, pw_cell_below hb h3, hr.below hb, hc, hx⟩⟩
theorem sep_push {v v1 : Value} {W : World} {F : Nat → Prop} (h : Sep (rf v) F) (hF : Old W F) (hb : v1.ownBlock = v.ownBlock ∨ ∃ b, v1.ownBlock = some b ∧ W.heap.size ≤ b) : Sep (rf v1) F := fun k hk hf => by
  rcases hb with e | ⟨b, e, hb⟩
  · exact h k (by unfold rf at hk ⊢; rw [← e]; exact hk) hf
  · unfold rf at hk
    rw [e] at hk
    cases hk
    have := hF _ hf
    omega
theorem sep_ne {v u : Value} (h : Sep (rf v) (rf u)) : u.ownBlock = none ∨ u.ownBlock ≠ v.ownBlock := by
  cases hu : u.ownBlock with
  | none => exact .inl rfl
  | some k =>
    refine .inr (fun e => h k ?_ hu)
    unfold rf; rw [← e]
theorem sep_nil (F : Nat → Prop) : Sep (rf (.slice none 0 0)) F := fun k hk _ => by cases hk
theorem run_count (a b c d : Int) (W : World) : (binOp .eql 41 (.agg #[.int .i64 a, .int .i64 b, .int .i64 c, .int .i64 d]) (.agg #[.int .i64 a, .int .i64 b, .int .i64 c, .int .i64 d])).run Try.prog W = .ok (.bool true) W := by
  have he : (Op.equalIn 10000 41 (.agg #[.int .i64 a, .int .i64 b, .int .i64 c, .int .i64 d]) (.agg #[.int .i64 a, .int .i64 b, .int .i64 c, .int .i64 d])).run Try.prog W = .ok true W := by go_simp
  simp [run_eql_struct W 41 _ _, he]
theorem unguard {P : Program} {ops : Array Oper} {Q : Exit → Act → World → Prop} {a : Act} {w : World} {rest : List Oper} {o : Oper} (hw : Region.wanted o (yielded ops a.tmps) = true) (h : wpList P ops Q (⟨o.dst, o.op, o.type, o.pos, o.after, none⟩ :: rest) a w) : wpList P ops Q (o :: rest) a w := by
  unfold wpList at h ⊢
  rw [if_pos hw]
  have h0 : Region.wanted (⟨o.dst, o.op, o.type, o.pos, o.after, none⟩ : Oper) (yielded ops a.tmps) = true := rfl
  rw [if_pos h0] at h
  exact h
attribute [-go_sem] run_slice_h run_slice_any
set_option maxHeartbeats 16000000 in
set_option maxRecDepth 100000 in
theorem DuctOrder_walk (r : Int) (A : Option Addr) (np cp : Nat) (L : List Ac) (w : World) (hA : RAc w A np L) (hS : aws L ≤ 1048576) :
    Calls Try.prog 7 #[.int .i64 r, .slice A np cp] w fun e w' => e = .returned (.bool true) ∧ Below w.heap.size w w' := by
  have hmx := hA.max
  have HS := Lib.hid hS
  have HT : Hid (∀ i, aws (L.take i) ≤ 1048576) := Lib.hid (fun i => Nat.le_trans (aws_take L i) hS)
  clear hS
  go_enter Try.func7, Try.ntmps7
  by_cases hroom : 1 ≤ r ∧ r ≤ 4194304
  · go_wp2_with fail
    refine (new_p _ hroom.1 hroom.2 _).mono ?_
    rintro e w1 ⟨d, F, rfl, hD, hF, hb1⟩
    go_wp2_with fail
    go_loopg [7, 8, 36] np (fun gk v7 v8 vi w' => ∃ (i : Nat) (F : Nat → Prop) (D : Dk) (ins outs : List Int), vi = .int .i64 (i : Int) ∧ OB 5 w' w.heap.size v7 ins ∧ OB 5 w' w.heap.size v8 outs ∧ Du w' d F D ∧ (∀ k, F k → w.heap.size ≤ k) ∧ Sep (rf v7) F ∧ Sep (rf v8) F ∧ Sep (rf v7) (rf v8) ∧ Below w.heap.size w w' ∧ Hid (Ord D ins outs r (aws (L.take i))) ∧ Hid (i ≤ np ∧ gk = np - i))
    case atStart => exact ⟨0, F, _, [], [], rfl, OB.nil _ _ _, OB.nil _ _ _, hD, hF, sep_nil _, sep_nil _, sep_nil _, hb1, Ord.new r, by omega, rfl⟩
    case round =>
      clear hD hF hb1
      obtain ⟨i, F, D, ins, outs, rfl, hO7, hO8, hD, hF, s7, s8, s78, hb1, HI, HG⟩ := hrel
      by_cases hi : i < np
      · obtain ⟨ad, Ai, ni, ci, x, rfl, h0, h1, h2, h3, hr, hcap, hx⟩ := hA.at0 i hi
        have hi2 : (i : Int) < (np : Int) := by omega
        obtain ⟨kk, hkk⟩ : ∃ kk, (wrap64 (x.kind.tmod 8 + 8)).tmod 8 = kk := ⟨_, rfl⟩
        have hni : ni ≤ 1048576 := by
          have h := aws_mem (List.mem_of_getElem? hx)
          have h2 := HS.out
          have h3 := hr.len
          unfold aw at h
          omega
        have HSN : Hid (aws (L.take (i + 1)) = aws (L.take i) + aw x) := Lib.hid (aws_snoc hx)
        have HTN := Lib.hid (HT.out (i + 1))
        have hfl : x.parts.flatten.length ≤ 1048576 := by have := HSN.out; have := HTN.out; unfold aw at this; unfold aw at *; omega
        have hba := below_alloc (Below.refl wr.heap.size wr) (.cells #[.int .i64 x.kind, .slice Ai ni ci, .int .i64 x.a, .int .i64 x.b] 54)
        have hbk := heap_alloc_new wr (.cells #[.int .i64 x.kind, .slice Ai ni ci, .int .i64 x.a, .int .i64 x.b] 54)
        have hD0 := hD.below hba
        have hO70 := hO7.below hba
        have hO80 := hO8.below hba
        have hgF : ¬ F wr.heap.size := fun e => absurd (hD.old _ e) (by omega)
        have hb0 := below_step hb1 hba
        have hw1 := hb0.size
        replace h0 := pw_cell_below hb1 h0
        replace h1 := pw_cell_below hb1 h1
        replace h2 := pw_cell_below hb1 h2
        replace h3 := pw_cell_below hb1 h3
        clear hD hO7 hO8 hx
        by_cases k0 : kk = 0
        · subst k0
          have hr0 : ∀ W, Only (wr.alloc (.cells #[.int .i64 x.kind, .slice Ai ni ci, .int .i64 x.a, .int .i64 x.b] 54)) W F → RBc W Ai ni x.parts := fun W ho => hr.below (Below.only hb0 ho hw1 hF)
          go_wp2_with fail
          refine (write_o hD0 HI Ai ni ci x.parts hr0 (by have := HSN.out; have := HTN.out; unfold aw at *; omega)).mono ?_
          rintro e wb ⟨F2, D2, m, xx, rfl, hm, HI2, hD2, ho2, hn2⟩
          have hF2 : ∀ k, F2 k → w.heap.size ≤ k := fun k hk => (hn2 k hk).elim (hF k) (fun e => Nat.le_trans hw1 e)
          have hb2 : Below w.heap.size w wb := Below.only hb0 ho2 hw1 hF
          have hO7 := hO70.only ho2 s7
          have hO8 := hO80.only ho2 s8
          replace s7 := (Sep.onto s7.symm hn2 hO70.old).symm
          replace s8 := (Sep.onto s8.symm hn2 hO80.old).symm
          have hrb := hr.below hb2
          have hkb := ho2.kept hbk hgF
          have q1 := cell_of_row wb _ 1 _ _ _ hkb
          simp only [List.getElem?_toArray, List.getElem?_cons_zero, List.getElem?_cons_succ] at q1
          clear hD0 hO70 hO80 hba hb0 h0 h1 h2 h3 hr0 ho2 hn2 hkb hbk
          go_wp2_with fail
          refine (Join_any hrb hcap (by omega) (by omega)).mono ?_
          rintro e wc ⟨Aj, nj, cj, rfl, hRj, hcj, hbj⟩
          have hnj := hRj.len
          have hmj : m ≤ nj := by omega
          replace hO7 := hO7.below hbj
          replace hO8 := hO8.below hbj
          replace hD2 := hD2.below hbj
          replace hb2 := below_step hb2 hbj
          have hRm := RB.take_ hRj m hmj
          have hhd := head_bytes Aj nj cj m (Nat.le_trans hmj hcj)
          have h7l : ins.length ≤ 1048576 := by have := HI.out.big; have := HT.out i; omega
          have hmn : ¬ ((m : Int) < 0) := by omega
          have hmg : ¬ ((m : Int) > (nj : Int)) := by omega
          clear q1 hbj hrb hRj
          go_wp2_with (at_builtin; refine push_row (w0 := w) w.heap.size rfl (.tmp 65) (.tmp 68) 22 (x.parts.flatten.take m) Aj m cj rfl Try.underlying22 u8_info rfl rfl hO7 hRm hb2 hb2.size (by omega) ?_)
          intro v7b w2 hO7n hb2n hg hat
          have hO8n := hO8.kept hg (sep_ne s78)
          have ho : Only wc w2 (rf u7) := (Only.refl wc _).grown hg (fun k e => .inl e)
          have hD2n := hD2.only ho s7.symm
          have s7n := sep_push s7 hD2.old hat
          have s78n := sep_push s78 hO8.old hat
          have HI3 : Hid (Ord D2 (ins ++ x.parts.flatten.take m) outs r (aws (L.take (i + 1)))) := Lib.hid (HI2.out.more (by have := HSN.out; unfold aw at this; omega))
          clear hO7 hO8 hD2 s7 s78 hb2 hg hat ho hRm hhd
          have hO7 := hO7n
          have hO8 := hO8n
          have hD2 := hD2n
          have s7 := s7n
          have s78 := s78n
          have hb2 := hb2n
          clear hO7n hO8n hD2n s7n s78n hb2n
          go_wp2_with fail
          obtain ⟨I2, hI2⟩ : ∃ l, (ins ++ x.parts.flatten.take m) = l := ⟨_, rfl⟩
          obtain ⟨U2, hU2⟩ : ∃ l, (outs) = l := ⟨_, rfl⟩
          rw [hI2] at hO7 HI3
          rw [hU2] at hO8 HI3
          clear hI2 hU2
          obtain ⟨A7, c7, rfl, hR7, _⟩ := hO7.reads'
          obtain ⟨A8, c8, rfl, hR8, _⟩ := hO8.reads'
          obtain ⟨n7, hn7⟩ : ∃ n, I2.length = n := ⟨_, rfl⟩
          obtain ⟨n8, hn8⟩ : ∃ n, U2.length = n := ⟨_, rfl⟩
          rw [hn7] at hO7 hR7 s7 s78 ⊢
          rw [hn8] at hO8 hR8 s8 s78 ⊢
          obtain ⟨nh, hnh⟩ : ∃ nh, D2.held.length = nh := ⟨_, rfl⟩
          have HNH := Lib.hid hnh
          have hsum : n7 = n8 + nh := by have := HI3.out.sum; omega
          have hbig : n7 ≤ 1048576 := by have := HI3.out.big; have := HTN.out; omega
          have hfit := hD2.fit
          rw [hnh, HI3.out.room] at hfit
          have hgt : ¬ ((nh : Int) > r) := by omega
          have HEQ : Hid (U2 ++ D2.held = I2) := Lib.hid HI3.out.eq.symm
          have hsub : IntKind.i64.wrap ((n7 : Int) - (n8 : Int)) = (nh : Int) := by rw [IntKind.wrap_i64]; omega
          have HSUM := Lib.hid hsum
          have HN8 := Lib.hid hn8
          clear hn7 hn8 hnh hsum hfit
          go_wp2_with fail
          refine (len_p hD2).mono ?_
          rintro e w2 ⟨rfl, rfl⟩
          rw [HNH.out]
          go_wp2_with fail
          refine (len_p hD2).mono ?_
          rintro e w2 ⟨rfl, rfl⟩
          rw [HNH.out]
          go_wp2_with (at_builtin; refine unguard (by simpa [Region.wanted, yielded] using hgt) ?_; refine push_row (w0 := w2) w2.heap.size rfl (.const (.slice none 0 0)) (.tmp 98) 22 U2 A8 n8 c8 rfl Try.underlying22 u8_info rfl rfl (OB.nil _ _ _) hR8 (Below.refl _ _) (Nat.le_refl _) (by simp; have := HSUM.out; omega) ?_)
          intro v9 w9 hO9 hb9 _ _
          have hD9 := hD2.below hb9
          go_wp2_with fail
          refine (peek_p hD9 (n7 : Int) nh (by have := HNH.out; have := HSUM.out; omega)).mono ?_
          rintro e w10 ⟨v10, rfl, hO10, hb10⟩
          have hb11 := below_step hb9 hb10
          have hO9b := hO9.below hb10
          obtain ⟨A10, c10, rfl, hR10, _⟩ := hO10.reads'
          rw [List.take_of_length_le (by rw [HNH.out]; exact Nat.le_refl _), HNH.out] at hR10
          rw [List.take_of_length_le (by rw [HNH.out]; exact Nat.le_refl _), HNH.out]
          clear hO10 hb10 hO9 hD9
          go_wp2_with (at_builtin; refine unguard (by simpa [Region.wanted, yielded] using hgt) ?_; refine push_row (w0 := w2) w2.heap.size rfl (.tmp 99) (.tmp 103) 22 D2.held A10 nh c10 rfl Try.underlying22 u8_info rfl rfl hO9b hR10 hb11 hb11.size (by have := HSUM.out; have := HN8.out; omega) ?_)
          intro v12 w12 hO12 hb12 _ _
          obtain ⟨A12, c12, rfl, hR12, _⟩ := hO12.reads'
          obtain ⟨L12, hL12⟩ : ∃ L, U2 ++ D2.held = L := ⟨_, rfl⟩
          rw [hL12] at hR12 ⊢
          obtain ⟨n12, hn12⟩ : ∃ n, L12.length = n := ⟨_, rfl⟩
          rw [hn12] at hR12 ⊢
          have HE12 : Hid (I2 = L12) := Lib.hid (by rw [← hL12, ← HEQ.out])
          clear hL12 hn12 hO12
          have hR7b := hR7.below hb12
          go_wp2_with fail
          refine (Equal_same hR7b hR12 HE12.out).mono ?_
          rintro e w12 ⟨rfl, rfl⟩
          go_wp2_with fail
          go_roundg (gk - 1)
          case measure => have := HG.out.2; omega
          case rel => exact ⟨i + 1, F2, D2, _, _, by simp, hO7.below hb12, hO8.below hb12, hD2.below hb12, hF2, s7, s8, s78, below_step hb2 hb12, HI3, by omega, by have := HG.out.2; omega⟩
        by_cases k1 : kk = 1
        · subst k1
          go_wp2_with fail
          refine (read_o hD0 HI (HT.out i) x.a).mono ?_
          rintro e wb ⟨v10, F2, D2, ys, rfl, hOy, hyl, HI2, hD2, ho2, hn2, hsy⟩
          have hF2 : ∀ k, F2 k → w.heap.size ≤ k := fun k hk => (hn2 k hk).elim (hF k) (fun e => Nat.le_trans hw1 e)
          have hb2 : Below w.heap.size w wb := Below.only hb0 ho2 hw1 hF
          have hO7 := hO70.only ho2 s7
          have hO8 := hO80.only ho2 s8
          replace s7 := (Sep.onto s7.symm hn2 hO70.old).symm
          replace s8 := (Sep.onto s8.symm hn2 hO80.old).symm
          obtain ⟨Ay, cy, rfl, hRy, _⟩ := hOy.reads'
          obtain ⟨ny, hny⟩ : ∃ n, ys.length = n := ⟨_, rfl⟩
          rw [hny] at hRy hOy hsy hyl ⊢
          have hlo : outs.length ≤ 1048576 := by have := HI.out.sum; have := HI.out.big; have := HT.out i; omega
          clear hD0 hO70 hO80 hba hb0 h0 h1 h2 h3 ho2 hn2 hbk hOy hny
          go_wp2_with (at_builtin; refine push_row (w0 := w) w.heap.size rfl (.tmp 72) (.tmp 76) 22 ys Ay ny cy rfl Try.underlying22 u8_info rfl rfl hO8 hRy hb2 hb2.size (by omega) ?_)
          intro v8b w2 hO8n hb2n hg hat
          have hO7n := hO7.kept hg (sep_ne s78.symm)
          have ho : Only wb w2 (rf u8) := (Only.refl wb _).grown hg (fun k e => .inl e)
          have hD2n := hD2.only ho s8.symm
          have s8n := sep_push s8 hD2.old hat
          have s78n := (sep_push s78.symm hO7.old hat).symm
          have HI3 : Hid (Ord D2 ins (outs ++ ys) r (aws (L.take (i + 1)))) := Lib.hid (HI2.out.more (by have := HSN.out; omega))
          clear hO7 hO8 hD2 s8 s78 hb2 hg hat ho hRy hsy
          have hO7 := hO7n
          have hO8 := hO8n
          have hD2 := hD2n
          have s8 := s8n
          have s78 := s78n
          have hb2 := hb2n
          clear hO7n hO8n hD2n s8n s78n hb2n
          go_wp2_with fail
          obtain ⟨I2, hI2⟩ : ∃ l, (ins) = l := ⟨_, rfl⟩
          obtain ⟨U2, hU2⟩ : ∃ l, (outs ++ ys) = l := ⟨_, rfl⟩
          rw [hI2] at hO7 HI3
          rw [hU2] at hO8 HI3
          clear hI2 hU2
          obtain ⟨A7, c7, rfl, hR7, _⟩ := hO7.reads'
          obtain ⟨A8, c8, rfl, hR8, _⟩ := hO8.reads'
          obtain ⟨n7, hn7⟩ : ∃ n, I2.length = n := ⟨_, rfl⟩
          obtain ⟨n8, hn8⟩ : ∃ n, U2.length = n := ⟨_, rfl⟩
          rw [hn7] at hO7 hR7 s7 s78 ⊢
          rw [hn8] at hO8 hR8 s8 s78 ⊢
          obtain ⟨nh, hnh⟩ : ∃ nh, D2.held.length = nh := ⟨_, rfl⟩
          have HNH := Lib.hid hnh
          have hsum : n7 = n8 + nh := by have := HI3.out.sum; omega
          have hbig : n7 ≤ 1048576 := by have := HI3.out.big; have := HTN.out; omega
          have hfit := hD2.fit
          rw [hnh, HI3.out.room] at hfit
          have hgt : ¬ ((nh : Int) > r) := by omega
          have HEQ : Hid (U2 ++ D2.held = I2) := Lib.hid HI3.out.eq.symm
          have hsub : IntKind.i64.wrap ((n7 : Int) - (n8 : Int)) = (nh : Int) := by rw [IntKind.wrap_i64]; omega
          have HSUM := Lib.hid hsum
          have HN8 := Lib.hid hn8
          clear hn7 hn8 hnh hsum hfit
          go_wp2_with fail
          refine (len_p hD2).mono ?_
          rintro e w2 ⟨rfl, rfl⟩
          rw [HNH.out]
          go_wp2_with fail
          refine (len_p hD2).mono ?_
          rintro e w2 ⟨rfl, rfl⟩
          rw [HNH.out]
          go_wp2_with (at_builtin; refine unguard (by simpa [Region.wanted, yielded] using hgt) ?_; refine push_row (w0 := w2) w2.heap.size rfl (.const (.slice none 0 0)) (.tmp 98) 22 U2 A8 n8 c8 rfl Try.underlying22 u8_info rfl rfl (OB.nil _ _ _) hR8 (Below.refl _ _) (Nat.le_refl _) (by simp; have := HSUM.out; omega) ?_)
          intro v9 w9 hO9 hb9 _ _
          have hD9 := hD2.below hb9
          go_wp2_with fail
          refine (peek_p hD9 (n7 : Int) nh (by have := HNH.out; have := HSUM.out; omega)).mono ?_
          rintro e w10 ⟨v10, rfl, hO10, hb10⟩
          have hb11 := below_step hb9 hb10
          have hO9b := hO9.below hb10
          obtain ⟨A10, c10, rfl, hR10, _⟩ := hO10.reads'
          rw [List.take_of_length_le (by rw [HNH.out]; exact Nat.le_refl _), HNH.out] at hR10
          rw [List.take_of_length_le (by rw [HNH.out]; exact Nat.le_refl _), HNH.out]
          clear hO10 hb10 hO9 hD9
          go_wp2_with (at_builtin; refine unguard (by simpa [Region.wanted, yielded] using hgt) ?_; refine push_row (w0 := w2) w2.heap.size rfl (.tmp 99) (.tmp 103) 22 D2.held A10 nh c10 rfl Try.underlying22 u8_info rfl rfl hO9b hR10 hb11 hb11.size (by have := HSUM.out; have := HN8.out; omega) ?_)
          intro v12 w12 hO12 hb12 _ _
          obtain ⟨A12, c12, rfl, hR12, _⟩ := hO12.reads'
          obtain ⟨L12, hL12⟩ : ∃ L, U2 ++ D2.held = L := ⟨_, rfl⟩
          rw [hL12] at hR12 ⊢
          obtain ⟨n12, hn12⟩ : ∃ n, L12.length = n := ⟨_, rfl⟩
          rw [hn12] at hR12 ⊢
          have HE12 : Hid (I2 = L12) := Lib.hid (by rw [← hL12, ← HEQ.out])
          clear hL12 hn12 hO12
          have hR7b := hR7.below hb12
          go_wp2_with fail
          refine (Equal_same hR7b hR12 HE12.out).mono ?_
          rintro e w12 ⟨rfl, rfl⟩
          go_wp2_with fail
          go_roundg (gk - 1)
          case measure => have := HG.out.2; omega
          case rel => exact ⟨i + 1, F2, D2, _, _, by simp, hO7.below hb12, hO8.below hb12, hD2.below hb12, hF2, s7, s8, s78, below_step hb2 hb12, HI3, by omega, by have := HG.out.2; omega⟩
        by_cases k5 : kk = 5
        · subst k5
          go_wp2_with fail
          refine (shut_p hD0).mono ?_
          rintro e w2 ⟨rfl, hD2, ho2⟩
          generalize (if D.shut then (91 : Int) else 0) = sv
          have hF2 := hF
          have hb2 : Below w.heap.size w w2 := Below.only hb0 ho2 hw1 hF
          have hO7 := hO70.only ho2 s7
          have hO8 := hO80.only ho2 s8
          have HI3 : Hid (Ord { D with shut := true } ins outs r (aws (L.take (i + 1)))) := Lib.hid ((HI.out.shut true).more (by have := HSN.out; omega))
          obtain ⟨F2, hFF⟩ : ∃ F2, F = F2 := ⟨_, rfl⟩
          rw [hFF] at hD2 hF2 s7 s8
          obtain ⟨D2, hDD⟩ : ∃ D2 : Dk, { D with shut := true } = D2 := ⟨_, rfl⟩
          rw [hDD] at hD2 HI3
          clear hD0 hO70 hO80 hba hb0 h0 h1 h2 h3 ho2 hbk
          go_wp2_with fail
          obtain ⟨I2, hI2⟩ : ∃ l, (ins) = l := ⟨_, rfl⟩
          obtain ⟨U2, hU2⟩ : ∃ l, (outs) = l := ⟨_, rfl⟩
          rw [hI2] at hO7 HI3
          rw [hU2] at hO8 HI3
          clear hI2 hU2
          obtain ⟨A7, c7, rfl, hR7, _⟩ := hO7.reads'
          obtain ⟨A8, c8, rfl, hR8, _⟩ := hO8.reads'
          obtain ⟨n7, hn7⟩ : ∃ n, I2.length = n := ⟨_, rfl⟩
          obtain ⟨n8, hn8⟩ : ∃ n, U2.length = n := ⟨_, rfl⟩
          rw [hn7] at hO7 hR7 s7 s78 ⊢
          rw [hn8] at hO8 hR8 s8 s78 ⊢
          obtain ⟨nh, hnh⟩ : ∃ nh, D2.held.length = nh := ⟨_, rfl⟩
          have HNH := Lib.hid hnh
          have hsum : n7 = n8 + nh := by have := HI3.out.sum; omega
          have hbig : n7 ≤ 1048576 := by have := HI3.out.big; have := HTN.out; omega
          have hfit := hD2.fit
          rw [hnh, HI3.out.room] at hfit
          have hgt : ¬ ((nh : Int) > r) := by omega
          have HEQ : Hid (U2 ++ D2.held = I2) := Lib.hid HI3.out.eq.symm
          have hsub : IntKind.i64.wrap ((n7 : Int) - (n8 : Int)) = (nh : Int) := by rw [IntKind.wrap_i64]; omega
          have HSUM := Lib.hid hsum
          have HN8 := Lib.hid hn8
          clear hn7 hn8 hnh hsum hfit
          go_wp2_with fail
          refine (len_p hD2).mono ?_
          rintro e w2 ⟨rfl, rfl⟩
          rw [HNH.out]
          go_wp2_with fail
          refine (len_p hD2).mono ?_
          rintro e w2 ⟨rfl, rfl⟩
          rw [HNH.out]
          go_wp2_with (at_builtin; refine unguard (by simpa [Region.wanted, yielded] using hgt) ?_; refine push_row (w0 := w2) w2.heap.size rfl (.const (.slice none 0 0)) (.tmp 98) 22 U2 A8 n8 c8 rfl Try.underlying22 u8_info rfl rfl (OB.nil _ _ _) hR8 (Below.refl _ _) (Nat.le_refl _) (by simp; have := HSUM.out; omega) ?_)
          intro v9 w9 hO9 hb9 _ _
          have hD9 := hD2.below hb9
          go_wp2_with fail
          refine (peek_p hD9 (n7 : Int) nh (by have := HNH.out; have := HSUM.out; omega)).mono ?_
          rintro e w10 ⟨v10, rfl, hO10, hb10⟩
          have hb11 := below_step hb9 hb10
          have hO9b := hO9.below hb10
          obtain ⟨A10, c10, rfl, hR10, _⟩ := hO10.reads'
          rw [List.take_of_length_le (by rw [HNH.out]; exact Nat.le_refl _), HNH.out] at hR10
          rw [List.take_of_length_le (by rw [HNH.out]; exact Nat.le_refl _), HNH.out]
          clear hO10 hb10 hO9 hD9
          go_wp2_with (at_builtin; refine unguard (by simpa [Region.wanted, yielded] using hgt) ?_; refine push_row (w0 := w2) w2.heap.size rfl (.tmp 99) (.tmp 103) 22 D2.held A10 nh c10 rfl Try.underlying22 u8_info rfl rfl hO9b hR10 hb11 hb11.size (by have := HSUM.out; have := HN8.out; omega) ?_)
          intro v12 w12 hO12 hb12 _ _
          obtain ⟨A12, c12, rfl, hR12, _⟩ := hO12.reads'
          obtain ⟨L12, hL12⟩ : ∃ L, U2 ++ D2.held = L := ⟨_, rfl⟩
          rw [hL12] at hR12 ⊢
          obtain ⟨n12, hn12⟩ : ∃ n, L12.length = n := ⟨_, rfl⟩
          rw [hn12] at hR12 ⊢
          have HE12 : Hid (I2 = L12) := Lib.hid (by rw [← hL12, ← HEQ.out])
          clear hL12 hn12 hO12
          have hR7b := hR7.below hb12
          go_wp2_with fail
          refine (Equal_same hR7b hR12 HE12.out).mono ?_
          rintro e w12 ⟨rfl, rfl⟩
          go_wp2_with fail
          go_roundg (gk - 1)
          case measure => have := HG.out.2; omega
          case rel => exact ⟨i + 1, F2, D2, _, _, by simp, hO7.below hb12, hO8.below hb12, hD2.below hb12, hF2, s7, s8, s78, below_step hb2 hb12, HI3, by omega, by have := HG.out.2; omega⟩
        replace k0 := beq_eq_false_iff_ne.2 k0
        replace k1 := beq_eq_false_iff_ne.2 k1
        replace k5 := beq_eq_false_iff_ne.2 k5
        go_wp2_with fail
        generalize wr.alloc (.cells #[.int .i64 x.kind, .slice Ai ni ci, .int .i64 x.a, .int .i64 x.b] 54) = w2 at *
        have HI3 : Hid (Ord D ins outs r (aws (L.take (i + 1)))) := Lib.hid (HI.out.more (by have := HSN.out; omega))
        obtain ⟨F2, hFF⟩ : ∃ F2, F = F2 := ⟨_, rfl⟩
        rw [hFF] at hD0 hF s7 s8
        obtain ⟨D2, hDD⟩ : ∃ D2 : Dk, D = D2 := ⟨_, rfl⟩
        rw [hDD] at hD0 HI3
        have hF2 := hF
        have hD2 := hD0
        have hO7 := hO70
        have hO8 := hO80
        have hb2 := hb0
        clear hD0 hO70 hO80 hba hb0 h0 h1 h2 h3 hbk
        obtain ⟨I2, hI2⟩ : ∃ l, (ins) = l := ⟨_, rfl⟩
        obtain ⟨U2, hU2⟩ : ∃ l, (outs) = l := ⟨_, rfl⟩
        rw [hI2] at hO7 HI3
        rw [hU2] at hO8 HI3
        clear hI2 hU2
        obtain ⟨A7, c7, rfl, hR7, _⟩ := hO7.reads'
        obtain ⟨A8, c8, rfl, hR8, _⟩ := hO8.reads'
        obtain ⟨n7, hn7⟩ : ∃ n, I2.length = n := ⟨_, rfl⟩
        obtain ⟨n8, hn8⟩ : ∃ n, U2.length = n := ⟨_, rfl⟩
        rw [hn7] at hO7 hR7 s7 s78 ⊢
        rw [hn8] at hO8 hR8 s8 s78 ⊢
        obtain ⟨nh, hnh⟩ : ∃ nh, D2.held.length = nh := ⟨_, rfl⟩
        have HNH := Lib.hid hnh
        have hsum : n7 = n8 + nh := by have := HI3.out.sum; omega
        have hbig : n7 ≤ 1048576 := by have := HI3.out.big; have := HTN.out; omega
        have hfit := hD2.fit
        rw [hnh, HI3.out.room] at hfit
        have hgt : ¬ ((nh : Int) > r) := by omega
        have HEQ : Hid (U2 ++ D2.held = I2) := Lib.hid HI3.out.eq.symm
        have hsub : IntKind.i64.wrap ((n7 : Int) - (n8 : Int)) = (nh : Int) := by rw [IntKind.wrap_i64]; omega
        have HSUM := Lib.hid hsum
        have HN8 := Lib.hid hn8
        clear hn7 hn8 hnh hsum hfit
        go_wp2_with fail
        refine (len_p hD2).mono ?_
        rintro e w2 ⟨rfl, rfl⟩
        rw [HNH.out]
        go_wp2_with fail
        refine (len_p hD2).mono ?_
        rintro e w2 ⟨rfl, rfl⟩
        rw [HNH.out]
        go_wp2_with (at_builtin; refine unguard (by simpa [Region.wanted, yielded] using hgt) ?_; refine push_row (w0 := w2) w2.heap.size rfl (.const (.slice none 0 0)) (.tmp 98) 22 U2 A8 n8 c8 rfl Try.underlying22 u8_info rfl rfl (OB.nil _ _ _) hR8 (Below.refl _ _) (Nat.le_refl _) (by simp; have := HSUM.out; omega) ?_)
        intro v9 w9 hO9 hb9 _ _
        have hD9 := hD2.below hb9
        go_wp2_with fail
        refine (peek_p hD9 (n7 : Int) nh (by have := HNH.out; have := HSUM.out; omega)).mono ?_
        rintro e w10 ⟨v10, rfl, hO10, hb10⟩
        have hb11 := below_step hb9 hb10
        have hO9b := hO9.below hb10
        obtain ⟨A10, c10, rfl, hR10, _⟩ := hO10.reads'
        rw [List.take_of_length_le (by rw [HNH.out]; exact Nat.le_refl _), HNH.out] at hR10
        rw [List.take_of_length_le (by rw [HNH.out]; exact Nat.le_refl _), HNH.out]
        clear hO10 hb10 hO9 hD9
        go_wp2_with (at_builtin; refine unguard (by simpa [Region.wanted, yielded] using hgt) ?_; refine push_row (w0 := w2) w2.heap.size rfl (.tmp 99) (.tmp 103) 22 D2.held A10 nh c10 rfl Try.underlying22 u8_info rfl rfl hO9b hR10 hb11 hb11.size (by have := HSUM.out; have := HN8.out; omega) ?_)
        intro v12 w12 hO12 hb12 _ _
        obtain ⟨A12, c12, rfl, hR12, _⟩ := hO12.reads'
        obtain ⟨L12, hL12⟩ : ∃ L, U2 ++ D2.held = L := ⟨_, rfl⟩
        rw [hL12] at hR12 ⊢
        obtain ⟨n12, hn12⟩ : ∃ n, L12.length = n := ⟨_, rfl⟩
        rw [hn12] at hR12 ⊢
        have HE12 : Hid (I2 = L12) := Lib.hid (by rw [← hL12, ← HEQ.out])
        clear hL12 hn12 hO12
        have hR7b := hR7.below hb12
        go_wp2_with fail
        refine (Equal_same hR7b hR12 HE12.out).mono ?_
        rintro e w12 ⟨rfl, rfl⟩
        go_wp2_with fail
        go_roundg (gk - 1)
        case measure => have := HG.out.2; omega
        case rel => exact ⟨i + 1, F2, D2, _, _, by simp, hO7.below hb12, hO8.below hb12, hD2.below hb12, hF2, s7, s8, s78, below_step hb2 hb12, HI3, by omega, by have := HG.out.2; omega⟩
      · have hin : np = i := by have := HG.out; omega
        subst hin
        obtain ⟨A7, c7, rfl, hR7, _⟩ := hO7.reads'
        obtain ⟨A8, c8, rfl, hR8, _⟩ := hO8.reads'
        obtain ⟨n7, hn7⟩ : ∃ n, ins.length = n := ⟨_, rfl⟩
        obtain ⟨n8, hn8⟩ : ∃ n, outs.length = n := ⟨_, rfl⟩
        rw [hn7, hn8]
        have hqg : Try.prog.eqGuardType Try.prog.depth 41 = false := by kernel_rfl
        have heq := run_count (n7 : Int) (n8 : Int) 0 0
        have HCV : Hid (countV D = #[.int .i64 (n7 : Int), .int .i64 (n8 : Int), .int .i64 0, .int .i64 0]) := Lib.hid (by
          unfold countV
          rw [HI.out.ci, HI.out.co, HI.out.ct, HI.out.cl, hn7, hn8])
        clear hn7 hn8 hR7 hR8 s7 s8 s78 hO7 hO8
        go_wp2_with fail
        refine (count_p hD).mono ?_
        rintro e w2 ⟨rfl, hb2⟩
        have hb3 := below_step hb1 hb2
        rw [HCV.out]
        go_wp2_with fail
        refine (alive_any _).mono ?_
        rintro e w3 ⟨rfl, hb4⟩
        have hb5 := below_step hb3 hb4
        go_wp2_with fail
        go_ret
        exact ⟨rfl, hb5⟩
  · have HRm := Lib.hid hroom
    by_cases hr1 : r < 1
    · clear hroom
      go_wp2_with fail
      refine (New_bad _ HRm.out _).mono ?_
      rintro e w1 ⟨rfl, rfl⟩
      go_wp2_with fail
      refine (alive_any _).mono ?_
      rintro e w2 ⟨rfl, hb2⟩
      go_wp2_with fail
      go_ret
      exact ⟨rfl, hb2⟩
    · have hr2 : r > 4194304 := by omega
      clear hroom
      go_wp2_with fail
      refine (New_bad _ HRm.out _).mono ?_
      rintro e w1 ⟨rfl, rfl⟩
      go_wp2_with fail
      refine (alive_any _).mono ?_
      rintro e w2 ⟨rfl, hb2⟩
      go_wp2_with fail
      go_ret
      exact ⟨rfl, hb2⟩
end Go.Proofs.Ytodhcgidmdeifaa
