/- The walk of CrcOwn. -/
import Derived.Test.YtjpbanhbdddanaaCrcM
import Derived.Test.YtjpbanhbdddanaaWGuard
namespace Go.Proofs.Ytjpbanhbdddanaa
open Go.RowKit Go.Kit CrcM Go.Proofs.YtjpbanhbdddanaaW.PrintWords

theorem grown_set (W : World) (g j : Nat) (v : Value) : W.grownBy (W.setCell ⟨g, j, none⟩ v) (some g) :=
  ⟨rfl, rfl, rfl, Nat.le_of_eq (World.size_setCell W _ v).symm, fun k _ hk => Below.heap_setCell _ _ _ k (fun e => hk (by rw [e]))⟩
theorem OB.base {e : TypeId} {w : World} {base : Nat} {v : Value} {xs : List Int} (h : OB e w base v xs) (k : Nat) (hk : v.ownBlock = some k) : base ≤ k := by
  rcases h.own.2 with ⟨h1, h2⟩ | ⟨g, cap, cur, h1, hb, _⟩
  · rw [h1] at hk; cases hk
  · rw [h1] at hk; cases hk; exact hb
theorem OB.other {e : TypeId} {w w1 : World} {base g n c : Nat} {xs : List Int} (h : OB e w base (.slice (some ⟨g, 0, none⟩) n c) xs) {row : Option Nat} (hg : w.grownBy w1 row) (hne : row ≠ some g) :
    OB e w1 base (.slice (some ⟨g, 0, none⟩) n c) xs := h.kept hg (.inr (fun e => hne e.symm))
set_option maxHeartbeats 8000000 in
set_option maxRecDepth 100000 in
theorem CrcOwn_walk (A : Option Addr) (len cap : Nat) (xs : List Int) (w : World) (hx : RB w A len xs) (hl : len ≤ 140737488351232) :
    Calls Try.prog 7 #[.slice A len cap] w fun e w' => e = .returned (.bool true) ∧ Below w.heap.size w w' := by
  have HLen := Lib.hid hx.len
  have HOS := Lib.hid (open_sealed xs)
  obtain ⟨i0, hi, hz0, hz1, hz2⟩ := info_parts u8_info
  have hmk := fun W => run_make_rowN 24 5 i0 _ Try.underlying24 hi hz0 0 (len + 16) (by omega) (by rw [hz2]; omega) (by omega) W 0 ((len : Int) + 16) rfl (by simp)
  simp only [hz1, Value.cells, Nat.mul_one, made_u8] at hmk
  clear hi hz0 hz1 hz2
  have hO0 : OB 5 (w.alloc (.cells (nums .u8 (List.replicate (len + 16) 0)).toArray 5)) w.heap.size (.slice (some ⟨w.heap.size, 0, none⟩) 0 (len + 16)) [] :=
    OB.of_block (rest := nums .u8 (List.replicate (len + 16) 0)) (Nat.le_refl _) (heap_alloc_new w _) rfl (by simp [nums]) (by omega) Byt.nil
  have hb0 := below_alloc (Below.refl _ w) (.cells (nums .u8 (List.replicate (len + 16) 0)).toArray 5)
  have hx0 := hx.below hb0
  go_enter Try.func7, Try.ntmps7
  go_wp2_with (at_builtin; refine print_append_row (w0 := w) w.heap.size rfl (.tmp 14) (.tmp 15) 24 5 .u8 1 rfl Try.underlying24 u8_info (by decide) _ [] xs A len cap rfl rfl hO0.own hx0.rd hb0 hb0.size (by simp; omega) ?_)
  intro v1 w1 hown1 hb1 _ _
  have hlit : Byt [1, 2, 3, 4, 5, 6] := by intro x hx; simp at hx; omega
  have hOl := OB.below ⟨hown1, by simpa using hx.byt⟩ (below_alloc (Below.refl _ w1) (.cells (nums .u8 [1, 2, 3, 4, 5, 6]).toArray 5))
  have hbl := below_alloc hb1 (.cells (nums .u8 [1, 2, 3, 4, 5, 6]).toArray 5)
  have hrl := RB.lit w1 [1, 2, 3, 4, 5, 6] hlit (by simp) 5 (0, 0)
  go_wp2_with (at_builtin; refine print_append_row (w0 := w) w.heap.size rfl (.tmp 16) (.tmp 17) 24 5 .u8 1 rfl Try.underlying24 u8_info (by decide) v1 xs [1, 2, 3, 4, 5, 6] _ 6 6 rfl rfl hOl.own hrl.rd hbl hbl.size (by rw [HLen.out]; simp; omega) ?_)
  intro v2 w2 hown2 hb2 _ _
  have hR : OB 5 w2 w.heap.size v2 (xs ++ [1, 2, 3, 4, 5, 6]) := ⟨by simpa using hown2, hx.byt.append hlit⟩
  have hRl : (xs ++ [1, 2, 3, 4, 5, 6]).length = len + 6 := by rw [List.length_append, HLen.out]; rfl
  obtain ⟨gr, cr, rfl, hgr, hgr2⟩ := hR.open_ (by omega)
  rw [hRl] at hR ⊢
  have hcr : len + 6 ≤ cr := by
    obtain ⟨A', c', e, _, h⟩ := hR.reads'
    injection e with e1 e2 e3
    rw [hRl] at h; omega
  clear hown1 hown2 hOl hbl hrl hmk hO0 hb0 hx0 hb1 hRl
  go_wp2_with fail
  have hmine : RB w2 (some ⟨gr, 0, none⟩) len xs := by
    have := RB.take_ (hR.rb (by simp [HLen.out])) len (by omega)
    rwa [List.take_left' HLen.out] at this
  refine (Seal_any _ _ _ xs _ hmine (by omega)).mono ?_
  rintro e w3 ⟨v3, rfl, hOa, hb3⟩
  have hsl := sealed_length xs
  rw [HLen.out] at hsl
  obtain ⟨la, hla⟩ : ∃ l, l = sealed xs := ⟨_, rfl⟩
  rw [← hla] at hOa hsl
  obtain ⟨ga, ca, rfl, hga, hga2⟩ := hOa.open_ (by omega)
  have hmine3 := hmine.below hb3
  have hb13 := below_step hb2 hb3
  replace hR := hR.below hb3
  rw [hsl] at hOa ⊢
  clear hb3 hmine hb2
  go_wp2_with fail
  refine (Seal_any _ _ _ xs _ hmine3 (by omega)).mono ?_
  rintro e w4 ⟨v4, rfl, hOb, hb4⟩
  obtain ⟨lb, hlb⟩ : ∃ l, l = sealed xs := ⟨_, rfl⟩
  have hsb : lb.length = len + 4 := by rw [hlb, ← hla]; exact hsl
  rw [← hlb] at hOb
  obtain ⟨gb, cb, rfl, hgb, hgb2⟩ := hOb.open_ (by omega)
  rw [hsb] at hOb ⊢
  replace hR := hR.below hb4
  replace hOa := hOa.below hb4
  replace hb13 := below_step hb13 hb4
  clear hb4 hmine3
  go_wp2_with fail
  refine (rSeal_any _ _ _ xs _ (hx.below hb13) (by omega)).mono ?_
  rintro e w5 ⟨v5, rfl, hO5, hb5⟩
  obtain ⟨A5, c5, rfl, hr5, _⟩ := hO5.reads'
  replace hR := hR.below hb5
  replace hOa := hOa.below hb5
  replace hOb := hOb.below hb5
  replace hb13 := below_step hb13 hb5
  clear hb5 hO5
  go_wp2_with fail
  refine (Equal_same (hOa.rb hsl.symm) hr5 hla).mono ?_
  rintro e w6 ⟨rfl, rfl⟩
  clear hr5
  go_wp2_with fail
  refine (rSeal_any _ _ _ xs _ (hx.below hb13) (by omega)).mono ?_
  rintro e w7 ⟨v7, rfl, hO7, hb7⟩
  obtain ⟨A7, c7, rfl, hr7, _⟩ := hO7.reads'
  replace hR := hR.below hb7
  replace hOa := hOa.below hb7
  replace hOb := hOb.below hb7
  replace hb13 := below_step hb13 hb7
  clear hb7 hO7
  go_wp2_with fail
  refine (Equal_same (hOb.rb hsb.symm) hr7 hlb).mono ?_
  rintro e w8 ⟨rfl, rfl⟩
  clear hr7
  have HLb := Lib.hid hlb
  clear hlb hla
  go_wp2_with fail
  have hle2 : w.heap.size ≤ w2.heap.size := Nat.le_trans hgr (Nat.le_of_lt hgr2)
  have hab : (some ga : Option Nat) ≠ some gb := by intro h; injection h; omega
  have har : (some ga : Option Nat) ≠ some gr := by intro h; injection h; omega
  have hgaw : w.heap.size ≤ ga := by omega
  replace hOa := hOa.less hle2
  go_loopg [41] (len + 4) (fun gk v41 w' => ∃ (i : Nat) (l : List Int), v41 = .int .i64 (i : Int) ∧ OB 5 w' w.heap.size (.slice (some ⟨ga, 0, none⟩) (len + 4) ca) l ∧ l.length = len + 4 ∧ OB 5 w' w3.heap.size (.slice (some ⟨gb, 0, none⟩) (len + 4) cb) lb ∧ OB 5 w' w.heap.size (.slice (some ⟨gr, 0, none⟩) (len + 6) cr) (xs ++ [1, 2, 3, 4, 5, 6]) ∧ Below w.heap.size w w' ∧ Hid (i ≤ len + 4 ∧ gk = len + 4 - i))
  case atStart => exact ⟨0, la, rfl, hOa, hsl, hOb, hR, hb13, by omega, rfl⟩
  case round =>
    clear hOa hOb hR hb13
    obtain ⟨i, l, rfl, hOa, hll, hOb, hR, hb13, HG⟩ := hrel
    by_cases hi : i < len + 4
    · obtain ⟨x, hc, hf, x0, x1, HX⟩ := hOa.at_ hll.symm i hi
      have hi2 : (i : Int) < (len : Int) + 4 := by omega
      have hgw := grown_set wr ga i (.int .u8 170)
      have hOa2 := hOa.store hll.symm i 170 (by omega) (by omega)
      have hOb2 := OB.other hOb hgw hab
      have hR2 := OB.other hR hgw har
      have hbz2 := below_set (j := i) (v := .int .u8 170) hb13 hgaw
      clear hgw
      go_wp2_with fail
      go_roundg (len + 3 - i)
      case measure => have := HG.out; omega
      case rel => exact ⟨i + 1, _, rfl, hOa2, by rw [List.length_set]; exact hll, hOb2, hR2, hbz2, by omega, by omega⟩
    · obtain ⟨h0, h1⟩ := HG.out
      obtain rfl : i = len + 4 := by omega
      have hlit2 : Byt [171, 172] := by intro x hx; simp at hx; omega
      have hOl := hOa.below (below_alloc (Below.refl _ wr) (.cells (nums .u8 [171, 172]).toArray 5))
      have hObl := hOb.below (below_alloc (Below.refl _ wr) (.cells (nums .u8 [171, 172]).toArray 5))
      have hRl := hR.below (below_alloc (Below.refl _ wr) (.cells (nums .u8 [171, 172]).toArray 5))
      have hbl := below_alloc hb13 (.cells (nums .u8 [171, 172]).toArray 5)
      have hrl := RB.lit wr [171, 172] hlit2 (by simp) 5 (0, 0)
      rw [← hll] at hOl
      clear hOa hOb hR hb13 HG h0 h1
      go_wp2_with (at_builtin; refine print_append_row (w0 := w) w.heap.size rfl (.tmp 48) (.tmp 49) 24 5 .u8 1 rfl Try.underlying24 u8_info (by decide) (.slice (some ⟨ga, 0, none⟩) (len + 4) ca) l [171, 172] _ 2 2 rfl rfl (by rw [← hll]; exact hOl.own) hrl.rd hbl hbl.size (by rw [hll]; simp; omega) ?_)
      intro v9 w9 hown9 hb9 hg9 hat9
      replace hObl := OB.other hObl hg9 hab
      replace hRl := OB.other hRl hg9 har
      clear hown9 hg9 hat9 hbl hrl hOl
      go_wp2_with fail
      obtain ⟨Ab, c', hvb, hrb, hcb⟩ := hObl.reads'
      rw [hsb] at hvb hrb hcb
      injection hvb with e1 e2 e3
      subst e1 e3
      refine (Open_any _ _ _ _ _ hrb hcb (by omega)).mono ?_
      rintro e w10 ⟨v10, y10, e10, rfl, hO10, HR10, hb10⟩
      have hne : ∀ q, q < w9.heap.size → v10.ownBlock ≠ some q := by
        intro q hq h
        have := OB.base hO10 q h; omega
      have hlb9 : gb < w9.heap.size := by
        obtain ⟨g', c'', e, _, h⟩ := hObl.open_ (by omega)
        injection e with e1
        injection e1 with e1
        injection e1 with e1
        rw [e1]; exact h
      have h9r : gr < w9.heap.size := by omega
      have hnb := hne gb hlb9
      have hnr := hne gr h9r
      replace hObl := hObl.below hb10
      replace hRl := hRl.below hb10
      replace hO10 := hO10.less hb9.size
      replace hb9 := below_step hb9 hb10
      have hq := HR10.out.trans (show openR lb = (xs, 0) by rw [HLb.out]; exact HOS.out)
      simp only [Prod.mk.injEq] at hq
      obtain ⟨rfl, rfl⟩ := hq
      clear hrb hcb hb10 hne hlb9 h9r
      obtain ⟨Ac, cc, rfl, hrc, hcc⟩ := hO10.reads'
      rw [HLen.out] at hO10 hrc hcc hnb hnr ⊢
      go_wp2_with fail
      refine (Equal_same hrc (hx.below hb9) rfl).mono ?_
      rintro e w11 ⟨rfl, rfl⟩
      clear hrc
      go_wp2_with fail
      go_loopg [66] len (fun gk v66 w' => ∃ (i : Nat) (l : List Int), v66 = .int .i64 (i : Int) ∧ OB 5 w' w.heap.size (.slice Ac len cc) l ∧ l.length = len ∧ OB 5 w' w3.heap.size (.slice (some ⟨gb, 0, none⟩) (len + 4) cb) lb ∧ OB 5 w' w.heap.size (.slice (some ⟨gr, 0, none⟩) (len + 6) cr) (y10 ++ [1, 2, 3, 4, 5, 6]) ∧ Below w.heap.size w w' ∧ Hid (i ≤ len ∧ gk = len - i))
      case atStart => exact ⟨0, y10, rfl, hO10, HLen.out, hObl, hRl, hb9, by omega, rfl⟩
      case round =>
        clear hO10 hObl hRl hb9
        obtain ⟨i, l, rfl, hO10, hll, hObl, hRl, hb9, HG⟩ := hrel
        by_cases hi : i < len
        · obtain ⟨gc, c'', e, hgc, hgc2⟩ := hO10.open_ (by omega)
          injection e with e1 e2 e3
          subst e1 e3
          clear e2
          obtain ⟨x, hc, hf, x0, x1, HX⟩ := hO10.at_ hll.symm i hi
          have hi2 : (i : Int) < (len : Int) := by omega
          have hgw := grown_set wr gc i (.int .u8 173)
          have hOc2 := hO10.store hll.symm i 173 (by omega) (by omega)
          have hOb2 := OB.other hObl hgw hnb
          have hR2 := OB.other hRl hgw hnr
          have hbz2 := below_set (j := i) (v := .int .u8 173) hb9 hgc
          clear hgw
          go_wp2_with fail
          go_roundg (len - 1 - i)
          case measure => have := HG.out; omega
          case rel => exact ⟨i + 1, _, rfl, hOc2, by rw [List.length_set]; exact hll, hOb2, hR2, hbz2, by omega, by omega⟩
        · obtain ⟨h0, h1⟩ := HG.out
          obtain rfl : i = len := by omega
          have hlit3 : Byt [174, 175, 176, 177] := by intro x hx; simp at hx; omega
          have hOl := hO10.below (below_alloc (Below.refl _ wr) (.cells (nums .u8 [174, 175, 176, 177]).toArray 5))
          have hObm := hObl.below (below_alloc (Below.refl _ wr) (.cells (nums .u8 [174, 175, 176, 177]).toArray 5))
          have hRm := hRl.below (below_alloc (Below.refl _ wr) (.cells (nums .u8 [174, 175, 176, 177]).toArray 5))
          have hbl := below_alloc hb9 (.cells (nums .u8 [174, 175, 176, 177]).toArray 5)
          have hrl := RB.lit wr [174, 175, 176, 177] hlit3 (by simp) 5 (0, 0)
          clear hO10 hObl hRl hb9 HG h0 h1
          go_wp2_with (at_builtin; refine print_append_row (w0 := w) w.heap.size rfl (.tmp 73) (.tmp 74) 24 5 .u8 1 rfl Try.underlying24 u8_info (by decide) (.slice Ac _ cc) l [174, 175, 176, 177] _ 4 4 rfl rfl (by rw [hll]; have := hOl.own; rwa [hll] at this) hrl.rd hbl hbl.size (by rw [hll]; simp; omega) ?_)
          intro v12 w12 hown12 hb12 hg12 hat12
          replace hObm := OB.other hObm hg12 hnb
          replace hRm := OB.other hRm hg12 hnr
          clear hown12 hg12 hat12 hbl hrl hOl
          go_wp2_with fail
          refine (rSeal_any _ _ _ _ _ (hx.below hb12) (by omega)).mono ?_
          rintro e w13 ⟨v13, rfl, hO13, hb13⟩
          obtain ⟨A13, c13, rfl, hr13, _⟩ := hO13.reads'
          replace hObm := hObm.below hb13
          replace hRm := hRm.below hb13
          replace hb12 := below_step hb12 hb13
          clear hO13 hb13
          go_wp2_with fail
          refine (Equal_same (hObm.rb hsb.symm) hr13 HLb.out).mono ?_
          rintro e w14 ⟨rfl, rfl⟩
          clear hr13 hObm
          go_wp2_with (at_builtin; refine gate_guard rfl ?_; refine print_append_row (w0 := w14) w14.heap.size rfl (.const (.slice none 0 0)) (.tmp 82) 24 5 .u8 1 rfl Try.underlying24 u8_info (by decide) (.slice none 0 0) [] _ A _ cap rfl rfl (own_nil w14 _ _ _) (hx.below hb12).rd (Below.refl _ _) (Nat.le_refl _) (by simp; omega) ?_)
          intro v15 w15 hown15 hb15 _ _
          have hO15 : OB 5 w15 w14.heap.size v15 y10 := ⟨by simpa using hown15, hx.byt⟩
          have hOl := hO15.below (below_alloc (Below.refl _ w15) (.cells (nums .u8 [1, 2, 3, 4, 5, 6]).toArray 5))
          have hbl := below_alloc hb15 (.cells (nums .u8 [1, 2, 3, 4, 5, 6]).toArray 5)
          have hrl := RB.lit w15 [1, 2, 3, 4, 5, 6] hlit (by simp) 5 (0, 0)
          clear hown15 hO15 hb15
          go_wp2_with (at_builtin; refine gate_guard rfl ?_; refine print_append_row (w0 := w14) w14.heap.size rfl (.tmp 83) (.tmp 84) 24 5 .u8 1 rfl Try.underlying24 u8_info (by decide) v15 y10 [1, 2, 3, 4, 5, 6] _ 6 6 rfl rfl hOl.own hrl.rd hbl hbl.size (by rw [hx.len]; simp; omega) ?_)
          intro v16 w16 hown16 hb16 _ _
          have hO16 : OB 5 w16 w14.heap.size v16 (y10 ++ [1, 2, 3, 4, 5, 6]) := ⟨by simpa using hown16, hx.byt.append hlit⟩
          have hl16 : (y10 ++ [1, 2, 3, 4, 5, 6]).length = i + 6 := by rw [List.length_append, hx.len]; rfl
          obtain ⟨A16, c16, rfl, hr16, _⟩ := hO16.reads'
          rw [hl16] at hr16 ⊢
          replace hRm := hRm.below hb16
          replace hb12 := below_step hb12 hb16
          clear hOl hbl hrl hown16 hb16
          go_wp2_with fail
          refine (Equal_same (hRm.rb hl16.symm) hr16 rfl).mono ?_
          rintro e w17 ⟨rfl, rfl⟩
          go_wp2_with fail
          go_ret
          exact ⟨rfl, hb12⟩
end Go.Proofs.Ytjpbanhbdddanaa
