/- The contract of the document's Write. -/
import Derived.Test.YtodhcgidmdeifaaDuL
namespace Go.Proofs.Ytodhcgidmdeifaa
open Go.RowKit Go.Kit Go.Proofs.YtodhcgidmdeifaaW.PrintWords
section
variable {w : World} {q n c : Nat} {A : Option Addr} {D : Dk}
theorem rWrite_shut (h : QS w q A n c D) (hs : D.shut = true) (v : Value) : Calls Try.prog 34 #[.pointer (some ⟨q, 0, none⟩), v] w fun e w' => e = .returned (.tuple #[.int .i64 0, .int .i64 91]) ∧ w' = w := by
  have h1 := h.q2
  rw [hs] at h1
  clear h hs
  go_enter Try.func34, Try.ntmps34
  go_wp2_with fail
  go_ret2
  exact ⟨rfl, rfl⟩
theorem wHeld_all (D : Dk) (n : Nat) (F p : List Int) (k : Nat) (h : k = p.length ∨ D.room.toNat ≤ n + wMuch D n (F ++ p.take k)) : wHeld D n (F ++ p.take k) = wHeld D n (F ++ p) ∧ wMuch D n (F ++ p.take k) = wMuch D n (F ++ p) := by
  rcases h with rfl | h
  · rw [List.take_length]; exact ⟨rfl, rfl⟩
  · unfold wMuch wHeld at *
    rw [List.length_append, List.length_take] at h
    refine ⟨?_, by rw [List.length_append, List.length_append, List.length_take]; omega⟩
    congr 1
    rw [List.take_append, List.take_append]
    congr 1
    rw [List.take_take]
    rcases Nat.le_total (D.room.toNat - n - F.length) k with h1 | h1
    · rw [Nat.min_eq_left h1]
    · rw [Nat.min_eq_right h1, List.take_eq_take_iff]
      omega
theorem wHeld_one (D : Dk) (n : Nat) (F p : List Int) (k : Nat) (x : Int) (hx : p[k]? = some x) (h : n + wMuch D n (F ++ p.take k) < D.room.toNat) : wHeld D n (F ++ p.take k) ++ [x] = wHeld D n (F ++ p.take (k + 1)) ∧ wMuch D n (F ++ p.take k) + 1 = wMuch D n (F ++ p.take (k + 1)) := by
  have e : F ++ p.take (k + 1) = (F ++ p.take k) ++ [x] := by rw [snoc hx, List.append_assoc]
  rw [e]
  generalize F ++ p.take k = G at *
  unfold wMuch wHeld at *
  refine ⟨?_, by rw [List.length_append]; simp; omega⟩
  rw [List.append_assoc, List.take_of_length_le (l := G) (by omega), List.take_of_length_le (by rw [List.length_append]; simp; omega)]
set_option maxHeartbeats 4000000 in
set_option maxRecDepth 100000 in
theorem rWrite_any (h : QS w q A n c D) (hs : D.shut = false) (P : Option Addr) (np cp : Nat) (L : List (List Int)) (hL : ∀ W, Only w W (qf q A n c) → RBc W P np L) :
    Calls Try.prog 34 #[.pointer (some ⟨q, 0, none⟩), .slice P np cp] w fun e w' => ∃ A1 n1 c1, e = .returned (.tuple #[.int .i64 (wMuch D n L.flatten : Nat), .int .i64 0]) ∧ QS w' q A1 n1 c1 (writeD D n L.flatten) ∧ Only w w' (qf q A n c) ∧ Onto w (qf q A n c) (qf q A1 n1 c1) := by
  have h1 := h.q2
  have H := Lib.hid h
  rw [hs] at h1
  have hnp := (hL w (Only.refl _ _)).max
  have HLn := Lib.hid (hL w (Only.refl _ _)).len
  have HL := Lib.hid hL
  have HSh := Lib.hid hs
  clear h hs hL
  go_enter Try.func34, Try.ntmps34
  go_wp2_with fail
  clear h1
  go_loopg [6, 7] np (fun g v6 v7 w' => ∃ (j : Nat) (A1 : Option Addr) (n1 c1 m : Nat), v6 = .int .i64 (m : Int) ∧ v7 = .int .i64 (j : Int) ∧ QS w' q A1 n1 c1 { D with held := wHeld D n (L.take j).flatten } ∧ Only w w' (qf q A n c) ∧ Onto w (qf q A n c) (qf q A1 n1 c1) ∧ Hid (j + g = np) ∧ Hid (m = wMuch D n (L.take j).flatten))
  case atStart => exact ⟨0, A, n, c, 0, rfl, rfl, by have := H.out; unfold wHeld; simpa using this, Only.refl _ _, Onto.refl _ _, by show 0 + np = np; omega, by show 0 = _; simp [wMuch]⟩
  case round =>
    obtain ⟨j, A1, n1, c1, m, rfl, rfl, hS, hO, hN, HG, HM⟩ := hrel
    cases gk with
    | zero =>
      have hj : j = np := by have := HG.out; omega
      subst hj
      rw [List.take_of_length_le (by rw [HLn.out]; exact Nat.le_refl _)] at hS HM
      have h2 := hS.q3
      have h3 := hS.fq 3
      have HS := Lib.hid hS
      clear hS HG
      go_wp2_with fail
      go_ret2
      refine ⟨by rw [← HM.out]; rfl, A1, n1, c1, ?_, ?_, hN⟩
      · unfold writeD; rw [← HM.out]; exact HS.out.setIn _
      · exact hO.set q 3 _ (.inl (.inl rfl))
    | succ g =>
      have hjn : j < np := by have := HG.out; omega
      obtain ⟨ad, Ai, ni, ci, p, rfl, hcell, hrp, HX, hcap⟩ := (HL.out wr hO).at_ j hjn
      have hbj : (j : Int) < (np : Int) := by omega
      have hni := hrp.max
      have HPl := Lib.hid hrp.len
      have HS := Lib.hid hS
      clear hS hcell hrp
      go_wp2_with fail
      go_loopg [6, 8] ni (fun gk2 v6 v8 w' => ∃ (k : Nat) (A1 : Option Addr) (n1 c1 m : Nat), v6 = .int .i64 (m : Int) ∧ v8 = .int .i64 (k : Int) ∧ QS w' q A1 n1 c1 { D with held := wHeld D n ((L.take j).flatten ++ p.take k) } ∧ Only w w' (qf q A n c) ∧ Onto w (qf q A n c) (qf q A1 n1 c1) ∧ Hid (k + gk2 = ni) ∧ Hid (m = wMuch D n ((L.take j).flatten ++ p.take k)))
      case atStart => exact ⟨0, A1, n1, c1, m, rfl, rfl, by simpa using HS.out, hO, hN, by show 0 + ni = ni; omega, by have := HM.out; show m = _; simpa using this⟩
      case round =>
        obtain ⟨k, A2, n2, c2, m2, rfl, rfl, hS2, hO2, hN2, HG2, HM2⟩ := hrel
        obtain ⟨ad2, Ai2, ni2, c3, p2, e1, hcell, hrp, HX2, hcap2⟩ := (HL.out wr hO2).at_ j hjn
        injection e1 with e1
        subst e1
        obtain rfl : p2 = p := Option.some.inj (HX2.out.symm.trans HX.out)
        obtain rfl : ni = ni2 := by rw [← HPl.out, hrp.len]
        obtain ⟨r, hr⟩ : ∃ r : Nat, D.room = (r : Int) := ⟨D.room.toNat, by have := H.out.low; omega⟩
        have HR := Lib.hid hr
        have hfit := hS2.fit
        have htop := hS2.top
        simp only [hr] at hfit htop
        have hn2 : n + wMuch D n ((L.take j).flatten ++ p2.take k) = n2 := by rw [← wHeld_len D n _ H.out.len]; exact hS2.len
        have hmm : m2 ≤ 4194304 := by rw [HM2.out]; unfold wMuch; omega
        have h0 := hS2.q1
        have HS2 := Lib.hid hS2
        have HN2 := Lib.hid hn2
        have HRm : Hid ((if (D.shut : Bool) = true then (0 : Int) else D.room - (n2 : Int)) = (r : Int) - (n2 : Int)) := Lib.hid (by rw [HSh.out, HR.out]; rfl)
        clear hS2 hr hn2
        by_cases hk : k < ni
        · have hk2 : (k : Int) < (ni : Int) := by omega
          by_cases hX : n2 < r
          · have hX2 : (r : Int) - (n2 : Int) > 0 := by omega
            go_wp2_with fail
            refine (rRoom_any HS2.out).mono ?_
            rintro e w6 ⟨rfl, nq, rfl⟩
            rw [HRm.out]
            obtain ⟨ai, x, rfl, hcx, x0, x1, HXx⟩ := hrp.at_ k hk
            have hone := wHeld_one D n (L.take j).flatten p2 k x HXx.out (by rw [HN2.out, HR.out]; omega)
            have HSt := Lib.hid hone.1
            have HMt : Hid (m2 + 1 = wMuch D n ((L.take j).flatten ++ p2.take (k + 1))) := Lib.hid (by rw [HM2.out]; exact hone.2)
            have HL3 : Hid ((wHeld D n ((L.take j).flatten ++ p2.take (k + 1))).length = n2 + 1) := Lib.hid (by rw [← hone.1, List.length_append, HS2.out.len]; rfl)
            have hfr : ((n2 + 1 : Nat) : Int) ≤ D.room := by rw [HR.out]; omega
            have hDd := (HS2.out.drewN nq).drewN 1
            have HDd : Hid (QS (wr.drewN nq).drew q A2 n2 c2 { D with held := wHeld D n ((L.take j).flatten ++ p2.take k) }) := Lib.hid hDd
            have h1d := HDd.out.q1
            have hOd : Only w (wr.drewN nq).drew (qf q A n c) := (hO2.drewN nq).drew
            have hcp : (wr.drewN nq).drew.cell? (ad.add j) = some (.slice (some ai) ni c3) := hcell
            replace hcx : (wr.drewN nq).drew.cell? (ai.add k) = some (.int .u8 x) := hcx
            clear hone hDd hcell hrp h0
            go_wp2_with fail
            refine wp_region_held_drew (S := fun _ => True) (by kernel_rfl) (trivial) (fun hHeld => ?_)
            generalize (wr.drewN nq).drew = wb at *
            refine wpAnyH_take (i := 0) (v := (.pointer (some ⟨q, 0, none⟩))) (oi := ⟨_, _, _, _, _, _⟩) rfl (by kernel_rfl) (by kernel_rfl) (by kernel_rfl) (fun _ _ _ h => h) (Or.inl ⟨by kernel_rfl, fun W hS => ?_⟩) (by assumption) ?_
            · dsimp only at hS; go_split_ands; go_simp
            simp only [Act.put, List.setIfInBounds_toArray, List.set_cons_zero, List.set_cons_succ]
            refine wpAnyH_take (i := 1) (v := (.pointer (some ⟨q, 0, none⟩))) (oi := ⟨_, _, _, _, _, _⟩) rfl (by kernel_rfl) (by kernel_rfl) (by kernel_rfl) (fun _ _ _ h => h) (Or.inl ⟨by kernel_rfl, fun W hS => ?_⟩) (by assumption) ?_
            · dsimp only at hS; go_split_ands; go_simp
            simp only [Act.put, List.setIfInBounds_toArray, List.set_cons_zero, List.set_cons_succ]
            refine wpAnyH_take (i := 2) (v := (.pointer (some ⟨q, 0, none⟩))) (oi := ⟨_, _, _, _, _, _⟩) rfl (by kernel_rfl) (by kernel_rfl) (by kernel_rfl) (fun _ _ _ h => h) (Or.inl ⟨by kernel_rfl, fun W hS => ?_⟩) (by assumption) ?_
            · dsimp only at hS; go_split_ands; go_simp
            simp only [Act.put, List.setIfInBounds_toArray, List.set_cons_zero, List.set_cons_succ]
            refine wpAnyH_take (i := 3) (v := (.pointer (some ⟨q, 1, none⟩))) (oi := ⟨_, _, _, _, _, _⟩) rfl (by kernel_rfl) (by kernel_rfl) (by kernel_rfl) (fun _ _ _ h => h) (Or.inl ⟨by kernel_rfl, fun W hS => ?_⟩) (by assumption) ?_
            · dsimp only at hS; go_split_ands; go_simp
            simp only [Act.put, List.setIfInBounds_toArray, List.set_cons_zero, List.set_cons_succ]
            refine wpAnyH_take (i := 5) (v := (.slice (some ad) np cp)) (oi := ⟨_, _, _, _, _, _⟩) rfl (by kernel_rfl) (by kernel_rfl) (by kernel_rfl) (fun _ _ _ h => h) (Or.inl ⟨by kernel_rfl, fun W hS => ?_⟩) (by assumption) ?_
            · dsimp only at hS; go_split_ands; go_simp
            simp only [Act.put, List.setIfInBounds_toArray, List.set_cons_zero, List.set_cons_succ]
            refine wpAnyH_take (i := 6) (v := (.int .i64 (j : Int))) (oi := ⟨_, _, _, _, _, _⟩) rfl (by kernel_rfl) (by kernel_rfl) (by kernel_rfl) (fun _ _ _ h => h) (Or.inl ⟨by kernel_rfl, fun W hS => ?_⟩) (by assumption) ?_
            · dsimp only at hS; go_split_ands; go_simp
            simp only [Act.put, List.setIfInBounds_toArray, List.set_cons_zero, List.set_cons_succ]
            refine wpAnyH_take (i := 7) (v := (.pointer (some (ad.add j)))) (oi := ⟨_, _, _, _, _, _⟩) rfl (by kernel_rfl) (by kernel_rfl) (by kernel_rfl) (fun _ _ _ h => h) (Or.inl ⟨by kernel_rfl, fun W hS => ?_⟩) (by assumption) ?_
            · dsimp only at hS; go_split_ands; go_simp
            simp only [Act.put, List.setIfInBounds_toArray, List.set_cons_zero, List.set_cons_succ]
            refine wpAnyH_take (i := 9) (v := (.int .i64 (k : Int))) (oi := ⟨_, _, _, _, _, _⟩) rfl (by kernel_rfl) (by kernel_rfl) (by kernel_rfl) (fun _ _ _ h => h) (Or.inl ⟨by kernel_rfl, fun W hS => ?_⟩) (by assumption) ?_
            · dsimp only at hS; go_split_ands; go_simp
            simp only [Act.put, List.setIfInBounds_toArray, List.set_cons_zero, List.set_cons_succ]
            refine wpAnyH_ready (rs := [4, 8]) (by kernel_rfl) (by decide) (AllReadyH.cons (o := ⟨_, _, _, _, _, _⟩) rfl (fun K hK => ?_) (AllReadyH.cons (o := ⟨_, _, _, _, _, _⟩) rfl (fun K hK => ?_) AllReadyH.nil))
            · skip
              rw [if_pos (by kernel_rfl)]
              go_simp
              refine hK.out _ _ (trivial) (fun hHeld => ?_)
              clear hK K
              try simp only [Act.put, List.setIfInBounds_toArray, List.set_cons_zero, List.set_cons_succ]
              refine wpAnyH_ready (rs := [8]) (by kernel_rfl) (by decide) (AllReadyH.cons (o := ⟨_, _, _, _, _, _⟩) rfl (fun K hK => ?_) AllReadyH.nil)
              rw [if_pos (by kernel_rfl)]
              go_simp
              refine hK.out _ _ (trivial) (fun hHeld => ?_)
              clear hK K
              try simp only [Act.put, List.setIfInBounds_toArray, List.set_cons_zero, List.set_cons_succ]
              refine wpAnyH_take (i := 10) (v := (.pointer (some (ai.add k)))) (oi := ⟨_, _, _, _, _, _⟩) rfl (by kernel_rfl) (by kernel_rfl) (by kernel_rfl) (fun _ _ _ h => h) (Or.inl ⟨by kernel_rfl, fun W hS => ?_⟩) (by assumption) ?_
              · dsimp only at hS; go_split_ands; go_simp
              simp only [Act.put, List.setIfInBounds_toArray, List.set_cons_zero, List.set_cons_succ]
              refine wpAnyH_ready (rs := [11]) (by kernel_rfl) (by decide) (AllReadyH.cons (o := ⟨_, _, _, _, _, _⟩) rfl (fun K hK => ?_) AllReadyH.nil)
              rw [if_pos (by kernel_rfl)]
              go_simp
              refine hK.out _ _ (trivial) (fun hHeld => ?_)
              clear hK K
              try simp only [Act.put, List.setIfInBounds_toArray, List.set_cons_zero, List.set_cons_succ]
              refine wpAnyH_ready (rs := [12]) (by kernel_rfl) (by decide) (AllReadyH.cons (o := ⟨_, _, _, _, _, _⟩) rfl (fun K hK => ?_) AllReadyH.nil)
              rw [if_pos (by kernel_rfl)]
              go_simp
              have hbb := below_alloc (Below.refl wb.heap.size wb) (.cells #[.int .u8 x] 5)
              have h1a := pw_cell_below hbb h1d
              have hcpa := pw_cell_below hbb hcp
              have hcxa := pw_cell_below hbb hcx
              have HDa := Lib.hid (HDd.out.below hbb)
              have hrx : RB (wb.alloc (.cells #[.int .u8 x] 5)) (some ⟨wb.heap.size, 0, none⟩) 1 [x] := RB.lit wb [x] (Byt.one x0 x1) (by simp) 5 (0, 0)
              refine hK.out _ _ (trivial) (fun hHeld => ?_)
              clear hK K
              try simp only [Act.put, List.setIfInBounds_toArray, List.set_cons_zero, List.set_cons_succ]
              refine wpAnyH_ready (rs := [13]) (by kernel_rfl) (by decide) (AllReadyH.cons (o := ⟨_, _, _, _, _, _⟩) rfl (fun K hK => ?_) AllReadyH.nil)
              refine at_list rfl ?_; intro Q2 hQ2; at_builtin; refine print_append_row (w0 := (wb.alloc (.cells #[.int .u8 x] 5))) 0 rfl (.tmp 37) (.tmp 45) 22 5 .u8 1 rfl Try.underlying22 u8_info (by decide) (.slice A2 n2 c2) _ [x] _ 1 1 rfl rfl HDa.out.row.own hrx.rd (Below.refl _ _) (by first | exact Nat.le_refl _ | exact Nat.zero_le _) (by rw [HDa.out.len]; omega) ?_; intro v3 w3 hown hb3 hg3 ha3; have hO3 : OB 5 w3 0 v3 (wHeld D n ((L.take j).flatten ++ p2.take (k + 1))) := (by rw [← HSt.out]; exact ⟨hown, HDa.out.row.byt.append hrx.byt⟩); clear hown; obtain ⟨A3, c5, rfl, _, _⟩ := hO3.reads'; rw [HL3.out] at hO3 ha3 ⊢; refine hQ2 _ _ ?_; clear hQ2 Q2
              refine hK.out _ _ (trivial) (fun hHeld => ?_)
              clear hK K
              try simp only [Act.put, List.setIfInBounds_toArray, List.set_cons_zero, List.set_cons_succ]
              refine wpAnyH_take (i := 14) (v := (.pointer (some ⟨q, 0, none⟩))) (oi := ⟨_, _, _, _, _, _⟩) rfl (by kernel_rfl) (by kernel_rfl) (by kernel_rfl) (fun _ _ _ h => h) (Or.inl ⟨by kernel_rfl, fun W hS => ?_⟩) (by assumption) ?_
              · dsimp only at hS; go_split_ands; go_simp
              simp only [Act.put, List.setIfInBounds_toArray, List.set_cons_zero, List.set_cons_succ]
              refine wpAnyH_take (i := 15) (v := (.pointer (some ⟨q, 1, none⟩))) (oi := ⟨_, _, _, _, _, _⟩) rfl (by kernel_rfl) (by kernel_rfl) (by kernel_rfl) (fun _ _ _ h => h) (Or.inl ⟨by kernel_rfl, fun W hS => ?_⟩) (by assumption) ?_
              · dsimp only at hS; go_split_ands; go_simp
              simp only [Act.put, List.setIfInBounds_toArray, List.set_cons_zero, List.set_cons_succ]
              refine wpAnyH_ready (rs := [16]) (by kernel_rfl) (by decide) (AllReadyH.cons (o := ⟨_, _, _, _, _, _⟩) rfl (fun K hK => ?_) AllReadyH.nil)
              have hq3 := HDa.out.grow hg3 (.inr rfl)
              have hb3c := cell_of_row w3 q 1 _ _ _ hq3
              have hf3 := frozen_of_row w3 q 1 _ _ hq3
              simp only [List.getElem?_toArray, List.getElem?_cons_zero, List.getElem?_cons_succ] at hb3c
              rw [if_pos (by kernel_rfl)]
              go_simp
              refine hK.out _ _ (trivial) (fun hHeld => ?_)
              clear hK K
              try simp only [Act.put, List.setIfInBounds_toArray, List.set_cons_zero, List.set_cons_succ]
              refine wpAnyH_done (by kernel_rfl) ?_ _
              have H5 := Lib.hid (HDa.out.setHeld hg3 (.inr rfl) hO3 HL3.out hfr)
              have ho5 : Only w (w3.setCell ⟨q, 1, none⟩ (.slice A3 (n2 + 1) c5)) (qf q A n c) := ((hOd.alloc (.cells #[.int .u8 x] 5)).grown hg3 (fun i e => hN2 i (.inr e))).set q 1 _ (.inl (.inl rfl))
              have hN5 : Onto w (qf q A n c) (qf q A3 (n2 + 1) c5) := by
                rintro i (rfl | hi)
                · exact .inl (.inl rfl)
                · rcases ha3 with e | ⟨b', e, hb'⟩
                  · exact hN2 i (.inr (e.symm.trans hi))
                  · have e1 : b' = i := Option.some.inj (e.symm.trans hi)
                    subst e1
                    exact .inr (Nat.le_trans (Nat.le_trans hOd.size hbb.size) hb')
              clear hg3 ha3 hO3 hOd h1d hcp hcx h1a hcpa hcxa hrx hq3 hb3c hf3
              generalize w3.setCell ⟨q, 1, none⟩ (.slice A3 (n2 + 1) c5) = w5 at *
              go_wp2_with fail
              go_roundg (gk - 1)
              case measure => have := HG2.out; omega
              case rel => exact ⟨k + 1, A3, n2 + 1, c5, m2 + 1, by simp, by simp, H5.out, ho5, hN5, by have := HG2.out; show k + 1 + (gk - 1) = ni; omega, HMt⟩
            · skip
              rw [if_pos (by kernel_rfl)]
              go_simp
              refine hK.out _ _ (trivial) (fun hHeld => ?_)
              clear hK K
              try simp only [Act.put, List.setIfInBounds_toArray, List.set_cons_zero, List.set_cons_succ]
              refine wpAnyH_take (i := 10) (v := (.pointer (some (ai.add k)))) (oi := ⟨_, _, _, _, _, _⟩) rfl (by kernel_rfl) (by kernel_rfl) (by kernel_rfl) (fun _ _ _ h => h) (Or.inl ⟨by kernel_rfl, fun W hS => ?_⟩) (by assumption) ?_
              · dsimp only at hS; go_split_ands; go_simp
              simp only [Act.put, List.setIfInBounds_toArray, List.set_cons_zero, List.set_cons_succ]
              refine wpAnyH_ready (rs := [4, 11]) (by kernel_rfl) (by decide) (AllReadyH.cons (o := ⟨_, _, _, _, _, _⟩) rfl (fun K hK => ?_) (AllReadyH.cons (o := ⟨_, _, _, _, _, _⟩) rfl (fun K hK => ?_) AllReadyH.nil))
              · skip
                rw [if_pos (by kernel_rfl)]
                go_simp
                refine hK.out _ _ (trivial) (fun hHeld => ?_)
                clear hK K
                try simp only [Act.put, List.setIfInBounds_toArray, List.set_cons_zero, List.set_cons_succ]
                refine wpAnyH_ready (rs := [11]) (by kernel_rfl) (by decide) (AllReadyH.cons (o := ⟨_, _, _, _, _, _⟩) rfl (fun K hK => ?_) AllReadyH.nil)
                rw [if_pos (by kernel_rfl)]
                go_simp
                refine hK.out _ _ (trivial) (fun hHeld => ?_)
                clear hK K
                try simp only [Act.put, List.setIfInBounds_toArray, List.set_cons_zero, List.set_cons_succ]
                refine wpAnyH_ready (rs := [12]) (by kernel_rfl) (by decide) (AllReadyH.cons (o := ⟨_, _, _, _, _, _⟩) rfl (fun K hK => ?_) AllReadyH.nil)
                rw [if_pos (by kernel_rfl)]
                go_simp
                have hbb := below_alloc (Below.refl wb.heap.size wb) (.cells #[.int .u8 x] 5)
                have h1a := pw_cell_below hbb h1d
                have hcpa := pw_cell_below hbb hcp
                have hcxa := pw_cell_below hbb hcx
                have HDa := Lib.hid (HDd.out.below hbb)
                have hrx : RB (wb.alloc (.cells #[.int .u8 x] 5)) (some ⟨wb.heap.size, 0, none⟩) 1 [x] := RB.lit wb [x] (Byt.one x0 x1) (by simp) 5 (0, 0)
                refine hK.out _ _ (trivial) (fun hHeld => ?_)
                clear hK K
                try simp only [Act.put, List.setIfInBounds_toArray, List.set_cons_zero, List.set_cons_succ]
                refine wpAnyH_ready (rs := [13]) (by kernel_rfl) (by decide) (AllReadyH.cons (o := ⟨_, _, _, _, _, _⟩) rfl (fun K hK => ?_) AllReadyH.nil)
                refine at_list rfl ?_; intro Q2 hQ2; at_builtin; refine print_append_row (w0 := (wb.alloc (.cells #[.int .u8 x] 5))) 0 rfl (.tmp 37) (.tmp 45) 22 5 .u8 1 rfl Try.underlying22 u8_info (by decide) (.slice A2 n2 c2) _ [x] _ 1 1 rfl rfl HDa.out.row.own hrx.rd (Below.refl _ _) (by first | exact Nat.le_refl _ | exact Nat.zero_le _) (by rw [HDa.out.len]; omega) ?_; intro v3 w3 hown hb3 hg3 ha3; have hO3 : OB 5 w3 0 v3 (wHeld D n ((L.take j).flatten ++ p2.take (k + 1))) := (by rw [← HSt.out]; exact ⟨hown, HDa.out.row.byt.append hrx.byt⟩); clear hown; obtain ⟨A3, c5, rfl, _, _⟩ := hO3.reads'; rw [HL3.out] at hO3 ha3 ⊢; refine hQ2 _ _ ?_; clear hQ2 Q2
                refine hK.out _ _ (trivial) (fun hHeld => ?_)
                clear hK K
                try simp only [Act.put, List.setIfInBounds_toArray, List.set_cons_zero, List.set_cons_succ]
                refine wpAnyH_take (i := 14) (v := (.pointer (some ⟨q, 0, none⟩))) (oi := ⟨_, _, _, _, _, _⟩) rfl (by kernel_rfl) (by kernel_rfl) (by kernel_rfl) (fun _ _ _ h => h) (Or.inl ⟨by kernel_rfl, fun W hS => ?_⟩) (by assumption) ?_
                · dsimp only at hS; go_split_ands; go_simp
                simp only [Act.put, List.setIfInBounds_toArray, List.set_cons_zero, List.set_cons_succ]
                refine wpAnyH_take (i := 15) (v := (.pointer (some ⟨q, 1, none⟩))) (oi := ⟨_, _, _, _, _, _⟩) rfl (by kernel_rfl) (by kernel_rfl) (by kernel_rfl) (fun _ _ _ h => h) (Or.inl ⟨by kernel_rfl, fun W hS => ?_⟩) (by assumption) ?_
                · dsimp only at hS; go_split_ands; go_simp
                simp only [Act.put, List.setIfInBounds_toArray, List.set_cons_zero, List.set_cons_succ]
                refine wpAnyH_ready (rs := [16]) (by kernel_rfl) (by decide) (AllReadyH.cons (o := ⟨_, _, _, _, _, _⟩) rfl (fun K hK => ?_) AllReadyH.nil)
                have hq3 := HDa.out.grow hg3 (.inr rfl)
                have hb3c := cell_of_row w3 q 1 _ _ _ hq3
                have hf3 := frozen_of_row w3 q 1 _ _ hq3
                simp only [List.getElem?_toArray, List.getElem?_cons_zero, List.getElem?_cons_succ] at hb3c
                rw [if_pos (by kernel_rfl)]
                go_simp
                refine hK.out _ _ (trivial) (fun hHeld => ?_)
                clear hK K
                try simp only [Act.put, List.setIfInBounds_toArray, List.set_cons_zero, List.set_cons_succ]
                refine wpAnyH_done (by kernel_rfl) ?_ _
                have H5 := Lib.hid (HDa.out.setHeld hg3 (.inr rfl) hO3 HL3.out hfr)
                have ho5 : Only w (w3.setCell ⟨q, 1, none⟩ (.slice A3 (n2 + 1) c5)) (qf q A n c) := ((hOd.alloc (.cells #[.int .u8 x] 5)).grown hg3 (fun i e => hN2 i (.inr e))).set q 1 _ (.inl (.inl rfl))
                have hN5 : Onto w (qf q A n c) (qf q A3 (n2 + 1) c5) := by
                  rintro i (rfl | hi)
                  · exact .inl (.inl rfl)
                  · rcases ha3 with e | ⟨b', e, hb'⟩
                    · exact hN2 i (.inr (e.symm.trans hi))
                    · have e1 : b' = i := Option.some.inj (e.symm.trans hi)
                      subst e1
                      exact .inr (Nat.le_trans (Nat.le_trans hOd.size hbb.size) hb')
                clear hg3 ha3 hO3 hOd h1d hcp hcx h1a hcpa hcxa hrx hq3 hb3c hf3
                generalize w3.setCell ⟨q, 1, none⟩ (.slice A3 (n2 + 1) c5) = w5 at *
                go_wp2_with fail
                go_roundg (gk - 1)
                case measure => have := HG2.out; omega
                case rel => exact ⟨k + 1, A3, n2 + 1, c5, m2 + 1, by simp, by simp, H5.out, ho5, hN5, by have := HG2.out; show k + 1 + (gk - 1) = ni; omega, HMt⟩
              · skip
                rw [if_pos (by kernel_rfl)]
                go_simp
                refine hK.out _ _ (trivial) (fun hHeld => ?_)
                clear hK K
                try simp only [Act.put, List.setIfInBounds_toArray, List.set_cons_zero, List.set_cons_succ]
                refine wpAnyH_ready (rs := [4, 12]) (by kernel_rfl) (by decide) (AllReadyH.cons (o := ⟨_, _, _, _, _, _⟩) rfl (fun K hK => ?_) (AllReadyH.cons (o := ⟨_, _, _, _, _, _⟩) rfl (fun K hK => ?_) AllReadyH.nil))
                · skip
                  rw [if_pos (by kernel_rfl)]
                  go_simp
                  refine hK.out _ _ (trivial) (fun hHeld => ?_)
                  clear hK K
                  try simp only [Act.put, List.setIfInBounds_toArray, List.set_cons_zero, List.set_cons_succ]
                  refine wpAnyH_ready (rs := [12]) (by kernel_rfl) (by decide) (AllReadyH.cons (o := ⟨_, _, _, _, _, _⟩) rfl (fun K hK => ?_) AllReadyH.nil)
                  rw [if_pos (by kernel_rfl)]
                  go_simp
                  have hbb := below_alloc (Below.refl wb.heap.size wb) (.cells #[.int .u8 x] 5)
                  have h1a := pw_cell_below hbb h1d
                  have hcpa := pw_cell_below hbb hcp
                  have hcxa := pw_cell_below hbb hcx
                  have HDa := Lib.hid (HDd.out.below hbb)
                  have hrx : RB (wb.alloc (.cells #[.int .u8 x] 5)) (some ⟨wb.heap.size, 0, none⟩) 1 [x] := RB.lit wb [x] (Byt.one x0 x1) (by simp) 5 (0, 0)
                  refine hK.out _ _ (trivial) (fun hHeld => ?_)
                  clear hK K
                  try simp only [Act.put, List.setIfInBounds_toArray, List.set_cons_zero, List.set_cons_succ]
                  refine wpAnyH_ready (rs := [13]) (by kernel_rfl) (by decide) (AllReadyH.cons (o := ⟨_, _, _, _, _, _⟩) rfl (fun K hK => ?_) AllReadyH.nil)
                  refine at_list rfl ?_; intro Q2 hQ2; at_builtin; refine print_append_row (w0 := (wb.alloc (.cells #[.int .u8 x] 5))) 0 rfl (.tmp 37) (.tmp 45) 22 5 .u8 1 rfl Try.underlying22 u8_info (by decide) (.slice A2 n2 c2) _ [x] _ 1 1 rfl rfl HDa.out.row.own hrx.rd (Below.refl _ _) (by first | exact Nat.le_refl _ | exact Nat.zero_le _) (by rw [HDa.out.len]; omega) ?_; intro v3 w3 hown hb3 hg3 ha3; have hO3 : OB 5 w3 0 v3 (wHeld D n ((L.take j).flatten ++ p2.take (k + 1))) := (by rw [← HSt.out]; exact ⟨hown, HDa.out.row.byt.append hrx.byt⟩); clear hown; obtain ⟨A3, c5, rfl, _, _⟩ := hO3.reads'; rw [HL3.out] at hO3 ha3 ⊢; refine hQ2 _ _ ?_; clear hQ2 Q2
                  refine hK.out _ _ (trivial) (fun hHeld => ?_)
                  clear hK K
                  try simp only [Act.put, List.setIfInBounds_toArray, List.set_cons_zero, List.set_cons_succ]
                  refine wpAnyH_take (i := 14) (v := (.pointer (some ⟨q, 0, none⟩))) (oi := ⟨_, _, _, _, _, _⟩) rfl (by kernel_rfl) (by kernel_rfl) (by kernel_rfl) (fun _ _ _ h => h) (Or.inl ⟨by kernel_rfl, fun W hS => ?_⟩) (by assumption) ?_
                  · dsimp only at hS; go_split_ands; go_simp
                  simp only [Act.put, List.setIfInBounds_toArray, List.set_cons_zero, List.set_cons_succ]
                  refine wpAnyH_take (i := 15) (v := (.pointer (some ⟨q, 1, none⟩))) (oi := ⟨_, _, _, _, _, _⟩) rfl (by kernel_rfl) (by kernel_rfl) (by kernel_rfl) (fun _ _ _ h => h) (Or.inl ⟨by kernel_rfl, fun W hS => ?_⟩) (by assumption) ?_
                  · dsimp only at hS; go_split_ands; go_simp
                  simp only [Act.put, List.setIfInBounds_toArray, List.set_cons_zero, List.set_cons_succ]
                  refine wpAnyH_ready (rs := [16]) (by kernel_rfl) (by decide) (AllReadyH.cons (o := ⟨_, _, _, _, _, _⟩) rfl (fun K hK => ?_) AllReadyH.nil)
                  have hq3 := HDa.out.grow hg3 (.inr rfl)
                  have hb3c := cell_of_row w3 q 1 _ _ _ hq3
                  have hf3 := frozen_of_row w3 q 1 _ _ hq3
                  simp only [List.getElem?_toArray, List.getElem?_cons_zero, List.getElem?_cons_succ] at hb3c
                  rw [if_pos (by kernel_rfl)]
                  go_simp
                  refine hK.out _ _ (trivial) (fun hHeld => ?_)
                  clear hK K
                  try simp only [Act.put, List.setIfInBounds_toArray, List.set_cons_zero, List.set_cons_succ]
                  refine wpAnyH_done (by kernel_rfl) ?_ _
                  have H5 := Lib.hid (HDa.out.setHeld hg3 (.inr rfl) hO3 HL3.out hfr)
                  have ho5 : Only w (w3.setCell ⟨q, 1, none⟩ (.slice A3 (n2 + 1) c5)) (qf q A n c) := ((hOd.alloc (.cells #[.int .u8 x] 5)).grown hg3 (fun i e => hN2 i (.inr e))).set q 1 _ (.inl (.inl rfl))
                  have hN5 : Onto w (qf q A n c) (qf q A3 (n2 + 1) c5) := by
                    rintro i (rfl | hi)
                    · exact .inl (.inl rfl)
                    · rcases ha3 with e | ⟨b', e, hb'⟩
                      · exact hN2 i (.inr (e.symm.trans hi))
                      · have e1 : b' = i := Option.some.inj (e.symm.trans hi)
                        subst e1
                        exact .inr (Nat.le_trans (Nat.le_trans hOd.size hbb.size) hb')
                  clear hg3 ha3 hO3 hOd h1d hcp hcx h1a hcpa hcxa hrx hq3 hb3c hf3
                  generalize w3.setCell ⟨q, 1, none⟩ (.slice A3 (n2 + 1) c5) = w5 at *
                  go_wp2_with fail
                  go_roundg (gk - 1)
                  case measure => have := HG2.out; omega
                  case rel => exact ⟨k + 1, A3, n2 + 1, c5, m2 + 1, by simp, by simp, H5.out, ho5, hN5, by have := HG2.out; show k + 1 + (gk - 1) = ni; omega, HMt⟩
                · skip
                  rw [if_pos (by kernel_rfl)]
                  go_simp
                  have hbb := below_alloc (Below.refl wb.heap.size wb) (.cells #[.int .u8 x] 5)
                  have h1a := pw_cell_below hbb h1d
                  have hcpa := pw_cell_below hbb hcp
                  have hcxa := pw_cell_below hbb hcx
                  have HDa := Lib.hid (HDd.out.below hbb)
                  have hrx : RB (wb.alloc (.cells #[.int .u8 x] 5)) (some ⟨wb.heap.size, 0, none⟩) 1 [x] := RB.lit wb [x] (Byt.one x0 x1) (by simp) 5 (0, 0)
                  refine hK.out _ _ (trivial) (fun hHeld => ?_)
                  clear hK K
                  try simp only [Act.put, List.setIfInBounds_toArray, List.set_cons_zero, List.set_cons_succ]
                  refine wpAnyH_ready (rs := [4]) (by kernel_rfl) (by decide) (AllReadyH.cons (o := ⟨_, _, _, _, _, _⟩) rfl (fun K hK => ?_) AllReadyH.nil)
                  rw [if_pos (by kernel_rfl)]
                  go_simp
                  refine hK.out _ _ (trivial) (fun hHeld => ?_)
                  clear hK K
                  try simp only [Act.put, List.setIfInBounds_toArray, List.set_cons_zero, List.set_cons_succ]
                  refine wpAnyH_ready (rs := [13]) (by kernel_rfl) (by decide) (AllReadyH.cons (o := ⟨_, _, _, _, _, _⟩) rfl (fun K hK => ?_) AllReadyH.nil)
                  refine at_list rfl ?_; intro Q2 hQ2; at_builtin; refine print_append_row (w0 := (wb.alloc (.cells #[.int .u8 x] 5))) 0 rfl (.tmp 37) (.tmp 45) 22 5 .u8 1 rfl Try.underlying22 u8_info (by decide) (.slice A2 n2 c2) _ [x] _ 1 1 rfl rfl HDa.out.row.own hrx.rd (Below.refl _ _) (by first | exact Nat.le_refl _ | exact Nat.zero_le _) (by rw [HDa.out.len]; omega) ?_; intro v3 w3 hown hb3 hg3 ha3; have hO3 : OB 5 w3 0 v3 (wHeld D n ((L.take j).flatten ++ p2.take (k + 1))) := (by rw [← HSt.out]; exact ⟨hown, HDa.out.row.byt.append hrx.byt⟩); clear hown; obtain ⟨A3, c5, rfl, _, _⟩ := hO3.reads'; rw [HL3.out] at hO3 ha3 ⊢; refine hQ2 _ _ ?_; clear hQ2 Q2
                  refine hK.out _ _ (trivial) (fun hHeld => ?_)
                  clear hK K
                  try simp only [Act.put, List.setIfInBounds_toArray, List.set_cons_zero, List.set_cons_succ]
                  refine wpAnyH_take (i := 14) (v := (.pointer (some ⟨q, 0, none⟩))) (oi := ⟨_, _, _, _, _, _⟩) rfl (by kernel_rfl) (by kernel_rfl) (by kernel_rfl) (fun _ _ _ h => h) (Or.inl ⟨by kernel_rfl, fun W hS => ?_⟩) (by assumption) ?_
                  · dsimp only at hS; go_split_ands; go_simp
                  simp only [Act.put, List.setIfInBounds_toArray, List.set_cons_zero, List.set_cons_succ]
                  refine wpAnyH_take (i := 15) (v := (.pointer (some ⟨q, 1, none⟩))) (oi := ⟨_, _, _, _, _, _⟩) rfl (by kernel_rfl) (by kernel_rfl) (by kernel_rfl) (fun _ _ _ h => h) (Or.inl ⟨by kernel_rfl, fun W hS => ?_⟩) (by assumption) ?_
                  · dsimp only at hS; go_split_ands; go_simp
                  simp only [Act.put, List.setIfInBounds_toArray, List.set_cons_zero, List.set_cons_succ]
                  refine wpAnyH_ready (rs := [16]) (by kernel_rfl) (by decide) (AllReadyH.cons (o := ⟨_, _, _, _, _, _⟩) rfl (fun K hK => ?_) AllReadyH.nil)
                  have hq3 := HDa.out.grow hg3 (.inr rfl)
                  have hb3c := cell_of_row w3 q 1 _ _ _ hq3
                  have hf3 := frozen_of_row w3 q 1 _ _ hq3
                  simp only [List.getElem?_toArray, List.getElem?_cons_zero, List.getElem?_cons_succ] at hb3c
                  rw [if_pos (by kernel_rfl)]
                  go_simp
                  refine hK.out _ _ (trivial) (fun hHeld => ?_)
                  clear hK K
                  try simp only [Act.put, List.setIfInBounds_toArray, List.set_cons_zero, List.set_cons_succ]
                  refine wpAnyH_done (by kernel_rfl) ?_ _
                  have H5 := Lib.hid (HDa.out.setHeld hg3 (.inr rfl) hO3 HL3.out hfr)
                  have ho5 : Only w (w3.setCell ⟨q, 1, none⟩ (.slice A3 (n2 + 1) c5)) (qf q A n c) := ((hOd.alloc (.cells #[.int .u8 x] 5)).grown hg3 (fun i e => hN2 i (.inr e))).set q 1 _ (.inl (.inl rfl))
                  have hN5 : Onto w (qf q A n c) (qf q A3 (n2 + 1) c5) := by
                    rintro i (rfl | hi)
                    · exact .inl (.inl rfl)
                    · rcases ha3 with e | ⟨b', e, hb'⟩
                      · exact hN2 i (.inr (e.symm.trans hi))
                      · have e1 : b' = i := Option.some.inj (e.symm.trans hi)
                        subst e1
                        exact .inr (Nat.le_trans (Nat.le_trans hOd.size hbb.size) hb')
                  clear hg3 ha3 hO3 hOd h1d hcp hcx h1a hcpa hcxa hrx hq3 hb3c hf3
                  generalize w3.setCell ⟨q, 1, none⟩ (.slice A3 (n2 + 1) c5) = w5 at *
                  go_wp2_with fail
                  go_roundg (gk - 1)
                  case measure => have := HG2.out; omega
                  case rel => exact ⟨k + 1, A3, n2 + 1, c5, m2 + 1, by simp, by simp, H5.out, ho5, hN5, by have := HG2.out; show k + 1 + (gk - 1) = ni; omega, HMt⟩
          · have hX2 : ¬ ((r : Int) - (n2 : Int) > 0) := by omega
            have hall := wHeld_all D n (L.take j).flatten p2 k (.inr (by rw [HN2.out, HR.out]; omega))
            rw [← flat_snoc HX.out] at hall
            have HAll := Lib.hid hall
            clear hall
            go_wp2_with fail
            refine (rRoom_any HS2.out).mono ?_
            rintro e w6 ⟨rfl, nq, rfl⟩
            rw [HRm.out]
            have hfin : QS (wr.drewN nq) q A2 n2 c2 { D with held := wHeld D n (L.take (j + 1)).flatten } := by rw [← HAll.out.1]; exact HS2.out.drewN nq
            have hmf : Hid (m2 = wMuch D n (L.take (j + 1)).flatten) := Lib.hid (by rw [← HAll.out.2]; exact HM2.out)
            clear hcell hrp h0
            go_wp2_with fail
            go_roundg g
            case measure => omega
            case rel => exact ⟨j + 1, A2, n2, c2, m2, rfl, by simp, hfin, hO2.drewN nq, hN2, by have := HG.out; show j + 1 + g = np; omega, hmf⟩
        · have hk2 : ¬ ((k : Int) < (ni : Int)) := by omega
          have hkn : k = ni := by have := HG2.out; omega
          have hall := wHeld_all D n (L.take j).flatten p2 k (.inl (by rw [hkn, HPl.out]))
          rw [← flat_snoc HX.out] at hall
          have hfin : QS wr q A2 n2 c2 { D with held := wHeld D n (L.take (j + 1)).flatten } := by rw [← hall.1]; exact HS2.out
          have hmf : Hid (m2 = wMuch D n (L.take (j + 1)).flatten) := Lib.hid (by rw [← hall.2]; exact HM2.out)
          clear hall hkn hrp h0
          go_wp2_with fail
          go_roundg g
          case measure => omega
          case rel => exact ⟨j + 1, A2, n2, c2, m2, rfl, by simp, hfin, hO2, hN2, by have := HG.out; show j + 1 + g = np; omega, hmf⟩
end
end Go.Proofs.Ytodhcgidmdeifaa
