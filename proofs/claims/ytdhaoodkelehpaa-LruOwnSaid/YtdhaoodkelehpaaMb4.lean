/- Contracts of functions that the laws reach (texts laid together, part 4): each says of its call what it answers and what it leaves of memory; the conditions stand in each statement. -/
import Derived.Test.YtdhaoodkelehpaaMb1
import Derived.Test.YtdhaoodkelehpaaMb2
set_option linter.unusedVariables false
set_option linter.unusedSimpArgs false
set_option linter.unusedSectionVars false
set_option linter.unnecessarySimpa false
/-! Rows of whole numbers of the call's own, beside memos. -/
section
set_option linter.unusedVariables false
namespace Go.Proofs.Ytdhaoodkelehpaa
open Go.RowKit Go.Kit Go.Proofs.YtdhaoodkelehpaaW.PrintWords
/-- A row of whole numbers of the call's own. -/
def OI (w : World) (base : Nat) (v : Value) (xs : List Int) : Prop := w.ownsRow base 3 1 v xs.length (nums .i64 xs)
theorem OI.nil (w : World) (base : Nat) : OI w base (.slice none 0 0) [] := own_nil w base 3 1
theorem int_info : (Try.prog.info? 3).map (fun i => (i.zero, i.size, i.bytes)) = some (some (.int .i64 0), 1, 8) := by kernel_rfl
section
variable {w w1 : World} {base : Nat} {v : Value} {xs : List Int} {X F : Nat → Prop} {m : Nat} {S : Sp Int}
theorem OI.below (h : OI w base v xs) (hb : Below w.heap.size w w1) : OI w1 base v xs := pw_own_below h hb
theorem OI.reads (h : OI w base v xs) : ∃ A c, v = .slice A xs.length c ∧ ReadsInt w .i64 A xs.length xs := own_reads h
theorem OI.block (h : OI w base v xs) {k : Nat} (hk : rf v k) : base ≤ k ∧ k < w.heap.size ∧ ∃ cur, w.heap[k]? = some (.cells cur 3 (0, 0)) := by
  rcases h.2 with ⟨h1, _⟩ | ⟨g, cap, cur, h1, h2, h3, h4⟩
  · rw [h1] at hk; cases hk
  · rw [h1] at hk; cases hk; exact ⟨h2, lt_of_block h3, cur, h3⟩
theorem OI.only (h : OI w base v xs) (ho : Only w w1 X) (hs : Sep (rf v) X) : OI w1 base v xs := by
  refine ⟨h.1, ?_⟩
  rcases h.2 with h1 | ⟨g, cap, cur, h1, h2, h3, h4⟩
  · exact .inl h1
  · exact .inr ⟨g, cap, cur, h1, h2, ho.kept h3 (hs g (by rw [h1]; rfl)), h4⟩
theorem Mf.sep_row (h : Mf w m S F) (ho : OI w base v xs) : Sep F (rf v) := fun k hk hr => by
  obtain ⟨_, _, cur, hc⟩ := ho.block hr
  obtain ⟨b, L, hM, _, rfl⟩ := h
  rcases hk with rfl | rfl | hk
  · exact absurd (not_both hM.ls.bk hc) (by decide)
  · obtain ⟨D, ⟨es, clock, hb, _⟩, _⟩ := hM.mp
    rw [hc] at hb; cases hb
  · obtain ⟨e, he, rfl⟩ := List.mem_map.1 hk
    obtain ⟨u, v, h1⟩ := hM.ls.ch.mem e he
    exact absurd (not_both h1 hc) (by decide)
end
end Go.Proofs.Ytdhaoodkelehpaa
end
/-! Drop, Resize: what they leave. No program in it. -/
section
set_option linter.unusedVariables false
namespace Go.Kit
section
variable {κ : Type} [DecidableEq κ]
/-- Keys let go, and how many there were. -/
def Sp.drops (S : Sp κ) (ks : List κ) : Sp κ × Nat := ks.foldl (fun p k => (p.1.drop k, p.2 + if (fnd p.1.l k).isSome then 1 else 0)) (S, 0)
theorem drops_snoc (S : Sp κ) (ks : List κ) (k : κ) : S.drops (ks ++ [k]) = ((S.drops ks).1.drop k, (S.drops ks).2 + if (fnd (S.drops ks).1.l k).isSome then 1 else 0) := by
  unfold Sp.drops
  rw [List.foldl_append]
  rfl
theorem drop_out {S : Sp κ} {k : κ} (h : fnd S.l k = none) : S.drop k = S := by
  unfold Sp.drop
  rw [ers_out (fnd_none.1 h)]
theorem drops_ok {S : Sp κ} (h : S.ok) : ∀ ks : List κ, (S.drops ks).1.ok := fun ks => by
  have : ∀ (ks : List κ) (p : Sp κ × Nat), p.1.ok → (ks.foldl (fun p k => (p.1.drop k, p.2 + if (fnd p.1.l k).isSome then 1 else 0)) p).1.ok := by
    intro ks
    induction ks with
    | nil => exact fun p hp => hp
    | cons k r ih => exact fun p hp => ih _ (Sp.drop_ok hp k)
  exact this ks (S, 0) h
theorem drops_le (S : Sp κ) (ks : List κ) : (S.drops ks).2 ≤ ks.length := by
  have : ∀ (ks : List κ) (p : Sp κ × Nat), (ks.foldl (fun p k => (p.1.drop k, p.2 + if (fnd p.1.l k).isSome then 1 else 0)) p).2 ≤ p.2 + ks.length := by
    intro ks
    induction ks with
    | nil => exact fun p => Nat.le_refl _
    | cons k r ih =>
      intro p
      refine Nat.le_trans (ih _) ?_
      simp only [List.length_cons]
      split <;> omega
  have := this ks (S, 0)
  rw [Nat.zero_add] at this
  exact this
/-- Another number of entries. -/
def Sp.resize (S : Sp κ) (n : Int) : Sp κ := { S with most := n, l := S.l.take n.toNat, go := S.go + ((S.l.length - n.toNat : Nat) : Int) }
/-- The keys that had to go, the oldest first. -/
def Sp.outs (S : Sp κ) (i : Nat) : List κ := ((S.l.drop i).map (·.1)).reverse
theorem resize_ok {S : Sp κ} (h : S.ok) {n : Int} (h1 : 1 ≤ n) (h2 : n ≤ 4096) : (S.resize n).ok := by
  refine ⟨?_, ?_, h1, h2⟩
  · exact h.1.sublist ((List.take_sublist _ _).map _)
  · show ((S.l.take n.toNat).length : Int) ≤ n
    rw [List.length_take]
    omega
theorem take_last {l : List (κ × Int)} {i : Nat} {A : List (κ × Int)} {e : κ × Int} (hi : i ≤ l.length) (h : l.take i = A ++ [e]) : A = l.take (i - 1) ∧ i = A.length + 1 ∧ (l.drop (i - 1)).map (·.1) = e.1 :: (l.drop i).map (·.1) := by
  have h1 : i = A.length + 1 := by
    have := congrArg List.length h
    rw [List.length_take, List.length_append, List.length_cons, List.length_nil] at this
    omega
  have h2 : A = l.take (i - 1) := by
    have := congrArg (List.take (i - 1)) h
    rw [List.take_take, List.take_append_of_le_length (by omega)] at this
    rw [List.take_of_length_le (by omega : A.length ≤ i - 1), show min (i - 1) i = i - 1 by omega] at this
    exact this.symm
  refine ⟨h2, h1, ?_⟩
  have h3 : l[i - 1]? = some e := by
    have : (l.take i)[i - 1]? = l[i - 1]? := List.getElem?_take_of_lt (by omega)
    rw [← this, h, List.getElem?_append_right (by omega), show i - 1 - A.length = 0 by omega]
    rfl
  have hlt : i - 1 < l.length := by omega
  rw [List.getElem?_eq_getElem hlt] at h3
  injection h3 with h3
  rw [List.drop_eq_getElem_cons hlt, h3, show i - 1 + 1 = i by omega]
  rfl
end
end Go.Kit
end
/-! Drop, Resize, Uses, Most. -/
section
set_option linter.unusedVariables false
namespace Go.Proofs.Ytdhaoodkelehpaa
open Go.RowKit Go.Kit Go.Proofs.YtdhaoodkelehpaaW.PrintWords
section
variable {w w1 : World} {m b base : Nat} {L A B : List (En Int)} {e : En Int} {S : Sp Int} {F X : Nat → Prop}
theorem Me.sep_row {v : Value} {xs : List Int} (h : MeI w m b KyN L S) (ho : OI w base v xs) : Sep (mfp m b L) (rf v) := fun k hk hr => by
  obtain ⟨_, _, cur, hc⟩ := ho.block hr
  rcases hk with rfl | rfl | hk
  · exact absurd (not_both h.ls.bk hc) (by decide)
  · obtain ⟨D, ⟨es, clock, hb, _⟩, _⟩ := h.mp
    rw [hc] at hb; cases hb
  · obtain ⟨e, he, rfl⟩ := List.mem_map.1 hk
    obtain ⟨u, v, h1⟩ := h.ls.ch.mem e he
    exact absurd (not_both h1 hc) (by decide)
/-- Behind 'cut' and 'delete'. -/
theorem Me.dropped {w2 : World} (h : MeI w m b KyN (A ++ e :: B) S) (hL : LS w1 m b MTI ETI KyN S.most S.hi S.mi S.go (A ++ B)) (hO : Only w w1 (lfp m (A ++ e :: B)))
    {D : DataW Unit} (hM : MD KyN D (A ++ e :: B)) (hT : Maps.Tidy D) (hown : w2.ownsMap Try.prog KTI ptrElem b (A ++ e :: B).length (D.del (.int .i64 e.k))) (ht : w1.mapTurned w2 b) : MeI w2 m b KyN (A ++ B) { S with l := kvs (A ++ B) } ∧ Only w w2 (mfp m b (A ++ e :: B)) ∧ Onto w (mfp m b (A ++ e :: B)) (mfp m b (A ++ B)) := by
  have hM2 : MD KyN (D.del (.int .i64 e.k)) (A ++ B) := hM.del hT
  have hO2 := mapTurned_onlyI ht
  have hw := owns_tight hown
  rw [hM2.sz] at hw
  have hsub : ∀ k, k ∈ bl (A ++ B) → k ∈ bl (A ++ e :: B) := fun k hk => by
    simp only [bl, List.map_append, List.map_cons, List.mem_append, List.mem_cons] at hk ⊢
    rcases hk with hk | hk
    · exact .inl hk
    · exact .inr (.inr hk)
  refine ⟨⟨hL.only hO2 (fun k hk q => ?_), ⟨_, hw, hM2⟩, fun x hx => h.ky x ?_, rfl, ⟨?_, ?_, h.ok.2.2⟩, h.cnt⟩, (hO.mono (fun k hk => ?_)).same (hO2.mono (fun k hk => .inr (.inl hk))), fun k hk => .inl ?_⟩
  · rcases hk with rfl | hk
    · exact h.mb q
    · exact h.eb (q ▸ hsub _ hk)
  · simp only [List.mem_append, List.mem_cons] at hx ⊢
    rcases hx with hx | hx
    · exact .inl hx
    · exact .inr (.inr hx)
  · have := hM2.nd
    simpa [kvs, List.map_map, Function.comp_def] using this
  · have := h.max
    simp only [kvs, List.length_map, List.length_append, List.length_cons] at this ⊢
    omega
  · exact hk.elim .inl (fun h => .inr (.inr h))
  · rcases hk with hk | hk | hk
    · exact .inl hk
    · exact .inr (.inl hk)
    · exact .inr (.inr (hsub _ hk))
set_option maxHeartbeats 8000000 in
set_option maxRecDepth 100000 in
theorem drop_any (h : MeI w m b KyN L S) (Ak : Option Addr) (n c : Nat) (ks : List Int) (hk : ∀ W, Only w W (mfp m b L) → IR W Ak n ks) (hn : n ≤ 140737488351232) :
    Calls Try.prog 17 #[.pointer (some ⟨m, 0, none⟩), .slice Ak n c] w fun e w' => e = .returned (.int .i64 ((S.drops ks).2 : Int)) ∧ ∃ L', MeI w' m b KyN L' (S.drops ks).1 ∧ Only w w' (mfp m b L) ∧ Onto w (mfp m b L) (mfp m b L') := by
  have H := Lib.hid h
  have HK := Lib.hid hk
  have hkl := (hk w (Only.refl _ _)).len
  have HKL := Lib.hid hkl
  clear h hk hkl
  go_enter Try.func17, Try.ntmps17
  go_wp2_with fail
  refine H.out.made.mono ?_
  rintro e w1 ⟨rfl, rfl⟩
  go_wp2_with fail
  go_loopg [5, 14] n (fun gk v5 vi w' => ∃ (i : Nat) (L' : List (En Int)), vi = .int .i64 (i : Int) ∧ v5 = .int .i64 ((S.drops (ks.take i)).2 : Int) ∧ MeI w' m b KyN L' (S.drops (ks.take i)).1 ∧ Only w1 w' (mfp m b L) ∧ Onto w1 (mfp m b L) (mfp m b L') ∧ Hid (i ≤ n ∧ gk = n - i))
  case atStart => exact ⟨0, L, rfl, by simp [Sp.drops], by simpa [Sp.drops] using H.out, Only.refl _ _, Onto.refl _ _, Lib.hid ⟨by omega, rfl⟩⟩
  case round =>
    obtain ⟨i, L', rfl, rfl, hM, hO, hN, HG⟩ := hrel
    by_cases hi : i < n
    · obtain ⟨ad, k, rfl, hc, hk6, hx⟩ := (HK.out wr hO).at_ i hi
      have hi2 : (i : Int) < (n : Int) := by omega
      have hi9 : (i : Int) ≤ 140737488351232 := by omega
      have hsn := drops_snoc S (ks.take i) k
      rw [← snoc hx.out] at hsn
      obtain ⟨S1, hS1⟩ : ∃ S1, (S.drops (ks.take i)).1 = S1 := ⟨_, rfl⟩
      obtain ⟨d, hd⟩ : ∃ d : Nat, (S.drops (ks.take i)).2 = d := ⟨_, rfl⟩
      have hdn : (d : Int) ≤ 140737488351232 := by
        have := drops_le S (ks.take i)
        rw [hd, List.length_take] at this
        omega
      rw [hS1, hd] at hsn
      rw [hS1] at hM
      rw [hd]
      have h1 := hM.c1
      have h2 := hM.run_look (k := k) (keyN hk6)
      have hfn := hM.fnd k
      cases hf : L'.find? (fun e => decide (e.k = k)) with
      | none =>
        rw [hf] at h2 hfn
        replace hfn : fnd S1.l k = none := hfn
        replace h2 : (Instr.lookup YTI (.map (some b)) (.int .i64 k) false).run Try.prog wr = .ok (.pointer none) wr := h2
        rw [hfn, drop_out hfn] at hsn
        have HM := Lib.hid hM
        have HO := Lib.hid hO
        have HN := Lib.hid hN
        have HS := Lib.hid hsn
        clear hM hO hN hsn hf hfn hS1 hd hx
        go_wp2_with fail
        go_roundg (gk - 1)
        case measure => have := HG.out.2; omega
        case rel =>
          refine ⟨i + 1, L', by simp, ?_, ?_, HO.out, HN.out, Lib.hid ⟨by omega, by have := HG.out.2; omega⟩⟩
          · rw [HS.out]; rfl
          · rw [HS.out]; exact HM.out
      | some e =>
        rw [hf] at h2 hfn
        replace hfn : fnd S1.l k = some e.v := hfn
        replace h2 : (Instr.lookup YTI (.map (some b)) (.int .i64 k) false).run Try.prog wr = .ok (.pointer (some ⟨e.a, 0, none⟩)) wr := h2
        obtain ⟨hek, A, B, rfl, hers⟩ := split_find hM.nd hf
        have hdk : S1.drop k = { S1 with l := kvs (A ++ B) } := by unfold Sp.drop; rw [hM.eq, hers]
        rw [hfn, hdk] at hsn
        have HC := Lib.hid (cutI hM.ls)
        have HM := Lib.hid hM
        have HO := Lib.hid hO
        have HN := Lib.hid hN
        have HS := Lib.hid hsn
        have HKY := Lib.hid (keyN hk6)
        clear hM hO hN hsn hf hfn hS1 hd hx hers hdk
        obtain ⟨ea, ek, ev⟩ := e
        dsimp only at h2 hek
        subst hek
        go_wp2_with fail
        refine HC.out.mono ?_
        rintro e w2 ⟨rfl, hL2, hE2, hO2⟩
        obtain ⟨D, hD, hMD⟩ := HM.out.mp
        have hD2 := owns_onlyI hD hO2 HM.out.lb
        have m1 : w2.cell? ⟨m, 1, none⟩ = some (.map (some b)) := cell_of_row w2 _ 1 _ _ _ hL2.bk
        have HL2 := Lib.hid hL2
        have HO2 := Lib.hid hO2
        have HMD := Lib.hid hMD
        have HT := Lib.hid (hD.tidy keyedI)
        have HD2 := Lib.hid hD2
        clear hL2 hE2 hO2 hD hMD hD2 h1 h2 hc
        go_wp2_with (at_delete; refine wpList_delete_own _ rfl _ _ YTI KTI rfl PTI keyedI Try.underlying64 ptrElem b _ D rfl HD2.out _ (.int .i64 ek) rfl HKY.out ?_; intro w3 hown3 hturn3)
        obtain ⟨hM3, hO3, hN3⟩ := Me.dropped HM.out HL2.out HO2.out HMD.out HT.out hown3 hturn3
        go_roundg (gk - 1)
        case measure => have := HG.out.2; omega
        case rel =>
          refine ⟨i + 1, A ++ B, by simp, ?_, ?_, HO.out.then_ hO3 HN.out, HN.out.trans hN3 HO.out.size, Lib.hid ⟨by omega, by have := HG.out.2; omega⟩⟩
          · rw [HS.out]; simp
          · rw [HS.out]; exact hM3
    · have hi2 : ¬ (i : Int) < (n : Int) := by omega
      have he : ks.take i = ks := all_of (by have := HKL.out; omega)
      rw [he] at hM ⊢
      have HM := Lib.hid hM
      have HO := Lib.hid hO
      have HN := Lib.hid hN
      obtain ⟨d, hd⟩ : ∃ d : Nat, (S.drops ks).2 = d := ⟨_, rfl⟩
      rw [hd]
      have HD := Lib.hid hd
      clear hM hO hN he hd
      go_wp2_with fail
      go_ret
      exact ⟨by rw [HD.out]; rfl, L', HM.out, HO.out, HN.out⟩
theorem drop_f (h : Mf w m S F) (Ak : Option Addr) (n c : Nat) (ks : List Int) (hk : ∀ W, Only w W F → IR W Ak n ks) (hn : n ≤ 140737488351232) :
    Calls Try.prog 17 #[.pointer (some ⟨m, 0, none⟩), .slice Ak n c] w fun e w' => e = .returned (.int .i64 ((S.drops ks).2 : Int)) ∧ Lft w m F (S.drops ks).1 w' := by
  obtain ⟨b, L, hM, hok, rfl⟩ := h
  refine (drop_any hM Ak n c ks hk hn).mono ?_
  rintro e w' ⟨rfl, L', hM', ho, hn⟩
  exact ⟨rfl, _, ⟨b, L', hM', drops_ok hok ks, rfl⟩, ho, hn⟩
/-- While it is made smaller. -/
def Sp.sm (S : Sp Int) (n : Int) (len j : Nat) : Sp Int := { S with most := n, l := S.l.take (len - j), go := S.go + (j : Int) }
/-- What Resize leaves. -/
def RePost (w : World) (m b : Nat) (L : List (En Int)) (S : Sp Int) (n : Int) (e : Ending) (w' : World) : Prop :=
  ∃ v L', e = .returned (.tuple #[v, .int .i64 0]) ∧ MeI w' m b KyN L' (S.resize n) ∧ Only w w' (mfp m b L) ∧ Onto w (mfp m b L) (mfp m b L') ∧ OI w' w.heap.size v (S.outs n.toNat)
def ReRel (w : World) (m b : Nat) (L : List (En Int)) (S : Sp Int) (n : Int) (len : Nat) (gk : Nat) (v6 : Value) (w' : World) : Prop :=
  ∃ (j : Nat) (L' : List (En Int)), MeI w' m b KyN L' (Sp.sm S n len j) ∧ Only w w' (mfp m b L) ∧ Onto w (mfp m b L) (mfp m b L') ∧ OI w' w.heap.size v6 (S.outs (len - j)) ∧ Hid (j ≤ len - n.toNat ∧ gk = len - j)
set_option maxHeartbeats 8000000 in
set_option maxRecDepth 100000 in
theorem resize_any (h : MeI w m b KyN L S) (hok : S.ok) (n : Int) (h1 : 1 ≤ n) (h2 : n ≤ 4096) (hgo : S.go ≤ 9223372036854771000) :
    Calls Try.prog 18 #[.pointer (some ⟨m, 0, none⟩), .int .i64 n] w (RePost w m b L S n) := by
  have H := Lib.hid h
  have HOK := Lib.hid hok
  have b1 : decide (n < 1) = false := by simp; omega
  have b2 : decide (n > 4096) = false := by simp; omega
  have HN := Lib.hid (show 1 ≤ n ∧ n ≤ 4096 from ⟨h1, h2⟩)
  obtain ⟨u0, m0⟩ : ∃ u, w.cell? ⟨m, 0, none⟩ = some u := ⟨_, cell_of_row w _ 0 _ _ _ h.ls.bk⟩
  have f0 := frozen_of_row w m 0 _ _ h.ls.bk
  obtain ⟨len, hlen⟩ : ∃ len, S.l.length = len := ⟨_, rfl⟩
  have hsz : len ≤ 4096 := by have := h.ok.2.1; omega
  have h0 : MeI (w.setCell ⟨m, 0, none⟩ (.int .i64 n)) m b KyN L (Sp.sm S n len 0) := by
    have e1 : (Sp.sm S n len 0) = { S with most := n } := by
      unfold Sp.sm
      rw [Nat.sub_zero, List.take_of_length_le (by omega)]
      simp
    rw [e1]
    refine ⟨mosI h.ls n, ?_, h.ky, h.eq, ⟨h.ok.1, h.ok.2.1, h1, h2⟩, h.cnt⟩
    obtain ⟨D, hD, hM⟩ := h.mp
    exact ⟨D, hD.setCell (a := ⟨m, 0, none⟩) (Ne.symm h.mb) _, hM⟩
  have HS : Hid (ReRel w m b L S n len len (.slice none 0 0) (w.setCell ⟨m, 0, none⟩ (.int .i64 n))) := Lib.hid ⟨0, L, h0, (Only.refl _ _).set m 0 _ (.inl (.inl rfl)), Onto.refl _ _, by
    have : S.outs (len - 0) = [] := by unfold Sp.outs; rw [List.drop_eq_nil_of_le (by omega)]; rfl
    rw [this]; exact OI.nil _ _, Lib.hid ⟨Nat.zero_le _, by omega⟩⟩
  have HL := Lib.hid hlen
  clear h hok h1 h2 hlen h0
  go_enter Try.func18, Try.ntmps18
  go_wp2_with fail
  refine H.out.made.mono ?_
  rintro e w1 ⟨rfl, rfl⟩
  go_wp2_with fail
  go_loopg [6] len (fun gk v6 w' => ReRel w1 m b L S n len gk v6 w')
  case atStart => exact HS.out
  case round =>
    clear HS
    obtain ⟨j, L', hM, hO, hN, hI, HG⟩ := hrel
    have c1 := hM.c1
    have hl := hM.len
    have hll : L'.length = len - j := by
      rw [← hl]
      show (S.l.take (len - j)).length = _
      rw [List.length_take, HL.out]
      omega
    have hrl := hM.run_len 3
    rw [hll] at hrl
    obtain ⟨ln, hln⟩ : ∃ ln : Nat, len - j = ln := ⟨_, rfl⟩
    rw [hln] at hrl hll
    by_cases hgt : n < (ln : Int)
    · have hgt2 : (ln : Int) > n := hgt
      have hlm : (ln : Int) ≤ 4096 := by omega
      rcases List.eq_nil_or_concat L' with rfl | ⟨A, e, rfl⟩
      · simp at hll; have := HN.out; omega
      · rw [List.concat_eq_append] at hM hN hll
        have HM := Lib.hid hM
        have HO := Lib.hid hO
        have HN2 := Lib.hid hN
        have HI := Lib.hid hI
        have HLL := Lib.hid hll
        have HLN := Lib.hid hln
        clear hM hO hN hI hl hll hln
        obtain ⟨ea, ek, ev⟩ := e
        go_wp2_with fail
        refine (goneI HM.out (by show S.go + (j : Int) ≤ _; have := HG.out.1; omega)).mono ?_
        rintro en w2 ⟨he, hM2, hO2⟩
        replace he : en = .returned (.int .i64 ek) := he
        subst he
        have hsep := Me.sep_row HM.out HI.out
        have hI2 := HI.out.only hO2 hsep.symm
        have HM2 := Lib.hid hM2
        have HO2 := Lib.hid hO2
        have HI2 := Lib.hid hI2
        have hown := hI2
        unfold OI at hown
        have hl8 : ((S.outs (len - j)).length + 1) * 8 ≤ 140737488355328 := by
          unfold Sp.outs
          rw [List.length_reverse, List.length_map, List.length_drop, HL.out]
          omega
        have hbs : w1.heap.size ≤ w2.heap.size := Nat.le_trans HO.out.size hO2.size
        clear hM2 hO2 hI2 hsep
        replace hown : w2.ownsRow w1.heap.size 3 1 u6 (S.outs (len - j)).length (nums .i64 (S.outs (len - j))) := hown
        go_wp2_with (at_builtin; refine print_append_num (w0 := w2) w1.heap.size rfl (.tmp 27) (.tmp 30) 28 3 .i64 8 rfl Try.underlying28 int_info (by decide) _ _ ek rfl rfl hown (Below.refl _ _) hbs hl8 ?_; intro v12 w3 hown3 hb3 hg3 hat3)
        have ho3 : Only w2 w3 (rf u6) := (Only.refl _ _).grown hg3 (fun k e => .inl e)
        have hM3 := HM2.out.only ho3 (Me.sep_row HM2.out HI2.out)
        have htl := take_last (l := S.l) (i := len - j) (A := kvs A) (e := (ek, ev)) (by have := HL.out; omega) (by have := HM.out.eq; rw [show (Sp.sm S n len j).l = S.l.take (len - j) from rfl] at this; rw [this]; simp [kvs])
        have hO3 : Only w1 w3 (mfp m b L) := (HO.out.then_ HO2.out HN2.out).then_ ho3 (fun k hk => .inr (HI2.out.block hk).1)
        have hsm : Sp.sm S n len (j + 1) = { Sp.sm S n len j with l := kvs A, go := (Sp.sm S n len j).go + 1 } := by
          unfold Sp.sm
          rw [htl.1, show len - (j + 1) = len - j - 1 by omega]
          simp only [Int.natCast_add, Int.add_assoc]
          rfl
        have hou : S.outs (len - (j + 1)) = S.outs (len - j) ++ [ek] := by
          unfold Sp.outs
          rw [show len - (j + 1) = len - j - 1 by omega, htl.2.2]
          simp
        have hN3 : Onto w1 (mfp m b L) (mfp m b A) := fun k hk => HN2.out k (by
          rcases hk with hk | hk | hk
          · exact .inl hk
          · exact .inr (.inl hk)
          · exact .inr (.inr (by rw [bl, List.map_append]; exact List.mem_append.2 (.inl hk))))
        go_roundg (gk - 1)
        case measure => have := HG.out.2; have := HLN.out; have := HN.out; omega
        case rel => exact ⟨j + 1, A, by rw [hsm]; exact hM3, hO3, hN3, by rw [hou]; exact hown3, Lib.hid ⟨by have := HLN.out; have := HN.out; have := HG.out.1; omega, by have := HG.out.2; omega⟩⟩
    · have hgt2 : ¬ (ln : Int) > n := hgt
      have hlm : (ln : Int) ≤ 4096 := by omega
      have HM := Lib.hid hM
      have HO := Lib.hid hO
      have HN2 := Lib.hid hN
      have HI := Lib.hid hI
      have HLN := Lib.hid hln
      clear hM hO hN hI hl hll hln
      go_wp2_with fail
      go_ret2
      have hj := HG.out.1
      have hl1 := HLN.out
      have hn1 := HN.out
      have hl2 := HL.out
      have hsm : Sp.sm S n len j = S.resize n := by
        unfold Sp.sm Sp.resize
        have e1 : S.l.take (len - j) = S.l.take n.toNat := by
          by_cases hc : len ≤ n.toNat
          · rw [List.take_of_length_le (by omega), List.take_of_length_le (by omega)]
          · rw [show len - j = n.toNat by omega]
        rw [e1, hl2, show len - n.toNat = j by omega]
      have hou : S.outs (len - j) = S.outs n.toNat := by
        unfold Sp.outs
        by_cases hc : len ≤ n.toNat
        · rw [List.drop_eq_nil_of_le (by omega), List.drop_eq_nil_of_le (by omega)]
        · rw [show len - j = n.toNat by omega]
      refine ⟨_, L', rfl, by rw [← hsm]; exact HM.out, HO.out, HN2.out, by rw [← hou]; exact HI.out⟩
theorem resize_bad (h : Mf w m S F) (n : Int) (hn : n < 1 ∨ 4096 < n) : Calls Try.prog 18 #[.pointer (some ⟨m, 0, none⟩), .int .i64 n] w fun e w' => e = .returned (.tuple #[.slice none 0 0, .int .i64 1]) ∧ w' = w := by
  obtain ⟨b, L, hM, hok, rfl⟩ := h
  have H := Lib.hid hM
  clear hM hok
  by_cases h1 : n < 1
  · have b1 : decide (n < 1) = true := by simpa using h1
    clear hn h1
    go_enter Try.func18, Try.ntmps18
    go_wp2_with fail
    refine H.out.made.mono ?_
    rintro e w1 ⟨rfl, rfl⟩
    go_wp2_with fail
    go_ret2
    exact ⟨rfl, rfl⟩
  · have b1 : decide (n < 1) = false := by simpa using h1
    have b2 : decide (n > 4096) = true := by simp; omega
    clear hn h1
    go_enter Try.func18, Try.ntmps18
    go_wp2_with fail
    refine H.out.made.mono ?_
    rintro e w1 ⟨rfl, rfl⟩
    go_wp2_with fail
    go_ret2
    exact ⟨rfl, rfl⟩
theorem resize_f (h : Mf w m S F) (n : Int) (h1 : 1 ≤ n) (h2 : n ≤ 4096) (hgo : S.go ≤ 9223372036854771000) :
    Calls Try.prog 18 #[.pointer (some ⟨m, 0, none⟩), .int .i64 n] w fun e w' => ∃ v, e = .returned (.tuple #[v, .int .i64 0]) ∧ Lft w m F (S.resize n) w' ∧ OI w' w.heap.size v (S.outs n.toNat) := by
  obtain ⟨b, L, hM, hok, rfl⟩ := h
  refine (resize_any hM hok n h1 h2 hgo).mono ?_
  rintro e w' ⟨v, L', rfl, hM', ho, hn, hI⟩
  exact ⟨v, rfl, ⟨_, ⟨b, L', hM', resize_ok hok h1 h2, rfl⟩, ho, hn⟩, hI⟩
theorem most_f (h : Mf w m S F) : Calls Try.prog 28 #[.pointer (some ⟨m, 0, none⟩)] w fun e w' => e = .returned (.int .i64 S.most) ∧ w' = w := by
  obtain ⟨b, L, hM, hok, rfl⟩ := h
  have h0 : w.cell? ⟨m, 0, none⟩ = some (.int .i64 S.most) := cell_of_row w _ 0 _ _ _ hM.ls.bk
  have H := Lib.hid hM
  clear hM hok
  go_enter Try.func28, Try.ntmps28
  go_wp2_with fail
  refine H.out.made.mono ?_
  rintro e w1 ⟨rfl, rfl⟩
  go_wp2_with fail
  go_ret
  exact ⟨rfl, rfl⟩
theorem uses_f (h : Mf w m S F) : Calls Try.prog 19 #[.pointer (some ⟨m, 0, none⟩)] w fun e w' => e = .returned (.agg #[.int .i64 S.hi, .int .i64 S.mi, .int .i64 S.go]) ∧ Below w.heap.size w w' := by
  have hb0 := below_alloc (Below.refl w.heap.size w) (.cells #[.int .i64 0, .int .i64 0, .int .i64 0] 40)
  obtain ⟨b, L, hM, hok, rfl⟩ := h
  have hM1 := hM.below hb0
  have h4 : w.cell? ⟨m, 4, none⟩ = some (.int .i64 S.hi) := cell_of_row w _ 4 _ _ _ hM.ls.bk
  have h5 : w.cell? ⟨m, 5, none⟩ = some (.int .i64 S.mi) := cell_of_row w _ 5 _ _ _ hM.ls.bk
  have h6 : w.cell? ⟨m, 6, none⟩ = some (.int .i64 S.go) := cell_of_row w _ 6 _ _ _ hM.ls.bk
  have HM := Lib.hid hM1
  have HB := Lib.hid hb0
  replace h4 := pw_cell_below hb0 h4
  replace h5 := pw_cell_below hb0 h5
  replace h6 := pw_cell_below hb0 h6
  clear hM hok hM1 hb0
  go_enter Try.func19, Try.ntmps19
  go_wp2_with fail
  refine HM.out.made.mono ?_
  rintro e w1 ⟨rfl, rfl⟩
  go_wp2_with fail
  have hX := heap_alloc_new w (.cells #[.int .i64 S.hi, .int .i64 S.mi, .int .i64 S.go] 40)
  exact bodyPost_ret (v := .agg #[.int .i64 S.hi, .int .i64 S.mi, .int .i64 S.go]) (results_cell_row (P := Try.prog) (fn := Try.f19) rfl _ _ w.heap.size 40 #[.int .i64 S.hi, .int .i64 S.mi, .int .i64 S.go] (0, 0) _ rfl hX Try.underlying40 rfl (by kernel_rfl)) rfl ⟨rfl, below_alloc (Below.refl _ _) _⟩
end
end Go.Proofs.Ytdhaoodkelehpaa
end
/-! Counts of memos add up. No program in it. -/
section
set_option linter.unusedVariables false
namespace Go.Kit
section
variable {κ : Type} [DecidableEq κ]
theorem ers_len {l : List (κ × Int)} {k : κ} {v : Int} (hn : (l.map (·.1)).Nodup) (hf : fnd l k = some v) : (ers l k).length + 1 = l.length := by
  obtain ⟨A, B, he⟩ := List.append_of_mem (mem_of_fnd hf)
  rw [he, List.map_append, List.map_cons, List.nodup_append, List.nodup_cons] at hn
  have eA : ers A k = A := ers_out (fun x hx e => hn.2.2 x.1 (List.mem_map.2 ⟨x, hx, rfl⟩) k (by simp) e)
  have eB : ers B k = B := ers_out (fun x hx e => hn.2.1.1 (e ▸ List.mem_map.2 ⟨x, hx, rfl⟩))
  rw [he, ers_append, ers_cons_eq rfl, eA, eB]
  simp
  omega
/-- What a memo keeps or has lost. -/
def Sp.sum (S : Sp κ) : Int := S.go + S.l.length
theorem sum_get {S : Sp κ} (h : S.ok) (k : κ) : (S.get k).sum = S.sum := by
  unfold Sp.get
  split
  · rfl
  · rename_i v hf
    have := ers_len h.1 hf
    show S.go + ((((k, v) :: ers S.l k).length : Nat) : Int) = S.go + S.l.length
    rw [List.length_cons, this]
theorem sum_put {S : Sp κ} (h : S.ok) (k : κ) (v : Int) : (S.put k v).sum = S.sum + if (fnd S.l k).isSome then 0 else 1 := by
  unfold Sp.put
  split
  · rename_i u hf
    have := ers_len h.1 hf
    rw [hf]
    show S.go + ((((k, v) :: ers S.l k).length : Nat) : Int) = S.go + S.l.length + 0
    rw [List.length_cons, this]
    omega
  · rename_i hf
    rw [hf]
    split
    · rename_i hfull
      simp only [Sp.full, decide_eq_true_eq] at hfull
      have := h.2.2.1
      show S.go + 1 + ((((k, v) :: S.l.dropLast).length : Nat) : Int) = S.go + S.l.length + 1
      rw [List.length_cons, List.length_dropLast]
      omega
    · show S.go + ((((k, v) :: S.l).length : Nat) : Int) = S.go + S.l.length + 1
      rw [List.length_cons]
      omega
theorem sum_drop {S : Sp κ} (h : S.ok) (k : κ) : (S.drop k).sum + (if (fnd S.l k).isSome then 1 else 0) = S.sum := by
  cases hf : fnd S.l k with
  | none => rw [drop_out hf]; simp
  | some v =>
    have := ers_len h.1 hf
    show S.go + ((ers S.l k).length : Int) + 1 = S.go + S.l.length
    omega
theorem sum_drops {S : Sp κ} (h : S.ok) (ks : List κ) : (S.drops ks).1.sum + (S.drops ks).2 = S.sum := by
  have : ∀ (ks : List κ) (p : Sp κ × Nat), p.1.ok → (ks.foldl (fun p k => (p.1.drop k, p.2 + if (fnd p.1.l k).isSome then 1 else 0)) p).1.sum + ((ks.foldl (fun p k => (p.1.drop k, p.2 + if (fnd p.1.l k).isSome then 1 else 0)) p).2 : Int) = p.1.sum + p.2 := by
    intro ks
    induction ks with
    | nil => exact fun p _ => rfl
    | cons k r ih =>
      intro p hp
      rw [List.foldl_cons, ih _ (Sp.drop_ok hp k)]
      have := sum_drop hp k
      show (p.1.drop k).sum + ((p.2 + (if (fnd p.1.l k).isSome then 1 else 0) : Nat) : Int) = p.1.sum + p.2
      split at this <;> rename_i hs <;> simp [hs] <;> omega
  have := this ks (S, 0) h
  unfold Sp.drops
  rw [this]
  show S.sum + ((0 : Nat) : Int) = S.sum
  omega
theorem sum_resize (S : Sp κ) (n : Int) : (S.resize n).sum = S.sum := by
  show S.go + ((S.l.length - n.toNat : Nat) : Int) + ((S.l.take n.toNat).length : Int) = S.go + S.l.length
  rw [List.length_take]
  omega
theorem asked_get (S : Sp κ) (k : κ) : (S.get k).hi + (S.get k).mi = S.hi + S.mi + 1 ∧ (S.get k).hi = S.hi + if (fnd S.l k).isSome then 1 else 0 := by
  unfold Sp.get
  split
  · rename_i hf
    rw [hf]
    exact ⟨by show S.hi + (S.mi + 1) = _; omega, by show S.hi = S.hi + 0; omega⟩
  · rename_i v hf
    rw [hf]
    exact ⟨by show S.hi + 1 + S.mi = _; omega, rfl⟩
theorem put_uses (S : Sp κ) (k : κ) (v : Int) : (S.put k v).hi = S.hi ∧ (S.put k v).mi = S.mi := by
  unfold Sp.put
  split
  · exact ⟨rfl, rfl⟩
  · split <;> exact ⟨rfl, rfl⟩
theorem drops_uses (S : Sp κ) (ks : List κ) : (S.drops ks).1.hi = S.hi ∧ (S.drops ks).1.mi = S.mi ∧ (S.drops ks).1.most = S.most ∧ (S.drops ks).1.go = S.go := by
  have : ∀ (ks : List κ) (p : Sp κ × Nat), let q := (ks.foldl (fun p k => (p.1.drop k, p.2 + if (fnd p.1.l k).isSome then 1 else 0)) p).1; q.hi = p.1.hi ∧ q.mi = p.1.mi ∧ q.most = p.1.most ∧ q.go = p.1.go := by
    intro ks
    induction ks with
    | nil => exact fun p => ⟨rfl, rfl, rfl, rfl⟩
    | cons k r ih => exact fun p => ih _
  exact this ks (S, 0)
end
end Go.Kit
end
