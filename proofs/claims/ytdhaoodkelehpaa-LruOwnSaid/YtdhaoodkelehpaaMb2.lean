/- Contracts of functions that the laws reach (texts laid together, part 2): each says of its call what it answers and what it leaves of memory; the conditions stand in each statement. -/
import Derived.Test.YtdhaoodkelehpaaMb1
import Derived.Test.YtdhaoodkelehpaaWGuard
set_option linter.unusedVariables false
set_option linter.unusedSimpArgs false
set_option linter.unusedSectionVars false
set_option linter.unnecessarySimpa false
/-! A memo's inner functions. -/
section
namespace Go.Proofs.Ytdhaoodkelehpaa
open Go.RowKit Go.Kit Go.Proofs.YtdhaoodkelehpaaW.PrintWords
abbrev MTS : TypeId := 85
abbrev ETS : TypeId := 87
abbrev YTS : TypeId := 82
theorem neqMapS (m : Option Nat) (w : World) : (binOp .neq 82 (.map m) (.map none)).run Try.prog w = .ok (.bool (!m.isNone)) w := run_neq_map_nil w _ _ _ m Try.underlying82
section
variable {κ : Type} {K : Ky κ} {w : World} {m b : Nat} {most hi mi go : Int}
theorem madeS {L : List (En κ)} (h : LS w m b MTS ETS K most hi mi go L) : Calls Try.prog 43 #[.pointer (some ⟨m, 0, none⟩)] w fun e w' => e = .returned (.bool true) ∧ w' = w := by
  have h1 : w.cell? ⟨m, 1, none⟩ = some (.map (some b)) := cell_of_row w m 1 _ _ _ h.bk
  have h2 := neqMapS (some b)
  clear h
  go_enter Try.func43, Try.ntmps43
  go_wp2_with fail
  go_ret
  exact ⟨rfl, rfl⟩
/-- What 'cut' leaves. -/
def CutPostS (w : World) (m b : Nat) (K : Ky κ) (most hi mi go : Int) (A : List (En κ)) (e : En κ) (B : List (En κ)) (en : Ending) (w' : World) : Prop :=
  en = .returned (.tuple #[]) ∧ LS w' m b MTS ETS K most hi mi go (A ++ B) ∧ w'.heap[e.a]? = some (.cells #[K.kv e.k, .int .i64 e.v, .pointer none, .pointer none] ETS (0, 0)) ∧ Only w w' (lfp m (A ++ e :: B))
theorem cut_finS {W : World} {A B : List (En κ)} {e : En κ} (h : LS w m b MTS ETS K most hi mi go (A ++ e :: B))
    (hm : W.heap[m]? = some (.cells #[.int .i64 most, .map (some b), pv (hdo (A ++ B) none), pv (lso none (A ++ B)), .int .i64 hi, .int .i64 mi, .int .i64 go] MTS (0, 0)))
    (he : W.heap[e.a]? = some (.cells #[K.kv e.k, .int .i64 e.v, .pointer none, .pointer none] ETS (0, 0))) (hc : Chain W ETS K none none (A ++ B)) (ho : Only w W (lfp m (A ++ e :: B))) : CutPostS w m b K most hi mi go A e B (.returned (.tuple #[])) W := by
  refine ⟨rfl, ⟨hm, hc, ?_, h.ne⟩, he, ho⟩
  refine List.Nodup.sublist ?_ h.nd
  exact ((List.Sublist.refl A).append (List.sublist_cons_self e B)).map _
set_option maxHeartbeats 4000000 in
theorem cutS0 {e : En κ} (h : LS w m b MTS ETS K most hi mi go ([] ++ e :: [])) : Calls Try.prog 44 #[.pointer (some ⟨m, 0, none⟩), .pointer (some ⟨e.a, 0, none⟩)] w (CutPostS w m b K most hi mi go [] e []) := by
  have hm := h.bk
  have hc := h.ch
  rw [chain_append] at hc
  have he := hc.2.1
  have ha := h.apart
  have hn := h.nd
  simp only [bl, List.append_assoc, List.map_append, List.map_cons, List.map_nil, List.nodup_append, List.nodup_cons, List.mem_append, List.mem_cons, List.not_mem_nil, List.nil_append, List.nodup_nil, or_false, false_or, not_or, not_false_eq_true, true_and, and_true] at hn ha
  have HN := Lib.hid hn
  have HA := Lib.hid ha
  have hme : m ≠ e.a := fun q => by simp [q] at ha
  have h2 : w.cell? ⟨e.a, 2, none⟩ = some (.pointer none) := (cell_of_row w _ 2 _ _ _ he).trans (by simp [lso_append, lso_cons, lso_nil, pv_none, pv_some])
  have h3 : w.cell? ⟨e.a, 3, none⟩ = some (.pointer none) := (cell_of_row w _ 3 _ _ _ he).trans (by simp [hdo_cons, hdo_nil, pv_none, pv_some])
  obtain ⟨u2, c2⟩ : ∃ u, w.cell? ⟨m, 2, none⟩ = some u := ⟨_, cell_of_row w _ 2 _ _ _ hm⟩
  have f2 := frozen_of_row w m 2 _ _ hm
  obtain ⟨u3, c3⟩ : ∃ u, w.cell? ⟨m, 3, none⟩ = some u := ⟨_, cell_of_row w _ 3 _ _ _ hm⟩
  have f3 := frozen_of_row w m 3 _ _ hm
  have g2 := frozen_of_row w e.a 2 _ _ he
  have g3 := frozen_of_row w e.a 3 _ _ he
  have H := Lib.hid h
  have HC := Lib.hid hc
  have Hm := Lib.hid hm
  have He := Lib.hid he
  clear h hc hm he ha hn
  obtain ⟨ea, k, v⟩ := e
  dsimp only at h2 h3 g2 g3 hme c2 c3 f2 f3 ⊢
  go_enter Try.func44, Try.ntmps44
  go_wp2_with fail
  refine bodyPost_end (v := .tuple #[]) (by simp [results, Try.results44, go_sem]) rfl (cut_finS H.out ?_ ?_ ?_ ?_)
  · simp [heap_set_if, heap_drew, Hm.out, oset, hme, Ne.symm hme, hdo_nil, hdo_cons, lso_nil, lso_cons, pv_none, pv_some, hdo_append, lso_append]
  · simp [heap_set_if, heap_drew, He.out, oset, hme, Ne.symm hme]
  · trivial
  · exact (((((Only.refl w _).set m 2 _ (.inl (.inl rfl))).set m 3 _ (.inl (.inl rfl))).set ea 2 _ (.inl (.inr (by simp [bl])))).set ea 3 _ (.inl (.inr (by simp [bl]))))
set_option maxHeartbeats 4000000 in
theorem cutS1 {e y : En κ} {B : List (En κ)} (h : LS w m b MTS ETS K most hi mi go ([] ++ e :: y :: B)) : Calls Try.prog 44 #[.pointer (some ⟨m, 0, none⟩), .pointer (some ⟨e.a, 0, none⟩)] w (CutPostS w m b K most hi mi go [] e (y :: B)) := by
  have hm := h.bk
  have hc := h.ch
  rw [chain_append] at hc
  have he := hc.2.1
  have hy := hc.2.2.1
  have ha := h.apart
  have hn := h.nd
  simp only [bl, List.append_assoc, List.map_append, List.map_cons, List.map_nil, List.nodup_append, List.nodup_cons, List.mem_append, List.mem_cons, List.not_mem_nil, List.nil_append, List.nodup_nil, or_false, false_or, not_or, not_false_eq_true, true_and, and_true] at hn ha
  have HN := Lib.hid hn
  have HA := Lib.hid ha
  have hme : m ≠ e.a := fun q => by simp [q] at ha
  have hmy : m ≠ y.a := fun q => by simp [q] at ha
  have hey : e.a ≠ y.a := fun q => by simp [q] at hn
  have h2 : w.cell? ⟨e.a, 2, none⟩ = some (.pointer none) := (cell_of_row w _ 2 _ _ _ he).trans (by simp [lso_append, lso_cons, lso_nil, pv_none, pv_some])
  have h3 : w.cell? ⟨e.a, 3, none⟩ = some (.pointer (some ⟨y.a, 0, none⟩)) := (cell_of_row w _ 3 _ _ _ he).trans (by simp [hdo_cons, hdo_nil, pv_none, pv_some])
  obtain ⟨u2, c2⟩ : ∃ u, w.cell? ⟨m, 2, none⟩ = some u := ⟨_, cell_of_row w _ 2 _ _ _ hm⟩
  have f2 := frozen_of_row w m 2 _ _ hm
  obtain ⟨u3, c3⟩ : ∃ u, w.cell? ⟨y.a, 2, none⟩ = some u := ⟨_, cell_of_row w _ 2 _ _ _ hy⟩
  have f3 := frozen_of_row w y.a 2 _ _ hy
  have g2 := frozen_of_row w e.a 2 _ _ he
  have g3 := frozen_of_row w e.a 3 _ _ he
  have H := Lib.hid h
  have HC := Lib.hid hc
  have Hm := Lib.hid hm
  have He := Lib.hid he
  have Hy := Lib.hid hy
  clear h hc hm he ha hn hy
  obtain ⟨ea, k, v⟩ := e
  obtain ⟨ya, yk, yv⟩ := y
  dsimp only at h2 h3 g2 g3 hme c2 c3 f2 f3 hmy hey ⊢
  go_enter Try.func44, Try.ntmps44
  go_wp2_with fail
  go_region_held3 (fun W => W.cell? ⟨ea, 2, none⟩ = some (.pointer none) ∧ W.cell? ⟨ea, 3, none⟩ = some (.pointer (some ⟨ya, 0, none⟩))) (simp [*, World.cell?_setCell_far, World.cell?_drew, hme, Ne.symm hme, hey, Ne.symm hey, hmy, Ne.symm hmy]) (fail)
  all_goals go_wp2_with fail
  refine bodyPost_end (v := .tuple #[]) (by simp [results, Try.results44, go_sem]) rfl (cut_finS H.out ?_ ?_ ?_ ?_)
  · simp [heap_set_if, heap_drew, Hm.out, oset, hme, Ne.symm hme, hey, Ne.symm hey, hmy, Ne.symm hmy, hdo_nil, hdo_cons, lso_nil, lso_cons, pv_none, pv_some, hdo_append, lso_append]
  · simp [heap_set_if, heap_drew, He.out, oset, hme, Ne.symm hme, hey, Ne.symm hey, hmy, Ne.symm hmy]
  · refine Chain.setP HC.out.2.2 (fun z hz => ?_) ?_
    · have hza : z.a ∈ List.map (fun x => x.a) B := List.mem_map.2 ⟨z, hz, rfl⟩
      have n1 : z.a ≠ m := fun q => by have := HA.out; rw [q] at hza; simp [hza] at this
      have n2 : z.a ≠ ea := fun q => by have := HN.out; grind
      have n4 : z.a ≠ ya := fun q => by have := HN.out; grind
      simp [heap_set_if, heap_drew, n1, n2, n4]
    · simp [heap_set_if, heap_drew, Hy.out, oset, hme, Ne.symm hme, hey, Ne.symm hey, hmy, Ne.symm hmy, pv_none, pv_some, hdo_cons, hdo_nil]
  · exact (((((Only.refl w _).set m 2 _ (.inl (.inl rfl))).set ya 2 _ (.inl (.inr (by simp [bl])))).set ea 2 _ (.inl (.inr (by simp [bl])))).set ea 3 _ (.inl (.inr (by simp [bl])))).drew
set_option maxHeartbeats 4000000 in
theorem cutS2 {e x : En κ} {A : List (En κ)} (h : LS w m b MTS ETS K most hi mi go ((A ++ [x]) ++ e :: [])) : Calls Try.prog 44 #[.pointer (some ⟨m, 0, none⟩), .pointer (some ⟨e.a, 0, none⟩)] w (CutPostS w m b K most hi mi go (A ++ [x]) e []) := by
  have hm := h.bk
  have hc := h.ch
  rw [chain_append] at hc
  rw [chain_append] at hc
  have hx := hc.1.2.1
  have he := hc.2.1
  have ha := h.apart
  have hn := h.nd
  simp only [bl, List.append_assoc, List.map_append, List.map_cons, List.map_nil, List.nodup_append, List.nodup_cons, List.mem_append, List.mem_cons, List.not_mem_nil, List.nil_append, List.nodup_nil, or_false, false_or, not_or, not_false_eq_true, true_and, and_true] at hn ha
  have HN := Lib.hid hn
  have HA := Lib.hid ha
  have hme : m ≠ e.a := fun q => by simp [q] at ha
  have hmx : m ≠ x.a := fun q => by simp [q] at ha
  have hex : e.a ≠ x.a := fun q => by simp [q] at hn
  have h2 : w.cell? ⟨e.a, 2, none⟩ = some (.pointer (some ⟨x.a, 0, none⟩)) := (cell_of_row w _ 2 _ _ _ he).trans (by simp [lso_append, lso_cons, lso_nil, pv_none, pv_some])
  have h3 : w.cell? ⟨e.a, 3, none⟩ = some (.pointer none) := (cell_of_row w _ 3 _ _ _ he).trans (by simp [hdo_cons, hdo_nil, pv_none, pv_some])
  obtain ⟨u2, c2⟩ : ∃ u, w.cell? ⟨x.a, 3, none⟩ = some u := ⟨_, cell_of_row w _ 3 _ _ _ hx⟩
  have f2 := frozen_of_row w x.a 3 _ _ hx
  obtain ⟨u3, c3⟩ : ∃ u, w.cell? ⟨m, 3, none⟩ = some u := ⟨_, cell_of_row w _ 3 _ _ _ hm⟩
  have f3 := frozen_of_row w m 3 _ _ hm
  have g2 := frozen_of_row w e.a 2 _ _ he
  have g3 := frozen_of_row w e.a 3 _ _ he
  have H := Lib.hid h
  have HC := Lib.hid hc
  have Hm := Lib.hid hm
  have He := Lib.hid he
  have Hx := Lib.hid hx
  clear h hc hm he ha hn hx
  obtain ⟨ea, k, v⟩ := e
  obtain ⟨xa, xk, xv⟩ := x
  dsimp only at h2 h3 g2 g3 hme c2 c3 f2 f3 hmx hex ⊢
  go_enter Try.func44, Try.ntmps44
  go_wp2_with fail
  go_region_held3 (fun W => W.cell? ⟨ea, 2, none⟩ = some (.pointer (some ⟨xa, 0, none⟩)) ∧ W.cell? ⟨ea, 3, none⟩ = some (.pointer none)) (simp [*, World.cell?_setCell_far, World.cell?_drew, hme, Ne.symm hme, hex, Ne.symm hex, hmx, Ne.symm hmx]) (fail)
  all_goals go_wp2_with fail
  refine bodyPost_end (v := .tuple #[]) (by simp [results, Try.results44, go_sem]) rfl (cut_finS H.out ?_ ?_ ?_ ?_)
  · simp [heap_set_if, heap_drew, Hm.out, oset, hme, Ne.symm hme, hex, Ne.symm hex, hmx, Ne.symm hmx, hdo_nil, hdo_cons, lso_nil, lso_cons, pv_none, pv_some, hdo_append, lso_append]
  · simp [heap_set_if, heap_drew, He.out, oset, hme, Ne.symm hme, hex, Ne.symm hex, hmx, Ne.symm hmx]
  · rw [List.append_nil]
    refine Chain.setQ ((chain_append _ _ _ _).2 HC.out.1) (fun z hz => ?_) ?_
    · have hza : z.a ∈ List.map (fun x => x.a) A := List.mem_map.2 ⟨z, hz, rfl⟩
      have n1 : z.a ≠ m := fun q => by have := HA.out; rw [q] at hza; simp [hza] at this
      have n2 : z.a ≠ ea := fun q => by have := HN.out; grind
      have n3 : z.a ≠ xa := fun q => by have := HN.out; grind
      simp [heap_set_if, heap_drew, n1, n2, n3]
    · simp [heap_set_if, heap_drew, Hx.out, oset, hme, Ne.symm hme, hex, Ne.symm hex, hmx, Ne.symm hmx, pv_none, pv_some, hdo_cons, hdo_nil]
  · exact (((((Only.refl w _).set xa 3 _ (.inl (.inr (by simp [bl])))).set m 3 _ (.inl (.inl rfl))).set ea 2 _ (.inl (.inr (by simp [bl])))).set ea 3 _ (.inl (.inr (by simp [bl])))).drew
set_option maxHeartbeats 4000000 in
theorem cutS3 {e x y : En κ} {A : List (En κ)} {B : List (En κ)} (h : LS w m b MTS ETS K most hi mi go ((A ++ [x]) ++ e :: y :: B)) : Calls Try.prog 44 #[.pointer (some ⟨m, 0, none⟩), .pointer (some ⟨e.a, 0, none⟩)] w (CutPostS w m b K most hi mi go (A ++ [x]) e (y :: B)) := by
  have hm := h.bk
  have hc := h.ch
  rw [chain_append] at hc
  rw [chain_append] at hc
  have hx := hc.1.2.1
  have he := hc.2.1
  have hy := hc.2.2.1
  have ha := h.apart
  have hn := h.nd
  simp only [bl, List.append_assoc, List.map_append, List.map_cons, List.map_nil, List.nodup_append, List.nodup_cons, List.mem_append, List.mem_cons, List.not_mem_nil, List.nil_append, List.nodup_nil, or_false, false_or, not_or, not_false_eq_true, true_and, and_true] at hn ha
  have HN := Lib.hid hn
  have HA := Lib.hid ha
  have hme : m ≠ e.a := fun q => by simp [q] at ha
  have hmx : m ≠ x.a := fun q => by simp [q] at ha
  have hex : e.a ≠ x.a := fun q => by simp [q] at hn
  have hmy : m ≠ y.a := fun q => by simp [q] at ha
  have hey : e.a ≠ y.a := fun q => by simp [q] at hn
  have hxy : x.a ≠ y.a := fun q => by simp [q] at hn
  have h2 : w.cell? ⟨e.a, 2, none⟩ = some (.pointer (some ⟨x.a, 0, none⟩)) := (cell_of_row w _ 2 _ _ _ he).trans (by simp [lso_append, lso_cons, lso_nil, pv_none, pv_some])
  have h3 : w.cell? ⟨e.a, 3, none⟩ = some (.pointer (some ⟨y.a, 0, none⟩)) := (cell_of_row w _ 3 _ _ _ he).trans (by simp [hdo_cons, hdo_nil, pv_none, pv_some])
  obtain ⟨u2, c2⟩ : ∃ u, w.cell? ⟨x.a, 3, none⟩ = some u := ⟨_, cell_of_row w _ 3 _ _ _ hx⟩
  have f2 := frozen_of_row w x.a 3 _ _ hx
  obtain ⟨u3, c3⟩ : ∃ u, w.cell? ⟨y.a, 2, none⟩ = some u := ⟨_, cell_of_row w _ 2 _ _ _ hy⟩
  have f3 := frozen_of_row w y.a 2 _ _ hy
  have g2 := frozen_of_row w e.a 2 _ _ he
  have g3 := frozen_of_row w e.a 3 _ _ he
  have H := Lib.hid h
  have HC := Lib.hid hc
  have Hm := Lib.hid hm
  have He := Lib.hid he
  have Hx := Lib.hid hx
  have Hy := Lib.hid hy
  clear h hc hm he ha hn hx hy
  obtain ⟨ea, k, v⟩ := e
  obtain ⟨xa, xk, xv⟩ := x
  obtain ⟨ya, yk, yv⟩ := y
  dsimp only at h2 h3 g2 g3 hme c2 c3 f2 f3 hmx hex hmy hey hxy ⊢
  go_enter Try.func44, Try.ntmps44
  go_wp2_with fail
  go_region_held3 (fun W => W.cell? ⟨ea, 2, none⟩ = some (.pointer (some ⟨xa, 0, none⟩)) ∧ W.cell? ⟨ea, 3, none⟩ = some (.pointer (some ⟨ya, 0, none⟩))) (simp [*, World.cell?_setCell_far, World.cell?_drew, hme, Ne.symm hme, hex, Ne.symm hex, hmx, Ne.symm hmx, hey, Ne.symm hey, hmy, Ne.symm hmy, hxy, Ne.symm hxy]) (fail)
  all_goals go_wp2_with fail
  go_region_held3 (fun W => W.cell? ⟨ea, 2, none⟩ = some (.pointer (some ⟨xa, 0, none⟩)) ∧ W.cell? ⟨ea, 3, none⟩ = some (.pointer (some ⟨ya, 0, none⟩))) (simp [*, World.cell?_setCell_far, World.cell?_drew, hme, Ne.symm hme, hex, Ne.symm hex, hmx, Ne.symm hmx, hey, Ne.symm hey, hmy, Ne.symm hmy, hxy, Ne.symm hxy]) (fail)
  all_goals go_wp2_with fail
  refine bodyPost_end (v := .tuple #[]) (by simp [results, Try.results44, go_sem]) rfl (cut_finS H.out ?_ ?_ ?_ ?_)
  · simp [heap_set_if, heap_drew, Hm.out, oset, hme, Ne.symm hme, hex, Ne.symm hex, hmx, Ne.symm hmx, hey, Ne.symm hey, hmy, Ne.symm hmy, hxy, Ne.symm hxy, hdo_nil, hdo_cons, lso_nil, lso_cons, pv_none, pv_some, hdo_append, lso_append]
  · simp [heap_set_if, heap_drew, He.out, oset, hme, Ne.symm hme, hex, Ne.symm hex, hmx, Ne.symm hmx, hey, Ne.symm hey, hmy, Ne.symm hmy, hxy, Ne.symm hxy]
  · rw [chain_append]
    constructor
    · refine Chain.setQ ((chain_append _ _ _ _).2 HC.out.1) (fun z hz => ?_) ?_
      · have hza : z.a ∈ List.map (fun x => x.a) A := List.mem_map.2 ⟨z, hz, rfl⟩
        have n1 : z.a ≠ m := fun q => by have := HA.out; rw [q] at hza; simp [hza] at this
        have n2 : z.a ≠ ea := fun q => by have := HN.out; grind
        have n3 : z.a ≠ xa := fun q => by have := HN.out; grind
        have n4 : z.a ≠ ya := fun q => by have := HN.out; grind
        simp [heap_set_if, heap_drew, n1, n2, n3, n4]
      · simp [heap_set_if, heap_drew, Hx.out, oset, hme, Ne.symm hme, hex, Ne.symm hex, hmx, Ne.symm hmx, hey, Ne.symm hey, hmy, Ne.symm hmy, hxy, Ne.symm hxy, pv_none, pv_some, hdo_cons, hdo_nil]
    · refine Chain.setP HC.out.2.2 (fun z hz => ?_) ?_
      · have hza : z.a ∈ List.map (fun x => x.a) B := List.mem_map.2 ⟨z, hz, rfl⟩
        have n1 : z.a ≠ m := fun q => by have := HA.out; rw [q] at hza; simp [hza] at this
        have n2 : z.a ≠ ea := fun q => by have := HN.out; grind
        have n3 : z.a ≠ xa := fun q => by have := HN.out; grind
        have n4 : z.a ≠ ya := fun q => by have := HN.out; grind
        simp [heap_set_if, heap_drew, n1, n2, n3, n4]
      · simp [heap_set_if, heap_drew, Hy.out, oset, hme, Ne.symm hme, hex, Ne.symm hex, hmx, Ne.symm hmx, hey, Ne.symm hey, hmy, Ne.symm hmy, hxy, Ne.symm hxy, pv_none, pv_some, lso_append, lso_cons, lso_nil]
  · exact (((((Only.refl w _).set xa 3 _ (.inl (.inr (by simp [bl])))).set ya 2 _ (.inl (.inr (by simp [bl])))).set ea 2 _ (.inl (.inr (by simp [bl])))).set ea 3 _ (.inl (.inr (by simp [bl])))).drew.drew
theorem cutS {A B : List (En κ)} {e : En κ} (h : LS w m b MTS ETS K most hi mi go (A ++ e :: B)) : Calls Try.prog 44 #[.pointer (some ⟨m, 0, none⟩), .pointer (some ⟨e.a, 0, none⟩)] w (CutPostS w m b K most hi mi go A e B) := by
  rcases List.eq_nil_or_concat A with rfl | ⟨A, x, rfl⟩
  · cases B with
    | nil => exact cutS0 h
    | cons y B => exact cutS1 h
  · rw [List.concat_eq_append] at h ⊢
    cases B with
    | nil => exact cutS2 h
    | cons y B => exact cutS3 h
/-- What 'front' leaves. -/
def FrontPostS (w : World) (m b : Nat) (K : Ky κ) (most hi mi go : Int) (e : En κ) (L : List (En κ)) (en : Ending) (w' : World) : Prop :=
  en = .returned (.tuple #[]) ∧ LS w' m b MTS ETS K most hi mi go (e :: L) ∧ Only w w' (lfp m (e :: L))
set_option maxHeartbeats 4000000 in
theorem frontS0 {e : En κ} (h : LS w m b MTS ETS K most hi mi go []) (he : w.heap[e.a]? = some (.cells #[K.kv e.k, .int .i64 e.v, .pointer none, .pointer none] ETS (0, 0))) (hne : e.a ∉ bl (κ := κ) []) : Calls Try.prog 45 #[.pointer (some ⟨m, 0, none⟩), .pointer (some ⟨e.a, 0, none⟩)] w (FrontPostS w m b K most hi mi go e []) := by
  have hm := h.bk
  have ha := h.apart
  have hme : m ≠ e.a := fun q => h.ne (not_both hm (q ▸ he))
  have h2 : w.cell? ⟨m, 2, none⟩ = some (.pointer none) := (cell_of_row w _ 2 _ _ _ hm).trans (by simp [hdo_cons, hdo_nil, pv_none, pv_some])
  obtain ⟨u3, h3⟩ : ∃ u, w.cell? ⟨m, 3, none⟩ = some u := ⟨_, cell_of_row w _ 3 _ _ _ hm⟩
  have k3 : w.cell? ⟨e.a, 3, none⟩ = some (.pointer none) := cell_of_row w _ 3 _ _ _ he
  have f2 := frozen_of_row w m 2 _ _ hm
  have f3 := frozen_of_row w m 3 _ _ hm
  have g3 := frozen_of_row w e.a 3 _ _ he
  have H := Lib.hid h
  have Hm := Lib.hid hm
  have He := Lib.hid he
  have HA := Lib.hid ha
  have HE := Lib.hid hne
  clear h hm he ha hne
  obtain ⟨ea, k, v⟩ := e
  dsimp only at h2 k3 g3 hme ⊢
  go_enter Try.func45, Try.ntmps45
  go_wp2_with fail
  refine bodyPost_end (v := .tuple #[]) (by simp [results, Try.results45, go_sem]) rfl ⟨rfl, ⟨?_, ⟨?_, ?_⟩, ?_, H.out.ne⟩, ?_⟩
  · simp [heap_set_if, Hm.out, oset, hme, Ne.symm hme, hdo_nil, hdo_cons, lso_nil, lso_cons, pv_none, pv_some]
  · simp [heap_set_if, He.out, oset, hme, Ne.symm hme, hdo_nil, hdo_cons, pv_none, pv_some]
  · trivial
  · exact List.nodup_cons.2 ⟨HE.out, H.out.nd⟩
  · exact ((((Only.refl w _).set ea 3 _ (.inl (.inr (by simp [bl])))).set m 3 _ (.inl (.inl rfl))).set m 2 _ (.inl (.inl rfl)))
set_option maxHeartbeats 4000000 in
theorem frontS1 {e x : En κ} {B : List (En κ)} (h : LS w m b MTS ETS K most hi mi go (x :: B)) (he : w.heap[e.a]? = some (.cells #[K.kv e.k, .int .i64 e.v, .pointer none, .pointer none] ETS (0, 0))) (hne : e.a ∉ bl (κ := κ) (x :: B)) : Calls Try.prog 45 #[.pointer (some ⟨m, 0, none⟩), .pointer (some ⟨e.a, 0, none⟩)] w (FrontPostS w m b K most hi mi go e (x :: B)) := by
  have hm := h.bk
  have hx := h.ch.1
  have ha := h.apart
  have hme : m ≠ e.a := fun q => h.ne (not_both hm (q ▸ he))
  have hmx : m ≠ x.a := fun q => ha (by simp [bl, q])
  have hex : e.a ≠ x.a := fun q => hne (by simp [bl, q])
  have h2 : w.cell? ⟨m, 2, none⟩ = some (.pointer (some ⟨x.a, 0, none⟩)) := (cell_of_row w _ 2 _ _ _ hm).trans (by simp [hdo_cons, hdo_nil, pv_none, pv_some])
  obtain ⟨u3, h3⟩ : ∃ u, w.cell? ⟨m, 3, none⟩ = some u := ⟨_, cell_of_row w _ 3 _ _ _ hm⟩
  have k3 : w.cell? ⟨e.a, 3, none⟩ = some (.pointer none) := cell_of_row w _ 3 _ _ _ he
  have f2 := frozen_of_row w m 2 _ _ hm
  have f3 := frozen_of_row w m 3 _ _ hm
  have g3 := frozen_of_row w e.a 3 _ _ he
  obtain ⟨u2, c2⟩ : ∃ u, w.cell? ⟨x.a, 2, none⟩ = some u := ⟨_, cell_of_row w _ 2 _ _ _ hx⟩
  have x2 := frozen_of_row w x.a 2 _ _ hx
  have H := Lib.hid h
  have Hm := Lib.hid hm
  have He := Lib.hid he
  have HA := Lib.hid ha
  have HE := Lib.hid hne
  have Hx := Lib.hid hx
  clear h hm he ha hne hx
  obtain ⟨ea, k, v⟩ := e
  obtain ⟨xa, xk, xv⟩ := x
  dsimp only at h2 k3 g3 hme hmx hex c2 x2 ⊢
  go_enter Try.func45, Try.ntmps45
  go_wp2_with fail
  refine bodyPost_end (v := .tuple #[]) (by simp [results, Try.results45, go_sem]) rfl ⟨rfl, ⟨?_, ⟨?_, ?_⟩, ?_, H.out.ne⟩, ?_⟩
  · simp [heap_set_if, Hm.out, oset, hme, Ne.symm hme, hex, Ne.symm hex, hmx, Ne.symm hmx, hdo_nil, hdo_cons, lso_nil, lso_cons, pv_none, pv_some]
  · simp [heap_set_if, He.out, oset, hme, Ne.symm hme, hex, Ne.symm hex, hmx, Ne.symm hmx, hdo_nil, hdo_cons, pv_none, pv_some]
  · refine Chain.setP H.out.ch (fun z hz => ?_) ?_
    · have n1 : z.a ≠ m := fun q => HA.out (by rw [← q]; exact List.mem_map.2 ⟨z, by simp [hz], rfl⟩)
      have n2 : z.a ≠ ea := fun q => HE.out (by rw [← q]; exact List.mem_map.2 ⟨z, by simp [hz], rfl⟩)
      have hn := H.out.nd
      simp only [bl, List.map_cons, List.nodup_cons] at hn
      have n3 : z.a ≠ xa := fun q => hn.1 (by rw [← q]; exact List.mem_map.2 ⟨z, hz, rfl⟩)
      simp [heap_set_if, n1, n2, n3]
    · simp [heap_set_if, Hx.out, oset, hme, Ne.symm hme, hex, Ne.symm hex, hmx, Ne.symm hmx, hdo_nil, hdo_cons, pv_none, pv_some]
  · exact List.nodup_cons.2 ⟨HE.out, H.out.nd⟩
  · exact ((((Only.refl w _).set ea 3 _ (.inl (.inr (by simp [bl])))).set xa 2 _ (.inl (.inr (by simp [bl])))).set m 2 _ (.inl (.inl rfl)))
theorem frontS {e : En κ} {L : List (En κ)} (h : LS w m b MTS ETS K most hi mi go L) (he : w.heap[e.a]? = some (.cells #[K.kv e.k, .int .i64 e.v, .pointer none, .pointer none] ETS (0, 0))) (hne : e.a ∉ bl L) : Calls Try.prog 45 #[.pointer (some ⟨m, 0, none⟩), .pointer (some ⟨e.a, 0, none⟩)] w (FrontPostS w m b K most hi mi go e L) := by
  cases L with
  | nil => exact frontS0 h he hne
  | cons x B => exact frontS1 h he hne
end
end Go.Proofs.Ytdhaoodkelehpaa
end
/-! A memo in memory, with its map. New, Len, Look. -/
section
set_option linter.unusedVariables false
namespace Go.Proofs.Ytdhaoodkelehpaa
open Go.RowKit Go.Kit Go.Proofs.YtdhaoodkelehpaaW.PrintWords
open Go.Maps (Keyed int_keyed string_keyed)
abbrev KTS : TypeId := 9
abbrev PTS : TypeId := 83
theorem keyedS : Keyed Try.prog KTS := string_keyed Try.underlying9
theorem zeroPS (w : World) : (zeroValue PTS).run Try.prog w = .ok (.pointer none) w := by kernel_rfl
/-- A memo: its row, its map, and what it is by its calls. -/
structure MeS {κ : Type} [DecidableEq κ] (w : World) (m b : Nat) (K : Ky κ) (L : List (En κ)) (S : Sp κ) : Prop where
  ls : LS w m b MTS ETS K S.most S.hi S.mi S.go L
  mp : ∃ D, w.ownsMap Try.prog KTS ptrElem b L.length D ∧ MD K D L
  ky : ∀ e ∈ L, keyOf Try.prog KTS (K.kv e.k) = some (K.kl e.k)
  eq : S.l = kvs L
  ok : S.okw
  cnt : 0 ≤ S.hi ∧ 0 ≤ S.mi ∧ 0 ≤ S.go
section
variable {κ : Type} [DecidableEq κ] {K : Ky κ} {w w1 : World} {m b : Nat} {L : List (En κ)} {S : Sp κ}
theorem owns_onlyS {D : DataW Unit} {n : Nat} {X : Nat → Prop} (h : w.ownsMap Try.prog KTS ptrElem b n D) (ho : Only w w1 X) (hs : ¬ X b) : w1.ownsMap Try.prog KTS ptrElem b n D := by
  obtain ⟨es, clock, hb, r⟩ := h
  exact ⟨es, clock, ho.kept hb hs, r⟩
theorem MeS.mb (h : MeS w m b K L S) : m ≠ b := fun e => by
  obtain ⟨D, ⟨es, clock, hb, _⟩, _⟩ := h.mp
  have := h.ls.bk
  rw [e, hb] at this
  cases this
theorem MeS.eb (h : MeS w m b K L S) : b ∉ bl L := fun e => by
  obtain ⟨D, ⟨es, clock, hb, _⟩, _⟩ := h.mp
  obtain ⟨x, hx, rfl⟩ := List.mem_map.1 e
  obtain ⟨u, v, h1⟩ := h.ls.ch.mem x hx
  rw [hb] at h1
  cases h1
theorem MeS.lb (h : MeS w m b K L S) : ¬ lfp m L b := fun e => e.elim (fun e => h.mb e.symm) h.eb
/-- Its footprint. -/
theorem MeS.only {X : Nat → Prop} (h : MeS w m b K L S) (ho : Only w w1 X) (hs : ∀ k, mfp m b L k → ¬ X k) : MeS w1 m b K L S :=
  ⟨h.ls.only ho (fun k hk => hs k (hk.elim .inl (fun h => .inr (.inr h)))), h.mp.imp fun D hD => ⟨owns_onlyS hD.1 ho (hs b (.inr (.inl rfl))), hD.2⟩, h.ky, h.eq, h.ok, h.cnt⟩
theorem MeS.below (h : MeS w m b K L S) (hb : Below w.heap.size w w1) : MeS w1 m b K L S := h.only (Only.of_below hb (fun _ => False)) (fun _ _ e => e)
theorem MeS.drewN (h : MeS w m b K L S) (k : Nat) : MeS (w.drewN k) m b K L S := h.below (pw_below_drewN (Below.refl _ _) k)
theorem MeS.old (h : MeS w m b K L S) : Old w (mfp m b L) := fun k hk => by
  rcases hk with rfl | rfl | hk
  · exact lt_of_block h.ls.bk
  · obtain ⟨D, ⟨es, clock, hb, _⟩, _⟩ := h.mp; exact lt_of_block hb
  · exact h.ls.ch.lt k hk
theorem MeS.len (h : MeS w m b K L S) : S.l.length = L.length := by rw [h.eq]; simp [kvs]
theorem MeS.made (h : MeS w m b K L S) : Calls Try.prog 43 #[.pointer (some ⟨m, 0, none⟩)] w fun e w' => e = .returned (.bool true) ∧ w' = w := madeS h.ls
theorem MeS.c1 (h : MeS w m b K L S) : w.cell? ⟨m, 1, none⟩ = some (.map (some b)) := cell_of_row w m 1 _ _ _ h.ls.bk
/-- len(m.by) -/
theorem MeS.run_len (h : MeS w m b K L S) (ty : TypeId) : (Builtin.len_ #[YTS] ty #[.map (some b)]).run Try.prog w = .ok (.int .i64 (L.length : Int)) w := by
  obtain ⟨D, hD, hM⟩ := h.mp
  rw [hD.len (e := PTS) Try.underlying82 ty, hM.sz]
/-- m.by[k] -/
theorem MeS.run_look (h : MeS w m b K L S) {k : κ} (hk : keyOf Try.prog KTS (K.kv k) = some (K.kl k)) : (Instr.lookup YTS (.map (some b)) (K.kv k) false).run Try.prog w = .ok (pv ((L.find? (fun e => decide (e.k = k))).map (·.a))) w := by
  obtain ⟨D, hD, hM⟩ := h.mp
  refine look_ptr hD keyedS (e := PTS) Try.underlying82 (zeroPS w) hk _ ?_
  rw [hM.at_ k]
  cases L.find? (fun e => decide (e.k = k)) <;> rfl
theorem MeS.max (h : MeS w m b K L S) : L.length ≤ 4096 := by have := h.len; have := h.ok.2.1; omega
theorem lenS (h : MeS w m b K L S) : Calls Try.prog 32 #[.pointer (some ⟨m, 0, none⟩)] w fun e w' => e = .returned (.int .i64 (S.l.length : Int)) ∧ w' = w := by
  rw [h.len]
  have h1 := h.c1
  have h2 := h.run_len
  have H := Lib.hid h
  clear h
  go_enter Try.func32, Try.ntmps32
  go_wp2_with fail
  refine H.out.made.mono ?_
  rintro e w1 ⟨rfl, rfl⟩
  go_wp2_with fail
  go_ret
  exact ⟨rfl, rfl⟩
end
end Go.Proofs.Ytdhaoodkelehpaa
end
/-! The oldest entry goes. -/
section
set_option linter.unusedVariables false
namespace Go.Proofs.Ytdhaoodkelehpaa
open Go.RowKit Go.Kit Go.Proofs.YtdhaoodkelehpaaW.PrintWords
section
variable {κ : Type} [DecidableEq κ] {K : Ky κ} {w w1 : World} {m b : Nat} {L A B : List (En κ)} {e : En κ} {S : Sp κ} {most hi mi go : Int}
theorem hitS (h : LS w m b MTS ETS K most hi mi go L) (x : Int) : LS (w.setCell ⟨m, 4, none⟩ (.int .i64 x)) m b MTS ETS K most x mi go L :=
  ⟨heap_set_same w m 4 _ _ _ h.bk, h.ch.kept (fun e he => heap_setCell_other _ _ _ _ (fun q => h.apart (by rw [← (show e.a = m from q)]; exact List.mem_map.2 ⟨e, he, rfl⟩))), h.nd, h.ne⟩
theorem misS (h : LS w m b MTS ETS K most hi mi go L) (x : Int) : LS (w.setCell ⟨m, 5, none⟩ (.int .i64 x)) m b MTS ETS K most hi x go L :=
  ⟨heap_set_same w m 5 _ _ _ h.bk, h.ch.kept (fun e he => heap_setCell_other _ _ _ _ (fun q => h.apart (by rw [← (show e.a = m from q)]; exact List.mem_map.2 ⟨e, he, rfl⟩))), h.nd, h.ne⟩
theorem gonS (h : LS w m b MTS ETS K most hi mi go L) (x : Int) : LS (w.setCell ⟨m, 6, none⟩ (.int .i64 x)) m b MTS ETS K most hi mi x L :=
  ⟨heap_set_same w m 6 _ _ _ h.bk, h.ch.kept (fun e he => heap_setCell_other _ _ _ _ (fun q => h.apart (by rw [← (show e.a = m from q)]; exact List.mem_map.2 ⟨e, he, rfl⟩))), h.nd, h.ne⟩
theorem mosS (h : LS w m b MTS ETS K most hi mi go L) (x : Int) : LS (w.setCell ⟨m, 0, none⟩ (.int .i64 x)) m b MTS ETS K x hi mi go L :=
  ⟨heap_set_same w m 0 _ _ _ h.bk, h.ch.kept (fun e he => heap_setCell_other _ _ _ _ (fun q => h.apart (by rw [← (show e.a = m from q)]; exact List.mem_map.2 ⟨e, he, rfl⟩))), h.nd, h.ne⟩
theorem del_delS {H : Type} {D : DataW H} (k : Lit) : (D.del k).del k = D.del k := Maps.del_of_not_has Maps.has_del_same
theorem mapTurned_onlyS {w w2 : World} {b : Nat} (h : w.mapTurned w2 b) : Only w w2 (fun k => k = b) := by
  have := h.grown
  exact ⟨this.os, this.tape, this.output, this.size, fun k hk hn => this.block k hk (fun e => hn (by cases e; rfl))⟩
/-- What stands while the oldest one's key is deleted. -/
def GonSS (w1 : World) (b n : Nat) (D : DataW Unit) (kl : Lit) (W : World) : Prop := (∃ D2, W.ownsMap Try.prog KTS ptrElem b n D2 ∧ D2.del kl = D.del kl) ∧ Only w1 W (fun k => k = b)
set_option maxHeartbeats 4000000 in
set_option maxRecDepth 100000 in
theorem goneS (h : MeS w m b K (A ++ [e]) S) (hgo : S.go ≤ 9223372036854775806) : Calls Try.prog 46 #[.pointer (some ⟨m, 0, none⟩)] w fun en w' => en = .returned (K.kv e.k) ∧ MeS w' m b K A { S with l := kvs A, go := S.go + 1 } ∧ Only w w' (mfp m b (A ++ [e])) := by
  have hm := h.ls.bk
  have h0 : 0 ≤ S.go := h.cnt.2.2
  have h3 : w.cell? ⟨m, 3, none⟩ = some (.pointer (some ⟨e.a, 0, none⟩)) := (cell_of_row w _ 3 _ _ _ hm).trans (by simp [lso_append, lso_cons, lso_nil, pv_some])
  have hcut : ∀ x, Calls Try.prog 44 #[.pointer (some ⟨m, 0, none⟩), .pointer (some ⟨e.a, 0, none⟩)] w _ := fun _ : Unit => cutS (B := []) h.ls
  have hme : m ≠ e.a := fun x => h.ls.apart (by rw [x]; simp [bl])
  have hbe : b ≠ e.a := fun x => h.eb (by rw [x]; simp [bl])
  have hbm := h.mb
  have HC := Lib.hid hcut
  have H := Lib.hid h
  clear h hm hcut
  obtain ⟨go, hgo1⟩ : ∃ go, S.go = go := ⟨_, rfl⟩
  rw [hgo1] at h0 hgo
  have HG := Lib.hid hgo1
  clear hgo1
  obtain ⟨ea, k, v⟩ := e
  dsimp only at h3 hme hbe ⊢
  go_enter Try.func46, Try.ntmps46
  go_wp2_with fail
  refine (HC.out ()).mono ?_
  rintro en w1 ⟨rfl, hL, hE, hO⟩
  rw [List.append_nil] at hL
  obtain ⟨D, hD, hM⟩ := H.out.mp
  have hD1 := owns_onlyS hD hO H.out.lb
  have HK := Lib.hid (H.out.ky ⟨ea, k, v⟩ (by simp))
  have m1 : w1.cell? ⟨m, 1, none⟩ = some (.map (some b)) := cell_of_row w1 _ 1 _ _ _ hL.bk
  have m6 : w1.cell? ⟨m, 6, none⟩ = some (.int .i64 go) := (cell_of_row w1 _ 6 _ _ _ hL.bk).trans (by rw [← HG.out]; rfl)
  have e0 : w1.cell? ⟨ea, 0, none⟩ = some (K.kv k) := cell_of_row w1 _ 0 _ _ _ hE
  have f6 := frozen_of_row w1 m 6 _ _ hL.bk
  have HL := Lib.hid hL
  have HO := Lib.hid hO
  have HM := Lib.hid hM
  have HD := Lib.hid hD1
  clear hL hE hO hD hD1 hM h3
  go_wp2_with fail
  go_region_held3 (fun W => W.cell? ⟨m, 1, none⟩ = some (.map (some b)) ∧ W.cell? ⟨ea, 0, none⟩ = some (K.kv k) ∧ GonSS w1 b (A ++ [({ a := ea, k := k, v := v } : En κ)]).length D (K.kl k) W)
    (first
      | exact ⟨m1, e0, ⟨D, HD.out.drew, rfl⟩, (Only.refl _ _).drew⟩
      | exact ⟨(hO2.same (mapTurned_onlyS hturn2)).cell m1 hbm, (hO2.same (mapTurned_onlyS hturn2)).cell e0 (Ne.symm hbe), ⟨_, hown2, by rw [del_delS]; exact hd2⟩, hO2.same (mapTurned_onlyS hturn2)⟩)
    ((go_split_ands; have hgs : GonSS w1 b (A ++ [({ a := ea, k := k, v := v } : En κ)]).length D (K.kl k) _ := (by assumption); obtain ⟨⟨D2, hD2, hd2⟩, hO2⟩ := hgs; refine at_list rfl ?_; intro Q2 hQ2; at_delete; refine wpList_delete_own _ rfl _ _ YTS KTS rfl PTS keyedS Try.underlying82 ptrElem b _ D2 rfl hD2 _ (K.kl k) rfl HK.out ?_; intro w2 hown2 hturn2; refine hQ2 _ _ ?_; clear hQ2 Q2))
  rw [hd2] at hown2
  have hO3 : Only w1 w2 (fun k => k = b) := hO2.same (mapTurned_onlyS hturn2)
  have hL2 := HL.out.only hO3 (fun k hk e => by
    rcases hk with rfl | hk
    · exact hbm e
    · exact H.out.eb (by rw [← e, bl, List.map_append]; exact List.mem_append.2 (.inl hk)))
  have n6 : w2.cell? ⟨m, 6, none⟩ = some (.int .i64 go) := hO3.cell m6 hbm
  have ne0 : w2.cell? ⟨ea, 0, none⟩ = some (K.kv k) := hO3.cell e0 (Ne.symm hbe)
  have g6 := frozen_of_row w2 m 6 _ _ hL2.bk
  have HL2 := Lib.hid hL2
  have HO3 := Lib.hid hO3
  have HD2 := Lib.hid hown2
  clear hL2 hO3 hown2 hturn2 hd2 hD2 hO2 m6 e0 f6 m1 HC
  go_wp2_with fail
  go_ret
  have hM2 := HM.out.del (HD.out.tidy keyedS)
  rw [List.append_nil] at hM2
  have hw := HD2.out.setCell (a := ⟨m, 6, none⟩) (Ne.symm hbm) (.int .i64 (go + 1))
  have ht := owns_tight hw
  rw [hM2.sz] at ht
  refine ⟨rfl, ⟨?_, ⟨_, ht, hM2⟩, fun e he => H.out.ky e (by simp [he]), rfl, ?_, ?_⟩, ?_⟩
  · have := gonS HL2.out (go + 1)
    rw [HG.out]
    exact this
  · have := H.out.ok
    obtain ⟨h1, h2, h3, h4⟩ := this
    rw [H.out.eq] at h1 h2
    refine ⟨?_, ?_, h3, h4⟩
    · simp only [kvs, List.map_append, List.map_cons, List.map_nil] at h1 ⊢
      exact h1.sublist (List.sublist_append_left _ _)
    · simp [kvs] at h2 ⊢
      omega
  · exact ⟨H.out.cnt.1, H.out.cnt.2.1, by show 0 ≤ S.go + 1; rw [HG.out]; omega⟩
  · refine ((HO.out.mono (fun k hk => ?_)).same (HO3.out.mono (fun k hk => ?_))).set m 6 _ (.inl (.inl rfl))
    · exact hk.elim .inl (fun h => .inr (.inr h))
    · exact .inr (.inl hk)
end
end Go.Proofs.Ytdhaoodkelehpaa
end
/-! Get, Look. -/
section
set_option linter.unusedVariables false
namespace Go.Proofs.Ytdhaoodkelehpaa
open Go.RowKit Go.Kit Go.Proofs.YtdhaoodkelehpaaW.PrintWords
section
variable {κ : Type} [DecidableEq κ] {K : Ky κ} {w w1 : World} {m b : Nat} {L A B : List (En κ)} {e : En κ} {S : Sp κ} {most hi mi go : Int}
/-- What a call leaves. -/
def MPostS (w : World) (m b : Nat) (K : Ky κ) (L : List (En κ)) (S : Sp κ) (v : Value) (e : Ending) (w' : World) : Prop :=
  e = .returned v ∧ ∃ L', MeS w' m b K L' S ∧ Only w w' (mfp m b L) ∧ Onto w (mfp m b L) (mfp m b L')
def kvoS (z : Value) : Option Int → Value
  | none => .tuple #[z, .bool false]
  | some v => .tuple #[.int .i64 v, .bool true]
theorem MeS.fnd (h : MeS w m b K L S) (k : κ) : fnd S.l k = (L.find? (fun e => decide (e.k = k))).map (·.v) := by rw [h.eq, fnd_kvs]
theorem MeS.nd (h : MeS w m b K L S) : (L.map (·.k)).Nodup := by have := h.ok.1; rwa [h.eq, kvs_keys] at this
/-- An entry to the front: 'cut', then 'front'. -/
theorem MeS.turn (h : MeS w m b K (A ++ e :: B) S) (hL : LS w1 m b MTS ETS K S.most hi S.mi S.go (e :: (A ++ B))) (ho : Only w w1 (mfp m b (A ++ e :: B))) (hb : w1.heap[b]? = w.heap[b]?) (hh : 0 ≤ hi) (hE : S.l.length = (A ++ e :: B).length) : MeS w1 m b K (e :: (A ++ B)) { S with l := (e.k, e.v) :: kvs (A ++ B), hi := hi } := by
  obtain ⟨D, ⟨es, clock, hb1, F, hs, hD⟩, hM⟩ := h.mp
  have hp : (A ++ e :: B).Perm (e :: (A ++ B)) := List.perm_middle
  refine ⟨hL, ⟨D, ⟨es, clock, hb.trans hb1, F, ?_, hD⟩, hM.perm (hp.map _)⟩, fun x hx => h.ky x (hp.mem_iff.2 hx), rfl, ⟨?_, ?_, h.ok.2.2⟩, hh, h.cnt.2⟩
  · rw [← hp.length_eq]; exact hs
  · have := h.nd
    have h2 := (hp.map (fun x : En κ => x.k)).nodup_iff.1 this
    simpa [kvs, List.map_map, Function.comp_def] using h2
  · have h1 := h.ok.2.1
    have h2 := h.len
    rw [hp.length_eq] at h2
    simp only [List.length_cons, kvs, List.length_map] at h2 ⊢
    omega
theorem onto_turnS (w : World) (m b : Nat) (A B : List (En κ)) (e : En κ) : Onto w (mfp m b (A ++ e :: B)) (mfp m b (e :: (A ++ B))) := fun k hk => .inl (by
  rcases hk with hk | hk | hk
  · exact .inl hk
  · exact .inr (.inl hk)
  · refine .inr (.inr ?_)
    have hp : (A ++ e :: B).Perm (e :: (A ++ B)) := List.perm_middle
    exact ((hp.map (fun x : En κ => x.a)).mem_iff.2 hk))
set_option maxHeartbeats 4000000 in
set_option maxRecDepth 100000 in
theorem getS (h : MeS w m b K L S) (k : κ) (hk : keyOf Try.prog KTS (K.kv k) = some (K.kl k)) (hhi : S.hi ≤ 9223372036854775806) (hmi : S.mi ≤ 9223372036854775806) : Calls Try.prog 31 #[.pointer (some ⟨m, 0, none⟩), K.kv k] w (MPostS w m b K L (S.get k) (kvoS (.int .i64 0) (fnd S.l k))) := by
  have h1 := h.c1
  have h2 := h.run_look hk
  have hfn := h.fnd k
  have hc := h.cnt
  cases hf : L.find? (fun e => decide (e.k = k)) with
  | none =>
    rw [hf] at h2 hfn
    replace hfn : fnd S.l k = none := hfn
    have hS : S.get k = { S with mi := S.mi + 1 } := by unfold Sp.get; rw [hfn]
    rw [hfn, hS]
    replace h2 : (Instr.lookup YTS (.map (some b)) (K.kv k) false).run Try.prog w = .ok (.pointer none) w := h2
    obtain ⟨mi, hmi1⟩ : ∃ mi, S.mi = mi := ⟨_, rfl⟩
    have c5 : w.cell? ⟨m, 5, none⟩ = some (.int .i64 mi) := (cell_of_row w _ 5 _ _ _ h.ls.bk).trans (by rw [← hmi1]; rfl)
    have f5 := frozen_of_row w m 5 _ _ h.ls.bk
    rw [hmi1] at hmi hc
    have H := Lib.hid h
    have HS := Lib.hid hmi1
    have hm0 : 0 ≤ mi := hc.2.1
    clear h hf hfn hS hc hmi1 hhi
    go_enter Try.func31, Try.ntmps31
    go_wp2_with fail
    refine H.out.made.mono ?_
    rintro e w1 ⟨rfl, rfl⟩
    go_wp2_with fail
    go_ret2
    have ho : Only w1 (w1.setCell ⟨m, 5, none⟩ (.int .i64 (mi + 1))) (fun k => k = m) := (Only.refl _ _).set m 5 _ (.inl rfl)
    refine ⟨rfl, L, ⟨?_, ?_, H.out.ky, H.out.eq, H.out.ok, ?_⟩, ho.mono (fun k hk => .inl hk), Onto.refl _ _⟩
    · have := misS H.out.ls (mi + 1)
      rw [← HS.out] at this ⊢
      exact this
    · obtain ⟨D, hD, hM⟩ := H.out.mp
      exact ⟨D, hD.setCell (a := ⟨m, 5, none⟩) (Ne.symm H.out.mb) _, hM⟩
    · exact ⟨H.out.cnt.1, by show 0 ≤ S.mi + 1; rw [HS.out]; omega, H.out.cnt.2.2⟩
  | some e =>
    rw [hf] at h2 hfn
    replace hfn : fnd S.l k = some e.v := hfn
    replace h2 : (Instr.lookup YTS (.map (some b)) (K.kv k) false).run Try.prog w = .ok (.pointer (some ⟨e.a, 0, none⟩)) w := h2
    obtain ⟨hek, A, B, rfl, hers⟩ := split_find h.nd hf
    have hS : S.get k = { S with l := (e.k, e.v) :: kvs (A ++ B), hi := S.hi + 1 } := by unfold Sp.get; rw [hfn, hek, h.eq, hers]
    rw [hfn, hS]
    obtain ⟨hi, hhi1⟩ : ∃ hi, S.hi = hi := ⟨_, rfl⟩
    have c4 : w.cell? ⟨m, 4, none⟩ = some (.int .i64 hi) := (cell_of_row w _ 4 _ _ _ h.ls.bk).trans (by rw [← hhi1]; rfl)
    have f4 := frozen_of_row w m 4 _ _ h.ls.bk
    have hL1 := hitS h.ls (hi + 1)
    rw [hhi1] at hhi hc
    have ho1 : Only w (w.setCell ⟨m, 4, none⟩ (.int .i64 (hi + 1))) (mfp m b (A ++ e :: B)) := (Only.refl _ _).set m 4 _ (.inl (.inl rfl))
    have hb1 : (w.setCell ⟨m, 4, none⟩ (.int .i64 (hi + 1))).heap[b]? = w.heap[b]? := heap_setCell_other _ _ _ _ (Ne.symm h.mb)
    have HC := Lib.hid (cutS hL1)
    have H := Lib.hid h
    have HS := Lib.hid hhi1
    have HO := Lib.hid ho1
    have HB := Lib.hid hb1
    have hm0 : 0 ≤ hi := hc.1
    clear h hf hfn hS hc hhi1 hers hL1 ho1 hmi hb1
    obtain ⟨ea, ek, ev⟩ := e
    dsimp only at h2 hek ⊢
    subst hek
    go_enter Try.func31, Try.ntmps31
    go_wp2_with fail
    refine H.out.made.mono ?_
    rintro e w1 ⟨rfl, rfl⟩
    go_wp2_with fail
    refine HC.out.mono ?_
    rintro e w2 ⟨rfl, hL2, hE2, hO2⟩
    go_wp2_with fail
    have hn := H.out.ls.nd
    have hne : ea ∉ bl (A ++ B) := by
      intro hx
      simp only [bl, List.map_append, List.map_cons, List.nodup_append, List.nodup_cons] at hn hx
      rcases List.mem_append.1 hx with hx | hx
      · exact hn.2.2 _ hx ea (by simp) rfl
      · exact hn.2.1.1 hx
    refine (frontS (e := ⟨ea, ek, ev⟩) hL2 hE2 hne).mono ?_
    rintro e w3 ⟨rfl, hL3, hO3⟩
    have e1 : w3.cell? ⟨ea, 1, none⟩ = some (.int .i64 ev) := cell_of_row w3 _ 1 _ _ _ hL3.ch.1
    go_wp2_with fail
    go_ret2
    have hbm := H.out.mb
    have hbl := H.out.eb
    have hb3 : w3.heap[b]? = w1.heap[b]? := by
      obtain ⟨D, hD, _⟩ := H.out.mp
      have hlt := hD.lt
      have s1 := HO.out.size
      have s2 := hO2.size
      rw [hO3.block b (by omega) (fun q => ?_), hO2.block b (by omega) (fun q => H.out.lb q), HB.out]
      rcases q with q | q
      · exact hbm q.symm
      · exact hbl ((List.Perm.map (fun x : En κ => x.a) (List.perm_middle (a := (⟨ea, ek, ev⟩ : En κ)) (l₁ := A) (l₂ := B))).mem_iff.2 q)
    have hO : Only w1 w3 (mfp m b (A ++ ⟨ea, ek, ev⟩ :: B)) := (HO.out.same (hO2.mono (fun k hk => hk.elim .inl (fun h => .inr (.inr h))))).same (hO3.mono (fun k hk => by
      rcases hk with hk | hk
      · exact .inl hk
      · exact .inr (.inr ((List.Perm.map (fun x : En κ => x.a) (List.perm_middle (a := (⟨ea, ek, ev⟩ : En κ)) (l₁ := A) (l₂ := B))).mem_iff.2 hk))))
    refine ⟨rfl, _, ?_, hO, onto_turnS w1 m b A B ⟨ea, ek, ev⟩⟩
    have := H.out.turn hL3 hO hb3 (by omega) H.out.len
    rw [HS.out]
    exact this
end
end Go.Proofs.Ytdhaoodkelehpaa
end
/-! Put, New. -/
section
set_option linter.unusedVariables false
namespace Go.Proofs.Ytdhaoodkelehpaa
open Go.RowKit Go.Kit Go.Proofs.YtdhaoodkelehpaaW.PrintWords
section
variable {κ : Type} [DecidableEq κ] {K : Ky κ} {w w1 : World} {m b : Nat} {L A B : List (En κ)} {e : En κ} {S : Sp κ} {most hi mi go : Int}
/-- An entry's value is set. -/
theorem setVS (h : LS w m b MTS ETS K most hi mi go (A ++ e :: B)) (x : Int) : LS (w.setCell ⟨e.a, 1, none⟩ (.int .i64 x)) m b MTS ETS K most hi mi go (A ++ { e with v := x } :: B) := by
  have hc := h.ch
  rw [chain_append] at hc
  have hn := h.nd
  simp only [bl, List.map_append, List.map_cons, List.nodup_append, List.nodup_cons] at hn
  have hme : m ≠ e.a := fun q => h.apart (by rw [q]; simp [bl])
  refine ⟨?_, ?_, ?_, h.ne⟩
  · rw [heap_setCell_other _ _ _ _ (show m ≠ e.a from hme), h.bk]
    simp only [hdo_append, lso_append, hdo_cons, lso_cons]
  · rw [chain_append]
    refine ⟨hc.1.kept (fun z hz => heap_setCell_other _ _ _ _ (fun q => hn.2.2 _ (List.mem_map.2 ⟨z, hz, rfl⟩) e.a (by simp) q)), ?_, ?_⟩
    · have := heap_set_same w e.a 1 _ _ (.int .i64 x) hc.2.1
      exact this
    · exact Chain.kept hc.2.2 (fun z hz => heap_setCell_other _ _ _ _ (fun q => hn.2.1.1 (by rw [← (show z.a = e.a from q)]; exact List.mem_map.2 ⟨z, hz, rfl⟩)))
  · have := h.nd
    simpa [bl] using this
/-- A key, or none. -/
def koS (K : Ky κ) : Option κ → Value
  | none => .tuple #[(.string { data := #[] }), .bool false]
  | some k => .tuple #[K.kv k, .bool true]
set_option maxHeartbeats 4000000 in
set_option maxRecDepth 100000 in
theorem put_oldS (h : MeS w m b K (A ++ e :: B) S) (v : Int) (hk : keyOf Try.prog KTS (K.kv e.k) = some (K.kl e.k)) (hf : (A ++ e :: B).find? (fun x => decide (x.k = e.k)) = some e) : Calls Try.prog 30 #[.pointer (some ⟨m, 0, none⟩), K.kv e.k, .int .i64 v] w (MPostS w m b K (A ++ e :: B) { S with l := (e.k, v) :: kvs (A ++ B) } (.tuple #[(.string { data := #[] }), .bool false])) := by
  have h1 := h.c1
  have h2 := h.run_look hk
  rw [hf] at h2
  replace h2 : (Instr.lookup YTS (.map (some b)) (K.kv e.k) false).run Try.prog w = .ok (.pointer (some ⟨e.a, 0, none⟩)) w := h2
  have hc := h.ls.ch
  rw [chain_append] at hc
  have he := hc.2.1
  have e1 : w.cell? ⟨e.a, 1, none⟩ = some (.int .i64 e.v) := cell_of_row w _ 1 _ _ _ he
  have f1 := frozen_of_row w e.a 1 _ _ he
  have hL1 := setVS h.ls v
  have hbe : b ≠ e.a := fun x => h.eb (by rw [x]; simp [bl])
  have ho1 : Only w (w.setCell ⟨e.a, 1, none⟩ (.int .i64 v)) (mfp m b (A ++ e :: B)) := (Only.refl _ _).set e.a 1 _ (.inl (.inr (.inr (by simp [bl]))))
  have hb1 : (w.setCell ⟨e.a, 1, none⟩ (.int .i64 v)).heap[b]? = w.heap[b]? := heap_setCell_other _ _ _ _ hbe
  have HC := Lib.hid (cutS hL1)
  have H := Lib.hid h
  have HO := Lib.hid ho1
  have HB := Lib.hid hb1
  clear h hc he hL1 ho1 hb1 hf hk
  obtain ⟨ea, ek, ev⟩ := e
  dsimp only at h2 e1 f1 hbe ⊢
  go_enter Try.func30, Try.ntmps30
  go_wp2_with fail
  refine H.out.made.mono ?_
  rintro e w1 ⟨rfl, rfl⟩
  go_wp2_with fail
  refine HC.out.mono ?_
  rintro e w2 ⟨rfl, hL2, hE2, hO2⟩
  go_wp2_with fail
  have hn := H.out.ls.nd
  have hne : ea ∉ bl (A ++ B) := by
    intro hx
    simp only [bl, List.map_append, List.map_cons, List.nodup_append, List.nodup_cons] at hn hx
    rcases List.mem_append.1 hx with hx | hx
    · exact hn.2.2 _ hx ea (by simp) rfl
    · exact hn.2.1.1 hx
  refine (frontS (e := ⟨ea, ek, v⟩) hL2 hE2 hne).mono ?_
  rintro e w3 ⟨rfl, hL3, hO3⟩
  go_wp2_with fail
  go_ret2
  have hbm := H.out.mb
  have hbl := H.out.eb
  have hb3 : w3.heap[b]? = w1.heap[b]? := by
    obtain ⟨D, hD, _⟩ := H.out.mp
    have hlt := hD.lt
    have s1 := HO.out.size
    have s2 := hO2.size
    rw [hO3.block b (by omega) (fun q => ?_), hO2.block b (by omega) (fun q => ?_), HB.out]
    · rcases q with q | q
      · exact hbm q.symm
      · exact hbl (by simpa [bl] using q)
    · rcases q with q | q
      · exact hbm q.symm
      · exact hbl ((List.Perm.map (fun x : En κ => x.a) (List.perm_middle (a := (⟨ea, ek, ev⟩ : En κ)) (l₁ := A) (l₂ := B))).mem_iff.2 q)
  have hO : Only w1 w3 (mfp m b (A ++ ⟨ea, ek, ev⟩ :: B)) := (HO.out.same (hO2.mono (fun k hk => hk.elim .inl (fun h => .inr (.inr (by simpa [bl] using h)))))).same (hO3.mono (fun k hk => by
    rcases hk with hk | hk
    · exact .inl hk
    · exact .inr (.inr ((List.Perm.map (fun x : En κ => x.a) (List.perm_middle (a := (⟨ea, ek, ev⟩ : En κ)) (l₁ := A) (l₂ := B))).mem_iff.2 hk))))
  refine ⟨rfl, ⟨ea, ek, v⟩ :: (A ++ B), ?_, hO, ?_⟩
  · have hz := H.out.cnt
    obtain ⟨D, ⟨es, clock, hbb, F, hs, hD⟩, hM⟩ := H.out.mp
    have hp : (A ++ (⟨ea, ek, ev⟩ : En κ) :: B).Perm (⟨ea, ek, ev⟩ :: (A ++ B)) := List.perm_middle
    refine ⟨hL3, ⟨D, ⟨es, clock, hb3.trans hbb, F, ?_, hD⟩, hM.perm (hp.map (fun e : En κ => (e.k, e.a)))⟩, fun x hx => ?_, rfl, ⟨?_, ?_, H.out.ok.2.2⟩, hz⟩
    · have := hp.length_eq; simp at this hs ⊢; omega
    · rcases List.mem_cons.1 hx with rfl | hx
      · exact H.out.ky ⟨ea, ek, ev⟩ (by simp)
      · exact H.out.ky x (by rcases List.mem_append.1 hx with h | h <;> simp [h])
    · have := (hp.map (fun x : En κ => x.k)).nodup_iff.1 H.out.nd
      simpa [kvs, List.map_map, Function.comp_def] using this
    · have h1 := H.out.ok.2.1
      have h2 := H.out.len
      rw [hp.length_eq] at h2
      simp only [List.length_cons, kvs, List.length_map] at h2 ⊢
      omega
  · have := onto_turnS w1 m b A B (⟨ea, ek, ev⟩ : En κ)
    exact fun k hk => this k (by simpa [mfp, bl] using hk)
theorem plainKeyS {x : Value} {l : Lit} (hk : keyOf Try.prog KTS x = some l) : ∀ cs, x ≠ .agg cs := fun cs e => by
  subst e
  simp [keyOf, mapKey, Try.underlying9] at hk
theorem buildES {x : Value} {l : Lit} (hk : keyOf Try.prog KTS x = some l) (v : Int) (W : World) : (Instr.build ETS #[(0, x), (1, .int .i64 v)]).run Try.prog W = .ok (.agg #[x, .int .i64 v, .pointer none, .pointer none]) W := by
  have := plainKeyS hk
  refine run_build W _ _ _ ?_
  clear hk
  cases x <;> first | exact (this _ rfl).elim | (clear this; kernel_rfl)
attribute [-go_sem] Instr.build
set_option maxHeartbeats 4000000 in
set_option maxRecDepth 100000 in
theorem put_roomS (h : MeS w m b K L S) (k : κ) (v : Int) (hk : keyOf Try.prog KTS (K.kv k) = some (K.kl k)) (hf : L.find? (fun x => decide (x.k = k)) = none) (hr : (L.length : Int) < S.most) : Calls Try.prog 30 #[.pointer (some ⟨m, 0, none⟩), K.kv k, .int .i64 v] w (MPostS w m b K L { S with l := (k, v) :: kvs L } (.tuple #[(.string { data := #[] }), .bool false])) := by
  have h1 := h.c1
  have h2 := h.run_look hk
  rw [hf] at h2
  replace h2 : (Instr.lookup YTS (.map (some b)) (K.kv k) false).run Try.prog w = .ok (.pointer none) w := h2
  have h3 : ∀ j, (Builtin.len_ #[YTS] 3 #[.map (some b)]).run Try.prog (w.drewN j) = .ok (.int .i64 (L.length : Int)) (w.drewN j) := fun j => (h.drewN j).run_len _
  obtain ⟨most, hmost⟩ : ∃ x, S.most = x := ⟨_, rfl⟩
  have m0 : w.cell? ⟨m, 0, none⟩ = some (.int .i64 most) := (cell_of_row w _ 0 _ _ _ h.ls.bk).trans (by rw [← hmost]; rfl)
  rw [hmost] at hr
  obtain ⟨n, hn⟩ : ∃ n : Nat, L.length = n := ⟨_, rfl⟩
  rw [hn] at h3 hr
  have hbd := buildES hk v
  have h1a : ∀ j o, ((w.drewN j).alloc o).cell? ⟨m, 1, none⟩ = some (.map (some b)) := fun j o => (World.cell?_alloc_some (w.drewN j) ⟨m, 1, none⟩ o (by rw [show (w.drewN j).cell? ⟨m, 1, none⟩ = _ from h1]; rfl)).trans h1
  have hd : decide ((n : Int) ≥ most) = false := by simp; omega
  have H := Lib.hid h
  have HM := Lib.hid hmost
  have HN := Lib.hid hn
  obtain ⟨D, hD, hMD⟩ := h.mp
  have HD := Lib.hid hD
  have HMD := Lib.hid hMD
  have hlt : L.length < maxLen := by have := h.max; unfold maxLen; omega
  clear h hmost hn hD hMD
  go_enter Try.func30, Try.ntmps30
  go_wp2_with fail
  refine H.out.made.mono ?_
  rintro e w1 ⟨rfl, rfl⟩
  go_wp2_with fail
  go_quiet (fail)
  go_wp2_with (at_mapUpdate; refine wpList_mapUpdate_in _ rfl _ _ _ YTS rfl KTS PTS keyedS Try.underlying82 ptrElem b L.length D rfl ((show (w1.drewN nq).ownsMap Try.prog KTS ptrElem b L.length D from HD.out).alloc _) hlt _ _ (K.kl k) rfl rfl hk (pd (some w1.heap.size)) [] rfl ?_; intro w2 hown2 hturn2)
  have hb0 : Below w1.heap.size w1 ((w1.drewN nq).alloc (.cells #[K.kv k, .int .i64 v, .pointer none, .pointer none] ETS)) := below_alloc (pw_below_drewN (Below.refl _ _) nq) _
  have hO1 : Only w1 w2 (fun k => k = b) := (Only.of_below hb0 (fun k => k = b)).same (mapTurned_onlyS hturn2)
  have hbig := H.out.old
  have hE2 : w2.heap[w1.heap.size]? = some (.cells #[K.kv k, .int .i64 v, .pointer none, .pointer none] ETS (0, 0)) := (mapTurned_onlyS hturn2).kept (heap_alloc_new (w1.drewN nq) _) (fun q => by have := hbig b (.inr (.inl rfl)); omega)
  have hL2 := H.out.ls.only hO1 (fun k hk q => by
    rcases hk with rfl | hk
    · exact H.out.mb q
    · exact H.out.eb (q ▸ hk))
  have hne : w1.heap.size ∉ bl L := fun q => by have := hbig _ (.inr (.inr q)); omega
  refine (frontS (e := ⟨w1.heap.size, k, v⟩) hL2 hE2 hne).mono ?_
  rintro e w3 ⟨rfl, hL3, hO3⟩
  go_wp2_with fail
  go_ret2
  have hb3 : w3.heap[b]? = w2.heap[b]? := by
    refine hO3.block b (by have := hO1.size; have := hbig b (.inr (.inl rfl)); omega) (fun q => ?_)
    rcases q with q | q
    · exact H.out.mb q.symm
    · rcases List.mem_cons.1 q with q | q
      · have := hbig b (.inr (.inl rfl)); have q : b = w1.heap.size := q; omega
      · exact H.out.eb q
  have hT := HD.out.tidy keyedS
  have hM3 := HMD.out.put (e := ⟨w1.heap.size, k, v⟩) hT hf
  have hw : w3.ownsMap Try.prog KTS ptrElem b (L.length + 1) (D.put (K.kl k) (pd (some w1.heap.size))) := by
    obtain ⟨es, clock, hbb, r⟩ := hown2
    exact ⟨es, clock, hb3.trans hbb, r⟩
  refine ⟨rfl, ⟨w1.heap.size, k, v⟩ :: L, ⟨hL3, ⟨_, hw, hM3⟩, fun x hx => ?_, rfl, ⟨?_, ?_, H.out.ok.2.2⟩, H.out.cnt⟩, ?_, ?_⟩
  · rcases List.mem_cons.1 hx with rfl | hx
    · exact hk
    · exact H.out.ky x hx
  · have := hM3.nd
    simpa [kvs, List.map_map, Function.comp_def] using this
  · have h1 := HN.out
    have h2 := HM.out
    have h3 := H.out.ok.2.2.2
    simp only [List.length_cons, kvs, List.length_map]
    omega
  · refine (hO1.mono (fun k hk => .inr (.inl hk))).then_ hO3 (fun k hk => ?_)
    rcases hk with hk | hk
    · exact .inl (.inl hk)
    · rcases List.mem_cons.1 hk with hk | hk
      · exact .inr (Nat.le_of_eq hk.symm)
      · exact .inl (.inr (.inr hk))
  · intro k hk
    rcases hk with hk | hk | hk
    · exact .inl (.inl hk)
    · exact .inl (.inr (.inl hk))
    · rcases List.mem_cons.1 hk with hk | hk
      · exact .inr (Nat.le_of_eq hk.symm)
      · exact .inl (.inr (.inr hk))
set_option maxHeartbeats 4000000 in
set_option maxRecDepth 100000 in
theorem put_fullS {x : En κ} (h : MeS w m b K (A ++ [x]) S) (k : κ) (v : Int) (hk : keyOf Try.prog KTS (K.kv k) = some (K.kl k)) (hf : (A ++ [x]).find? (fun x => decide (x.k = k)) = none) (hr : S.most ≤ ((A ++ [x]).length : Int)) (hgo : S.go ≤ 9223372036854775806) : Calls Try.prog 30 #[.pointer (some ⟨m, 0, none⟩), K.kv k, .int .i64 v] w (MPostS w m b K (A ++ [x]) { S with l := (k, v) :: kvs A, go := S.go + 1 } (.tuple #[K.kv x.k, .bool true])) := by
  have h1 := h.c1
  have h2 := h.run_look hk
  rw [hf] at h2
  replace h2 : (Instr.lookup YTS (.map (some b)) (K.kv k) false).run Try.prog w = .ok (.pointer none) w := h2
  have h3 : ∀ j, (Builtin.len_ #[YTS] 3 #[.map (some b)]).run Try.prog (w.drewN j) = .ok (.int .i64 ((A ++ [x]).length : Int)) (w.drewN j) := fun j => (h.drewN j).run_len _
  obtain ⟨most, hmost⟩ : ∃ x, S.most = x := ⟨_, rfl⟩
  have m0 : w.cell? ⟨m, 0, none⟩ = some (.int .i64 most) := (cell_of_row w _ 0 _ _ _ h.ls.bk).trans (by rw [← hmost]; rfl)
  rw [hmost] at hr
  obtain ⟨n, hn⟩ : ∃ n : Nat, (A ++ [x]).length = n := ⟨_, rfl⟩
  rw [hn] at h3 hr
  have hd : decide ((n : Int) ≥ most) = true := by simp; omega
  have hbd := buildES hk v
  have H := Lib.hid h
  have HM := Lib.hid hmost
  have HN := Lib.hid hn
  have hlt : A.length < maxLen := by have := h.max; rw [List.length_append] at this; unfold maxLen; omega
  have hfA : A.find? (fun x => decide (x.k = k)) = none := by
    rw [List.find?_append] at hf
    cases hq : A.find? (fun x => decide (x.k = k)) with
    | none => rfl
    | some e => rw [hq] at hf; cases hf
  have HF := Lib.hid hfA
  clear h hmost hn hf hfA
  go_enter Try.func30, Try.ntmps30
  go_wp2_with fail
  refine H.out.made.mono ?_
  rintro e w1 ⟨rfl, rfl⟩
  go_wp2_with fail
  go_quiet (fail)
  go_wp2_with fail
  refine (goneS (H.out.drewN nq) hgo).mono ?_
  rintro e w2 ⟨rfl, hG, hOg⟩
  have hOg : Only w1 w2 (mfp m b (A ++ [x])) := (Only.of_below (pw_below_drewN (Below.refl _ _) nq) _).same hOg
  have k1 := hG.c1
  have h1a : ∀ o, (w2.alloc o).cell? ⟨m, 1, none⟩ = some (.map (some b)) := fun o => (World.cell?_alloc_some w2 ⟨m, 1, none⟩ o (by rw [k1]; rfl)).trans k1
  obtain ⟨D, hD, hMD⟩ := hG.mp
  have HD := Lib.hid hD
  have HMD := Lib.hid hMD
  have HG := Lib.hid hG
  have HO := Lib.hid hOg
  clear hG hOg hD hMD h1 h2 h3 m0
  go_wp2_with (at_mapUpdate; refine wpList_mapUpdate_in _ rfl _ _ _ YTS rfl KTS PTS keyedS Try.underlying82 ptrElem b A.length D rfl (HD.out.alloc _) hlt _ _ (K.kl k) rfl rfl hk (pd (some w2.heap.size)) [] rfl ?_; intro w3 hown2 hturn2)
  have hb0 : Below w2.heap.size w2 (w2.alloc (.cells #[K.kv k, .int .i64 v, .pointer none, .pointer none] ETS)) := below_alloc (Below.refl _ _) _
  have hO1 : Only w2 w3 (fun k => k = b) := (Only.of_below hb0 (fun k => k = b)).same (mapTurned_onlyS hturn2)
  have hbig := HG.out.old
  have hE2 : w3.heap[w2.heap.size]? = some (.cells #[K.kv k, .int .i64 v, .pointer none, .pointer none] ETS (0, 0)) := (mapTurned_onlyS hturn2).kept (heap_alloc_new w2 _) (fun q => by have := hbig b (.inr (.inl rfl)); omega)
  have hL2 := HG.out.ls.only hO1 (fun k hk q => by
    rcases hk with rfl | hk
    · exact HG.out.mb q
    · exact HG.out.eb (q ▸ hk))
  have hne : w2.heap.size ∉ bl A := fun q => by have := hbig _ (.inr (.inr q)); omega
  refine (frontS (e := ⟨w2.heap.size, k, v⟩) hL2 hE2 hne).mono ?_
  rintro e w4 ⟨rfl, hL3, hO3⟩
  go_wp2_with fail
  go_ret2
  have hb3 : w4.heap[b]? = w3.heap[b]? := by
    refine hO3.block b (by have := hO1.size; have := hbig b (.inr (.inl rfl)); omega) (fun q => ?_)
    rcases q with q | q
    · exact HG.out.mb q.symm
    · rcases List.mem_cons.1 q with q | q
      · have := hbig b (.inr (.inl rfl)); have q : b = w2.heap.size := q; omega
      · exact HG.out.eb q
  have hT := HD.out.tidy keyedS
  have hM3 := HMD.out.put (e := ⟨w2.heap.size, k, v⟩) hT HF.out
  have hw : w4.ownsMap Try.prog KTS ptrElem b (A.length + 1) (D.put (K.kl k) (pd (some w2.heap.size))) := by
    obtain ⟨es, clock, hbb, r⟩ := hown2
    exact ⟨es, clock, hb3.trans hbb, r⟩
  have hO : Only w1 w4 (mfp m b (A ++ [x])) := by
    refine (HO.out.then_ (hO1.mono (T := mfp m b (A ++ [x])) (fun k hk => .inr (.inl hk))) (fun k hk => .inl hk)).then_ hO3 (fun k hk => ?_)
    rcases hk with hk | hk
    · exact .inl (.inl hk)
    · rcases List.mem_cons.1 hk with hk | hk
      · exact .inr (by have := HO.out.size; have hk : k = w2.heap.size := hk; omega)
      · exact .inl (.inr (.inr (by rw [bl, List.map_append]; exact List.mem_append.2 (.inl hk))))
  refine ⟨rfl, ⟨w2.heap.size, k, v⟩ :: A, ⟨hL3, ⟨_, hw, hM3⟩, fun x hx => ?_, rfl, ⟨?_, ?_, H.out.ok.2.2⟩, HG.out.cnt⟩, hO, ?_⟩
  · rcases List.mem_cons.1 hx with rfl | hx
    · exact hk
    · exact HG.out.ky x hx
  · have := hM3.nd
    simpa [kvs, List.map_map, Function.comp_def] using this
  · have h1 := HN.out
    have h2 := HM.out
    have h3 := H.out.ok.2.1
    have h4 := H.out.len
    simp only [List.length_cons, kvs, List.length_map, List.length_append, List.length_nil] at h1 h3 h4 ⊢
    omega
  · intro k hk
    rcases hk with hk | hk | hk
    · exact .inl (.inl hk)
    · exact .inl (.inr (.inl hk))
    · rcases List.mem_cons.1 hk with hk | hk
      · exact .inr (by have := HO.out.size; have hk : k = w2.heap.size := hk; omega)
      · exact .inl (.inr (.inr (by rw [bl, List.map_append]; exact List.mem_append.2 (.inl hk))))
theorem putS (h : MeS w m b K L S) (k : κ) (v : Int) (hk : keyOf Try.prog KTS (K.kv k) = some (K.kl k)) (hgo : S.go ≤ 9223372036854775806) : Calls Try.prog 30 #[.pointer (some ⟨m, 0, none⟩), K.kv k, .int .i64 v] w (MPostS w m b K L (S.put k v) (koS K (S.out k))) := by
  have hfn := h.fnd k
  cases hf : L.find? (fun e => decide (e.k = k)) with
  | some e =>
    rw [hf] at hfn
    replace hfn : fnd S.l k = some e.v := hfn
    obtain ⟨rfl, A, B, rfl, hers⟩ := split_find h.nd hf
    have hS : S.put e.k v = { S with l := (e.k, v) :: kvs (A ++ B) } := by unfold Sp.put; rw [hfn, h.eq]; simp only [hers]
    have hX : S.out e.k = none := by unfold Sp.out; rw [hfn]
    rw [hS, hX]
    exact put_oldS h v hk hf
  | none =>
    rw [hf] at hfn
    replace hfn : fnd S.l k = none := hfn
    by_cases hr : (L.length : Int) < S.most
    · have hfu : S.full = false := by unfold Sp.full; rw [h.len]; exact decide_eq_false (by omega)
      have hS : S.put k v = { S with l := (k, v) :: kvs L } := by unfold Sp.put; rw [hfn, hfu, h.eq]; rfl
      have hX : S.out k = none := by unfold Sp.out; rw [hfn, hfu]; rfl
      rw [hS, hX]
      exact put_roomS h k v hk hf hr
    · have hfu : S.full = true := by unfold Sp.full; rw [h.len]; exact decide_eq_true (by omega)
      rcases List.eq_nil_or_concat L with rfl | ⟨A, x, rfl⟩
      · have := h.ok.2.2.1
        simp at hr
        omega
      · rw [List.concat_eq_append] at h hf hr ⊢
        have he : S.l = kvs A ++ [(x.k, x.v)] := by rw [h.eq]; simp [kvs]
        have hS : S.put k v = { S with l := (k, v) :: kvs A, go := S.go + 1 } := by unfold Sp.put; rw [hfn, hfu, he]; simp
        have hX : S.out k = some x.k := by unfold Sp.out; rw [hfn, hfu, he]; simp
        rw [hS, hX]
        exact put_fullS h k v hk hf (by omega) hgo
end
attribute [go_sem] Instr.build
section
variable {κ : Type} [DecidableEq κ] {w : World}
set_option maxRecDepth 100000 in
theorem newS (K : Ky κ) (n : Int) (h1 : 1 ≤ n) (h2 : n ≤ 4096) : Calls Try.prog 29 #[.int .i64 n] w fun e w' => ∃ m b, e = .returned (.tuple #[.pointer (some ⟨m, 0, none⟩), .int .i64 0]) ∧ MeS w' m b K [] ⟨n, [], 0, 0, 0⟩ ∧ Below w.heap.size w w' ∧ w.heap.size ≤ m ∧ w.heap.size ≤ b := by
  have b1 : decide (n < 1) = false := by simp; omega
  have b2 : decide (n > 4096) = false := by simp; omega
  have hmm := @run_makeMap Try.prog
  have HA := Lib.hid h1
  have HB := Lib.hid h2
  clear h1 h2
  go_enter Try.func29, Try.ntmps29
  go_wp2_with fail
  go_ret2
  have hb0 : Below w.heap.size w (w.alloc (.map #[] 0)) := below_alloc (Below.refl _ _) _
  refine ⟨w.heap.size + 1, w.heap.size, rfl, ⟨⟨?_, trivial, List.nodup_nil, by decide⟩, ⟨.map [], ?_, MD.empty K⟩, fun e he => by simp at he, rfl, ⟨List.nodup_nil, ?_, HA.out, HB.out⟩, ⟨Int.le_refl _, Int.le_refl _, Int.le_refl _⟩⟩, below_alloc hb0 _, Nat.le_succ _, Nat.le_refl _⟩
  · have he : w.heap.size + 1 = (w.alloc (.map #[] 0)).heap.size := by simp
    rw [he]
    exact heap_alloc_new _ _
  · exact (World.ownsMap_made w Try.prog KTS ptrElem).alloc _
  · show (0 : Int) ≤ 4096
    omega
set_option maxRecDepth 100000 in
theorem new_badS (n : Int) (h : n < 1 ∨ 4096 < n) : Calls Try.prog 29 #[.int .i64 n] w fun e w' => e = .returned (.tuple #[.pointer none, .int .i64 1]) ∧ w' = w := by
  by_cases h1 : n < 1
  · have b1 : decide (n < 1) = true := by simpa using h1
    clear h h1
    go_enter Try.func29, Try.ntmps29
    go_wp2_with fail
    go_ret2
    exact ⟨rfl, rfl⟩
  · have b1 : decide (n < 1) = false := by simpa using h1
    have b2 : decide (n > 4096) = true := by simp; omega
    clear h h1
    go_enter Try.func29, Try.ntmps29
    go_wp2_with fail
    go_ret2
    exact ⟨rfl, rfl⟩
end
end Go.Proofs.Ytdhaoodkelehpaa
end
/-! The call at the head of each statement: three keys that are texts. -/
section
set_option linter.unusedVariables false
namespace Go.Proofs.Ytdhaoodkelehpaa
open Go.RowKit Go.Kit Go.Proofs.YtdhaoodkelehpaaW.PrintWords
def tx : Fin 3 → ByteArray
  | 0 => ⟨#[97]⟩
  | 1 => ⟨#[98]⟩
  | 2 => ⟨#[99]⟩
def KyT : Ky (Fin 3) where
  kv i := .string (tx i)
  kl i := .string (tx i).data.toList
  inj x y h := by
    have h2 : (tx x).data.toList = (tx y).data.toList := by injection h
    clear h
    revert h2; revert x y; decide
  is x := trivial
theorem keyT (i : Fin 3) : keyOf Try.prog KTS (KyT.kv i) = some (KyT.kl i) := by
  revert i
  have h0 : keyOf Try.prog KTS (.string ⟨#[97]⟩) = some (.string [97]) := by kernel_rfl
  have h1 : keyOf Try.prog KTS (.string ⟨#[98]⟩) = some (.string [98]) := by kernel_rfl
  have h2 : keyOf Try.prog KTS (.string ⟨#[99]⟩) = some (.string [99]) := by kernel_rfl
  intro i
  match i with
  | 0 => exact h0
  | 1 => exact h1
  | 2 => exact h2
/-- A memo that is new since w. -/
def Fw {κ : Type} (w w1 : World) (m b : Nat) (L : List (En κ)) : Prop := Below w.heap.size w w1 ∧ ∀ k, mfp m b L k → w.heap.size ≤ k
theorem Fw.step {κ : Type} {w w1 w2 : World} {m b : Nat} {L L' : List (En κ)} (h : Fw w w1 m b L) (ho : Only w1 w2 (mfp m b L)) (hn : Onto w1 (mfp m b L) (mfp m b L')) : Fw w w2 m b L' :=
  ⟨Below.only h.1 ho h.1.size h.2, fun k hk => (hn k hk).elim (h.2 k) (fun q => Nat.le_trans h.1.size q)⟩
section
variable {w : World}
set_option maxHeartbeats 4000000 in
set_option maxRecDepth 100000 in
theorem alive_any : Calls Try.prog 12 #[] w fun e w' => e = .returned (.bool true) ∧ Below w.heap.size w w' := by
  go_enter Try.func12, Try.ntmps12
  go_wp2_with fail
  refine (newS KyT 2 (by omega) (by omega)).mono ?_
  rintro e w1 ⟨m, b, rfl, hM, hb, hm, hb2⟩
  have hF : Fw w w1 m b ([] : List (En (Fin 3))) := ⟨hb, fun k hk => by
    rcases hk with rfl | rfl | hk
    · exact hm
    · exact hb2
    · cases hk⟩
  have HF := Lib.hid hF
  have HM := Lib.hid hM
  clear hF hM hb hm hb2
  go_wp2_with fail
  refine (show Calls Try.prog 30 #[.pointer (some ⟨m, 0, none⟩), .string ⟨#[97]⟩, .int .i64 1] w1 _ from putS HM.out 0 1 (keyT 0) (by decide)).mono ?_
  rintro e w2 ⟨rfl, L2, hM2, hO2, hN2⟩
  replace hM2 : MeS w2 m b KyT L2 ⟨2, [(0, 1)], 0, 0, 0⟩ := hM2
  replace HF := Lib.hid (HF.out.step hO2 hN2)
  replace HM := Lib.hid hM2
  clear hM2 hO2 hN2
  go_wp2_with fail
  refine (show Calls Try.prog 30 #[.pointer (some ⟨m, 0, none⟩), .string ⟨#[98]⟩, .int .i64 2] w2 _ from putS HM.out 1 2 (keyT 1) (by decide)).mono ?_
  rintro e w3 ⟨rfl, L3, hM3, hO3, hN3⟩
  replace hM3 : MeS w3 m b KyT L3 ⟨2, [(1, 2), (0, 1)], 0, 0, 0⟩ := hM3
  replace HF := Lib.hid (HF.out.step hO3 hN3)
  replace HM := Lib.hid hM3
  clear hM3 hO3 hN3
  go_wp2_with fail
  refine (show Calls Try.prog 31 #[.pointer (some ⟨m, 0, none⟩), .string ⟨#[97]⟩] w3 _ from getS HM.out 0 (keyT 0) (by decide) (by decide)).mono ?_
  rintro e w4 ⟨rfl, L4, hM4, hO4, hN4⟩
  replace hM4 : MeS w4 m b KyT L4 ⟨2, [(0, 1), (1, 2)], 1, 0, 0⟩ := hM4
  replace HF := Lib.hid (HF.out.step hO4 hN4)
  replace HM := Lib.hid hM4
  clear hM4 hO4 hN4
  go_wp2_with fail
  refine (show Calls Try.prog 30 #[.pointer (some ⟨m, 0, none⟩), .string ⟨#[99]⟩, .int .i64 3] w4 _ from putS HM.out 2 3 (keyT 2) (by decide)).mono ?_
  rintro e w5 ⟨he, L5, hM5, hO5, hN5⟩
  replace he : e = .returned (.tuple #[.string ⟨#[98]⟩, .bool true]) := he
  subst he
  replace hM5 : MeS w5 m b KyT L5 ⟨2, [(2, 3), (0, 1)], 1, 0, 1⟩ := hM5
  replace HF := Lib.hid (HF.out.step hO5 hN5)
  replace HM := Lib.hid hM5
  clear hM5 hO5 hN5
  go_wp2_with fail
  refine (show Calls Try.prog 31 #[.pointer (some ⟨m, 0, none⟩), .string ⟨#[97]⟩] w5 _ from getS HM.out 0 (keyT 0) (by decide) (by decide)).mono ?_
  rintro e w6 ⟨he, L6, hM6, hO6, hN6⟩
  replace he : e = .returned (.tuple #[.int .i64 1, .bool true]) := he
  subst he
  replace hM6 : MeS w6 m b KyT L6 ⟨2, [(0, 1), (2, 3)], 2, 0, 1⟩ := hM6
  replace HF := Lib.hid (HF.out.step hO6 hN6)
  replace HM := Lib.hid hM6
  clear hM6 hO6 hN6
  go_wp2_with fail
  refine (lenS HM.out).mono ?_
  rintro e w7 ⟨rfl, rfl⟩
  go_wp2_with fail
  go_ret
  exact ⟨rfl, HF.out.1⟩
end
end Go.Proofs.Ytdhaoodkelehpaa
end
/-! What follows for memos: a memo is a recency list; more room finds more. No program in it. -/
section
set_option linter.unusedVariables false
namespace Go.Kit
section
variable {κ : Type} [DecidableEq κ]
theorem ers_append (A B : List (κ × Int)) (k : κ) : ers (A ++ B) k = ers A k ++ ers B k := List.filter_append ..
theorem ers_cons_ne {x : κ × Int} {k : κ} (h : x.1 ≠ k) (B : List (κ × Int)) : ers (x :: B) k = x :: ers B k := List.filter_cons_of_pos (by simpa using h)
theorem ers_cons_eq {x : κ × Int} {k : κ} (h : x.1 = k) (B : List (κ × Int)) : ers (x :: B) k = ers B k := List.filter_cons_of_neg (by simpa using h)
theorem mem_ers {l : List (κ × Int)} {k : κ} {x : κ × Int} : x ∈ ers l k ↔ x ∈ l ∧ x.1 ≠ k := by simp [ers]
def addK (O : List κ) (k : κ) : List κ := if k ∈ O then O else O ++ [k]
theorem addK_nodup {O : List κ} {k : κ} (h : O.Nodup) : (addK O k).Nodup := by
  unfold addK
  split
  · exact h
  · rename_i hk
    rw [List.nodup_append]
    exact ⟨h, by simp, fun a ha b hb => by simp at hb; subst hb; exact fun e => hk (e ▸ ha)⟩
theorem mem_addK {O : List κ} {k x : κ} : x ∈ addK O k ↔ x ∈ O ∨ x = k := by
  unfold addK
  split
  · rename_i hk
    exact ⟨.inl, fun h => h.elim id (fun e => e ▸ hk)⟩
  · simp
theorem addK_le {O : List κ} {k : κ} : O.length ≤ (addK O k).length := by unfold addK; split <;> simp
theorem nd_len : ∀ {l r : List κ}, l.Nodup → (∀ x ∈ l, x ∈ r) → l.length ≤ r.length
  | [], r, _, _ => Nat.zero_le _
  | x :: l, r, hn, hs => by
    rw [List.nodup_cons] at hn
    have hx := hs x (by simp)
    have h1 := nd_len (l := l) (r := r.erase x) hn.2 (fun y hy => (List.mem_erase_of_ne (fun e : y = x => hn.1 (by rw [← e]; exact hy))).2 (hs y (by simp [hy])))
    have h2 := List.length_erase_of_mem hx
    have h3 := List.length_pos_of_mem hx
    rw [List.length_cons]
    omega
/-- The key stands behind none but others. -/
def Rec (S : Sp κ) (key : κ) (O : List κ) : Prop := S.l ≠ [] ∧ ((O.length : Int) < S.most → ∃ A B, S.l = A ++ (key, 77) :: B ∧ ∀ x ∈ A, x.1 ∈ O)
theorem fnd_of {S : Sp κ} (h : S.ok) {key : κ} {v : Int} {A B : List (κ × Int)} (hl : S.l = A ++ (key, v) :: B) : fnd S.l key = some v := by
  have hn := h.1
  rw [hl, List.map_append, List.map_cons, List.nodup_append] at hn
  have hA : ∀ x ∈ A, x.1 ≠ key := fun x hx e => hn.2.2 x.1 (List.mem_map.2 ⟨x, hx, rfl⟩) key (by simp) e
  unfold fnd
  rw [hl, List.find?_append, List.find?_eq_none.2 (fun x hx => by simpa using hA x hx)]
  simp
theorem Rec.fnd {S : Sp κ} {key : κ} {O : List κ} (h : Rec S key O) (ho : S.ok) (hl : (O.length : Int) < S.most) : fnd S.l key = some 77 := by
  obtain ⟨A, B, he, _⟩ := h.2 hl
  exact fnd_of ho he
theorem put_head (S : Sp κ) (key : κ) (v : Int) : ∃ B, (S.put key v).l = (key, v) :: B := by
  unfold Sp.put
  split
  · exact ⟨_, rfl⟩
  · split <;> exact ⟨_, rfl⟩
theorem put_most (S : Sp κ) (key : κ) (v : Int) : (S.put key v).most = S.most := by
  unfold Sp.put
  split
  · rfl
  · split <;> rfl
theorem get_most (S : Sp κ) (key : κ) : (S.get key).most = S.most := by
  unfold Sp.get
  split <;> rfl
theorem Rec.start (S : Sp κ) (key : κ) : Rec (S.put key 77) key [] := by
  obtain ⟨B, hB⟩ := put_head S key 77
  exact ⟨by rw [hB]; simp, fun _ => ⟨[], B, hB, by simp⟩⟩
/-- A key that is there moves to the front. -/
theorem rec_move {key k : κ} (hk : k ≠ key) {O : List κ} {A B : List (κ × Int)} (v : Int) (hA : ∀ x ∈ A, x.1 ∈ O) : ∃ A' B', (k, v) :: ers (A ++ (key, 77) :: B) k = A' ++ (key, 77) :: B' ∧ ∀ x ∈ A', x.1 ∈ addK O k := by
  refine ⟨(k, v) :: ers A k, ers B k, ?_, fun x hx => ?_⟩
  · rw [ers_append, ers_cons_ne (fun e => hk e.symm)]; rfl
  · rcases List.mem_cons.1 hx with rfl | hx
    · exact mem_addK.2 (.inr rfl)
    · exact mem_addK.2 (.inl (hA x (mem_ers.1 hx).1))
theorem Rec.put {S : Sp κ} {key k : κ} {O : List κ} (h : Rec S key O) (ho : S.ok) (hk : k ≠ key) (hn : O.Nodup) (v : Int) : Rec (S.put k v) key (addK O k) := by
  refine ⟨by obtain ⟨B, hB⟩ := put_head S k v; rw [hB]; simp, fun hl => ?_⟩
  rw [put_most] at hl
  have hle := addK_le (O := O) (k := k)
  obtain ⟨A, B, he, hA⟩ := h.2 (by omega)
  unfold Sp.put
  split
  · rw [he]; exact rec_move hk v hA
  · rename_i hf
    have hkn := fnd_none.1 hf
    split
    · rename_i hfull
      simp only [Sp.full, decide_eq_true_eq] at hfull
      rcases List.eq_nil_or_concat B with rfl | ⟨B', y, rfl⟩
      · exfalso
        have hkA : k ∉ A.map (·.1) := fun hm => by
          obtain ⟨x, hx, e⟩ := List.mem_map.1 hm
          exact hkn x (by rw [he]; simp [hx]) e
        have hnA : (A.map (·.1)).Nodup := by
          have := ho.1
          rw [he, List.map_append, List.nodup_append] at this
          exact this.1
        have h1 : (k :: A.map (·.1)).Nodup := List.nodup_cons.2 ⟨hkA, hnA⟩
        have h2 : (k :: A.map (·.1)).length ≤ (addK O k).length := by
          refine nd_len h1 (fun x hx => ?_)
          rcases List.mem_cons.1 hx with rfl | hx
          · exact mem_addK.2 (.inr rfl)
          · obtain ⟨y, hy, rfl⟩ := List.mem_map.1 hx
            exact mem_addK.2 (.inl (hA y hy))
        rw [he] at hfull
        simp only [List.length_cons, List.length_map, List.length_append, List.length_nil] at h2 hfull
        omega
      · refine ⟨(k, v) :: A, B', ?_, fun x hx => ?_⟩
        · rw [he, List.concat_eq_append, ← List.cons_append, ← List.append_assoc, List.dropLast_concat]; rfl
        · rcases List.mem_cons.1 hx with rfl | hx
          · exact mem_addK.2 (.inr rfl)
          · exact mem_addK.2 (.inl (hA x hx))
    · refine ⟨(k, v) :: A, B, by rw [he]; rfl, fun x hx => ?_⟩
      rcases List.mem_cons.1 hx with rfl | hx
      · exact mem_addK.2 (.inr rfl)
      · exact mem_addK.2 (.inl (hA x hx))
theorem Rec.get {S : Sp κ} {key k : κ} {O : List κ} (h : Rec S key O) (hk : k ≠ key) {v : Int} (hf : Kit.fnd S.l k = some v) : Rec (S.get k) key (addK O k) := by
  unfold Sp.get
  rw [hf]
  refine ⟨by simp, fun hl => ?_⟩
  have hle := addK_le (O := O) (k := k)
  replace hl : ((addK O k).length : Int) < S.most := hl
  obtain ⟨A, B, he, hA⟩ := h.2 (by omega)
  show ∃ A' B', (k, v) :: ers S.l k = _ ∧ _
  rw [he]
  exact rec_move hk v hA
theorem Rec.miss {S : Sp κ} {key k : κ} {O : List κ} (h : Rec S key O) (hf : Kit.fnd S.l k = none) : Rec (S.get k) key O := by
  unfold Sp.get
  rw [hf]
  exact h
/-! ### more room -/
/-- One with more room stands as one with less: it holds all that that one holds, in its order. -/
structure Wider (S T : Sp κ) : Prop where
  sub : S.l.Sublist T.l
  most : S.most ≤ T.most
  same : (S.l.length : Int) < S.most → S.l = T.l
theorem fnd_sub {S T : Sp κ} (h : Wider S T) (hT : T.ok) {k : κ} {v : Int} (hf : fnd S.l k = some v) : fnd T.l k = some v := by
  have hm := h.sub.subset (mem_of_fnd hf)
  obtain ⟨A, B, he⟩ := List.append_of_mem hm
  exact fnd_of hT he
theorem fnd_out {S T : Sp κ} (h : Wider S T) {k : κ} (hf : fnd T.l k = none) : fnd S.l k = none := fnd_none.2 (fun x hx => fnd_none.1 hf x (h.sub.subset hx))
theorem ers_sub {l r : List (κ × Int)} (h : l.Sublist r) (k : κ) : (ers l k).Sublist (ers r k) := h.filter _
theorem Wider.get {S T : Sp κ} (h : Wider S T) (hS : S.ok) (hT : T.ok) (k : κ) : Wider (S.get k) (T.get k) := by
  cases hf : fnd S.l k with
  | some v =>
    have hg := fnd_sub h hT hf
    unfold Sp.get
    rw [hf, hg]
    refine ⟨(ers_sub h.sub k).cons_cons _, h.most, fun hl => ?_⟩
    have h1 := ers_lt hf
    replace hl : (((k, v) :: ers S.l k).length : Int) < S.most := hl
    rw [List.length_cons] at hl
    by_cases h2 : (S.l.length : Int) < S.most
    · show _ :: ers S.l k = _ :: ers T.l k
      rw [h.same h2]
    · have h3 := hS.2.1
      have h4 : S.l.length = (ers S.l k).length + 1 := by
        obtain ⟨A, B, he⟩ := List.append_of_mem (mem_of_fnd hf)
        have hn := hS.1
        rw [he, List.map_append, List.map_cons, List.nodup_append, List.nodup_cons] at hn
        have eA : ers A k = A := ers_out (fun x hx e => hn.2.2 x.1 (List.mem_map.2 ⟨x, hx, rfl⟩) k (by simp) e)
        have eB : ers B k = B := ers_out (fun x hx e => hn.2.1.1 (e ▸ List.mem_map.2 ⟨x, hx, rfl⟩))
        rw [he, ers_append, ers_cons_eq rfl, eA, eB]
        simp
        omega
      omega
  | none =>
    have hSg : (S.get k).l = S.l := by unfold Sp.get; rw [hf]
    have hSm := get_most S k
    have hTm := get_most T k
    cases hg : fnd T.l k with
    | none =>
      have hTg : (T.get k).l = T.l := by unfold Sp.get; rw [hg]
      exact ⟨by rw [hSg, hTg]; exact h.sub, by rw [hSm, hTm]; exact h.most, fun hl => by rw [hSg, hTg]; rw [hSg, hSm] at hl; exact h.same hl⟩
    | some v =>
      have hTg : (T.get k).l = (k, v) :: ers T.l k := by unfold Sp.get; rw [hg]
      refine ⟨?_, by rw [hSm, hTm]; exact h.most, fun hl => ?_⟩
      · rw [hSg, hTg]
        have := ers_sub h.sub k
        rw [ers_out (fnd_none.1 hf)] at this
        exact this.cons _
      · rw [hSg, hSm] at hl
        have := h.same hl
        rw [this, hg] at hf
        cases hf
theorem Wider.put {S T : Sp κ} (h : Wider S T) (hS : S.ok) (hT : T.ok) (k : κ) (v : Int) : Wider (S.put k v) (T.put k v) := by
  have hm : (S.put k v).most ≤ (T.put k v).most := by rw [put_most, put_most]; exact h.most
  cases hf : fnd S.l k with
  | some u =>
    have hg := fnd_sub h hT hf
    have h0 := (h.get hS hT k)
    have e1 : (S.put k v).l = (k, v) :: ers S.l k := by unfold Sp.put; rw [hf]
    have e2 : (T.put k v).l = (k, v) :: ers T.l k := by unfold Sp.put; rw [hg]
    have e3 : (S.get k).l = (k, u) :: ers S.l k := by unfold Sp.get; rw [hf]
    have e4 : (T.get k).l = (k, u) :: ers T.l k := by unfold Sp.get; rw [hg]
    refine ⟨by rw [e1, e2]; exact (ers_sub h.sub k).cons_cons _, hm, fun hl => ?_⟩
    have h5 := h0.same (by rw [get_most, e3]; rw [put_most, e1] at hl; exact hl)
    rw [e3, e4] at h5
    rw [e1, e2, (List.cons.inj h5).2]
  | none =>
    cases hg : fnd T.l k with
    | some u =>
      have e2 : (T.put k v).l = (k, v) :: ers T.l k := by unfold Sp.put; rw [hg]
      have hfull : S.full = true := by
        unfold Sp.full
        refine decide_eq_true ?_
        by_cases h1 : (S.l.length : Int) < S.most
        · have := h.same h1
          rw [this, hg] at hf
          cases hf
        · omega
      have e1 : (S.put k v).l = (k, v) :: S.l.dropLast := by unfold Sp.put; rw [hf, hfull]; rfl
      refine ⟨?_, hm, fun hl => ?_⟩
      · rw [e1, e2]
        have h1 := ers_sub h.sub k
        rw [ers_out (fnd_none.1 hf)] at h1
        exact ((List.dropLast_sublist _).trans h1).cons_cons _
      · rw [put_most, e1] at hl
        simp only [Sp.full, decide_eq_true_eq] at hfull
        have := hS.2.2.1
        simp only [List.length_cons, List.length_dropLast] at hl
        omega
    | none =>
      by_cases hfull : S.full = true
      · have e1 : (S.put k v).l = (k, v) :: S.l.dropLast := by unfold Sp.put; rw [hf, hfull]; rfl
        have hfl := hfull
        simp only [Sp.full, decide_eq_true_eq] at hfl
        refine ⟨?_, hm, fun hl => ?_⟩
        · rw [e1]
          by_cases hft : T.full = true
          · have e2 : (T.put k v).l = (k, v) :: T.l.dropLast := by unfold Sp.put; rw [hg, hft]; rfl
            rw [e2]
            refine List.Sublist.cons_cons _ ?_
            rcases List.eq_nil_or_concat T.l with hT0 | ⟨T', y, hT'⟩
            · have := h.sub
              rw [hT0] at this ⊢
              rw [List.sublist_nil.1 this]
              exact List.Sublist.refl _
            · rw [hT', List.concat_eq_append, List.dropLast_concat]
              have h1 := h.sub
              rw [hT', List.concat_eq_append] at h1
              rcases List.eq_nil_or_concat S.l with hS0 | ⟨S', x, hS'⟩
              · rw [hS0]; exact List.nil_sublist _
              · rw [hS', List.concat_eq_append] at h1 ⊢
                rw [List.dropLast_concat]
                rcases List.sublist_append_iff.1 h1 with ⟨a, b, e, ha, hb⟩
                rcases List.eq_nil_or_concat b with rfl | ⟨b', z, rfl⟩
                · rw [List.append_nil] at e
                  exact (List.sublist_append_left _ _).trans (e ▸ ha)
                · rw [List.concat_eq_append, ← List.append_assoc] at e
                  have e2 := List.append_inj' e rfl
                  have : b' = [] := by
                    have := hb.length_le
                    simp at this
                    exact this
                  subst this
                  rw [e2.1, List.append_nil]
                  exact ha
          · have e2 : (T.put k v).l = (k, v) :: T.l := by unfold Sp.put; rw [hg, Bool.eq_false_iff.2 hft]; rfl
            rw [e2]
            exact ((List.dropLast_sublist _).trans h.sub).cons_cons _
        · rw [put_most, e1] at hl
          have := hS.2.2.1
          simp only [List.length_cons, List.length_dropLast] at hl
          omega
      · have e1 : (S.put k v).l = (k, v) :: S.l := by unfold Sp.put; rw [hf, Bool.eq_false_iff.2 hfull]; rfl
        have hnf : (S.l.length : Int) < S.most := by
          have := Bool.eq_false_iff.2 hfull
          simp only [Sp.full, decide_eq_false_iff_not] at this
          omega
        have hST := h.same hnf
        have hft : T.full = false := by
          unfold Sp.full
          refine decide_eq_false ?_
          rw [← hST]
          have := h.most
          omega
        have e2 : (T.put k v).l = (k, v) :: T.l := by unfold Sp.put; rw [hg, hft]; rfl
        exact ⟨by rw [e1, e2]; exact h.sub.cons_cons _, hm, fun _ => by rw [e1, e2, hST]⟩
end
end Go.Kit
end
