/- Contracts of functions that the law reaches (texts laid together, part 3): each says of its call what it answers and what it leaves of memory; the conditions stand in each statement. -/
import Derived.Test.YtpjpgcjhdbiepaaGreatMpStreamFrames2
import Derived.Test.YtpjpgcjhdbiepaaGreatProg
import Derived.Test.YtpjpgcjhdbiepaaGreatWWords
import Derived.WalkKit
import Derived.Lib.Hide
import Derived.Laws.BitsAllLaws
import Derived.Deep.WholeRow
import Derived.Deep.CutBlock
import Derived.Deep.Cut
import Derived.Deep.LoopGhost
import Derived.Laws.CopyOwn
import Derived.Lib.SlBytesConst
import Derived.ChangeKeysEq
import Derived.Laws.StructEq
import Derived.Test.YtpjpgcjhdbiepaaGreatWMore
import Derived.Deep.RegionHeld3
import Derived.Deep.RegionLaw
import Derived.Deep.DeepMust
import Derived.Laws.Cover3
import Derived.Laws.Bits64b
import Derived.IntWalk
import Derived.Test.YtpjpgcjhdbiepaaGreatWGuard
import Derived.Deep.MidRow
import Derived.Test.YtpjpgcjhdbiepaaGreatWEqStruct
import Derived.StillTailTactics
import Derived.Recover
import Derived.WalkLawsBesides
import Derived.Deep.RegionWith
import Derived.RegionTactic
import Derived.BigRegion
set_option linter.unusedVariables false
/-! ! The plain law of the check sums: 32 bits, one step, the product, moves. -/
section
namespace CrcM
abbrev W := BitVec 32
def poly : W := 0x82f63b78#32
/-- One step: the product with the first power. -/
def M (c : W) : W := if c.getLsbD 0 then (c >>> 1) ^^^ poly else c >>> 1
def Mn : Nat → W → W
  | 0, c => c
  | n + 1, c => Mn n (M c)
theorem xlc (a b c : W) : a ^^^ (b ^^^ c) = b ^^^ (a ^^^ c) := by rw [← BitVec.xor_assoc, BitVec.xor_comm a b, BitVec.xor_assoc]
theorem xself (a b : W) : a ^^^ (a ^^^ b) = b := by rw [← BitVec.xor_assoc]; simp
def one : W := 1#32 <<< 31

theorem M_xor (a b : W) : M (a ^^^ b) = M a ^^^ M b := by
  unfold M
  rw [BitVec.getLsbD_xor, BitVec.ushiftRight_xor_distrib]
  cases a.getLsbD 0 <;> cases b.getLsbD 0 <;> simp [BitVec.xor_assoc, BitVec.xor_comm, xlc, xself]
theorem M_zero : M 0#32 = 0#32 := by decide
theorem Mn_xor (n : Nat) : ∀ a b : W, Mn n (a ^^^ b) = Mn n a ^^^ Mn n b := by
  induction n with
  | zero => intro a b; rfl
  | succ n ih => intro a b; simp only [Mn, M_xor, ih]
theorem Mn_add (m n : Nat) : ∀ c, Mn (m + n) c = Mn n (Mn m c) := by
  induction m with
  | zero => intro c; simp [Mn]
  | succ m ih => intro c; rw [Nat.succ_add]; simp only [Mn, ih]
/-- The product, the highest bit the power 0: n bits of a are still to come. -/
def tl : Nat → W → W → W → W
  | 0, _, _, p => p
  | n + 1, a, b, p => tl n a (M b) (if a.getLsbD n then p ^^^ b else p)
def times (a b : W) : W := tl 32 a b 0#32

theorem tl_left (n : Nat) : ∀ a a' b p p' : W, tl n (a ^^^ a') b (p ^^^ p') = tl n a b p ^^^ tl n a' b p' := by
  induction n with
  | zero => intros; rfl
  | succ n ih =>
    intro a a' b p p'
    simp only [tl]
    rw [← ih, BitVec.getLsbD_xor]
    congr 1
    cases a.getLsbD n <;> cases a'.getLsbD n <;> simp [BitVec.xor_assoc, BitVec.xor_comm, xlc, xself]
theorem tl_right (n : Nat) : ∀ a b b' p p' : W, tl n a (b ^^^ b') (p ^^^ p') = tl n a b p ^^^ tl n a b' p' := by
  induction n with
  | zero => intros; rfl
  | succ n ih =>
    intro a b b' p p'
    simp only [tl]
    rw [← ih, M_xor]
    congr 1
    cases a.getLsbD n <;> simp [BitVec.xor_assoc, BitVec.xor_comm, xlc]
theorem tl_M (n : Nat) : ∀ a b p : W, tl n a (M b) (M p) = M (tl n a b p) := by
  induction n with
  | zero => intros; rfl
  | succ n ih =>
    intro a b p
    simp only [tl]
    rw [← ih]
    congr 1
    cases a.getLsbD n <;> simp [M_xor]
theorem times_left (a a' b : W) : times (a ^^^ a') b = times a b ^^^ times a' b := by
  unfold times; rw [← tl_left]; simp
theorem times_right (a b b' : W) : times a (b ^^^ b') = times a b ^^^ times a b' := by
  unfold times; rw [← tl_right]; simp
theorem times_M (a b : W) : times a (M b) = M (times a b) := by
  unfold times; rw [← tl_M, M_zero]
theorem times_Mn (n : Nat) : ∀ a b : W, times a (Mn n b) = Mn n (times a b) := by
  induction n with
  | zero => intros; rfl
  | succ n ih => intro a b; simp only [Mn]; rw [ih, times_M]

theorem bit_one (k n : Nat) (hn : n < 32) : (1#32 <<< k).getLsbD n = decide (n = k) := by
  rw [BitVec.getLsbD_shiftLeft]
  by_cases h : n < k
  · simp [h]; omega
  · by_cases e : n = k
    · subst e; simp [hn]
    · simp [h, e, hn, BitVec.getLsbD_one]; omega
theorem tl_high (n : Nat) : ∀ (k : Nat) (b p : W), n ≤ 32 → n ≤ k → tl n (1#32 <<< k) b p = p := by
  induction n with
  | zero => intros; rfl
  | succ n ih =>
    intro k b p hn hk
    simp only [tl]
    rw [bit_one k n (by omega), ih k _ _ (by omega) (by omega)]
    simp; omega
theorem tl_bit (n : Nat) : ∀ (k : Nat) (b p : W), n ≤ 32 → k < n → tl n (1#32 <<< k) b p = p ^^^ Mn (n - 1 - k) b := by
  induction n with
  | zero => intro k b p _ h; omega
  | succ n ih =>
    intro k b p hn hk
    simp only [tl]
    rw [bit_one k n (by omega)]
    by_cases e : n = k
    · subst e
      rw [tl_high n n _ _ (by omega) (by omega)]
      simp [Mn]
    · rw [ih k _ _ (by omega) (by omega)]
      rw [show n + 1 - 1 - k = n - 1 - k + 1 from by omega]
      simp [e, Mn]
theorem times_bit (k : Nat) (hk : k < 32) (b : W) : times (1#32 <<< k) b = Mn (31 - k) b := by
  unfold times; rw [tl_bit 32 k b _ (by omega) hk]; simp

/-- Whatever holds of 0 and the bits, and of sums, holds of all. -/
theorem by_bits (P : W → Prop) (h0 : P 0#32) (hx : ∀ a b, P a → P b → P (a ^^^ b)) (hb : ∀ k, k < 32 → P (1#32 <<< k)) (a : W) : P a := by
  have key : ∀ n, n ≤ 32 → P (BitVec.ofNat 32 (a.toNat % 2 ^ n)) := by
    intro n
    induction n with
    | zero => intro _; simpa [Nat.mod_one] using h0
    | succ n ih =>
      intro hn
      have e : BitVec.ofNat 32 (a.toNat % 2 ^ (n + 1)) = BitVec.ofNat 32 (a.toNat % 2 ^ n) ^^^ (if a.getLsbD n then 1#32 <<< n else 0#32) := by
        apply BitVec.eq_of_getLsbD_eq
        intro i hi
        rw [BitVec.getLsbD_xor, BitVec.getLsbD_ofNat, BitVec.getLsbD_ofNat, Nat.testBit_mod_two_pow, Nat.testBit_mod_two_pow]
        by_cases h : a.getLsbD n = true
        · rw [if_pos h, bit_one n i hi]
          by_cases e : i = n
          · subst e; simp [hi, BitVec.getLsbD] at *; simp [h]
          · have : (i < n + 1) = (i < n) := by simp; omega
            simp [e, this]
        · rw [if_neg h]
          by_cases e : i = n
          · subst e; simp [BitVec.getLsbD] at *; simp [h]
          · have : (i < n + 1) = (i < n) := by simp; omega
            simp [this]
      rw [e]
      refine hx _ _ (ih (by omega)) ?_
      split
      · exact hb n (by omega)
      · exact h0
  have := key 32 (by omega)
  rw [Nat.mod_eq_of_lt a.isLt] at this
  simpa using this

theorem times_zero_left (b : W) : times 0#32 b = 0#32 := by
  have := times_left 0#32 0#32 b; simpa using this
theorem times_zero_right (a : W) : times a 0#32 = 0#32 := by
  have := times_right a 0#32 0#32; simpa using this
theorem bit_pow (k : Nat) (hk : k < 32) : (1#32 <<< k : W) = Mn (31 - k) one := by
  have h : ∀ j : Fin 32, (1#32 <<< j.val : W) = Mn (31 - j.val) one := by decide +kernel
  exact h ⟨k, hk⟩
theorem times_one (a : W) : times a one = a := by
  refine by_bits (fun a => times a one = a) (times_zero_left _) ?_ ?_ a
  · intro a b ha hb; rw [times_left, ha, hb]
  · intro k hk; rw [times_bit k hk, bit_pow k hk]
theorem one_times (b : W) : times one b = b := by
  have := times_bit 31 (by omega) b; simpa [one, Mn] using this
theorem times_comm (a b : W) : times a b = times b a := by
  refine by_bits (fun a => times a b = times b a) (by rw [times_zero_left, times_zero_right]) ?_ ?_ a
  · intro a a' ha hb; rw [times_left, times_right, ha, hb]
  · intro k hk; rw [times_bit k hk, bit_pow k hk, times_Mn, times_one]
theorem Mn_times (n : Nat) (a b : W) : times (Mn n a) b = Mn n (times a b) := by rw [times_comm, times_Mn, times_comm]
theorem pow_times (n : Nat) (c : W) : times (Mn n one) c = Mn n c := by rw [Mn_times, one_times]

/-- M is one to one. -/
theorem M_zero_of (c : W) (h : M c = 0#32) : c = 0#32 := by
  unfold M at h
  by_cases h0 : c.getLsbD 0 = true
  · rw [if_pos h0] at h
    have : ((c >>> 1) ^^^ poly).getLsbD 31 = true := by
      rw [BitVec.getLsbD_xor, BitVec.getLsbD_ushiftRight, BitVec.getLsbD_of_ge _ _ (by omega)]; decide
    rw [h] at this; simp at this
  · rw [if_neg h0] at h
    apply BitVec.eq_of_getLsbD_eq
    intro i hi
    cases i with
    | zero => simpa using h0
    | succ i =>
      have : (c >>> 1).getLsbD i = (0#32).getLsbD i := by rw [h]
      rw [BitVec.getLsbD_ushiftRight] at this
      rw [Nat.add_comm 1 i] at this
      simpa using this
theorem Mn_zero_of (n : Nat) : ∀ c, Mn n c = 0#32 → c = 0#32 := by
  induction n with
  | zero => intro c h; exact h
  | succ n ih => intro c h; exact M_zero_of c (ih _ h)

/-! Bytes -/
def byt (x : Int) : W := BitVec.ofInt 32 x
def over (c : W) (l : List Int) : W := l.foldl (fun c x => Mn 8 (c ^^^ byt x)) c
theorem over_append (c : W) (l r : List Int) : over c (l ++ r) = over (over c l) r := by unfold over; rw [List.foldl_append]
theorem over_nil (c : W) : over c [] = c := rfl
theorem over_cons (c : W) (x : Int) (l : List Int) : over c (x :: l) = over (Mn 8 (c ^^^ byt x)) l := rfl
theorem over_snoc (c : W) (x : Int) (l : List Int) : over c (l ++ [x]) = Mn 8 (over c l ^^^ byt x) := by rw [over_append]; rfl
/-- What stands in the sum beforehand is moved on over the bytes. -/
theorem over_xor (l : List Int) : ∀ c d : W, over (c ^^^ d) l = over c l ^^^ Mn (8 * l.length) d := by
  induction l with
  | nil => intro c d; rfl
  | cons x l ih =>
    intro c d
    rw [over_cons, over_cons, show c ^^^ d ^^^ byt x = (c ^^^ byt x) ^^^ d from by rw [BitVec.xor_assoc, BitVec.xor_assoc, BitVec.xor_comm d], Mn_xor, ih, ← Mn_add]
    rw [show 8 + 8 * l.length = 8 * (x :: l).length from by simp; omega]
theorem M_shl (c : W) (h : c.getLsbD 31 = false) : M (c <<< 1) = c := by
  unfold M
  rw [if_neg (by simp)]
  apply BitVec.eq_of_getLsbD_eq
  intro i hi
  rw [BitVec.getLsbD_ushiftRight, BitVec.getLsbD_shiftLeft]
  by_cases e : i = 31
  · subst e; rw [h]; simp
  · simp; intro; omega
theorem Mn_shl (n : Nat) : ∀ c : W, (∀ i, 32 - n ≤ i → c.getLsbD i = false) → n ≤ 32 → Mn n (c <<< n) = c := by
  induction n with
  | zero => intro c _ _; simp [Mn]
  | succ n ih =>
    intro c h hn
    rw [Mn, BitVec.shiftLeft_add, M_shl, ih c (fun i hi => h i (by omega)) (by omega)]
    rw [BitVec.getLsbD_shiftLeft]
    by_cases e : 31 < n
    · simp [e]
    · simp [e, h (31 - n) (by omega)]
/-- A byte's step by the table. -/
theorem Mn8_split (y : W) : Mn 8 y = (y >>> 8) ^^^ Mn 8 (y &&& 255#32) := by
  have e : y = (y &&& 255#32) ^^^ ((y >>> 8) <<< 8) := by
    apply BitVec.eq_of_getLsbD_eq
    intro i hi
    rw [BitVec.getLsbD_xor, BitVec.getLsbD_and, BitVec.getLsbD_shiftLeft, BitVec.getLsbD_ushiftRight]
    have h255 : (255#32 : W).getLsbD i = decide (i < 8) := by
      have : ∀ j : Fin 32, (255#32 : W).getLsbD j.val = decide (j.val < 8) := by decide
      exact this ⟨i, hi⟩
    rw [h255]
    by_cases h : i < 8
    · simp [h]
    · simp [h, hi]; rw [show 8 + (i - 8) = i from by omega, BitVec.getLsbD_eq_getElem hi]
  have h8 : Mn 8 ((y >>> 8) <<< 8) = y >>> 8 := Mn_shl 8 _ (fun i hi => by rw [BitVec.getLsbD_ushiftRight]; exact BitVec.getLsbD_of_ge _ _ (by omega)) (by omega)
  have h := congrArg (Mn 8) e
  rw [Mn_xor, h8, BitVec.xor_comm] at h
  exact h
/-! The moves, bit by bit of the length -/
theorem pow_mul (a b : Nat) : times (Mn a one) (Mn b one) = Mn (b + a) one := by rw [pow_times, Mn_add]
/-! A byte turned -/
/-! Joined -/
/-! Four bytes -/
def b4 (d : W) : List Int := [((d &&& 255#32).toNat : Int), (((d >>> 8) &&& 255#32).toNat : Int), (((d >>> 16) &&& 255#32).toNat : Int), (((d >>> 24) &&& 255#32).toNat : Int)]
theorem byt_toNat (d : W) : byt ((d.toNat : Nat) : Int) = d := by unfold byt; rw [BitVec.ofInt_natCast]; simp
theorem b4_over (c d : W) : over c (b4 d) = Mn 32 (c ^^^ d) := by
  have h0 : over 0#32 (b4 d) = Mn 32 d := by
    have e1 := Mn8_split d
    have e2 := Mn8_split (d >>> 8)
    have e3 := Mn8_split (d >>> 16)
    have e4 := Mn8_split (d >>> 24)
    rw [← BitVec.shiftRight_add] at e2 e3 e4
    simp only [Nat.reduceAdd] at e2 e3 e4
    have z : d >>> 32 = 0#32 := by
      apply BitVec.eq_of_getLsbD_eq; intro i hi
      rw [BitVec.getLsbD_ushiftRight, BitVec.getLsbD_of_ge _ _ (by omega)]; simp
    unfold b4
    rw [over_cons, over_cons, over_cons, over_cons, over_nil, byt_toNat, byt_toNat, byt_toNat, byt_toNat]
    rw [show Mn 32 d = Mn 8 (Mn 8 (Mn 8 (Mn 8 d))) from by rw [← Mn_add, ← Mn_add, ← Mn_add]]
    rw [e1, Mn_xor 8 (d >>> 8), e2]
    rw [Mn_xor 8 (d >>> 16 ^^^ _), Mn_xor 8 (d >>> 16), e3]
    rw [Mn_xor 8 (d >>> 24 ^^^ _ ^^^ _), Mn_xor 8 (d >>> 24 ^^^ _), Mn_xor 8 (d >>> 24), e4, z]
    simp [Mn_xor, BitVec.xor_comm, xlc]
  have := over_xor (b4 d) 0#32 c
  rw [show 0#32 ^^^ c = c from by simp, h0] at this
  rw [this, Mn_xor, BitVec.xor_comm]; rfl

/-! Bits turned, all among thirty-two neighbours -/
/-- The lowest i bits. -/
def low (i : Nat) (b : W) : W := BitVec.ofNat 32 (b.toNat % 2 ^ i)
/-- Sealed bytes: their inner number, the sum with them, is one and the same. -/
theorem sealed (c : W) (p : List Int) : over c (p ++ b4 (~~~ (over c p))) = Mn 32 (BitVec.allOnes 32) := by
  rw [over_append, b4_over]; congr 1
  apply BitVec.eq_of_getLsbD_eq; intro i hi
  rw [BitVec.getLsbD_xor, BitVec.getLsbD_not, BitVec.getLsbD_allOnes]; cases (over c p).getLsbD i <;> simp [hi]
/-- Whatever is opened has that inner number: so nothing that was turned is. -/
theorem told (c : W) (b : W) (k : Nat) (p q : List Int) (hq : over c q = over c (p ++ b4 (~~~ (over c p))) ^^^ Mn k (Mn 32 b)) (r : List Int) (hr : q = r ++ b4 (~~~ (over c r))) : b = 0#32 := by
  rw [hr, sealed, sealed] at hq
  have h : Mn k (Mn 32 b) = 0#32 := by
    have e := congrArg (fun z => Mn 32 (BitVec.allOnes 32) ^^^ z) hq
    simp only [xself, BitVec.xor_self] at e
    exact e.symm
  exact Mn_zero_of 32 b (Mn_zero_of k _ h)
end CrcM
end
/-! The contracts of package crc's own functions: step, the table, over, More, Sum. -/
section
namespace Go.Proofs.YtpjpgcjhdbiepaaGreat
open Go.RowKit Go.Kit CrcM Go.Proofs.YtpjpgcjhdbiepaaGreatW.PrintWords

theorem u32_lt (c : W) : (c.toNat : Int) < 4294967296 := by have := c.isLt; omega
theorem and_one (c : W) : bits .and .u32 (c.toNat : Int) 1 = if c.getLsbD 0 then 1 else 0 := by
  have := u32_and_nat c.toNat 1 (by have := c.isLt; omega) (by omega)
  rw [show ((1 : Nat) : Int) = 1 from rfl] at this
  rw [this, Nat.and_one_is_mod, BitVec.getLsbD, Nat.testBit_zero]
  by_cases h : c.toNat % 2 = 1 <;> simp [h]; omega
theorem shr_one (c : W) : ((c.toNat : Nat) : Int) / (2 : Int) = ((c >>> 1).toNat : Int) := by
  rw [BitVec.toNat_ushiftRight, Nat.shiftRight_eq_div_pow]; omega
theorem shr_eight (c : W) : ((c.toNat : Nat) : Int) / (256 : Int) = ((c >>> 8).toNat : Int) := by
  rw [BitVec.toNat_ushiftRight, Nat.shiftRight_eq_div_pow]; omega
theorem xor_w (c d : W) : bits .xor .u32 (c.toNat : Int) (d.toNat : Int) = ((c ^^^ d).toNat : Int) := by
  rw [u32_xor_nat _ _ (by have := c.isLt; omega) (by have := d.isLt; omega), BitVec.toNat_xor]
theorem step_yes (c : W) (h : c.getLsbD 0 = true) : bits .xor .u32 (((c.toNat : Nat) : Int) / (2 : Int)) 2197175160 = ((M c).toNat : Int) := by
  rw [shr_one, show (2197175160 : Int) = (poly.toNat : Int) from rfl, xor_w, M, if_pos h]
theorem step_no (c : W) (h : c.getLsbD 0 = false) : ((c.toNat : Nat) : Int) / (2 : Int) = ((M c).toNat : Int) := by
  rw [shr_one, M, if_neg (by rw [h]; simp)]
theorem Mn_less (k : Nat) (hk : k < 8) (d : W) : Mn (8 - k) d = Mn (8 - (k + 1)) (M d) := by
  rw [show 8 - k = (8 - (k + 1)) + 1 from by omega]; rfl

set_option maxHeartbeats 400000 in
theorem step_any (c : W) (n : Int) (hn : n = (c.toNat : Int)) (w : World) :
    Calls Tryz.prog 139 #[.int .u32 n] w fun e w' => e = .returned (.int .u32 ((Mn 8 c).toNat : Int)) ∧ w' = w := by
  subst hn
  go_enter Tryz.func139, Tryz.ntmps139
  go_wp2
  go_loop [0, 3] (fun v0 v3 => ∃ (d : W) (k : Nat), k ≤ 8 ∧ v0 = .int .u32 (d.toNat : Int) ∧ v3 = .int .i64 (k : Int) ∧ Hid (Mn 8 c = Mn (8 - k) d)) (fun _ i => 8 - (intOf i).toNat)
  case atStart => exact ⟨c, 0, by omega, rfl, rfl, rfl⟩
  case round =>
    obtain ⟨d, k, hk, rfl, rfl, HD⟩ := hrel
    have h1 := and_one d
    by_cases hlt : k < 8
    · have HE : Hid (Mn 8 c = Mn (8 - (k + 1)) (M d)) := (HD.out).trans (Mn_less k hlt d)
      cases hb : d.getLsbD 0
      · rw [hb] at h1
        have HS := Lib.hid (step_no d hb)
        clear hb
        go_wp2
        go_round
        case rel => exact ⟨M d, k + 1, by omega, by rw [← HS.out], by simp, HE⟩
        case measure => simp [intOf]; omega
      · rw [hb] at h1
        have HS := Lib.hid (step_yes d hb)
        clear hb
        go_wp2
        go_round
        case rel => exact ⟨M d, k + 1, by omega, by rw [← HS.out], by simp, HE⟩
        case measure => simp [intOf]; omega
    · have HE : Hid (Mn 8 c = d) := by rw [HD.out, show 8 - k = 0 from by omega]; rfl
      go_wp2
      go_ret
      exact ⟨by rw [HE.out]; rfl, rfl⟩

/-! The table -/
def tabV (j : Nat) : Value := .int .u32 ((Mn 8 (BitVec.ofNat 32 j)).toNat : Int)
def tabC (i : Nat) : Array Value := Array.ofFn (n := 256) fun j => if j.val < i then tabV j.val else .int .u32 0
theorem tabC_zero : tabC 0 = Array.replicate 256 (.int .u32 0) := by
  apply Array.ext
  · simp [tabC]
  · intro i h1 h2; simp [tabC]
theorem tabC_size (i : Nat) : (tabC i).size = 256 := by simp [tabC]
theorem tabC_set (i : Nat) : (tabC i).setIfInBounds i (tabV i) = tabC (i + 1) := by
  apply Array.ext
  · simp [tabC]
  · intro j h1 h2
    have hj : j < (tabC i).size := by simpa using h1
    rw [Array.getElem_setIfInBounds hj]
    by_cases e : i = j
    · subst e; simp [tabC]
    · simp only [if_neg e, tabC, Array.getElem_ofFn]
      have : (j < i + 1) = (j < i) := by simp; omega
      simp [this]
theorem tabC_one (i : Nat) : (tabC i).all (·.oneCell') = true := by
  rw [Array.all_eq_true]
  intro j h
  simp only [tabC, Array.getElem_ofFn]
  split <;> rfl
theorem tabC_get (j : Nat) (hj : j < 256) : (tabC 256)[j]? = some (tabV j) := by
  rw [Array.getElem?_eq_getElem (by rw [tabC_size]; exact hj)]
  simp [tabC]
theorem info_tab : (Tryz.prog.info? 172).map (fun i => (i.zero, i.size)) = some (some (.agg (Array.replicate 256 (.int .u32 0))), 256) := by kernel_rfl

set_option maxHeartbeats 400000 in
set_option maxRecDepth 100000 in
theorem table_any (w : World) :
    Calls Tryz.prog 135 #[] w fun e w' => e = .returned (.agg (tabC 256)) ∧ Below w.heap.size w w' := by
  have hz58 := (zero_of_info info_tab).1
  have hi58 := (zero_of_info info_tab).2
  have HI := Lib.hid hi58
  clear hi58
  rw [← tabC_zero] at hz58
  go_enter Tryz.func135, Tryz.ntmps135
  go_wp2
  clear hz58
  go_loopg [3] 256 (fun g v3 wx => ∃ i : Nat, i + g = 256 ∧ v3 = .int .i64 i ∧ wx = (w.alloc (.cells (tabC 0) 172)).alloc (.cells (tabC i) 172))
  case atStart => exact ⟨0, by omega, rfl, rfl⟩
  case round =>
    obtain ⟨i, hig, rfl, rfl⟩ := hrel
    cases gk with
    | zero =>
      obtain rfl : i = 256 := by omega
      have hh1 : ((w.alloc (.cells (tabC 0) 172)).alloc (.cells (tabC 256) 172)).heap[w.heap.size + 1]? = some (.cells (tabC 256) 172 (0, 0)) := by
        have := heap_alloc_new (w.alloc (.cells (tabC 0) 172)) (.cells (tabC 256) 172)
        rwa [World.size_alloc] at this
      have hh0 : ((w.alloc (.cells (tabC 0) 172)).alloc (.cells (tabC 256) 172)).heap[w.heap.size]? = some (.cells (tabC 0) 172 (0, 0)) := by
        exact (heap_alloc_old _ _ (by simp)).trans (heap_alloc_new w _)
      have Hh1 := Lib.hid hh1
      have Hh0 := Lib.hid hh0
      have Hb : Below w.heap.size w ((w.alloc (.cells (tabC 0) 172)).alloc (.cells (tabC 256) 172)) := ((Below.refl _ _).alloc (Nat.le_refl _) _).alloc (by simp) _
      clear hh0 hh1
      generalize ((w.alloc (.cells (tabC 0) 172)).alloc (.cells (tabC 256) 172)) = W at *
      clear hig
      have Hs : Hid ((Tryz.prog.info? 172).map (·.size) = some (tabC 256).size) := by rw [tabC_size]; exact HI.out
      have Hs0 : Hid ((tabC 0).size = (tabC 256).size) := by rw [tabC_size, tabC_size]; rfl
      go_upto_region 7 with (fail)
      apply wp_region_lit
      refine wpList_load_row rfl 172 (.tmp 1) rfl (w.heap.size + 1) rfl 172 (tabC 256) (0, 0) (.array 256 112) Hh1.out Tryz.underlying172 rfl Hs.out ?_
      refine wpList_store_row rfl 172 (.tmp 0) (.tmp 12) rfl w.heap.size (tabC 256) rfl rfl 172 (tabC 0) Hh0.out Hs.out Hs0.out (tabC_one _) ?_
      have HR : Hid ((W.setRow w.heap.size (tabC 256)).heap[w.heap.size]? = some (.cells (tabC 256) 172 (0, 0))) := setRow_heap _ _ _ _ _ _ Hh0.out
      have Hb2 : Below w.heap.size w (W.setRow w.heap.size (tabC 256)) := below_setRow Hb (Nat.le_refl _) _
      generalize W.setRow w.heap.size (tabC 256) = W2 at *
      go_wp2_with fail
      refine bodyPost_ret (v := .agg (tabC 256)) (results_cell_row rfl _ W2 w.heap.size 172 (tabC 256) (0, 0) (.array 256 112) rfl HR.out Tryz.underlying172 rfl Hs.out) rfl ⟨rfl, Hb2⟩
    | succ g =>
      have hi : i < 256 := by omega
      have HG := Lib.hid hig
      clear hig
      have hn : (i : Int) = ((BitVec.ofNat 32 i).toNat : Int) := by simp; omega
      have HN := Lib.hid hn
      clear hn
      go_wp2_with fail
      refine (step_any (BitVec.ofNat 32 i) _ HN.out _).mono ?_
      rintro e w' ⟨rfl, rfl⟩
      have hv : Value.int .u32 ((Mn 8 (BitVec.ofNat 32 i)).toNat : Int) = tabV i := rfl
      have HV := Lib.hid hv
      clear hv
      generalize ((Mn 8 (BitVec.ofNat 32 i)).toNat : Int) = x at *
      have hts := tabC_size i
      go_wp2_with fail
      go_roundg g
      case measure => omega
      case rel => exact ⟨i + 1, by have := HG.out; omega, by simp, by rw [HV.out, tabC_set]⟩
end Go.Proofs.YtpjpgcjhdbiepaaGreat
end
/-! The contracts of over, More and Sum. -/
section
namespace Go.Proofs.YtpjpgcjhdbiepaaGreat
open Go.RowKit Go.Kit CrcM Go.Proofs.YtpjpgcjhdbiepaaGreatW.PrintWords

theorem byte_of (c : W) (x : Int) (h0 : 0 ≤ x) (h1 : x < 256) :
    bits .xor .u8 ((c.toNat : Int) % 256) x = ((((c ^^^ byt x) &&& 255#32).toNat : Nat) : Int) := by
  obtain ⟨n, rfl⟩ := Int.eq_ofNat_of_zero_le h0
  have e : ((c.toNat : Int) % 256) = ((c.toNat % 256 : Nat) : Int) := by omega
  rw [e, u8_xor_nat _ _ (Nat.mod_lt _ (by omega)) (by omega)]
  congr 1
  have h255 : ((c ^^^ byt (n : Int)) &&& 255#32).toNat = (c.toNat ^^^ n) % 256 := by
    rw [BitVec.toNat_and, BitVec.toNat_xor, byt, BitVec.ofInt_natCast, BitVec.toNat_ofNat, Nat.mod_eq_of_lt (show n < 2 ^ 32 by omega)]
    exact Nat.and_two_pow_sub_one_eq_mod _ 8
  rw [h255]
  rw [show (256 : Nat) = 2 ^ 8 from rfl, Nat.xor_mod_two_pow, Nat.mod_eq_of_lt (show n < 2 ^ 8 by omega)]
/-- One byte, by the table. -/
theorem over_step (c : W) (x : Int) (h0 : 0 ≤ x) (h1 : x < 256) :
    bits .xor .u32 (((c.toNat : Nat) : Int) / (256 : Int)) ((Mn 8 (BitVec.ofNat 32 ((c ^^^ byt x) &&& 255#32).toNat)).toNat : Int) = ((Mn 8 (c ^^^ byt x)).toNat : Int) := by
  rw [shr_eight, xor_w]
  congr 2
  rw [Mn8_split (c ^^^ byt x)]
  congr 1
  · apply BitVec.eq_of_getLsbD_eq
    intro i hi
    obtain ⟨n, rfl⟩ := Int.eq_ofNat_of_zero_le h0
    rw [BitVec.getLsbD_ushiftRight, BitVec.getLsbD_ushiftRight, BitVec.getLsbD_xor, byt, BitVec.ofInt_natCast, BitVec.getLsbD_ofNat, Nat.testBit_lt_two_pow (show n < 2 ^ (8 + i) from Nat.lt_of_lt_of_le (show n < 2 ^ 8 by omega) (Nat.pow_le_pow_right (by omega) (by omega)))]
    simp
  · simp
theorem low_lt (y : W) : (y &&& 255#32).toNat < 256 := by
  rw [BitVec.toNat_and]
  exact Nat.lt_of_le_of_lt Nat.and_le_right (by decide)
/-- What one round of the table asks, and gives: q the place, z what stands there. -/
theorem over_round (c : W) (x : Int) (h0 : 0 ≤ x) (h1 : x < 256) : ∃ (q : Nat) (z : Int), q < 256 ∧ (tabC 256)[q]? = some (.int .u32 z) ∧
    bits .xor .u8 ((c.toNat : Int) % 256) x = (q : Int) ∧ bits .xor .u32 (((c.toNat : Nat) : Int) / (256 : Int)) z = ((Mn 8 (c ^^^ byt x)).toNat : Int) :=
  ⟨_, _, low_lt _, tabC_get _ (low_lt (c ^^^ byt x)), byte_of c x h0 h1, over_step c x h0 h1⟩
set_option maxHeartbeats 1000000 in
set_option maxRecDepth 100000 in
theorem over_any (c : W) (n : Int) (hn : n = (c.toNat : Int)) (A : Option Addr) (len cap : Nat) (L : List (List Int)) (w : World) (hL : RBs w A len L) :
    Calls Tryz.prog 100 #[.int .u32 n, .slice A len cap] w fun e w' => e = .returned (.int .u32 ((over c L.flatten).toNat : Int)) ∧ Below w.heap.size w w' := by
  subst hn
  have hlenL := hL.len
  have HL := Lib.hid hlenL
  clear hlenL
  have hmaxL := hL.max
  have hz58 := (zero_of_info info_tab).1
  have HZ := Lib.hid hz58
  clear hz58
  have HI := Lib.hid (zero_of_info info_tab).2
  go_enter Tryz.func100, Tryz.ntmps100
  go_wp2_with fail
  refine (table_any _).mono ?_
  rintro e w1 ⟨rfl, hb1⟩
  have hz58 := HZ.out
  rw [← tabC_zero] at hz58
  have Hs : Hid ((Tryz.prog.info? 172).map (·.size) = some (tabC 256).size) := by rw [tabC_size]; exact HI.out
  have Hs0 : Hid ((tabC 0).size = (tabC 256).size) := by rw [tabC_size, tabC_size]; rfl
  have Hh : Hid ((w1.alloc (.cells (tabC 0) 172)).heap[w1.heap.size]? = some (.cells (tabC 0) 172 (0, 0))) := heap_alloc_new w1 _
  go_wp2_with (refine wpList_store_row rfl 172 (.tmp 5) (.tmp 10) rfl w1.heap.size (tabC 256) rfl rfl 172 (tabC 0) Hh.out Hs.out Hs0.out (tabC_one _) ?_)
  have HT : Hid (((w1.alloc (.cells (tabC 0) 172)).setRow w1.heap.size (tabC 256)).heap[w1.heap.size]? = some (.cells (tabC 256) 172 (0, 0))) := setRow_heap _ _ _ _ _ _ Hh.out
  have hb2 : Below w.heap.size w ((w1.alloc (.cells (tabC 0) 172)).setRow w1.heap.size (tabC 256)) := below_setRow (below_alloc hb1 _) hb1.size _
  clear Hh Hs Hs0 hz58 HZ HI hb1
  generalize ((w1.alloc (.cells (tabC 0) 172)).setRow w1.heap.size (tabC 256)) = wt at hb2 HT ⊢
  replace hL := hL.below hb2
  go_loop [0, 13] (fun v0 v13 => ∃ (d : W) (k : Nat), k ≤ len ∧ v0 = .int .u32 (d.toNat : Int) ∧ v13 = .int .i64 (k : Int) ∧ Hid (d = over c (L.take k).flatten)) (fun _ i => len - (intOf i).toNat)
  case atStart => exact ⟨c, 0, by omega, rfl, rfl, rfl⟩
  case round =>
    obtain ⟨d, k, hk, rfl, rfl, HD⟩ := hrel
    by_cases hlt : k < len
    · obtain ⟨ad, Ai, ni, ci, xs, rfl, hcell, hr, HX⟩ := hL.at_ k hlt
      have hmx := hr.max
      go_upto_block 2 with (fail)
      go_wp2_with fail
      go_loop [0, 19] (fun v0 v19 => ∃ (d2 : W) (j : Nat), j ≤ ni ∧ v0 = .int .u32 (d2.toNat : Int) ∧ v19 = .int .i64 (j : Int) ∧ Hid (d2 = over d (xs.take j))) (fun _ i => ni - (intOf i).toNat)
      case atStart => exact ⟨d, 0, by omega, rfl, rfl, rfl⟩
      case round =>
        obtain ⟨d2, j, hj, rfl, rfl, HD2⟩ := hrel
        by_cases hlj : j < ni
        · obtain ⟨ad2, x, rfl, hc2, h0, h1, HX2⟩ := hr.at_ j hlj
          obtain ⟨q, z, hq, hz, hby, hxo⟩ := over_round d2 x h0 h1
          have hct : wt.cell? ⟨w1.heap.size, q, none⟩ = some (.int .u32 z) := (cell_of_row wt w1.heap.size q (tabC 256) 172 (0, 0) HT.out).trans hz
          clear hz
          go_wp2
          go_round
          case rel => exact ⟨Mn 8 (d2 ^^^ byt x), j + 1, by omega, by simp, by simp, by rw [snoc HX2.out, over_snoc, ← HD2.out]; rfl⟩
          case measure => simp [intOf]; omega
        · go_wp2
          go_round
          case rel => exact ⟨d2, k + 1, by omega, by simp, by simp, by rw [flat_snoc HX.out, over_append, ← HD.out, HD2.out, all_of (by rw [hr.len]; omega)]; rfl⟩
          case measure => simp [intOf]; omega
    · go_wp2
      go_ret
      exact ⟨by rw [HD.out, all_of (by rw [HL.out]; omega)]; rfl, hb2⟩
end Go.Proofs.YtpjpgcjhdbiepaaGreat
end
/-! The contracts of More, Sum, and the document's byteOn, More, Sum. -/
section
namespace Go.Proofs.YtpjpgcjhdbiepaaGreat
open Go.RowKit Go.Kit CrcM Go.Proofs.YtpjpgcjhdbiepaaGreatW.PrintWords

theorem not_w (c : W) : bits .xor .u32 IntKind.u32.max ((c.toNat : Nat) : Int) = ((~~~ c).toNat : Int) := by
  rw [show IntKind.u32.max = ((BitVec.allOnes 32).toNat : Int) from by decide, xor_w]
  congr 2
def more (c : W) (l : List Int) : W := ~~~ (over (~~~ c) l)
set_option maxHeartbeats 400000 in
theorem Sum_any (A : Option Addr) (len cap : Nat) (L : List (List Int)) (w : World) (hL : RBs w A len L) :
    Calls Tryz.prog 75 #[.slice A len cap] w fun e w' => e = .returned (.int .u32 ((more 0#32 L.flatten).toNat : Int)) ∧ Below w.heap.size w w' := by
  go_enter Tryz.func75, Tryz.ntmps75
  go_wp2_with fail
  refine (over_any (~~~ 0#32) _ (by decide) A len cap L w hL).mono ?_
  rintro e w1 ⟨rfl, hb⟩
  have hnot := not_w (over (~~~ 0#32) L.flatten)
  obtain ⟨m, hm⟩ : ∃ m, m = ~~~ over (~~~ 0#32) L.flatten := ⟨_, rfl⟩
  have HM : Hid (m = more 0#32 L.flatten) := hm
  rw [← hm] at hnot
  clear hm
  generalize over (~~~ 0#32) L.flatten = d at *
  go_wp2
  go_ret
  exact ⟨by rw [← HM.out]; rfl, hb⟩
/-- Sum of one text, as a variadic call hands it over. -/
theorem Sum_one {A : Option Addr} {n cap : Nat} {xs : List Int} (t : TypeId) {w : World} (h : RB w A n xs) (ad : Option Addr) (had : ad = some ⟨w.heap.size, 0, none⟩) :
    Calls Tryz.prog 75 #[.slice ad 1 1] (w.alloc (.cells #[.slice A n cap] t)) fun e w' => ∃ s : W, e = .returned (.int .u32 (s.toNat : Int)) ∧ Hid (s = more 0#32 xs) ∧ Below w.heap.size w w' := by
  subst had
  refine (Sum_any _ 1 1 [xs] _ (RBs.one t h)).mono ?_
  rintro e w1 ⟨rfl, hb1⟩
  exact ⟨_, rfl, Lib.hid (by simp), below_then (below_alloc (Below.refl _ w) _) (by simp) hb1⟩
end Go.Proofs.YtpjpgcjhdbiepaaGreat
end
/-! The contracts of the document's byteOn, More and Sum; of both products. -/
section
namespace Go.Proofs.YtpjpgcjhdbiepaaGreat
open Go.RowKit Go.Kit CrcM Go.Proofs.YtpjpgcjhdbiepaaGreatW.PrintWords

theorem byte_in (c : W) (x : Int) (h0 : 0 ≤ x) (h1 : x < 256) : bits .xor .u32 ((c.toNat : Nat) : Int) x = ((c ^^^ byt x).toNat : Int) := by
  obtain ⟨n, rfl⟩ := Int.eq_ofNat_of_zero_le h0
  have e : (n : Int) = ((byt (n : Int)).toNat : Int) := by rw [byt, BitVec.ofInt_natCast, BitVec.toNat_ofNat]; omega
  rw [show bits .xor .u32 ((c.toNat : Nat) : Int) (n : Int) = bits .xor .u32 ((c.toNat : Nat) : Int) ((byt (n : Int)).toNat : Int) from by rw [← e], xor_w]
set_option maxHeartbeats 400000 in
theorem byteOn_any (c : W) (n : Int) (hn : n = (c.toNat : Int)) (x : Int) (hx0 : 0 ≤ x) (hx1 : x < 256) (w : World) :
    Calls Tryz.prog 63 #[.int .u32 n, .int .u8 x] w fun e w' => e = .returned (.int .u32 ((Mn 8 (c ^^^ byt x)).toNat : Int)) ∧ w' = w := by
  subst hn
  have hin := byte_in c x hx0 hx1
  obtain ⟨c2, hc2⟩ : ∃ c2, c2 = c ^^^ byt x := ⟨_, rfl⟩
  rw [← hc2] at hin ⊢
  clear hc2
  go_enter Tryz.func63, Tryz.ntmps63
  go_wp2
  clear hin
  go_loop [0, 5] (fun v0 v3 => ∃ (d : W) (k : Nat), k ≤ 8 ∧ v0 = .int .u32 (d.toNat : Int) ∧ v3 = .int .i64 (k : Int) ∧ Hid (Mn 8 c2 = Mn (8 - k) d)) (fun _ i => 8 - (intOf i).toNat)
  case atStart => exact ⟨c2, 0, by omega, rfl, rfl, rfl⟩
  case round =>
    obtain ⟨d, k, hk, rfl, rfl, HD⟩ := hrel
    have h1 := and_one d
    by_cases hlt : k < 8
    · have HE : Hid (Mn 8 c2 = Mn (8 - (k + 1)) (M d)) := (HD.out).trans (Mn_less k hlt d)
      cases hb : d.getLsbD 0
      · rw [hb] at h1
        have HS := Lib.hid (step_no d hb)
        clear hb
        go_wp2
        go_round
        case rel => exact ⟨M d, k + 1, by omega, by rw [← HS.out], by simp, HE⟩
        case measure => simp [intOf]; omega
      · rw [hb] at h1
        have HS := Lib.hid (step_yes d hb)
        clear hb
        go_wp2
        go_round
        case rel => exact ⟨M d, k + 1, by omega, by rw [← HS.out], by simp, HE⟩
        case measure => simp [intOf]; omega
    · have HE : Hid (Mn 8 c2 = d) := by rw [HD.out, show 8 - k = 0 from by omega]; rfl
      go_wp2
      go_ret
      exact ⟨by rw [HE.out]; rfl, rfl⟩

set_option maxHeartbeats 400000 in
theorem rMore_any (c : W) (n : Int) (hn : n = (c.toNat : Int)) (A : Option Addr) (len cap : Nat) (xs : List Int) (w : World) (hx : RB w A len xs) :
    Calls Tryz.prog 51 #[.int .u32 n, .slice A len cap] w fun e w' => e = .returned (.int .u32 ((more c xs).toNat : Int)) ∧ w' = w := by
  subst hn
  have hnot := not_w c
  obtain ⟨b, hb0⟩ : ∃ b, b = ~~~ c := ⟨_, rfl⟩
  rw [← hb0] at hnot
  have HB := Lib.hid hb0
  clear hb0
  have hmx := hx.max
  go_enter Tryz.func51, Tryz.ntmps51
  go_wp2_with fail
  clear hnot
  go_loop [0, 5] (fun v0 v5 => ∃ (d : W) (k : Nat), k ≤ len ∧ v0 = .int .u32 (d.toNat : Int) ∧ v5 = .int .i64 (k : Int) ∧ Hid (d = over b (xs.take k))) (fun _ i => len - (intOf i).toNat)
  case atStart => exact ⟨b, 0, by omega, rfl, rfl, rfl⟩
  case round =>
    obtain ⟨d, k, hk, rfl, rfl, HD⟩ := hrel
    by_cases hlt : k < len
    · obtain ⟨ad, x, rfl, hc, h0, h1, HX⟩ := hx.at_ k hlt
      go_wp2_with ((go_at_call 63); (refine (byteOn_any d _ rfl _ h0 h1 _).mono ?_); (rintro e w' ⟨rfl, rfl⟩))
      go_round
      case rel => exact ⟨Mn 8 (d ^^^ byt x), k + 1, by omega, by simp, by simp, by rw [snoc HX.out, over_snoc, ← HD.out]; rfl⟩
      case measure => simp [intOf]; omega
    · have hnot := not_w d
      obtain ⟨m, hm⟩ : ∃ m, m = ~~~ d := ⟨_, rfl⟩
      rw [← hm] at hnot
      have HM : Hid (m = more c xs) := Lib.hid (by unfold more; rw [← HB.out, hm, HD.out, all_of (by rw [hx.len]; omega)])
      clear hm
      go_wp2_with fail
      go_ret
      exact ⟨by rw [← HM.out]; rfl, rfl⟩

end Go.Proofs.YtpjpgcjhdbiepaaGreat
end
/-! The contracts of bytes.Equal, Bytes and Seal, and of the document's Bytes and Seal. -/
section
namespace Go.Proofs.YtpjpgcjhdbiepaaGreat
open Go.RowKit Go.Kit CrcM Go.Proofs.YtpjpgcjhdbiepaaGreatW.PrintWords

theorem b4_four (c : W) : ∃ x0 x1 x2 x3 : Int, b4 c = [x0, x1, x2, x3] ∧ (c.toNat : Int) % 256 = x0 ∧ (c.toNat : Int) / 256 % 256 = x1 ∧ (c.toNat : Int) / 65536 % 256 = x2 ∧ (c.toNat : Int) / 16777216 = x3 ∧
    (0 ≤ x0 ∧ x0 < 256) ∧ (0 ≤ x1 ∧ x1 < 256) ∧ (0 ≤ x2 ∧ x2 < 256) ∧ 0 ≤ x3 ∧ x3 < 256 := by
  have h255 : ∀ d : W, (d &&& 255#32).toNat = d.toNat % 256 := fun d => by rw [BitVec.toNat_and]; exact Nat.and_two_pow_sub_one_eq_mod _ 8
  refine ⟨_, _, _, _, rfl, ?_, ?_, ?_, ?_, ?_, ?_, ?_, ?_⟩
  all_goals have hlt := c.isLt
  all_goals simp only [h255, BitVec.toNat_ushiftRight, Nat.shiftRight_eq_div_pow]
  all_goals omega
theorem b4_byt (c : W) : Byt (b4 c) := by
  obtain ⟨x0, x1, x2, x3, h, _, _, _, _, h0, h1, h2, h3⟩ := b4_four c
  rw [h]; intro x hx; simp at hx; omega
theorem b4_length (c : W) : (b4 c).length = 4 := rfl
theorem info_b4 : (Tryz.prog.info? 110).map (fun i => (i.zero, i.size)) = some (some (.agg #[.int .u8 0, .int .u8 0, .int .u8 0, .int .u8 0]), 4) := by kernel_rfl
set_option maxHeartbeats 400000 in
theorem Bytes_any (c : W) (n : Int) (hn : n = (c.toNat : Int)) (w : World) :
    Calls Tryz.prog 74 #[.int .u32 n] w fun e w' => ∃ x0 x1 x2 x3, e = .returned (.agg #[.int .u8 x0, .int .u8 x1, .int .u8 x2, .int .u8 x3]) ∧ Hid (b4 c = [x0, x1, x2, x3]) ∧ Below w.heap.size w w' := by
  subst hn
  have hlt := u32_lt c
  obtain ⟨x0, x1, x2, x3, h, e0, e1, e2, e3, h0, h1, h2, h3⟩ := b4_four c
  have H := Lib.hid h
  clear h
  have hz := (zero_of_info info_b4).1
  go_enter Tryz.func74, Tryz.ntmps74
  go_wp2_with fail
  refine bodyPost_ret (v := .agg #[.int .u8 x0, .int .u8 x1, .int .u8 x2, .int .u8 x3]) (by simp [results, Tryz.results74, go_sem]) rfl ⟨x0, x1, x2, x3, rfl, H, (Below.refl _ _).alloc (Nat.le_refl _) _⟩
set_option maxHeartbeats 400000 in
theorem rBytes_any (c : W) (n : Int) (hn : n = (c.toNat : Int)) (w : World) :
    Calls Tryz.prog 50 #[.int .u32 n] w fun e w' => ∃ x0 x1 x2 x3, e = .returned (.agg #[.int .u8 x0, .int .u8 x1, .int .u8 x2, .int .u8 x3]) ∧ Hid (b4 c = [x0, x1, x2, x3]) ∧ Below w.heap.size w w' := by
  subst hn
  have hlt := u32_lt c
  obtain ⟨x0, x1, x2, x3, h, e0, e1, e2, e3, h0, h1, h2, h3⟩ := b4_four c
  have H := Lib.hid h
  clear h
  have hz := (zero_of_info info_b4).1
  go_enter Tryz.func50, Tryz.ntmps50
  go_wp2_with fail
  refine bodyPost_ret (v := .agg #[.int .u8 x0, .int .u8 x1, .int .u8 x2, .int .u8 x3]) (by simp [results, Tryz.results50, go_sem]) rfl ⟨x0, x1, x2, x3, rfl, H, (Below.refl _ _).alloc (Nat.le_refl _) _⟩

/-! Sealed bytes -/
def sealed (xs : List Int) : List Int := xs ++ b4 (more 0#32 xs)
theorem sealed_length (xs : List Int) : (sealed xs).length = xs.length + 4 := by unfold sealed; rw [List.length_append, b4_length]
set_option maxHeartbeats 1000000 in
set_option maxRecDepth 100000 in
theorem Seal_any (A : Option Addr) (len cap : Nat) (xs : List Int) (w : World) (hx : RB w A len xs) (hl : len ≤ 140737488355000) :
    Calls Tryz.prog 60 #[.slice A len cap] w fun e w' => ∃ v, e = .returned v ∧ OB 5 w' w.heap.size v (sealed xs) ∧ Below w.heap.size w w' := by
  obtain ⟨i0, hi, hz0, hz1, hz2⟩ := info_parts u8_info
  have hmk := fun W => run_make_rowN 22 5 i0 _ Tryz.underlying22 hi hz0 len (len + 4) (by omega) (by rw [hz2]; omega) (by omega) W (len : Int) ((len : Int) + 4) rfl (by simp)
  simp only [hz1, Value.cells, Nat.mul_one, made_u8] at hmk
  clear hi hz0 hz1 hz2
  go_enter Tryz.func60, Tryz.ntmps60
  go_wp2_with (refine wpList_copy_bytes (w := w) rfl (.tmp 11) (.tmp 12) 22 5 rfl Tryz.underlying22 u8_size A len (len + 4) len cap xs w.heap.size rfl rfl (hx.alloc _) (Nat.le_refl _) (heap_alloc_new w _) (by omega) (by omega) (below_alloc (Below.refl _ w) _) (Nat.le_refl _) ?_)
  intro w1 hO hb1
  rw [all_of (by rw [hx.len]; exact Nat.le_refl _)] at hO
  have hx1 := hx.below hb1
  clear hmk
  go_wp2_with fail
  refine (Sum_one _ hx1 _ rfl).mono ?_
  rintro e w2 ⟨s, rfl, HS, hb2⟩
  replace hO := hO.below hb2
  replace hb1 := below_step hb1 hb2
  go_wp2_with fail
  refine (Bytes_any s _ rfl _).mono ?_
  rintro e w3 ⟨x0, x1, x2, x3, rfl, HB, hb3⟩
  replace hO := hO.below hb3
  replace hb1 := below_step hb1 hb3
  have hz := (zero_of_info info_b4).1
  clear hb2 hb3 hx1
  have hfour : Byt [x0, x1, x2, x3] := by rw [← HB.out]; exact b4_byt s
  have HR := RB.lit w3 [x0, x1, x2, x3] hfour (by simp) 110 (0, 0)
  simp only [nums, List.map_cons, List.map_nil, List.length_cons, List.length_nil, Nat.reduceAdd] at HR
  have HO := hO.below (below_alloc (Below.refl _ w3) (.cells #[.int .u8 x0, .int .u8 x1, .int .u8 x2, .int .u8 x3] 110))
  have hbw := below_alloc hb1 (.cells #[.int .u8 x0, .int .u8 x1, .int .u8 x2, .int .u8 x3] 110)
  clear hO hb1
  have hlen := hx.len
  have HL := Lib.hid hlen
  clear hlen
  go_wp2_with (at_builtin; refine print_append_row (w0 := w) w.heap.size rfl (.tmp 18) (.tmp 19) 22 5 .u8 1 rfl Tryz.underlying22 u8_info (by decide) _ xs [x0, x1, x2, x3] _ 4 4 rfl rfl HO.own HR.rd hbw (by have := hbw.size; simpa using this) (by rw [HL.out]; omega) ?_)
  intro v1 w4 hown hb4 _ _
  have hF : OB 5 w4 w.heap.size v1 (sealed xs) := by
    unfold sealed
    rw [← HS.out, HB.out]
    exact ⟨by simpa using hown, hx.byt.append hfour⟩
  clear HO HR hbw hown
  go_wp2_with fail
  go_ret
  exact ⟨_, rfl, hF, hb4⟩

set_option maxHeartbeats 1000000 in
set_option maxRecDepth 100000 in
theorem rSeal_any (A : Option Addr) (len cap : Nat) (xs : List Int) (w : World) (hx : RB w A len xs) (hl : len ≤ 140737488355000) :
    Calls Tryz.prog 41 #[.slice A len cap] w fun e w' => ∃ v, e = .returned v ∧ OB 5 w' w.heap.size v (sealed xs) ∧ Below w.heap.size w w' := by
  have HL := Lib.hid hx.len
  go_enter Tryz.func41, Tryz.ntmps41
  go_wp2_with (at_builtin; refine print_append_row (w0 := w) w.heap.size rfl (.const (.slice none 0 0)) (.tmp 5) 22 5 .u8 1 rfl Tryz.underlying22 u8_info (by decide) (.slice none 0 0) [] xs A len cap rfl rfl (own_nil w _ _ _) hx.rd (Below.refl _ _) (Nat.le_refl _) (by simp; omega) ?_)
  intro v1 w1 hown hb1 _ _
  have hO : OB 5 w1 w.heap.size v1 xs := ⟨by simpa using hown, hx.byt⟩
  clear hown
  have hx1 := hx.below hb1
  go_wp2_with fail
  refine (rMore_any 0#32 _ (by decide) A len cap xs _ hx1).mono ?_
  rintro e w2 ⟨rfl, rfl⟩
  obtain ⟨s, hs⟩ : ∃ s, s = more 0#32 xs := ⟨_, rfl⟩
  rw [← hs]
  have HS := Lib.hid hs
  clear hs
  go_wp2_with fail
  refine (rBytes_any s _ rfl _).mono ?_
  rintro e w3 ⟨x0, x1, x2, x3, rfl, HB, hb3⟩
  replace hO := hO.below hb3
  replace hb1 := below_step hb1 hb3
  have hz := (zero_of_info info_b4).1
  clear hb3 hx1
  have hfour : Byt [x0, x1, x2, x3] := by rw [← HB.out]; exact b4_byt s
  obtain ⟨wb, hwb⟩ : ∃ wb, wb = w3.alloc (.cells #[.int .u8 x0, .int .u8 x1, .int .u8 x2, .int .u8 x3] 110) := ⟨_, rfl⟩
  have HR := RB.lit wb [x0, x1, x2, x3] hfour (by simp) 5 (0, 0)
  simp only [nums, List.map_cons, List.map_nil, List.length_cons, List.length_nil, Nat.reduceAdd] at HR
  have HO := (hO.below (below_alloc (Below.refl _ w3) (.cells #[.int .u8 x0, .int .u8 x1, .int .u8 x2, .int .u8 x3] 110)))
  have hbw := below_alloc hb1 (.cells #[.int .u8 x0, .int .u8 x1, .int .u8 x2, .int .u8 x3] 110)
  rw [← hwb] at HO hbw
  replace HO := HO.below (below_alloc (Below.refl _ wb) (.cells #[.int .u8 x0, .int .u8 x1, .int .u8 x2, .int .u8 x3] 5))
  replace hbw := below_alloc hbw (.cells #[.int .u8 x0, .int .u8 x1, .int .u8 x2, .int .u8 x3] 5)
  subst hwb
  simp only [World.size_alloc] at HR
  clear hO hb1
  go_wp2_with (at_builtin; refine print_append_row (w0 := w) w.heap.size rfl (.tmp 10) (.tmp 19) 22 5 .u8 1 rfl Tryz.underlying22 u8_info (by decide) _ xs [x0, x1, x2, x3] _ 4 4 rfl rfl HO.own HR.rd hbw (by have := hbw.size; simpa using this) (by rw [HL.out]; omega) ?_)
  intro v2 w4 hown hb4 _ _
  have hF : OB 5 w4 w.heap.size v2 (sealed xs) := by
    unfold sealed
    rw [← HS.out, HB.out]
    exact ⟨by simpa using hown, hx.byt.append hfour⟩
  clear HO HR hbw hown
  go_wp2_with fail
  go_ret
  exact ⟨_, rfl, hF, hb4⟩
end Go.Proofs.YtpjpgcjhdbiepaaGreat
end
/-! The contracts of frame.Check, Encode, Size. -/
section
namespace Go.Kit
open Go.RowKit Go.Proofs.YtpjpgcjhdbiepaaGreatW.PrintWords
end Go.Kit
namespace Go.Proofs.YtpjpgcjhdbiepaaGreat
open Go.RowKit Go.Kit Go.Proofs.YtpjpgcjhdbiepaaGreatW.PrintWords
/-- The fields of its kind, and the kind. -/
def ownG (f : Fr) : Fr := { onlyG f.k f with k := f.k }
theorem own_core {f : Fr} (h1 : 1 ≤ f.k) (h6 : f.k ≤ 6) : (ownG f).core = onlyF f := by
  unfold ownG onlyG onlyF Fr.core
  rcases (by omega : f.k = 1 ∨ f.k = 2 ∨ f.k = 3 ∨ f.k = 4 ∨ f.k = 5 ∨ f.k = 6) with h | h | h | h | h | h <;> simp [h, only1, only2, only3, only4, only6, noF]
theorem may_iffK {f : Fr} (h1 : 1 ≤ f.k) (h6 : f.k ≤ 6) (hc : f.core = onlyF f) (hn : f.args.length = f.n) : May f ↔ MayK f.k f := by
  constructor
  · intro h
    refine ⟨h.hello, fun _ => ⟨h.mo, h.fu, h.di, by have := h.many; omega, h.each⟩, fun e => ?_⟩
    obtain ⟨a, b, c⟩ := h.resp e
    by_cases hs : f.st = 1
    · exact .inl hs
    · exact .inr ⟨by omega, c hs⟩
  · rintro ⟨ha, hb, hd⟩
    have e1 : f.mo = if f.k = 2 then f.mo else 0 := congrArg Fr.mo hc
    have e2 : f.fu = if f.k = 2 then f.fu else 0 := congrArg Fr.fu hc
    have e3 : f.di = if f.k = 2 then f.di else 0 := congrArg Fr.di hc
    have e4 : f.args = if f.k = 2 then f.args else [] := congrArg Fr.args hc
    by_cases h2 : f.k = 2
    · obtain ⟨b1, b2, b3, b4, b5⟩ := hb h2
      exact ⟨h1, h6, hc, by omega, b1, b2, b3, fun e => by omega, fun e => by omega, b5⟩
    · rw [if_neg h2] at e1 e2 e3 e4
      refine ⟨h1, h6, hc, by rw [e4]; simp, by omega, by omega, by omega, ha, fun e => ?_, fun s hs => by rw [e4] at hs; cases hs⟩
      rcases hd e with h | ⟨h, h3⟩
      · exact ⟨by omega, by omega, fun h4 => absurd h h4⟩
      · exact ⟨by omega, by omega, fun _ => h3⟩
theorem may_lay {f : Fr} (h : May f) (hn : f.args.length = f.n) (hs : f.body.size ≤ 2097152) : LayOk f :=
  ⟨fun e => by have := h.hello e; omega, fun e => ⟨⟨h.mo, h.fu, h.di⟩, by have := h.many; omega, h.each⟩, fun e => by have := (h.resp e).1; omega, hs⟩
theorem chk_no {f : Fr} (h : ¬ May f) : chkF f = 70 := by unfold chkF; rw [if_neg (fun e => h ((may_iff f).1 e))]
theorem chk_long {f : Fr} (h : May f) (hs : 2097152 < f.body.size ∨ 2097152 < (bodyF f).length) : chkF f = 3 := by unfold chkF MF; rw [if_pos ((may_iff f).2 h), if_pos hs]
theorem chk_ok {f : Fr} (h : May f) (hs : ¬ (2097152 < f.body.size ∨ 2097152 < (bodyF f).length)) : chkF f = 0 := by unfold chkF MF; rw [if_pos ((may_iff f).2 h), if_neg hs]
section
variable {f : Fr} {w : World}
attribute [-go_sem] Instr.loadAt
set_option maxHeartbeats 16000000 in
set_option maxRecDepth 100000 in
theorem Check_any (hf : f.ok w) (hw : f.wf) (ha : ∀ s ∈ f.args, s.size ≤ 9223372036854775807) : Calls Tryz.prog 58 #[f.val] w fun e w' => e = .returned (.int .i64 (chkF f)) ∧ Below w.heap.size w w' := by
  have hb := below_alloc (Below.refl _ w) (.cells f.arr 48)
  have hF := boxed hf.tool w
  have hif : (Tryz.prog.info? 48).map (·.size) = some f.cells.length := by rw [frame_size]; have := Fr.arr_size f hf.tool; simp [Fr.arr] at this; rw [this]
  by_cases h1 : f.k < 1 ∨ 6 < f.k
  · rw [chk_no (f := f) (fun h => by have := h.k1; have := h.k6; omega)]
    have HB := Lib.hid h1
    clear h1 hif
    show Calls Tryz.prog _ #[.agg f.arr] w _
    go_enter Tryz.func58, Tryz.ntmps58
    go_upto_region 1 with (fail)
    generalize w.alloc (.cells f.arr 48) = w1 at *
    have e0 := load_int hF.c0
    go_wp2_with fail
    refine (of_bad f.k HB.out _).mono ?_
    rintro e w2 ⟨rfl, hb2⟩
    have hbz := below_alloc (Below.refl w2.heap.size w2) (.cells #[.nilFunc, .nilFunc, .nilFunc, .nilFunc] 142)
    have hblk := heap_alloc_new w2 (.cells #[.nilFunc, .nilFunc, .nilFunc, .nilFunc] 142)
    have hb3 := below_step (below_step hb hb2) hbz
    have hb4 := below_setRow hb3 (Nat.le_trans hb.size hb2.size) #[.nilFunc, .nilFunc, .nilFunc, .nilFunc]
    have hszz : (Tryz.prog.info? 142).map (·.size) = some (#[.nilFunc, .nilFunc, .nilFunc, .nilFunc] : Array Value).size := kind_size4
    have hone : (#[.nilFunc, .nilFunc, .nilFunc, .nilFunc] : Array Value).all (·.oneCell') = true := by simp [Value.oneCell']
    go_wp2_with (with_reducible show wpList _ _ _ (Oper.mk none _ _ _ _ _ :: _) _ _; refine wpList_store_row rfl 142 (.tmp 3) (.tmp 10) rfl w2.heap.size #[.nilFunc, .nilFunc, .nilFunc, .nilFunc] rfl rfl 142 _ hblk hszz rfl hone ?_)
    go_ret
    exact ⟨rfl, hb4⟩
  · have h1k : 1 ≤ f.k := by omega
    have h6k : f.k ≤ 6 := by omega
    have H1 := Lib.hid h1k
    have H6 := Lib.hid h6k
    have hO := own_core h1k h6k
    have htO : (ownG f).tool.length = 32 := by
      have e : (ownG f).core.tool = (onlyF f).tool := congrArg Fr.tool hO
      replace e : (ownG f).tool = (onlyF f).tool := e
      rw [e]; unfold onlyF; dsimp only; split
      · exact hf.tool
      · rfl
    have hif2 : (Tryz.prog.info? 48).map (·.size) = some (ownG f).cells.length := by rw [frame_size]; have := Fr.arr_size (ownG f) htO; simp [Fr.arr] at this; rw [this]
    obtain ⟨s, hs⟩ : ∃ s, (ownG f).same f = s := ⟨_, rfl⟩
    have hsI : s = true ↔ f.core = onlyF f := by rw [← hs, same_iff, hO]; exact eq_comm
    have HSI := Lib.hid hsI
    have hokO : ∀ W, Below w.heap.size w W → (ownG f).ok W := fun W hbw => by
      refine ⟨htO, ?_⟩
      unfold ownG onlyG
      rcases (by omega : f.k = 1 ∨ f.k = 2 ∨ f.k = 3 ∨ f.k = 4 ∨ f.k = 5 ∨ f.k = 6) with h | h | h | h | h | h <;> simp [h, only1, only2, only3, only4, only6, noF]
      · exact RT.nil W
      · exact hf.args.below hbw
      · exact RT.nil W
      · exact RT.nil W
      · exact RT.nil W
      · exact RT.nil W
    have cS : ∀ W, Below w.heap.size w W → Calls Tryz.prog 73 #[.agg (ownG f).arr, .agg f.arr] W (fun e w' => e = .returned (.bool s) ∧ Below W.heap.size W w') := fun W hbw => Same_is (ownG f) f s hs W (hokO W hbw) (hf.below hbw)
    have cM : ∀ W, Below w.heap.size w W → Calls Tryz.prog (mayN f.k) #[.agg f.arr] W (SomeBool (MayK f.k f) (fun w' => Below W.heap.size W w')) := fun W hbw => may_any f.k H1.out H6.out (hf.below hbw) ha
    have cO : ∀ W, Calls Tryz.prog (onlyN f.k) #[.agg f.arr] W (fun e w' => e = .returned (.agg (onlyG f.k f).arr) ∧ Below W.heap.size W w') := fun W => only_any f.k H1.out H6.out f hf.tool W
    have cB : LayOk f → ∀ W, Below w.heap.size w W → Calls Tryz.prog 59 #[.agg f.arr] W (Laid W (bodyF f)) := fun hL W hbw => body_any H1.out H6.out (hf.below hbw) hw hL
    have htG : (onlyG f.k f).tool.length = 32 := htO
    have hszG := size_of (onlyG f.k f) htG
    have honeG := arr_one (onlyG f.k f)
    have hasG := Fr.arr_size (onlyG f.k f) htG
    have hen := only_enters f.k h1k h6k
    have hen2 := may_enters f.k h1k h6k
    have HLN := Lib.hid hf.args.len
    have htF := hf.tool
    clear hs hO hokO h1k h6k hsI htO h1 hf hw ha
    show Calls Tryz.prog _ #[.agg f.arr] w _
    go_enter Tryz.func58, Tryz.ntmps58
    go_upto_region 1 with (fail)
    generalize w.alloc (.cells f.arr 48) = w1 at *
    have e0 := load_int hF.c0
    obtain ⟨g, hg⟩ : ∃ g, w.heap.size = g := ⟨_, rfl⟩
    rw [hg] at hF e0 ⊢
    clear hg
    go_wp2_with fail
    refine (of_any f.k H1.out H6.out _).mono ?_
    rintro e w2 ⟨rfl, hb2⟩
    have hbz := below_alloc (Below.refl w2.heap.size w2) (.cells #[.nilFunc, .nilFunc, .nilFunc, .nilFunc] 142)
    have hblk := heap_alloc_new w2 (.cells #[.nilFunc, .nilFunc, .nilFunc, .nilFunc] 142)
    have h4 : (#[.nilFunc, .nilFunc, .nilFunc, .nilFunc] : Array Value).size = (kV f.k).size := rfl
    have hsz := kind_size (k := f.k)
    have hone := kind_one f.k
    obtain ⟨KK, hKK⟩ : ∃ KK, kV f.k = KK := ⟨_, rfl⟩
    have hk2 : KK[2]? = some (.func (.func (onlyN f.k)) #[] #[]) := by rw [← hKK]; rfl
    have hk3 : KK[3]? = some (.func (.func (mayN f.k)) #[] #[]) := by rw [← hKK]; rfl
    rw [hKK] at h4 hsz hone ⊢
    have hb3 := below_step (below_step hb hb2) hbz
    have hF3 := (hF.below hb2).below hbz
    have hb4 := below_setRow hb3 (Nat.le_trans hb.size hb2.size) KK
    have hF4 := hF3.only (Fr.only_row _ w2.heap.size KK) (fun e => by have := hF.lt; have := hb2.size; omega)
    have hK4 := setRow_heap _ w2.heap.size _ KK _ _ hblk
    clear hKK e0
    go_upto_region 4 with (with_reducible show wpList _ _ _ (Oper.mk none _ _ _ _ _ :: _) _ _; refine wpList_store_row rfl 142 (.tmp 3) (.tmp 10) rfl w2.heap.size KK rfl rfl 142 _ hblk hsz h4 hone ?_)
    clear hb hb2 hbz hblk hb3 hF3 hF h4 hsz hone
    generalize (w2.alloc (.cells #[.nilFunc, .nilFunc, .nilFunc, .nilFunc] 142)).setRow w2.heap.size KK = w5 at *
    generalize w2.heap.size = gk at *
    have e1 := load_only (a := ⟨gk, 2, none⟩) (by rw [cell_of_row w5 gk 2 _ _ _ hK4]; exact hk2)
    have e2 := load_frame f hif w5 g hF4
    go_wp2_with fail
    refine (cO _).mono ?_
    rintro e w6 ⟨rfl, hb6⟩
    have hb7 := below_step hb4 hb6
    have hF6 := hF4.below hb6
    have hK6 := (hb6.block _ (lt_of_block hK4)).trans hK4
    have hbZ := below_alloc (Below.refl w6.heap.size w6) (.cells #[.int .i64 0, .int .u64 0, .int .i64 0, .int .i64 0, .int .u8 0, .int .u8 0, .int .u8 0, .int .u8 0, .int .u8 0, .int .u8 0, .int .u8 0, .int .u8 0, .int .u8 0, .int .u8 0, .int .u8 0, .int .u8 0, .int .u8 0, .int .u8 0, .int .u8 0, .int .u8 0, .int .u8 0, .int .u8 0, .int .u8 0, .int .u8 0, .int .u8 0, .int .u8 0, .int .u8 0, .int .u8 0, .int .u8 0, .int .u8 0, .int .u8 0, .int .u8 0, .int .u8 0, .int .u8 0, .int .u8 0, .int .u8 0, .int .i64 0, .int .i64 0, .int .i64 0, .int .i64 0, .slice none 0 0, .string ⟨#[]⟩] 48)
    have hblk := heap_alloc_new w6 (.cells #[.int .i64 0, .int .u64 0, .int .i64 0, .int .i64 0, .int .u8 0, .int .u8 0, .int .u8 0, .int .u8 0, .int .u8 0, .int .u8 0, .int .u8 0, .int .u8 0, .int .u8 0, .int .u8 0, .int .u8 0, .int .u8 0, .int .u8 0, .int .u8 0, .int .u8 0, .int .u8 0, .int .u8 0, .int .u8 0, .int .u8 0, .int .u8 0, .int .u8 0, .int .u8 0, .int .u8 0, .int .u8 0, .int .u8 0, .int .u8 0, .int .u8 0, .int .u8 0, .int .u8 0, .int .u8 0, .int .u8 0, .int .u8 0, .int .i64 0, .int .i64 0, .int .i64 0, .int .i64 0, .slice none 0 0, .string ⟨#[]⟩] 48)
    have hF7 := hF6.below hbZ
    have hK7 := (hbZ.block _ (lt_of_block hK6)).trans hK6
    have hb8 := below_step hb7 hbZ
    have h42 : (#[.int .i64 0, .int .u64 0, .int .i64 0, .int .i64 0, .int .u8 0, .int .u8 0, .int .u8 0, .int .u8 0, .int .u8 0, .int .u8 0, .int .u8 0, .int .u8 0, .int .u8 0, .int .u8 0, .int .u8 0, .int .u8 0, .int .u8 0, .int .u8 0, .int .u8 0, .int .u8 0, .int .u8 0, .int .u8 0, .int .u8 0, .int .u8 0, .int .u8 0, .int .u8 0, .int .u8 0, .int .u8 0, .int .u8 0, .int .u8 0, .int .u8 0, .int .u8 0, .int .u8 0, .int .u8 0, .int .u8 0, .int .u8 0, .int .i64 0, .int .i64 0, .int .i64 0, .int .i64 0, .slice none 0 0, .string ⟨#[]⟩] : Array Value).size = (onlyG f.k f).arr.size := by rw [hasG]; rfl
    have hne : ¬ g = w6.heap.size := fun e => by have := hF6.lt; omega
    have hnk : ¬ gk = w6.heap.size := fun e => by have := lt_of_block hK6; omega
    clear e1 e2 hb4 hF4 hK4 hb6 hF6 hK6 hbZ cO
    go_upto_region 5 with (with_reducible show wpList _ _ _ (Oper.mk none _ _ _ _ _ :: _) _ _; refine wpList_store_row rfl 48 (.tmp 5) (.tmp 17) rfl w6.heap.size (onlyG f.k f).arr rfl rfl 48 _ hblk hszG h42 honeG ?_)
    have hb9 := below_setRow hb8 hb7.size (onlyG f.k f).arr
    have hF9 := hF7.only (Fr.only_row _ w6.heap.size (onlyG f.k f).arr) hne
    have hK9 := (Fr.only_row _ w6.heap.size (onlyG f.k f).arr).kept hK7 hnk
    have hG9 : (onlyG f.k f).at_ 48 _ w6.heap.size := ⟨setRow_heap _ w6.heap.size _ (onlyG f.k f).arr _ _ hblk, htG⟩
    have hg9 := hb7.size
    clear hF7 hK7 hb8 hblk hb7 hszG honeG hasG h42
    generalize (w6.alloc (.cells #[.int .i64 0, .int .u64 0, .int .i64 0, .int .i64 0, .int .u8 0, .int .u8 0, .int .u8 0, .int .u8 0, .int .u8 0, .int .u8 0, .int .u8 0, .int .u8 0, .int .u8 0, .int .u8 0, .int .u8 0, .int .u8 0, .int .u8 0, .int .u8 0, .int .u8 0, .int .u8 0, .int .u8 0, .int .u8 0, .int .u8 0, .int .u8 0, .int .u8 0, .int .u8 0, .int .u8 0, .int .u8 0, .int .u8 0, .int .u8 0, .int .u8 0, .int .u8 0, .int .u8 0, .int .u8 0, .int .u8 0, .int .u8 0, .int .i64 0, .int .i64 0, .int .i64 0, .int .i64 0, .slice none 0 0, .string ⟨#[]⟩] 48)).setRow w6.heap.size (onlyG f.k f).arr = w9 at *
    generalize w6.heap.size = g5 at *
    have e0 := load_int hF9.c0
    have r0 := hG9.c0
    have f0 := hG9.fz 0
    have hoz := Fr.only_at w9 g5 0 (.int .i64 f.k)
    have hFa := hF9.only hoz hne
    have hKa := hoz.kept hK9 hnk
    have hGa : (ownG f).at_ 48 _ g5 := hG9.set0 f.k
    have hba := Below.only hb9 hoz hb9.size (fun k e => by rw [e]; exact hg9)
    clear hb9 hF9 hK9 hG9 hoz
    go_upto_region 6 with (fail)
    generalize w9.setCell ⟨g5, 0, none⟩ (.int .i64 f.k) = wa at *
    clear e0 r0 f0 hne hnk hg9
    have e1 := load_frame (ownG f) hif2 wa g5 hGa
    have e2 := load_frame f hif wa g hFa
    go_wp2_with fail
    refine (cS wa hba).mono ?_
    rintro e wb ⟨rfl, hbb⟩
    have hbc := below_step hba hbb
    have hFb := hFa.below hbb
    have hKb := (hbb.block _ (lt_of_block hKa)).trans hKa
    clear e1 e2 hGa hbb hFa hKa hba cS
    cases s with
    | false =>
      have HX : Hid (chkF f = 70) := Lib.hid (chk_no (f := f) (fun h => by have := HSI.out.2 h.only; cases this))
      clear cM cB
      go_wp2_with fail
      go_ret
      exact ⟨by rw [HX.out]; rfl, hbc⟩
    | true =>
      have hco := HSI.out.1 rfl
      have HMK := Lib.hid (may_iffK H1.out H6.out hco HLN.out)
      clear hco
      have e1 := load_may (a := ⟨gk, 3, none⟩) (by rw [cell_of_row wb gk 3 _ _ _ hKb]; exact hk3)
      have e2 := load_frame f hif wb g hFb
      go_wp2_with fail
      refine (cM wb hbc).mono ?_
      rintro e wc ⟨t, rfl, HB, hbd⟩
      have hbe := below_step hbc hbd
      have hFc := hFb.below hbd
      clear e1 e2 hbc hFb hKb hbd cM
      cases t with
      | false =>
        have HX : Hid (chkF f = 70) := Lib.hid (chk_no (f := f) (fun h => by have := HB.out.2 (HMK.out.1 h); cases this))
        clear cB
        go_wp2_with fail
        go_ret
        exact ⟨by rw [HX.out]; rfl, hbe⟩
      | true =>
        have HM : Hid (May f) := Lib.hid (HMK.out.2 (HB.out.1 rfl))
        have e1 := load_str hFc.c41
        by_cases hs : 2097152 < f.body.size
        · have HX : Hid (chkF f = 3) := Lib.hid (chk_long HM.out (.inl hs))
          have hs2 : (2097152 : Int) < (f.body.size : Int) := by omega
          clear hs cB
          go_wp2_with fail
          go_ret
          exact ⟨by rw [HX.out]; rfl, hbe⟩
        · have hs2 : ¬ (2097152 : Int) < (f.body.size : Int) := by omega
          have HS := Lib.hid hs
          have e2 := load_frame f hif wc g hFc
          clear hs
          go_wp2_with fail
          refine (cB (may_lay HM.out HLN.out (by have := HS.out; omega)) wc hbe).mono ?_
          rintro e wd ⟨v, rfl, hOd, hbf⟩
          have hbg := below_step hbe hbf
          obtain ⟨Ad, cd, rfl, hRd⟩ := hOd.reads
          obtain ⟨nd, hnd⟩ : ∃ nd, (bodyF f).length = nd := ⟨_, rfl⟩
          rw [hnd] at hOd hRd ⊢
          by_cases hl : 2097152 < nd
          · have HX : Hid (chkF f = 3) := Lib.hid (chk_long HM.out (.inr (by rw [hnd]; exact hl)))
            have hl2 : (2097152 : Int) < (nd : Int) := by omega
            clear hl hnd
            go_wp2_with fail
            go_ret
            exact ⟨by rw [HX.out]; rfl, hbg⟩
          · have HX : Hid (chkF f = 0) := Lib.hid (chk_ok HM.out (by rw [hnd]; have := HS.out; omega))
            have hl2 : ¬ (2097152 : Int) < (nd : Int) := by omega
            clear hl hnd
            go_wp2_with fail
            go_ret
            exact ⟨by rw [HX.out]; rfl, hbg⟩
theorem chk_facts {f : Fr} (h : chkF f = 0) : May f ∧ f.body.size ≤ 2097152 ∧ (bodyF f).length ≤ 2097152 := by
  unfold chkF MF at h
  split at h
  · next hm =>
    split at h
    · omega
    · exact ⟨(may_iff f).1 hm, by omega, by omega⟩
  · omega
/-- A frame's bytes. -/
def encF (f : Fr) : List Int := if chkF f ≠ 0 then [] else sealed (sh (bodyF f).length ++ bodyF f)
set_option maxHeartbeats 8000000 in
set_option maxRecDepth 100000 in
theorem Encode_any (hf : f.ok w) (hw : f.wf) (ha : ∀ s ∈ f.args, s.size ≤ 9223372036854775807) : Calls Tryz.prog 46 #[f.val] w fun e w' => ∃ v, e = .returned (.tuple #[v, .int .i64 (chkF f)]) ∧ OB 5 w' w.heap.size v (encF f) ∧ Below w.heap.size w w' := by
  have hb := below_alloc (Below.refl _ w) (.cells f.arr 48)
  have hF := boxed hf.tool w
  have hif : (Tryz.prog.info? 48).map (·.size) = some f.cells.length := by rw [frame_size]; have := Fr.arr_size f hf.tool; simp [Fr.arr] at this; rw [this]
  have cC : ∀ W, Below w.heap.size w W → Calls Tryz.prog 58 #[.agg f.arr] W (fun e w' => e = .returned (.int .i64 (chkF f)) ∧ Below W.heap.size W w') := fun W hbw => Check_any (hf.below hbw) hw ha
  have cB : chkF f = 0 → ∀ W, Below w.heap.size w W → Calls Tryz.prog 59 #[.agg f.arr] W (Laid W (bodyF f)) := fun hc W hbw => by
    obtain ⟨hm, h2, _⟩ := chk_facts hc
    exact body_any hm.k1 hm.k6 (hf.below hbw) hw (may_lay hm hf.args.len h2)
  obtain ⟨c, hc⟩ : ∃ c, chkF f = c := ⟨_, rfl⟩
  have HE : Hid (encF f = if c ≠ 0 then [] else sealed (sh (bodyF f).length ++ bodyF f)) := Lib.hid (by unfold encF; rw [hc])
  have HC := Lib.hid hc
  rw [hc] at cC ⊢
  clear hc hf hw ha
  show Calls Tryz.prog _ #[.agg f.arr] w _
  go_enter Tryz.func46, Tryz.ntmps46
  go_upto_region 1 with (fail)
  generalize w.alloc (.cells f.arr 48) = w1 at *
  obtain ⟨g, hg⟩ : ∃ g, w.heap.size = g := ⟨_, rfl⟩
  rw [hg] at hF ⊢
  clear hg
  have e2 := load_frame f hif w1 g hF
  go_wp2_with fail
  refine (cC w1 hb).mono ?_
  rintro e w2 ⟨rfl, hb2⟩
  have hb3 := below_step hb hb2
  have hF2 := hF.below hb2
  clear e2 hb hb2 hF cC
  by_cases h0 : c = 0
  · subst h0
    have e2 := load_frame f hif w2 g hF2
    have HL := Lib.hid (chk_facts HC.out).2.2
    go_wp2_with fail
    refine (cB HC.out w2 hb3).mono ?_
    rintro e w3 ⟨v3, rfl, hO3, hb4⟩
    have hb5 := below_step hb3 hb4
    obtain ⟨A3, c3, rfl, hR3, _⟩ := hO3.reads'
    obtain ⟨m, hm⟩ : ∃ m, (bodyF f).length = m := ⟨_, rfl⟩
    have hml : m ≤ 2097152 := by rw [← hm]; exact HL.out
    have hwm := u64_nn (x := (m : Int)) (by omega) (by omega)
    rw [hm] at hO3 hR3 HE ⊢
    have HM := Lib.hid hm
    clear e2 hb3 hb4 hF2 cB hm
    go_wp2_with fail
    refine (PutUint_any (A := none) (n := 0) (cap := 0) (xs := []) (w := w3) (m : Int) (RB.nil _) (by omega) (by omega) (by omega)).mono ?_
    rintro e w4 ⟨v4, rfl, hO4, hb6⟩
    have hb7 := below_step hb5 hb6
    have hR4 := hR3.below hb6
    have hO5 := hO4.less hb5.size
    rw [List.nil_append, Int.toNat_natCast] at hO5
    have hls := sh_ten (n := m) (by omega)
    have HLS := Lib.hid hls
    clear hO4 hO3 hR3 hb5 hb6 hls
    go_wp2_with (at_builtin; refine push_row (w0 := w) w.heap.size rfl (.tmp 16) (.tmp 17) 22 (bodyF f) A3 m c3 rfl Tryz.underlying22 u8_info rfl rfl hO5 hR4 hb7 hb7.size (by have := HLS.out; omega) ?_)
    intro v6 w6 hO6 hb8 _ _
    obtain ⟨A6, c6, rfl, hR6, _⟩ := hO6.reads'
    obtain ⟨m6, hm6⟩ : ∃ q, (sh m ++ bodyF f).length = q := ⟨_, rfl⟩
    rw [hm6] at hO6 hR6 ⊢
    have hm6l : m6 ≤ 2097162 := by rw [← hm6, List.length_append, HM.out]; have := HLS.out; omega
    clear hm6 hR4 hO5 hb7
    go_wp2_with fail
    refine (Seal_any A6 m6 c6 (sh m ++ bodyF f) w6 hR6 (by omega)).mono ?_
    rintro e w7 ⟨v7, rfl, hO7, hb9⟩
    have hb10 := below_step hb8 hb9
    have hO8 : OB 5 w7 w.heap.size v7 (encF f) := by
      rw [HE.out, if_neg (by decide)]
      exact hO7.less hb8.size
    go_wp2_with fail
    go_ret2
    exact ⟨_, rfl, hO8, hb10⟩
  · have h0b : (c != 0) = true := by simpa using h0
    have hO8 : OB 5 w2 w.heap.size (.slice none 0 0) (encF f) := by
      rw [HE.out, if_pos h0]
      exact OB.nil _ _ _
    clear h0
    go_wp2_with fail
    go_ret2
    exact ⟨_, rfl, hO8, hb3⟩
set_option maxHeartbeats 8000000 in
set_option maxRecDepth 100000 in
theorem fSize_any (hf : f.ok w) (hw : f.wf) (ha : ∀ s ∈ f.args, s.size ≤ 9223372036854775807) : Calls Tryz.prog 37 #[f.val] w fun e w' => e = .returned (.tuple #[.int .i64 ((encF f).length : Int), .int .i64 (chkF f)]) ∧ Below w.heap.size w w' := by
  have hb := below_alloc (Below.refl _ w) (.cells f.arr 48)
  have hF := boxed hf.tool w
  have hif : (Tryz.prog.info? 48).map (·.size) = some f.cells.length := by rw [frame_size]; have := Fr.arr_size f hf.tool; simp [Fr.arr] at this; rw [this]
  have cC : ∀ W, Below w.heap.size w W → Calls Tryz.prog 46 #[.agg f.arr] W _ := fun W hbw => Encode_any (hf.below hbw) hw ha
  obtain ⟨c, hc⟩ : ∃ c, chkF f = c := ⟨_, rfl⟩
  obtain ⟨L, hL⟩ : ∃ L, encF f = L := ⟨_, rfl⟩
  rw [hc, hL] at cC ⊢
  clear hc hL hf hw ha
  show Calls Tryz.prog _ #[.agg f.arr] w _
  go_enter Tryz.func37, Tryz.ntmps37
  go_upto_region 1 with (fail)
  generalize w.alloc (.cells f.arr 48) = w1 at *
  obtain ⟨g, hg⟩ : ∃ g, w.heap.size = g := ⟨_, rfl⟩
  rw [hg] at hF ⊢
  clear hg
  have e2 := load_frame f hif w1 g hF
  go_wp2_with fail
  refine (cC w1 hb).mono ?_
  rintro e w2 ⟨v, rfl, hO, hb2⟩
  have hb3 := below_step hb hb2
  obtain ⟨A3, c3, rfl, hR3, _⟩ := hO.reads'
  clear e2 hb hb2 hF cC hO
  go_wp2_with fail
  go_ret2
  exact ⟨rfl, hb3⟩
end
end Go.Proofs.YtpjpgcjhdbiepaaGreat
end
/-! The contract of the document's only. (mk_frza.py) -/
section
namespace Go.Kit
open Go.RowKit Go.Proofs.YtpjpgcjhdbiepaaGreatW.PrintWords
namespace Fr
theorem lim_splice (T : List Value) (hT : T.length = 32) (a b c d e x y z u v w : Value) (R : List Value) : ([a, b, c, d] ++ (T ++ ([e] ++ ([x, y, z] ++ R)))).take 37 ++ [u, v, w] ++ ([a, b, c, d] ++ (T ++ ([e] ++ ([x, y, z] ++ R)))).drop (37 + 3) = [a, b, c, d] ++ (T ++ ([e] ++ ([u, v, w] ++ R))) := by
  have h0 : ∀ l : List Value, [a, b, c, d] ++ (T ++ ([e] ++ l)) = ([a, b, c, d] ++ (T ++ [e])) ++ l := fun l => by simp
  have h1 : ([a, b, c, d] ++ (T ++ [e])).length = 37 := by simp; omega
  rw [h0, h0, List.take_append_of_le_length (by omega), List.take_of_length_le (by omega)]
  rw [show (37 + 3 : Nat) = ([a, b, c, d] ++ (T ++ [e])).length + 3 by rw [h1]]
  rw [List.drop_append]
  simp [h1]
end Fr
end Go.Kit
namespace Go.Proofs.YtpjpgcjhdbiepaaGreat
open Go.RowKit Go.Kit Go.Proofs.YtpjpgcjhdbiepaaGreatW.PrintWords
theorem storeAt_part {P : Program} (W : World) (g o : Nat) (ty t : TypeId) (cells cur : Array Value) (hg : W.heap[g]? = some (.cells cur t (0, 0))) (hfit : o + cells.size ≤ cur.size) (hi : (P.info? ty).map (·.size) = some cells.size) (h1 : cells.all (·.oneCell') = true) :
    (Instr.storeAt ty (.pointer (some ⟨g, o, none⟩)) (.agg cells)).run P W = .ok () (W.setRow g (cur.toList.take o ++ cells.toList ++ cur.toList.drop (o + cells.size)).toArray) := by
  have hst := run_storeCells_at (P := P) g o t cells.toList 0 cur W hg (by simpa using hfit) (fun v hv => (Array.all_eq_true_iff_forall_mem.1 h1) v (by simpa using hv))
  simp only [Instr.storeAt, Instr.sureAddr, Sem.run_bind, Sem.run_pure, Result.andThen_ok]
  cases hq : P.info? ty with
  | none => simp [hq] at hi
  | some i =>
    have hs : cells.size = i.size := by simp [hq] at hi; omega
    simp only [Nat.add_zero] at hst
    simp [storeVar, sizeOf, typeInfo, hq, Value.cells, hs, hst]
theorem store_int (x : Int) (W : World) (a : Addr) (u : Value) (hc : W.cell? a = some u) (hf : W.frozen? a = false) : (Instr.storeAt 3 (.pointer (some a)) (.int .i64 x)).run Tryz.prog W = .ok () (W.setCell a (.int .i64 x)) := by go_simp
theorem store_u64 (x : Int) (W : World) (a : Addr) (u : Value) (hc : W.cell? a = some u) (hf : W.frozen? a = false) : (Instr.storeAt 41 (.pointer (some a)) (.int .u64 x)).run Tryz.prog W = .ok () (W.setCell a (.int .u64 x)) := by go_simp
theorem store_txts (A : Option Addr) (n c : Nat) (W : World) (a : Addr) (u : Value) (hc : W.cell? a = some u) (hf : W.frozen? a = false) : (Instr.storeAt 46 (.pointer (some a)) (.slice A n c)).run Tryz.prog W = .ok () (W.setCell a (.slice A n c)) := by go_simp
theorem store_str (s : ByteArray) (W : World) (a : Addr) (u : Value) (hc : W.cell? a = some u) (hf : W.frozen? a = false) : (Instr.storeAt 9 (.pointer (some a)) (.string s)).run Tryz.prog W = .ok () (W.setCell a (.string s)) := by go_simp
theorem store_tool {W : World} {g : Nat} {f : Fr} (h : f.at_ 48 W g) (ts : List Int) (hl : ts.length = 32) : ∃ W' : World, (Instr.storeAt 43 (.pointer (some ⟨g, 4, none⟩)) (.agg (nums .u8 ts).toArray)).run Tryz.prog W = .ok () W' ∧ ({ f with tool := ts } : Fr).at_ 48 W' g ∧ Only W W' (fun k => k = g) := by
  have h2 : (nums .u8 ts).toArray.size = 32 := by simp [nums, hl]
  refine ⟨_, storeAt_part W g 4 43 48 _ f.arr h.blk (by rw [h2, Fr.arr_size f h.tool]; omega) ?_ ?_, ?_, Fr.only_row _ _ _⟩
  · rw [h2]; kernel_rfl
  · exact all_oneCell_toArray (nums_one _ _)
  · have := h.tooled ts hl
    simpa [List.append_assoc] using this
theorem store_lim {W : World} {g : Nat} {f : Fr} (h : f.at_ 48 W g) (k : Fr) : ∃ W' : World, (Instr.storeAt 45 (.pointer (some ⟨g, 37, none⟩)) (.agg k.lim.toArray)).run Tryz.prog W = .ok () W' ∧ ({ f with mo := k.mo, fu := k.fu, di := k.di } : Fr).at_ 48 W' g ∧ Only W W' (fun k => k = g) := by
  refine ⟨_, storeAt_part W g 37 45 48 _ f.arr h.blk (by rw [Fr.arr_size f h.tool]; show 37 + 3 ≤ 42; omega) (by show _ = some 3; kernel_rfl) (by simp [Fr.lim, Value.oneCell']), ?_, Fr.only_row _ _ _⟩
  refine ⟨?_, h.tool⟩
  rw [setRow_heap W g _ _ _ _ h.blk]
  exact congrArg (fun l : List Value => some (Obj.cells l.toArray 48 (0, 0))) (Fr.lim_splice (nums .u8 f.tool) (Fr.len32 h) _ _ _ _ _ _ _ _ _ _ _ _)
theorem kF_built (k : Int) (W : World) : (Instr.build 48 #[(0, .int .i64 k)]).run Tryz.prog W = .ok (.agg (kF k).arr) W := built_of (by show _ = _; kernel_rfl)
theorem load_u64 {W : World} {a : Addr} {v : Value} (h : W.cell? a = some v) : (Instr.loadAt 41 (.pointer (some a))).run Tryz.prog W = .ok v W := by go_simp
theorem load_txts {W : World} {a : Addr} {v : Value} (h : W.cell? a = some v) : (Instr.loadAt 46 (.pointer (some a))).run Tryz.prog W = .ok v W := by go_simp
theorem own_tool {f : Fr} (hf : f.tool.length = 32) : (ownG f).tool.length = 32 := by
  unfold ownG onlyG
  dsimp only
  split
  · exact hf
  split
  · rfl
  split
  · rfl
  split
  · rfl
  split <;> rfl
theorem own_is1 {f : Fr} (h : f.k = 1) : ({ kF f.k with v := f.v, s := f.s, tool := f.tool } : Fr) = ownG f := by unfold ownG onlyG; simp [h, only1, kF]
theorem own_is2 {f : Fr} (h : f.k = 2) : ({ kF f.k with id := f.id, mo := f.mo, fu := f.fu, di := f.di, A := f.A, n := f.n, c := f.c, args := f.args, body := f.body } : Fr) = ownG f := by unfold ownG onlyG; simp [h, only2, kF]
theorem own_is3 {f : Fr} (h : f.k = 3) : ({ kF f.k with id := f.id, st := f.st, body := f.body } : Fr) = ownG f := by unfold ownG onlyG; simp [h, only3, kF]
theorem own_is4 {f : Fr} (h : f.k = 4) : ({ kF f.k with id := f.id } : Fr) = ownG f := by unfold ownG onlyG; simp [h, only4, kF]
theorem own_is6 {f : Fr} (h : f.k = 6) : ({ kF f.k with body := f.body } : Fr) = ownG f := by unfold ownG onlyG; simp [h, only6, kF]
theorem own_is5 {f : Fr} (h : f.k ≠ 1 ∧ f.k ≠ 2 ∧ f.k ≠ 3 ∧ f.k ≠ 4 ∧ f.k ≠ 6) (h5 : f.k = 5) : kF f.k = ownG f := by unfold ownG onlyG; simp [h5, kF, noF]
/-- The document's frame that is being filled in, beside the one that is read. -/
structure Two (w W : World) (g g2 g3 : Nat) (f h : Fr) : Prop where
  bel : Below w.heap.size w W
  f : f.at_ 48 W g
  h : h.at_ 48 W g3
  z : ∃ Z : Array Value, Z.size = 42 ∧ W.heap[g2]? = some (.cells Z 48 (0, 0))
  n1 : ¬ g = g3
  n2 : ¬ g2 = g3
  base : w.heap.size ≤ g3
theorem Two.drew {w W : World} {g g2 g3 : Nat} {f h : Fr} (t : Two w W g g2 g3 f h) : Two w W.drew g g2 g3 f h := by
  have hb : Below W.heap.size W W.drew := below_drew (Below.refl _ _)
  obtain ⟨Z, hz, hk⟩ := t.z
  exact ⟨below_step t.bel hb, t.f.below hb, t.h.below hb, ⟨Z, hz, (hb.block _ (lt_of_block hk)).trans hk⟩, t.n1, t.n2, t.base⟩
theorem Two.step {w W W1 : World} {g g2 g3 : Nat} {f h h1 : Fr} (t : Two w W g g2 g3 f h) (ho : Only W W1 (fun k => k = g3)) (hh : h1.at_ 48 W1 g3) : Two w W1 g g2 g3 f h1 := by
  obtain ⟨Z, hz, hk⟩ := t.z
  exact ⟨Below.only t.bel ho t.bel.size (fun k e => by rw [e]; exact t.base), t.f.only ho t.n1, hh, ⟨Z, hz, ho.kept hk t.n2⟩, t.n1, t.n2, t.base⟩
attribute [-go_sem] Instr.build Instr.loadAt Instr.storeAt
set_option maxHeartbeats 8000000 in
set_option maxRecDepth 100000 in
theorem ronly_any (f : Fr) (hf : f.tool.length = 32) (hk5 : f.k ≠ 1 → f.k ≠ 2 → f.k ≠ 3 → f.k ≠ 4 → f.k ≠ 6 → f.k = 5) (w : World) : Calls Tryz.prog 47 #[f.val] w fun e w' => e = .returned (.agg (ownG f).arr) ∧ Below w.heap.size w w' := by
  have hszK := size_of (kF f.k) rfl
  have honeK := arr_one (kF f.k)
  have hasK := Fr.arr_size (kF f.k) rfl
  have hbl := kF_built f.k
  have hb := below_alloc (Below.refl w.heap.size w) (.cells f.arr 48)
  have hF := boxed hf w
  show Calls Tryz.prog _ #[.agg f.arr] w _
  go_enter Tryz.func47, Tryz.ntmps47
  go_upto_region 1 with (fail)
  have hbz := below_alloc hb (.cells #[.int .i64 0, .int .u64 0, .int .i64 0, .int .i64 0, .int .u8 0, .int .u8 0, .int .u8 0, .int .u8 0, .int .u8 0, .int .u8 0, .int .u8 0, .int .u8 0, .int .u8 0, .int .u8 0, .int .u8 0, .int .u8 0, .int .u8 0, .int .u8 0, .int .u8 0, .int .u8 0, .int .u8 0, .int .u8 0, .int .u8 0, .int .u8 0, .int .u8 0, .int .u8 0, .int .u8 0, .int .u8 0, .int .u8 0, .int .u8 0, .int .u8 0, .int .u8 0, .int .u8 0, .int .u8 0, .int .u8 0, .int .u8 0, .int .i64 0, .int .i64 0, .int .i64 0, .int .i64 0, .slice none 0 0, .string ⟨#[]⟩] 48)
  have hblz : ((w.alloc (.cells f.arr 48)).alloc (.cells #[.int .i64 0, .int .u64 0, .int .i64 0, .int .i64 0, .int .u8 0, .int .u8 0, .int .u8 0, .int .u8 0, .int .u8 0, .int .u8 0, .int .u8 0, .int .u8 0, .int .u8 0, .int .u8 0, .int .u8 0, .int .u8 0, .int .u8 0, .int .u8 0, .int .u8 0, .int .u8 0, .int .u8 0, .int .u8 0, .int .u8 0, .int .u8 0, .int .u8 0, .int .u8 0, .int .u8 0, .int .u8 0, .int .u8 0, .int .u8 0, .int .u8 0, .int .u8 0, .int .u8 0, .int .u8 0, .int .u8 0, .int .u8 0, .int .i64 0, .int .i64 0, .int .i64 0, .int .i64 0, .slice none 0 0, .string ⟨#[]⟩] 48)).heap[w.heap.size + 1]? = some (.cells #[.int .i64 0, .int .u64 0, .int .i64 0, .int .i64 0, .int .u8 0, .int .u8 0, .int .u8 0, .int .u8 0, .int .u8 0, .int .u8 0, .int .u8 0, .int .u8 0, .int .u8 0, .int .u8 0, .int .u8 0, .int .u8 0, .int .u8 0, .int .u8 0, .int .u8 0, .int .u8 0, .int .u8 0, .int .u8 0, .int .u8 0, .int .u8 0, .int .u8 0, .int .u8 0, .int .u8 0, .int .u8 0, .int .u8 0, .int .u8 0, .int .u8 0, .int .u8 0, .int .u8 0, .int .u8 0, .int .u8 0, .int .u8 0, .int .i64 0, .int .i64 0, .int .i64 0, .int .i64 0, .slice none 0 0, .string ⟨#[]⟩] 48 (0, 0)) := heap_alloc2_new w _ _
  have hF2 := hF.below (below_alloc (Below.refl _ _) (.cells #[.int .i64 0, .int .u64 0, .int .i64 0, .int .i64 0, .int .u8 0, .int .u8 0, .int .u8 0, .int .u8 0, .int .u8 0, .int .u8 0, .int .u8 0, .int .u8 0, .int .u8 0, .int .u8 0, .int .u8 0, .int .u8 0, .int .u8 0, .int .u8 0, .int .u8 0, .int .u8 0, .int .u8 0, .int .u8 0, .int .u8 0, .int .u8 0, .int .u8 0, .int .u8 0, .int .u8 0, .int .u8 0, .int .u8 0, .int .u8 0, .int .u8 0, .int .u8 0, .int .u8 0, .int .u8 0, .int .u8 0, .int .u8 0, .int .i64 0, .int .i64 0, .int .i64 0, .int .i64 0, .slice none 0 0, .string ⟨#[]⟩] 48))
  clear hb hF
  generalize (w.alloc (.cells f.arr 48)).alloc (.cells #[.int .i64 0, .int .u64 0, .int .i64 0, .int .i64 0, .int .u8 0, .int .u8 0, .int .u8 0, .int .u8 0, .int .u8 0, .int .u8 0, .int .u8 0, .int .u8 0, .int .u8 0, .int .u8 0, .int .u8 0, .int .u8 0, .int .u8 0, .int .u8 0, .int .u8 0, .int .u8 0, .int .u8 0, .int .u8 0, .int .u8 0, .int .u8 0, .int .u8 0, .int .u8 0, .int .u8 0, .int .u8 0, .int .u8 0, .int .u8 0, .int .u8 0, .int .u8 0, .int .u8 0, .int .u8 0, .int .u8 0, .int .u8 0, .int .i64 0, .int .i64 0, .int .i64 0, .int .i64 0, .slice none 0 0, .string ⟨#[]⟩] 48) = w1 at *
  obtain ⟨g2, hg2⟩ : ∃ g2, w.heap.size + 1 = g2 := ⟨_, rfl⟩
  have hg2b : w.heap.size ≤ g2 := by omega
  obtain ⟨g, hg⟩ : ∃ g, w.heap.size = g := ⟨_, rfl⟩
  rw [hg2] at hblz ⊢
  rw [hg] at hF2 ⊢
  clear hg hg2
  have hbz3 := below_alloc (Below.refl w1.heap.size w1) (.cells #[.int .i64 0, .int .u64 0, .int .i64 0, .int .i64 0, .int .u8 0, .int .u8 0, .int .u8 0, .int .u8 0, .int .u8 0, .int .u8 0, .int .u8 0, .int .u8 0, .int .u8 0, .int .u8 0, .int .u8 0, .int .u8 0, .int .u8 0, .int .u8 0, .int .u8 0, .int .u8 0, .int .u8 0, .int .u8 0, .int .u8 0, .int .u8 0, .int .u8 0, .int .u8 0, .int .u8 0, .int .u8 0, .int .u8 0, .int .u8 0, .int .u8 0, .int .u8 0, .int .u8 0, .int .u8 0, .int .u8 0, .int .u8 0, .int .i64 0, .int .i64 0, .int .i64 0, .int .i64 0, .slice none 0 0, .string ⟨#[]⟩] 48)
  have hblk := heap_alloc_new w1 (.cells #[.int .i64 0, .int .u64 0, .int .i64 0, .int .i64 0, .int .u8 0, .int .u8 0, .int .u8 0, .int .u8 0, .int .u8 0, .int .u8 0, .int .u8 0, .int .u8 0, .int .u8 0, .int .u8 0, .int .u8 0, .int .u8 0, .int .u8 0, .int .u8 0, .int .u8 0, .int .u8 0, .int .u8 0, .int .u8 0, .int .u8 0, .int .u8 0, .int .u8 0, .int .u8 0, .int .u8 0, .int .u8 0, .int .u8 0, .int .u8 0, .int .u8 0, .int .u8 0, .int .u8 0, .int .u8 0, .int .u8 0, .int .u8 0, .int .i64 0, .int .i64 0, .int .i64 0, .int .i64 0, .slice none 0 0, .string ⟨#[]⟩] 48)
  have h42 : (#[.int .i64 0, .int .u64 0, .int .i64 0, .int .i64 0, .int .u8 0, .int .u8 0, .int .u8 0, .int .u8 0, .int .u8 0, .int .u8 0, .int .u8 0, .int .u8 0, .int .u8 0, .int .u8 0, .int .u8 0, .int .u8 0, .int .u8 0, .int .u8 0, .int .u8 0, .int .u8 0, .int .u8 0, .int .u8 0, .int .u8 0, .int .u8 0, .int .u8 0, .int .u8 0, .int .u8 0, .int .u8 0, .int .u8 0, .int .u8 0, .int .u8 0, .int .u8 0, .int .u8 0, .int .u8 0, .int .u8 0, .int .u8 0, .int .i64 0, .int .i64 0, .int .i64 0, .int .i64 0, .slice none 0 0, .string ⟨#[]⟩] : Array Value).size = (kF f.k).arr.size := by rw [hasK]; rfl
  have e0 := load_int hF2.c0
  go_upto_region 2 with ((with_reducible show wpList _ _ _ (Oper.mk none _ _ _ _ _ :: _) _ _); refine wpList_store_row rfl 48 (.tmp 3) (.tmp 6) rfl w1.heap.size (kF f.k).arr rfl rfl 48 _ hblk hszK h42 honeK ?_)
  have hge := hbz.size
  have hF3 := (hF2.below hbz3).only (Fr.only_row _ w1.heap.size (kF f.k).arr) (fun e => by have := hF2.lt; omega)
  have hZ3 := (Fr.only_row _ w1.heap.size (kF f.k).arr).kept ((hbz3.block _ (lt_of_block hblz)).trans hblz) (fun e => by have := lt_of_block hblz; omega)
  have hK3 : (kF f.k).at_ 48 _ w1.heap.size := ⟨setRow_heap _ w1.heap.size _ (kF f.k).arr _ _ hblk, rfl⟩
  have hb3 := below_setRow (below_step hbz hbz3) hge (kF f.k).arr
  have hn1 : ¬ g = w1.heap.size := fun e => by have := hF2.lt; omega
  have hn2 : ¬ g2 = w1.heap.size := fun e => by have := lt_of_block hblz; omega
  clear hbz hbz3 hblk h42 e0 hF2 hblz hszK honeK hasK hbl
  generalize (w1.alloc (.cells #[.int .i64 0, .int .u64 0, .int .i64 0, .int .i64 0, .int .u8 0, .int .u8 0, .int .u8 0, .int .u8 0, .int .u8 0, .int .u8 0, .int .u8 0, .int .u8 0, .int .u8 0, .int .u8 0, .int .u8 0, .int .u8 0, .int .u8 0, .int .u8 0, .int .u8 0, .int .u8 0, .int .u8 0, .int .u8 0, .int .u8 0, .int .u8 0, .int .u8 0, .int .u8 0, .int .u8 0, .int .u8 0, .int .u8 0, .int .u8 0, .int .u8 0, .int .u8 0, .int .u8 0, .int .u8 0, .int .u8 0, .int .u8 0, .int .i64 0, .int .i64 0, .int .i64 0, .int .i64 0, .slice none 0 0, .string ⟨#[]⟩] 48)).setRow w1.heap.size (kF f.k).arr = w3 at *
  generalize w1.heap.size = g3 at *
  have T : Two w w3 g g2 g3 f (kF f.k) := ⟨hb3, hF3, hK3, ⟨_, rfl, hZ3⟩, hn1, hn2, hge⟩
  clear hb3 hF3 hK3 hZ3 hn1 hn2 hge
  have e0 := load_int T.f.c0
  have hif : (Tryz.prog.info? 48).map (·.size) = some (ownG f).cells.length := by
    rw [frame_size]
    have hO : (ownG f).tool.length = 32 := own_tool hf
    have := Fr.arr_size (ownG f) hO; simp [Fr.arr] at this; rw [this]
  have hszO := size_of (ownG f) (own_tool hf)
  have honeO := arr_one (ownG f)
  have hasO := Fr.arr_size (ownG f) (own_tool hf)
  by_cases k1 : f.k = 1
  · have b1 : (f.k == 1) = true := by rw [beq_iff_eq]; exact k1
    have S0 := T.drew.f
    have l1 : ∀ W, f.at_ 48 W g → (Instr.loadAt 3 (.pointer (some ⟨g, 2, none⟩))).run Tryz.prog W = .ok (.int .i64 f.v) W := fun W h => load_int h.c2
    have l2 : ∀ W, f.at_ 48 W g → (Instr.loadAt 3 (.pointer (some ⟨g, 3, none⟩))).run Tryz.prog W = .ok (.int .i64 f.s) W := fun W h => load_int h.c3
    have l3 : ∀ W, f.at_ 48 W g → (Instr.loadAt 43 (.pointer (some ⟨g, 4, none⟩))).run Tryz.prog W = .ok (.agg (nums .u8 f.tool).toArray) W := fun W h => tool_at h
    have s1 := store_int f.v
    have q1 := T.h.c2
    have f1 := T.h.fz 2
    have T1 := T.step (Fr.only_at _ g3 2 (.int .i64 f.v)) (T.h.set2 f.v)
    have ST1 := T1.drew.f
    have ST1x := T1.f
    have s2 := store_int f.s
    have q2 := T1.h.c3
    have f2 := T1.h.fz 3
    have T2 := T1.step (Fr.only_at _ g3 3 (.int .i64 f.s)) (T1.h.set3 f.s)
    have ST2 := T2.drew.f
    have ST2x := T2.f
    have T3d := T2.drew
    have ST3d := T3d.f
    obtain ⟨W3, hst3, hA3, ho3⟩ := store_tool T3d.h f.tool hf
    have T3 := T3d.step ho3 hA3
    have ST3 := T3.drew.f
    have ST3x := T3.f
    have HE : Hid (_ = ownG f) := Lib.hid (own_is1 k1)
    have hl := load_frame (ownG f) hif _ g3 (HE.out ▸ T3.h)
    obtain ⟨Z, hZ, hblk⟩ := T3.z
    have hbel := T3.bel
    have hZs : Z.size = (ownG f).arr.size := by rw [hZ, hasO]
    clear hif HE hf T
    go_upto_region 4 with (fail)
    refine wp_region_held_drew (S := fun W => f.at_ 48 W g) (by kernel_rfl) (S0) (fun hHeld => ?_)
    refine wpAnyH_take (i := 0) (v := (.pointer (some ⟨g, 2, none⟩))) (oi := ⟨_, _, _, _, _, _⟩) rfl (by kernel_rfl) (by kernel_rfl) (by kernel_rfl) (fun _ _ _ h => h) (Or.inl ⟨by kernel_rfl, fun W hS => ?_⟩) (by assumption) ?_
    · dsimp only at hS; go_split_ands; go_simp
    simp only [Act.put, List.setIfInBounds_toArray, List.set_cons_zero, List.set_cons_succ]
    refine wpAnyH_take (i := 1) (v := (.int .i64 f.v)) (oi := ⟨_, _, _, _, _, _⟩) rfl (by kernel_rfl) (by kernel_rfl) (by kernel_rfl) (fun _ _ _ h => h) (Or.inl ⟨by kernel_rfl, fun W hS => ?_⟩) (by assumption) ?_
    · dsimp only at hS; go_split_ands; go_simp
    simp only [Act.put, List.setIfInBounds_toArray, List.set_cons_zero, List.set_cons_succ]
    refine wpAnyH_take (i := 2) (v := (.pointer (some ⟨g, 3, none⟩))) (oi := ⟨_, _, _, _, _, _⟩) rfl (by kernel_rfl) (by kernel_rfl) (by kernel_rfl) (fun _ _ _ h => h) (Or.inl ⟨by kernel_rfl, fun W hS => ?_⟩) (by assumption) ?_
    · dsimp only at hS; go_split_ands; go_simp
    simp only [Act.put, List.setIfInBounds_toArray, List.set_cons_zero, List.set_cons_succ]
    refine wpAnyH_take (i := 3) (v := (.int .i64 f.s)) (oi := ⟨_, _, _, _, _, _⟩) rfl (by kernel_rfl) (by kernel_rfl) (by kernel_rfl) (fun _ _ _ h => h) (Or.inl ⟨by kernel_rfl, fun W hS => ?_⟩) (by assumption) ?_
    · dsimp only at hS; go_split_ands; go_simp
    simp only [Act.put, List.setIfInBounds_toArray, List.set_cons_zero, List.set_cons_succ]
    refine wpAnyH_take (i := 4) (v := (.pointer (some ⟨g, 4, none⟩))) (oi := ⟨_, _, _, _, _, _⟩) rfl (by kernel_rfl) (by kernel_rfl) (by kernel_rfl) (fun _ _ _ h => h) (Or.inl ⟨by kernel_rfl, fun W hS => ?_⟩) (by assumption) ?_
    · dsimp only at hS; go_split_ands; go_simp
    simp only [Act.put, List.setIfInBounds_toArray, List.set_cons_zero, List.set_cons_succ]
    refine wpAnyH_take (i := 5) (v := (.agg (nums .u8 f.tool).toArray)) (oi := ⟨_, _, _, _, _, _⟩) rfl (by kernel_rfl) (by kernel_rfl) (by kernel_rfl) (fun _ _ _ h => h) (Or.inl ⟨by kernel_rfl, fun W hS => ?_⟩) (by assumption) ?_
    · dsimp only at hS; go_split_ands; go_simp
    simp only [Act.put, List.setIfInBounds_toArray, List.set_cons_zero, List.set_cons_succ]
    refine wpAnyH_take (i := 6) (v := (.pointer (some ⟨g3, 2, none⟩))) (oi := ⟨_, _, _, _, _, _⟩) rfl (by kernel_rfl) (by kernel_rfl) (by kernel_rfl) (fun _ _ _ h => h) (Or.inl ⟨by kernel_rfl, fun W hS => ?_⟩) (by assumption) ?_
    · dsimp only at hS; go_split_ands; go_simp
    simp only [Act.put, List.setIfInBounds_toArray, List.set_cons_zero, List.set_cons_succ]
    refine wpAnyH_ready (rs := [7]) (by kernel_rfl) (by decide) (AllReadyH.cons (o := ⟨_, _, _, _, _, _⟩) rfl (fun K hK => ?_) AllReadyH.nil)
    rw [if_pos (by kernel_rfl)]
    go_simp
    refine hK.out _ _ (ST1) (fun hHeld => ?_)
    clear hK K
    try simp only [Act.put, List.setIfInBounds_toArray, List.set_cons_zero, List.set_cons_succ]
    refine wpAnyH_take (i := 8) (v := (.pointer (some ⟨g3, 3, none⟩))) (oi := ⟨_, _, _, _, _, _⟩) rfl (by kernel_rfl) (by kernel_rfl) (by kernel_rfl) (fun _ _ _ h => h) (Or.inl ⟨by kernel_rfl, fun W hS => ?_⟩) (by assumption) ?_
    · dsimp only at hS; go_split_ands; go_simp
    simp only [Act.put, List.setIfInBounds_toArray, List.set_cons_zero, List.set_cons_succ]
    refine wpAnyH_ready (rs := [9]) (by kernel_rfl) (by decide) (AllReadyH.cons (o := ⟨_, _, _, _, _, _⟩) rfl (fun K hK => ?_) AllReadyH.nil)
    rw [if_pos (by kernel_rfl)]
    go_simp
    refine hK.out _ _ (ST2) (fun hHeld => ?_)
    clear hK K
    try simp only [Act.put, List.setIfInBounds_toArray, List.set_cons_zero, List.set_cons_succ]
    refine wpAnyH_take (i := 10) (v := (.pointer (some ⟨g3, 4, none⟩))) (oi := ⟨_, _, _, _, _, _⟩) rfl (by kernel_rfl) (by kernel_rfl) (by kernel_rfl) (fun _ _ _ h => h) (Or.inl ⟨by kernel_rfl, fun W hS => ?_⟩) (by assumption) ?_
    · dsimp only at hS; go_split_ands; go_simp
    simp only [Act.put, List.setIfInBounds_toArray, List.set_cons_zero, List.set_cons_succ]
    refine wpAnyH_ready (rs := [11]) (by kernel_rfl) (by decide) (AllReadyH.cons (o := ⟨_, _, _, _, _, _⟩) rfl (fun K hK => ?_) AllReadyH.nil)
    rw [if_pos (by kernel_rfl)]
    go_simp
    refine hK.out _ _ (ST3x) (fun hHeld => ?_)
    clear hK K
    try simp only [Act.put, List.setIfInBounds_toArray, List.set_cons_zero, List.set_cons_succ]
    refine wpAnyH_done (by kernel_rfl) ?_ _
    try simp only [Act.put, List.setIfInBounds_toArray, List.set_cons_zero, List.set_cons_succ]
    go_wp2_with ((with_reducible show wpList _ _ _ (Oper.mk none _ _ _ _ _ :: _) _ _); refine wpList_store_row rfl 48 (.tmp 2) (.tmp 55) rfl g2 (ownG f).arr rfl rfl 48 Z hblk hszO hZs honeO ?_)
    exact bodyPost_ret (v := .agg (ownG f).arr) (results_cell_row rfl _ _ g2 48 (ownG f).arr (0, 0) _ rfl (setRow_heap _ _ _ _ _ _ hblk) Tryz.underlying48 rfl hszO) rfl ⟨rfl, below_setRow hbel hg2b _⟩
  have b1 : (f.k == 1) = false := by rw [beq_eq_false_iff_ne]; exact k1
  by_cases k2 : f.k = 2
  · have b2 : (f.k == 2) = true := by rw [beq_iff_eq]; exact k2
    have S0 := T.drew.f
    have l1 : ∀ W, f.at_ 48 W g → (Instr.loadAt 41 (.pointer (some ⟨g, 1, none⟩))).run Tryz.prog W = .ok (.int .u64 f.id) W := fun W h => load_u64 h.c1
    have l2 : ∀ W, f.at_ 48 W g → (Instr.loadAt 45 (.pointer (some ⟨g, 37, none⟩))).run Tryz.prog W = .ok (.agg f.lim.toArray) W := fun W h => lim_at h
    have l3 : ∀ W, f.at_ 48 W g → (Instr.loadAt 46 (.pointer (some ⟨g, 40, none⟩))).run Tryz.prog W = .ok (.slice f.A f.n f.c) W := fun W h => load_txts h.c40
    have l4 : ∀ W, f.at_ 48 W g → (Instr.loadAt 9 (.pointer (some ⟨g, 41, none⟩))).run Tryz.prog W = .ok (.string f.body) W := fun W h => load_str h.c41
    have s1 := store_u64 f.id
    have q1 := T.h.c1
    have f1 := T.h.fz 1
    have T1 := T.step (Fr.only_at _ g3 1 (.int .u64 f.id)) (T.h.set1 f.id)
    have ST1 := T1.drew.f
    have ST1x := T1.f
    have T2d := T1.drew
    have ST2d := T2d.f
    obtain ⟨W2, hst2, hA2, ho2⟩ := store_lim T2d.h f
    have T2 := T2d.step ho2 hA2
    have ST2 := T2.drew.f
    have ST2x := T2.f
    have s3 := store_txts f.A f.n f.c
    have q3 := T2.h.c40
    have f3 := T2.h.fz 40
    have T3 := T2.step (Fr.only_at _ g3 40 (.slice f.A f.n f.c)) (T2.h.set40 f.A f.n f.c f.args)
    have ST3 := T3.drew.f
    have ST3x := T3.f
    have s4 := store_str f.body
    have q4 := T3.h.c41
    have f4 := T3.h.fz 41
    have T4 := T3.step (Fr.only_at _ g3 41 (.string f.body)) (T3.h.set41 f.body)
    have ST4 := T4.drew.f
    have ST4x := T4.f
    have HE : Hid (_ = ownG f) := Lib.hid (own_is2 k2)
    have hl := load_frame (ownG f) hif _ g3 (HE.out ▸ T4.h)
    obtain ⟨Z, hZ, hblk⟩ := T4.z
    have hbel := T4.bel
    have hZs : Z.size = (ownG f).arr.size := by rw [hZ, hasO]
    clear hif HE hf T
    go_upto_region 6 with (fail)
    refine wp_region_held_drew (S := fun W => f.at_ 48 W g) (by kernel_rfl) (S0) (fun hHeld => ?_)
    refine wpAnyH_take (i := 0) (v := (.pointer (some ⟨g, 1, none⟩))) (oi := ⟨_, _, _, _, _, _⟩) rfl (by kernel_rfl) (by kernel_rfl) (by kernel_rfl) (fun _ _ _ h => h) (Or.inl ⟨by kernel_rfl, fun W hS => ?_⟩) (by assumption) ?_
    · dsimp only at hS; go_split_ands; go_simp
    simp only [Act.put, List.setIfInBounds_toArray, List.set_cons_zero, List.set_cons_succ]
    refine wpAnyH_take (i := 1) (v := (.int .u64 f.id)) (oi := ⟨_, _, _, _, _, _⟩) rfl (by kernel_rfl) (by kernel_rfl) (by kernel_rfl) (fun _ _ _ h => h) (Or.inl ⟨by kernel_rfl, fun W hS => ?_⟩) (by assumption) ?_
    · dsimp only at hS; go_split_ands; go_simp
    simp only [Act.put, List.setIfInBounds_toArray, List.set_cons_zero, List.set_cons_succ]
    refine wpAnyH_take (i := 2) (v := (.pointer (some ⟨g, 37, none⟩))) (oi := ⟨_, _, _, _, _, _⟩) rfl (by kernel_rfl) (by kernel_rfl) (by kernel_rfl) (fun _ _ _ h => h) (Or.inl ⟨by kernel_rfl, fun W hS => ?_⟩) (by assumption) ?_
    · dsimp only at hS; go_split_ands; go_simp
    simp only [Act.put, List.setIfInBounds_toArray, List.set_cons_zero, List.set_cons_succ]
    refine wpAnyH_take (i := 3) (v := (.agg f.lim.toArray)) (oi := ⟨_, _, _, _, _, _⟩) rfl (by kernel_rfl) (by kernel_rfl) (by kernel_rfl) (fun _ _ _ h => h) (Or.inl ⟨by kernel_rfl, fun W hS => ?_⟩) (by assumption) ?_
    · dsimp only at hS; go_split_ands; go_simp
    simp only [Act.put, List.setIfInBounds_toArray, List.set_cons_zero, List.set_cons_succ]
    refine wpAnyH_take (i := 4) (v := (.pointer (some ⟨g, 40, none⟩))) (oi := ⟨_, _, _, _, _, _⟩) rfl (by kernel_rfl) (by kernel_rfl) (by kernel_rfl) (fun _ _ _ h => h) (Or.inl ⟨by kernel_rfl, fun W hS => ?_⟩) (by assumption) ?_
    · dsimp only at hS; go_split_ands; go_simp
    simp only [Act.put, List.setIfInBounds_toArray, List.set_cons_zero, List.set_cons_succ]
    refine wpAnyH_take (i := 5) (v := (.slice f.A f.n f.c)) (oi := ⟨_, _, _, _, _, _⟩) rfl (by kernel_rfl) (by kernel_rfl) (by kernel_rfl) (fun _ _ _ h => h) (Or.inl ⟨by kernel_rfl, fun W hS => ?_⟩) (by assumption) ?_
    · dsimp only at hS; go_split_ands; go_simp
    simp only [Act.put, List.setIfInBounds_toArray, List.set_cons_zero, List.set_cons_succ]
    refine wpAnyH_take (i := 6) (v := (.pointer (some ⟨g, 41, none⟩))) (oi := ⟨_, _, _, _, _, _⟩) rfl (by kernel_rfl) (by kernel_rfl) (by kernel_rfl) (fun _ _ _ h => h) (Or.inl ⟨by kernel_rfl, fun W hS => ?_⟩) (by assumption) ?_
    · dsimp only at hS; go_split_ands; go_simp
    simp only [Act.put, List.setIfInBounds_toArray, List.set_cons_zero, List.set_cons_succ]
    refine wpAnyH_take (i := 7) (v := (.string f.body)) (oi := ⟨_, _, _, _, _, _⟩) rfl (by kernel_rfl) (by kernel_rfl) (by kernel_rfl) (fun _ _ _ h => h) (Or.inl ⟨by kernel_rfl, fun W hS => ?_⟩) (by assumption) ?_
    · dsimp only at hS; go_split_ands; go_simp
    simp only [Act.put, List.setIfInBounds_toArray, List.set_cons_zero, List.set_cons_succ]
    refine wpAnyH_take (i := 8) (v := (.pointer (some ⟨g3, 1, none⟩))) (oi := ⟨_, _, _, _, _, _⟩) rfl (by kernel_rfl) (by kernel_rfl) (by kernel_rfl) (fun _ _ _ h => h) (Or.inl ⟨by kernel_rfl, fun W hS => ?_⟩) (by assumption) ?_
    · dsimp only at hS; go_split_ands; go_simp
    simp only [Act.put, List.setIfInBounds_toArray, List.set_cons_zero, List.set_cons_succ]
    refine wpAnyH_ready (rs := [9]) (by kernel_rfl) (by decide) (AllReadyH.cons (o := ⟨_, _, _, _, _, _⟩) rfl (fun K hK => ?_) AllReadyH.nil)
    rw [if_pos (by kernel_rfl)]
    go_simp
    refine hK.out _ _ (ST1) (fun hHeld => ?_)
    clear hK K
    try simp only [Act.put, List.setIfInBounds_toArray, List.set_cons_zero, List.set_cons_succ]
    refine wpAnyH_take (i := 10) (v := (.pointer (some ⟨g3, 37, none⟩))) (oi := ⟨_, _, _, _, _, _⟩) rfl (by kernel_rfl) (by kernel_rfl) (by kernel_rfl) (fun _ _ _ h => h) (Or.inl ⟨by kernel_rfl, fun W hS => ?_⟩) (by assumption) ?_
    · dsimp only at hS; go_split_ands; go_simp
    simp only [Act.put, List.setIfInBounds_toArray, List.set_cons_zero, List.set_cons_succ]
    refine wpAnyH_ready (rs := [11]) (by kernel_rfl) (by decide) (AllReadyH.cons (o := ⟨_, _, _, _, _, _⟩) rfl (fun K hK => ?_) AllReadyH.nil)
    rw [if_pos (by kernel_rfl)]
    go_simp
    refine hK.out _ _ (ST2x) (fun hHeld => ?_)
    clear hK K
    try simp only [Act.put, List.setIfInBounds_toArray, List.set_cons_zero, List.set_cons_succ]
    refine wpAnyH_take (i := 12) (v := (.pointer (some ⟨g3, 40, none⟩))) (oi := ⟨_, _, _, _, _, _⟩) rfl (by kernel_rfl) (by kernel_rfl) (by kernel_rfl) (fun _ _ _ h => h) (Or.inl ⟨by kernel_rfl, fun W hS => ?_⟩) (by assumption) ?_
    · dsimp only at hS; go_split_ands; go_simp
    simp only [Act.put, List.setIfInBounds_toArray, List.set_cons_zero, List.set_cons_succ]
    refine wpAnyH_ready (rs := [13]) (by kernel_rfl) (by decide) (AllReadyH.cons (o := ⟨_, _, _, _, _, _⟩) rfl (fun K hK => ?_) AllReadyH.nil)
    rw [if_pos (by kernel_rfl)]
    go_simp
    refine hK.out _ _ (ST3x) (fun hHeld => ?_)
    clear hK K
    try simp only [Act.put, List.setIfInBounds_toArray, List.set_cons_zero, List.set_cons_succ]
    refine wpAnyH_take (i := 14) (v := (.pointer (some ⟨g3, 41, none⟩))) (oi := ⟨_, _, _, _, _, _⟩) rfl (by kernel_rfl) (by kernel_rfl) (by kernel_rfl) (fun _ _ _ h => h) (Or.inl ⟨by kernel_rfl, fun W hS => ?_⟩) (by assumption) ?_
    · dsimp only at hS; go_split_ands; go_simp
    simp only [Act.put, List.setIfInBounds_toArray, List.set_cons_zero, List.set_cons_succ]
    refine wpAnyH_ready (rs := [15]) (by kernel_rfl) (by decide) (AllReadyH.cons (o := ⟨_, _, _, _, _, _⟩) rfl (fun K hK => ?_) AllReadyH.nil)
    rw [if_pos (by kernel_rfl)]
    go_simp
    refine hK.out _ _ (ST4x) (fun hHeld => ?_)
    clear hK K
    try simp only [Act.put, List.setIfInBounds_toArray, List.set_cons_zero, List.set_cons_succ]
    refine wpAnyH_done (by kernel_rfl) ?_ _
    try simp only [Act.put, List.setIfInBounds_toArray, List.set_cons_zero, List.set_cons_succ]
    go_wp2_with ((with_reducible show wpList _ _ _ (Oper.mk none _ _ _ _ _ :: _) _ _); refine wpList_store_row rfl 48 (.tmp 2) (.tmp 55) rfl g2 (ownG f).arr rfl rfl 48 Z hblk hszO hZs honeO ?_)
    exact bodyPost_ret (v := .agg (ownG f).arr) (results_cell_row rfl _ _ g2 48 (ownG f).arr (0, 0) _ rfl (setRow_heap _ _ _ _ _ _ hblk) Tryz.underlying48 rfl hszO) rfl ⟨rfl, below_setRow hbel hg2b _⟩
  have b2 : (f.k == 2) = false := by rw [beq_eq_false_iff_ne]; exact k2
  by_cases k3 : f.k = 3
  · have b3 : (f.k == 3) = true := by rw [beq_iff_eq]; exact k3
    have S0 := T.drew.f
    have l1 : ∀ W, f.at_ 48 W g → (Instr.loadAt 41 (.pointer (some ⟨g, 1, none⟩))).run Tryz.prog W = .ok (.int .u64 f.id) W := fun W h => load_u64 h.c1
    have l2 : ∀ W, f.at_ 48 W g → (Instr.loadAt 3 (.pointer (some ⟨g, 36, none⟩))).run Tryz.prog W = .ok (.int .i64 f.st) W := fun W h => load_int h.c36
    have l3 : ∀ W, f.at_ 48 W g → (Instr.loadAt 9 (.pointer (some ⟨g, 41, none⟩))).run Tryz.prog W = .ok (.string f.body) W := fun W h => load_str h.c41
    have s1 := store_u64 f.id
    have q1 := T.h.c1
    have f1 := T.h.fz 1
    have T1 := T.step (Fr.only_at _ g3 1 (.int .u64 f.id)) (T.h.set1 f.id)
    have ST1 := T1.drew.f
    have ST1x := T1.f
    have s2 := store_int f.st
    have q2 := T1.h.c36
    have f2 := T1.h.fz 36
    have T2 := T1.step (Fr.only_at _ g3 36 (.int .i64 f.st)) (T1.h.set36 f.st)
    have ST2 := T2.drew.f
    have ST2x := T2.f
    have s3 := store_str f.body
    have q3 := T2.h.c41
    have f3 := T2.h.fz 41
    have T3 := T2.step (Fr.only_at _ g3 41 (.string f.body)) (T2.h.set41 f.body)
    have ST3 := T3.drew.f
    have ST3x := T3.f
    have T9 := T3.drew
    have ST9 := T9.f
    have HE : Hid (_ = ownG f) := Lib.hid (own_is3 k3)
    have hl := load_frame (ownG f) hif _ g3 (HE.out ▸ T9.h)
    obtain ⟨Z, hZ, hblk⟩ := T9.z
    have hbel := T9.bel
    have hZs : Z.size = (ownG f).arr.size := by rw [hZ, hasO]
    clear hif HE hf T
    go_upto_region 8 with (fail)
    go_region_held3 (fun W => f.at_ 48 W g) (assumption) (fail)
    all_goals
      go_wp2_with ((with_reducible show wpList _ _ _ (Oper.mk none _ _ _ _ _ :: _) _ _); refine wpList_store_row rfl 48 (.tmp 2) (.tmp 55) rfl g2 (ownG f).arr rfl rfl 48 Z hblk hszO hZs honeO ?_)
      exact bodyPost_ret (v := .agg (ownG f).arr) (results_cell_row rfl _ _ g2 48 (ownG f).arr (0, 0) _ rfl (setRow_heap _ _ _ _ _ _ hblk) Tryz.underlying48 rfl hszO) rfl ⟨rfl, below_setRow hbel hg2b _⟩
  have b3 : (f.k == 3) = false := by rw [beq_eq_false_iff_ne]; exact k3
  by_cases k4 : f.k = 4
  · have b4 : (f.k == 4) = true := by rw [beq_iff_eq]; exact k4
    have l1 := load_u64 T.f.c1
    have s1 := store_u64 f.id
    have q1 := T.h.c1
    have f1 := T.h.fz 1
    have T1 := T.step (Fr.only_at _ g3 1 (.int .u64 f.id)) (T.h.set1 f.id)
    have HE : Hid (_ = ownG f) := Lib.hid (own_is4 k4)
    have hl := load_frame (ownG f) hif _ g3 (HE.out ▸ T1.h)
    obtain ⟨Z, hZ, hblk⟩ := T1.z
    have hbel := T1.bel
    have hZs : Z.size = (ownG f).arr.size := by rw [hZ, hasO]
    clear hif HE hf T
    go_wp2_with ((with_reducible show wpList _ _ _ (Oper.mk none _ _ _ _ _ :: _) _ _); refine wpList_store_row rfl 48 (.tmp 2) (.tmp 55) rfl g2 (ownG f).arr rfl rfl 48 Z hblk hszO hZs honeO ?_)
    exact bodyPost_ret (v := .agg (ownG f).arr) (results_cell_row rfl _ _ g2 48 (ownG f).arr (0, 0) _ rfl (setRow_heap _ _ _ _ _ _ hblk) Tryz.underlying48 rfl hszO) rfl ⟨rfl, below_setRow hbel hg2b _⟩
  have b4 : (f.k == 4) = false := by rw [beq_eq_false_iff_ne]; exact k4
  by_cases k6 : f.k = 6
  · have b6 : (f.k == 6) = true := by rw [beq_iff_eq]; exact k6
    have l1 := load_str T.f.c41
    have s1 := store_str f.body
    have q1 := T.h.c41
    have f1 := T.h.fz 41
    have T1 := T.step (Fr.only_at _ g3 41 (.string f.body)) (T.h.set41 f.body)
    have HE : Hid (_ = ownG f) := Lib.hid (own_is6 k6)
    have hl := load_frame (ownG f) hif _ g3 (HE.out ▸ T1.h)
    obtain ⟨Z, hZ, hblk⟩ := T1.z
    have hbel := T1.bel
    have hZs : Z.size = (ownG f).arr.size := by rw [hZ, hasO]
    clear hif HE hf T
    go_wp2_with ((with_reducible show wpList _ _ _ (Oper.mk none _ _ _ _ _ :: _) _ _); refine wpList_store_row rfl 48 (.tmp 2) (.tmp 55) rfl g2 (ownG f).arr rfl rfl 48 Z hblk hszO hZs honeO ?_)
    exact bodyPost_ret (v := .agg (ownG f).arr) (results_cell_row rfl _ _ g2 48 (ownG f).arr (0, 0) _ rfl (setRow_heap _ _ _ _ _ _ hblk) Tryz.underlying48 rfl hszO) rfl ⟨rfl, below_setRow hbel hg2b _⟩
  have b6 : (f.k == 6) = false := by rw [beq_eq_false_iff_ne]; exact k6
  have k5 := And.intro k1 (And.intro k2 (And.intro k3 (And.intro k4 k6)))
  have HE : Hid (_ = ownG f) := Lib.hid (own_is5 k5 (hk5 k1 k2 k3 k4 k6))
  have hl := load_frame (ownG f) hif _ g3 (HE.out ▸ T.h)
  obtain ⟨Z, hZ, hblk⟩ := T.z
  have hbel := T.bel
  have hZs : Z.size = (ownG f).arr.size := by rw [hZ, hasO]
  clear hif HE hf T
  go_wp2_with ((with_reducible show wpList _ _ _ (Oper.mk none _ _ _ _ _ :: _) _ _); refine wpList_store_row rfl 48 (.tmp 2) (.tmp 55) rfl g2 (ownG f).arr rfl rfl 48 Z hblk hszO hZs honeO ?_)
  exact bodyPost_ret (v := .agg (ownG f).arr) (results_cell_row rfl _ _ g2 48 (ownG f).arr (0, 0) _ rfl (setRow_heap _ _ _ _ _ _ hblk) Tryz.underlying48 rfl hszO) rfl ⟨rfl, below_setRow hbel hg2b _⟩
end Go.Proofs.YtpjpgcjhdbiepaaGreat
end
/-! The contract of the document's body. (mk_frzb.py) -/
section
namespace Go.Proofs.YtpjpgcjhdbiepaaGreat
open Go.RowKit Go.Kit Go.Proofs.YtpjpgcjhdbiepaaGreatW.PrintWords
theorem rUint_of (u : Int) (h0 : 0 ≤ u) (h1 : u ≤ 18446744073709551615) (w : World) : Calls Tryz.prog 40 #[.int .u64 u] w (Laid w (sh u.toNat)) := by
  have h := rUint_any u.toNat w (by omega)
  rw [Int.toNat_of_nonneg h0] at h
  exact h
theorem keepG {W w1 : World} {g base : Nat} {f : Fr} {v : Value} {xs : List Int} (hF : f.at_ 48 W g) (hO : OB 5 W base v xs) (hg : W.grownBy w1 v.ownBlock) : f.at_ 48 w1 g :=
  hF.only ((Only.refl W (rf v)).grown hg (fun k e => .inl e)) (hO.not_block hF.blk (by decide))
theorem lst_len (f : Fr) (h : (0 ≤ f.mo ∧ 0 ≤ f.fu ∧ 0 ≤ f.di) ∧ f.n ≤ 8 ∧ ∀ s ∈ f.args, s.size ≤ 4096) (hn : f.args.length = f.n) : (lst f.args).length ≤ 32858 := by
  have h1 := txts_length f.args 4096 (by omega) h.2.2
  have h2 := sh_ten (n := f.args.length) (by omega)
  have h4 : f.args.length * (10 + 4096) ≤ 8 * (10 + 4096) := Nat.mul_le_mul_right _ (by omega)
  unfold lst
  rw [List.length_append]
  omega
section
variable {f : Fr} {w : World}
set_option maxHeartbeats 16000000 in
set_option maxRecDepth 100000 in
theorem rbody_any (h1 : 1 ≤ f.k) (h6 : f.k ≤ 6) (hf : f.ok w) (hw : f.wf) (hL : LayOk f) : Calls Tryz.prog 39 #[f.val] w (Laid w (bodyF f)) := by
  have hb := below_alloc (Below.refl _ w) (.cells f.arr 48)
  have hF := boxed hf.tool w
  have hwk := u64_nn (x := f.k) (by omega) (by omega)
  have HWF := Lib.hid hw
  have HK := Lib.hid (And.intro h1 h6)
  have HL := Lib.hid hL
  have HT := Lib.hid hf.tool
  have HA := Lib.hid hf.args
  have HLK := Lib.hid (sh_ten (n := f.k.toNat) (by omega))
  clear hw hL hf h1 h6
  show Calls Tryz.prog _ #[.agg f.arr] w _
  go_enter Tryz.func39, Tryz.ntmps39
  go_upto_region 1 with (fail)
  generalize w.alloc (.cells f.arr 48) = w1 at *
  obtain ⟨g, hg⟩ : ∃ g, w.heap.size = g := ⟨_, rfl⟩
  rw [hg] at hF ⊢
  clear hg
  have q := hF.c0
  go_wp2_with fail
  refine (rUint_of f.k (by have := HK.out; omega) (by have := HK.out; omega) _).mono ?_
  rintro e w2 ⟨v2, rfl, hO2, hb2⟩
  have hF2 := hF.below hb2
  replace hb2 := below_step hb hb2
  replace hO2 := hO2.less hb.size
  clear hb hF q hwk
  have q := hF2.c0
  obtain ⟨a2, ha2⟩ : ∃ q, sh f.k.toNat = q := ⟨_, rfl⟩
  rw [ha2] at hO2
  have HA2 : Hid (a2 = sh f.k.toNat) := Lib.hid ha2.symm
  have HB2 : Hid (a2.length ≤ 10) := Lib.hid (by rw [← ha2]; exact HLK.out)
  clear ha2
  by_cases k1 : f.k = 1
  · have b1 : (f.k == 1) = true := by rw [beq_iff_eq]; exact k1
    have HKK := Lib.hid k1
    clear k1
    have q3 := hF2.c2
    have hwrv := u64_nn (x := f.v) ((HL.out.hello (HKK.out)).1) HWF.out.v.2
    go_wp2_with fail
    refine (rUint_of f.v ((HL.out.hello (HKK.out)).1) (by have := HWF.out.v.2; omega) _).mono ?_
    rintro e w3 ⟨v3, rfl, hP3, hc3⟩
    have hF3 := hF2.below hc3
    have hO3 := hO2.below hc3
    have hb3 := below_step hb2 hc3
    obtain ⟨A3, c3, rfl, hR3, _⟩ := hP3.reads'
    obtain ⟨y3, hy3⟩ : ∃ q, sh f.v.toNat = q := ⟨_, rfl⟩
    rw [hy3] at hR3 ⊢
    obtain ⟨n3, hn3⟩ : ∃ q, y3.length = q := ⟨_, rfl⟩
    rw [hn3] at hR3 ⊢
    have HN3 : Hid (n3 ≤ 10) := Lib.hid (by rw [← hn3, ← hy3]; exact sh_ten (by have := HWF.out.v.2; omega))
    have HLN3 : Hid (a2.length + n3 ≤ 140737488355328) := Lib.hid (by have := HN3.out; have := HB2.out; omega)
    have HY3 := Lib.hid hy3
    have HE3 := Lib.hid hn3
    clear hb2 hF2 hO2 hc3 hP3 q3 hy3 hn3
    go_wp2_with (at_builtin; refine push_row (w0 := w) w.heap.size rfl (.tmp 13) (.tmp 17) 22 y3 A3 n3 c3 rfl Tryz.underlying22 u8_info rfl rfl hO3 hR3 hb3 hb3.size HLN3.out ?_)
    intro v4 w4 hO4 hb4 hg4 _
    have hF4 := keepG hF3 hO3 hg4
    obtain ⟨a4, ha4⟩ : ∃ q, a2 ++ y3 = q := ⟨_, rfl⟩
    rw [ha4] at hO4
    have HB4 : Hid (a4.length ≤ 20) := Lib.hid (by rw [← ha4, List.length_append, HE3.out]; have := HN3.out; have := HB2.out; omega)
    have HA4 : Hid (a4 = a2 ++ sh f.v.toNat) := Lib.hid (by rw [← ha4, HY3.out])
    clear hF3 hO3 hb3 hR3 hg4 HLN3 ha4
    have q5 := hF4.c3
    have hwrs := u64_nn (x := f.s) ((HL.out.hello (HKK.out)).2) HWF.out.s.2
    go_wp2_with fail
    refine (rUint_of f.s ((HL.out.hello (HKK.out)).2) (by have := HWF.out.s.2; omega) _).mono ?_
    rintro e w5 ⟨v5, rfl, hP5, hc5⟩
    have hF5 := hF4.below hc5
    have hO5 := hO4.below hc5
    have hb5 := below_step hb4 hc5
    obtain ⟨A5, c5, rfl, hR5, _⟩ := hP5.reads'
    obtain ⟨y5, hy5⟩ : ∃ q, sh f.s.toNat = q := ⟨_, rfl⟩
    rw [hy5] at hR5 ⊢
    obtain ⟨n5, hn5⟩ : ∃ q, y5.length = q := ⟨_, rfl⟩
    rw [hn5] at hR5 ⊢
    have HN5 : Hid (n5 ≤ 10) := Lib.hid (by rw [← hn5, ← hy5]; exact sh_ten (by have := HWF.out.s.2; omega))
    have HLN5 : Hid (a4.length + n5 ≤ 140737488355328) := Lib.hid (by have := HN5.out; have := HB4.out; omega)
    have HY5 := Lib.hid hy5
    have HE5 := Lib.hid hn5
    clear hb4 hF4 hO4 hc5 hP5 q5 hy5 hn5
    go_wp2_with (at_builtin; refine push_row (w0 := w) w.heap.size rfl (.tmp 19) (.tmp 23) 22 y5 A5 n5 c5 rfl Tryz.underlying22 u8_info rfl rfl hO5 hR5 hb5 hb5.size HLN5.out ?_)
    intro v6 w6 hO6 hb6 hg6 _
    have hF6 := keepG hF5 hO5 hg6
    obtain ⟨a6, ha6⟩ : ∃ q, a4 ++ y5 = q := ⟨_, rfl⟩
    rw [ha6] at hO6
    have HB6 : Hid (a6.length ≤ 30) := Lib.hid (by rw [← ha6, List.length_append, HE5.out]; have := HN5.out; have := HB4.out; omega)
    have HA6 : Hid (a6 = a4 ++ sh f.s.toNat) := Lib.hid (by rw [← ha6, HY5.out])
    clear hF5 hO5 hb5 hR5 hg6 HLN5 ha6
    go_wp2_with fail
    go_loopg [3, 4] 32 (fun gk v3 v4 w' => ∃ k : Nat, v4 = .int .i64 (k : Int) ∧ OB 5 w' w.heap.size v3 (a6 ++ f.tool.take k) ∧ f.at_ 48 w' g ∧ Below w.heap.size w w' ∧ Hid (k + gk = 32))
    case atStart => exact ⟨0, rfl, by simpa using hO6, hF6, hb6, Lib.hid rfl⟩
    case round =>
      clear hO6 hF6 hb6
      obtain ⟨k, rfl, hO, hF, hb, HG⟩ := hrel
      by_cases hk : k < 32
      · have hk2 : (k : Int) < 32 := by omega
        obtain ⟨x, HX⟩ : ∃ x, Hid (f.tool[k]? = some x) := ⟨_, Lib.hid (List.getElem?_eq_getElem (by rw [HT.out]; exact hk))⟩
        have hx := HWF.out.byt x (List.mem_of_getElem? HX.out)
        have hcell : wr.cell? ⟨g, 4 + k, none⟩ = some (.int .u8 x) := hF.r4 k (.int .u8 x) (by simp [nums, HX.out])
        have hba := below_alloc (Below.refl wr.heap.size wr) (.cells #[.int .u8 x] 5)
        have hF2 := hF.below hba
        have hLL : Hid ((a6 ++ f.tool.take k).length + 1 ≤ 140737488355328) := Lib.hid (by
          have h1 : (f.tool.take k).length ≤ 32 := by rw [List.length_take]; omega
          have := HB6.out; rw [List.length_append]; omega)
        have hbs := hb.size
        go_wp2_with (at_builtin; refine push_byte (w0 := w) w.heap.size rfl (.tmp 29) (.tmp 34) 22 x rfl Tryz.underlying22 u8_info rfl rfl hO hb hbs hLL.out hx.1 hx.2 ?_)
        intro v5 w5 hO5 hb5 hg5 _
        have hF5 := keepG hF hO hg5
        go_wp2_with fail
        go_roundg (gk - 1)
        case measure => have := HG.out; omega
        case rel =>
          refine ⟨k + 1, by simp, ?_, hF5, hb5, Lib.hid (by have := HG.out; omega)⟩
          rw [snoc HX.out]
          first | exact hO5 | (rw [← List.append_assoc]; exact hO5)
      · have hk2 : ¬ (k : Int) < 32 := by omega
        have HE : Hid (a6 ++ f.tool.take k = bodyF f) := Lib.hid (by
          rw [List.take_of_length_le (by rw [HT.out]; omega)]
          rw [HA6.out, HA4.out, HA2.out]; unfold bodyF layF; rw [if_pos HKK.out]; simp only [List.append_assoc])
        rw [HE.out] at hO
        clear hk
        go_wp2_with fail
        go_ret
        exact ⟨_, rfl, hO, hb⟩
  have b1 : (f.k == 1) = false := by rw [beq_eq_false_iff_ne]; exact k1
  by_cases k2 : f.k = 2
  · have b2 : (f.k == 2) = true := by rw [beq_iff_eq]; exact k2
    have HKK := Lib.hid k2
    clear k2
    have q3 := hF2.c1
    go_wp2_with fail
    refine (rUint_of f.id (HWF.out.id0) (HWF.out.id1) _).mono ?_
    rintro e w3 ⟨v3, rfl, hP3, hc3⟩
    have hF3 := hF2.below hc3
    have hO3 := hO2.below hc3
    have hb3 := below_step hb2 hc3
    obtain ⟨A3, c3, rfl, hR3, _⟩ := hP3.reads'
    obtain ⟨y3, hy3⟩ : ∃ q, sh f.id.toNat = q := ⟨_, rfl⟩
    rw [hy3] at hR3 ⊢
    obtain ⟨n3, hn3⟩ : ∃ q, y3.length = q := ⟨_, rfl⟩
    rw [hn3] at hR3 ⊢
    have HN3 : Hid (n3 ≤ 10) := Lib.hid (by rw [← hn3, ← hy3]; exact sh_ten (by have := HWF.out.id1; omega))
    have HLN3 : Hid (a2.length + n3 ≤ 140737488355328) := Lib.hid (by have := HN3.out; have := HB2.out; omega)
    have HY3 := Lib.hid hy3
    have HE3 := Lib.hid hn3
    clear hb2 hF2 hO2 hc3 hP3 q3 hy3 hn3
    go_wp2_with (at_builtin; refine push_row (w0 := w) w.heap.size rfl (.tmp 38) (.tmp 41) 22 y3 A3 n3 c3 rfl Tryz.underlying22 u8_info rfl rfl hO3 hR3 hb3 hb3.size HLN3.out ?_)
    intro v4 w4 hO4 hb4 hg4 _
    have hF4 := keepG hF3 hO3 hg4
    obtain ⟨a4, ha4⟩ : ∃ q, a2 ++ y3 = q := ⟨_, rfl⟩
    rw [ha4] at hO4
    have HB4 : Hid (a4.length ≤ 20) := Lib.hid (by rw [← ha4, List.length_append, HE3.out]; have := HN3.out; have := HB2.out; omega)
    have HA4 : Hid (a4 = a2 ++ sh f.id.toNat) := Lib.hid (by rw [← ha4, HY3.out])
    clear hF3 hO3 hb3 hR3 hg4 HLN3 ha4
    have q5 := hF4.c37
    have hwrmo := u64_nn (x := f.mo) ((HL.out.req (HKK.out)).1.1) HWF.out.mo.2
    go_wp2_with fail
    refine (rUint_of f.mo ((HL.out.req (HKK.out)).1.1) (by have := HWF.out.mo.2; omega) _).mono ?_
    rintro e w5 ⟨v5, rfl, hP5, hc5⟩
    have hF5 := hF4.below hc5
    have hO5 := hO4.below hc5
    have hb5 := below_step hb4 hc5
    obtain ⟨A5, c5, rfl, hR5, _⟩ := hP5.reads'
    obtain ⟨y5, hy5⟩ : ∃ q, sh f.mo.toNat = q := ⟨_, rfl⟩
    rw [hy5] at hR5 ⊢
    obtain ⟨n5, hn5⟩ : ∃ q, y5.length = q := ⟨_, rfl⟩
    rw [hn5] at hR5 ⊢
    have HN5 : Hid (n5 ≤ 10) := Lib.hid (by rw [← hn5, ← hy5]; exact sh_ten (by have := HWF.out.mo.2; omega))
    have HLN5 : Hid (a4.length + n5 ≤ 140737488355328) := Lib.hid (by have := HN5.out; have := HB4.out; omega)
    have HY5 := Lib.hid hy5
    have HE5 := Lib.hid hn5
    clear hb4 hF4 hO4 hc5 hP5 q5 hy5 hn5
    go_wp2_with (at_builtin; refine push_row (w0 := w) w.heap.size rfl (.tmp 43) (.tmp 48) 22 y5 A5 n5 c5 rfl Tryz.underlying22 u8_info rfl rfl hO5 hR5 hb5 hb5.size HLN5.out ?_)
    intro v6 w6 hO6 hb6 hg6 _
    have hF6 := keepG hF5 hO5 hg6
    obtain ⟨a6, ha6⟩ : ∃ q, a4 ++ y5 = q := ⟨_, rfl⟩
    rw [ha6] at hO6
    have HB6 : Hid (a6.length ≤ 30) := Lib.hid (by rw [← ha6, List.length_append, HE5.out]; have := HN5.out; have := HB4.out; omega)
    have HA6 : Hid (a6 = a4 ++ sh f.mo.toNat) := Lib.hid (by rw [← ha6, HY5.out])
    clear hF5 hO5 hb5 hR5 hg6 HLN5 ha6
    have q7 := hF6.c38
    have hwrfu := u64_nn (x := f.fu) ((HL.out.req (HKK.out)).1.2.1) HWF.out.fu.2
    go_wp2_with fail
    refine (rUint_of f.fu ((HL.out.req (HKK.out)).1.2.1) (by have := HWF.out.fu.2; omega) _).mono ?_
    rintro e w7 ⟨v7, rfl, hP7, hc7⟩
    have hF7 := hF6.below hc7
    have hO7 := hO6.below hc7
    have hb7 := below_step hb6 hc7
    obtain ⟨A7, c7, rfl, hR7, _⟩ := hP7.reads'
    obtain ⟨y7, hy7⟩ : ∃ q, sh f.fu.toNat = q := ⟨_, rfl⟩
    rw [hy7] at hR7 ⊢
    obtain ⟨n7, hn7⟩ : ∃ q, y7.length = q := ⟨_, rfl⟩
    rw [hn7] at hR7 ⊢
    have HN7 : Hid (n7 ≤ 10) := Lib.hid (by rw [← hn7, ← hy7]; exact sh_ten (by have := HWF.out.fu.2; omega))
    have HLN7 : Hid (a6.length + n7 ≤ 140737488355328) := Lib.hid (by have := HN7.out; have := HB6.out; omega)
    have HY7 := Lib.hid hy7
    have HE7 := Lib.hid hn7
    clear hb6 hF6 hO6 hc7 hP7 q7 hy7 hn7
    go_wp2_with (at_builtin; refine push_row (w0 := w) w.heap.size rfl (.tmp 50) (.tmp 55) 22 y7 A7 n7 c7 rfl Tryz.underlying22 u8_info rfl rfl hO7 hR7 hb7 hb7.size HLN7.out ?_)
    intro v8 w8 hO8 hb8 hg8 _
    have hF8 := keepG hF7 hO7 hg8
    obtain ⟨a8, ha8⟩ : ∃ q, a6 ++ y7 = q := ⟨_, rfl⟩
    rw [ha8] at hO8
    have HB8 : Hid (a8.length ≤ 40) := Lib.hid (by rw [← ha8, List.length_append, HE7.out]; have := HN7.out; have := HB6.out; omega)
    have HA8 : Hid (a8 = a6 ++ sh f.fu.toNat) := Lib.hid (by rw [← ha8, HY7.out])
    clear hF7 hO7 hb7 hR7 hg8 HLN7 ha8
    have q9 := hF8.c39
    have hwrdi := u64_nn (x := f.di) ((HL.out.req (HKK.out)).1.2.2) HWF.out.di.2
    go_wp2_with fail
    refine (rUint_of f.di ((HL.out.req (HKK.out)).1.2.2) (by have := HWF.out.di.2; omega) _).mono ?_
    rintro e w9 ⟨v9, rfl, hP9, hc9⟩
    have hF9 := hF8.below hc9
    have hO9 := hO8.below hc9
    have hb9 := below_step hb8 hc9
    obtain ⟨A9, c9, rfl, hR9, _⟩ := hP9.reads'
    obtain ⟨y9, hy9⟩ : ∃ q, sh f.di.toNat = q := ⟨_, rfl⟩
    rw [hy9] at hR9 ⊢
    obtain ⟨n9, hn9⟩ : ∃ q, y9.length = q := ⟨_, rfl⟩
    rw [hn9] at hR9 ⊢
    have HN9 : Hid (n9 ≤ 10) := Lib.hid (by rw [← hn9, ← hy9]; exact sh_ten (by have := HWF.out.di.2; omega))
    have HLN9 : Hid (a8.length + n9 ≤ 140737488355328) := Lib.hid (by have := HN9.out; have := HB8.out; omega)
    have HY9 := Lib.hid hy9
    have HE9 := Lib.hid hn9
    clear hb8 hF8 hO8 hc9 hP9 q9 hy9 hn9
    go_wp2_with (at_builtin; refine push_row (w0 := w) w.heap.size rfl (.tmp 57) (.tmp 62) 22 y9 A9 n9 c9 rfl Tryz.underlying22 u8_info rfl rfl hO9 hR9 hb9 hb9.size HLN9.out ?_)
    intro v10 w10 hO10 hb10 hg10 _
    have hF10 := keepG hF9 hO9 hg10
    obtain ⟨a10, ha10⟩ : ∃ q, a8 ++ y9 = q := ⟨_, rfl⟩
    rw [ha10] at hO10
    have HB10 : Hid (a10.length ≤ 50) := Lib.hid (by rw [← ha10, List.length_append, HE9.out]; have := HN9.out; have := HB8.out; omega)
    have HA10 : Hid (a10 = a8 ++ sh f.di.toNat) := Lib.hid (by rw [← ha10, HY9.out])
    clear hF9 hO9 hb9 hR9 hg10 HLN9 ha10
    have q11 := hF10.c40
    go_wp2_with fail
    refine (rList_any (c := f.c) (HA.out.below hb10) 4096 (by omega) (HL.out.req (HKK.out)).2.2 (by have := (HL.out.req (HKK.out)).2.1; omega)).mono ?_
    rintro e w11 ⟨v11, rfl, hP11, hc11⟩
    have hF11 := hF10.below hc11
    have hO11 := hO10.below hc11
    have hb11 := below_step hb10 hc11
    obtain ⟨A11, c11, rfl, hR11, _⟩ := hP11.reads'
    obtain ⟨y11, hy11⟩ : ∃ q, lst f.args = q := ⟨_, rfl⟩
    rw [hy11] at hR11 ⊢
    obtain ⟨n11, hn11⟩ : ∃ q, y11.length = q := ⟨_, rfl⟩
    rw [hn11] at hR11 ⊢
    have HN11 : Hid (n11 ≤ 32858) := Lib.hid (by rw [← hn11, ← hy11]; exact lst_len f (HL.out.req (HKK.out)) HA.out.len)
    have HLN11 : Hid (a10.length + n11 ≤ 140737488355328) := Lib.hid (by have := HN11.out; have := HB10.out; omega)
    have HY11 := Lib.hid hy11
    have HE11 := Lib.hid hn11
    clear hb10 hF10 hO10 hc11 hP11 q11 hy11 hn11
    go_wp2_with (at_builtin; refine push_row (w0 := w) w.heap.size rfl (.tmp 64) (.tmp 67) 22 y11 A11 n11 c11 rfl Tryz.underlying22 u8_info rfl rfl hO11 hR11 hb11 hb11.size HLN11.out ?_)
    intro v12 w12 hO12 hb12 hg12 _
    have hF12 := keepG hF11 hO11 hg12
    obtain ⟨a12, ha12⟩ : ∃ q, a10 ++ y11 = q := ⟨_, rfl⟩
    rw [ha12] at hO12
    have HB12 : Hid (a12.length ≤ 32908) := Lib.hid (by rw [← ha12, List.length_append, HE11.out]; have := HN11.out; have := HB10.out; omega)
    have HA12 : Hid (a12 = a10 ++ lst f.args) := Lib.hid (by rw [← ha12, HY11.out])
    clear hF11 hO11 hb11 hR11 hg12 HLN11 ha12
    have q13 := hF12.c41
    go_wp2_with fail
    refine (rText_any f.body (by have := HL.out.body; omega)).mono ?_
    rintro e w13 ⟨v13, rfl, hP13, hc13⟩
    have hF13 := hF12.below hc13
    have hO13 := hO12.below hc13
    have hb13 := below_step hb12 hc13
    obtain ⟨A13, c13, rfl, hR13, _⟩ := hP13.reads'
    obtain ⟨y13, hy13⟩ : ∃ q, txt f.body = q := ⟨_, rfl⟩
    rw [hy13] at hR13 ⊢
    obtain ⟨n13, hn13⟩ : ∃ q, y13.length = q := ⟨_, rfl⟩
    rw [hn13] at hR13 ⊢
    have HN13 : Hid (n13 ≤ 2097162) := Lib.hid (by rw [← hn13, ← hy13]; exact Nat.le_trans (txt_length (by have := HL.out.body; omega)) (by have := HL.out.body; omega))
    have HLN13 : Hid (a12.length + n13 ≤ 140737488355328) := Lib.hid (by have := HN13.out; have := HB12.out; omega)
    have HY13 := Lib.hid hy13
    have HE13 := Lib.hid hn13
    clear hb12 hF12 hO12 hc13 hP13 q13 hy13 hn13
    go_wp2_with (at_builtin; refine push_row (w0 := w) w.heap.size rfl (.tmp 69) (.tmp 72) 22 y13 A13 n13 c13 rfl Tryz.underlying22 u8_info rfl rfl hO13 hR13 hb13 hb13.size HLN13.out ?_)
    intro v14 w14 hO14 hb14 hg14 _
    have hF14 := keepG hF13 hO13 hg14
    obtain ⟨a14, ha14⟩ : ∃ q, a12 ++ y13 = q := ⟨_, rfl⟩
    rw [ha14] at hO14
    have HB14 : Hid (a14.length ≤ 2130070) := Lib.hid (by rw [← ha14, List.length_append, HE13.out]; have := HN13.out; have := HB12.out; omega)
    have HA14 : Hid (a14 = a12 ++ txt f.body) := Lib.hid (by rw [← ha14, HY13.out])
    clear hF13 hO13 hb13 hR13 hg14 HLN13 ha14
    have HE : Hid (a14 = bodyF f) := Lib.hid (by rw [HA14.out, HA12.out, HA10.out, HA8.out, HA6.out, HA4.out, HA2.out]; unfold bodyF layF; rw [if_neg (by rw [HKK.out]; decide), if_pos HKK.out]; simp only [List.append_assoc])
    rw [HE.out] at hO14
    go_wp2_with fail
    go_ret
    exact ⟨_, rfl, hO14, hb14⟩
  have b2 : (f.k == 2) = false := by rw [beq_eq_false_iff_ne]; exact k2
  by_cases k3 : f.k = 3
  · have b3 : (f.k == 3) = true := by rw [beq_iff_eq]; exact k3
    have HKK := Lib.hid k3
    clear k3
    have q3 := hF2.c1
    go_wp2_with fail
    refine (rUint_of f.id (HWF.out.id0) (HWF.out.id1) _).mono ?_
    rintro e w3 ⟨v3, rfl, hP3, hc3⟩
    have hF3 := hF2.below hc3
    have hO3 := hO2.below hc3
    have hb3 := below_step hb2 hc3
    obtain ⟨A3, c3, rfl, hR3, _⟩ := hP3.reads'
    obtain ⟨y3, hy3⟩ : ∃ q, sh f.id.toNat = q := ⟨_, rfl⟩
    rw [hy3] at hR3 ⊢
    obtain ⟨n3, hn3⟩ : ∃ q, y3.length = q := ⟨_, rfl⟩
    rw [hn3] at hR3 ⊢
    have HN3 : Hid (n3 ≤ 10) := Lib.hid (by rw [← hn3, ← hy3]; exact sh_ten (by have := HWF.out.id1; omega))
    have HLN3 : Hid (a2.length + n3 ≤ 140737488355328) := Lib.hid (by have := HN3.out; have := HB2.out; omega)
    have HY3 := Lib.hid hy3
    have HE3 := Lib.hid hn3
    clear hb2 hF2 hO2 hc3 hP3 q3 hy3 hn3
    go_wp2_with (at_builtin; refine push_row (w0 := w) w.heap.size rfl (.tmp 76) (.tmp 79) 22 y3 A3 n3 c3 rfl Tryz.underlying22 u8_info rfl rfl hO3 hR3 hb3 hb3.size HLN3.out ?_)
    intro v4 w4 hO4 hb4 hg4 _
    have hF4 := keepG hF3 hO3 hg4
    obtain ⟨a4, ha4⟩ : ∃ q, a2 ++ y3 = q := ⟨_, rfl⟩
    rw [ha4] at hO4
    have HB4 : Hid (a4.length ≤ 20) := Lib.hid (by rw [← ha4, List.length_append, HE3.out]; have := HN3.out; have := HB2.out; omega)
    have HA4 : Hid (a4 = a2 ++ sh f.id.toNat) := Lib.hid (by rw [← ha4, HY3.out])
    clear hF3 hO3 hb3 hR3 hg4 HLN3 ha4
    have q5 := hF4.c36
    have hwrst := u64_nn (x := f.st) (HL.out.resp (HKK.out)) HWF.out.st.2
    go_wp2_with fail
    refine (rUint_of f.st (HL.out.resp (HKK.out)) (by have := HWF.out.st.2; omega) _).mono ?_
    rintro e w5 ⟨v5, rfl, hP5, hc5⟩
    have hF5 := hF4.below hc5
    have hO5 := hO4.below hc5
    have hb5 := below_step hb4 hc5
    obtain ⟨A5, c5, rfl, hR5, _⟩ := hP5.reads'
    obtain ⟨y5, hy5⟩ : ∃ q, sh f.st.toNat = q := ⟨_, rfl⟩
    rw [hy5] at hR5 ⊢
    obtain ⟨n5, hn5⟩ : ∃ q, y5.length = q := ⟨_, rfl⟩
    rw [hn5] at hR5 ⊢
    have HN5 : Hid (n5 ≤ 10) := Lib.hid (by rw [← hn5, ← hy5]; exact sh_ten (by have := HWF.out.st.2; omega))
    have HLN5 : Hid (a4.length + n5 ≤ 140737488355328) := Lib.hid (by have := HN5.out; have := HB4.out; omega)
    have HY5 := Lib.hid hy5
    have HE5 := Lib.hid hn5
    clear hb4 hF4 hO4 hc5 hP5 q5 hy5 hn5
    go_wp2_with (at_builtin; refine push_row (w0 := w) w.heap.size rfl (.tmp 81) (.tmp 85) 22 y5 A5 n5 c5 rfl Tryz.underlying22 u8_info rfl rfl hO5 hR5 hb5 hb5.size HLN5.out ?_)
    intro v6 w6 hO6 hb6 hg6 _
    have hF6 := keepG hF5 hO5 hg6
    obtain ⟨a6, ha6⟩ : ∃ q, a4 ++ y5 = q := ⟨_, rfl⟩
    rw [ha6] at hO6
    have HB6 : Hid (a6.length ≤ 30) := Lib.hid (by rw [← ha6, List.length_append, HE5.out]; have := HN5.out; have := HB4.out; omega)
    have HA6 : Hid (a6 = a4 ++ sh f.st.toNat) := Lib.hid (by rw [← ha6, HY5.out])
    clear hF5 hO5 hb5 hR5 hg6 HLN5 ha6
    have q7 := hF6.c41
    go_wp2_with fail
    refine (rText_any f.body (by have := HL.out.body; omega)).mono ?_
    rintro e w7 ⟨v7, rfl, hP7, hc7⟩
    have hF7 := hF6.below hc7
    have hO7 := hO6.below hc7
    have hb7 := below_step hb6 hc7
    obtain ⟨A7, c7, rfl, hR7, _⟩ := hP7.reads'
    obtain ⟨y7, hy7⟩ : ∃ q, txt f.body = q := ⟨_, rfl⟩
    rw [hy7] at hR7 ⊢
    obtain ⟨n7, hn7⟩ : ∃ q, y7.length = q := ⟨_, rfl⟩
    rw [hn7] at hR7 ⊢
    have HN7 : Hid (n7 ≤ 2097162) := Lib.hid (by rw [← hn7, ← hy7]; exact Nat.le_trans (txt_length (by have := HL.out.body; omega)) (by have := HL.out.body; omega))
    have HLN7 : Hid (a6.length + n7 ≤ 140737488355328) := Lib.hid (by have := HN7.out; have := HB6.out; omega)
    have HY7 := Lib.hid hy7
    have HE7 := Lib.hid hn7
    clear hb6 hF6 hO6 hc7 hP7 q7 hy7 hn7
    go_wp2_with (at_builtin; refine push_row (w0 := w) w.heap.size rfl (.tmp 87) (.tmp 90) 22 y7 A7 n7 c7 rfl Tryz.underlying22 u8_info rfl rfl hO7 hR7 hb7 hb7.size HLN7.out ?_)
    intro v8 w8 hO8 hb8 hg8 _
    have hF8 := keepG hF7 hO7 hg8
    obtain ⟨a8, ha8⟩ : ∃ q, a6 ++ y7 = q := ⟨_, rfl⟩
    rw [ha8] at hO8
    have HB8 : Hid (a8.length ≤ 2097192) := Lib.hid (by rw [← ha8, List.length_append, HE7.out]; have := HN7.out; have := HB6.out; omega)
    have HA8 : Hid (a8 = a6 ++ txt f.body) := Lib.hid (by rw [← ha8, HY7.out])
    clear hF7 hO7 hb7 hR7 hg8 HLN7 ha8
    have HE : Hid (a8 = bodyF f) := Lib.hid (by rw [HA8.out, HA6.out, HA4.out, HA2.out]; unfold bodyF layF; rw [if_neg (by rw [HKK.out]; decide), if_neg (by rw [HKK.out]; decide), if_pos HKK.out]; simp only [List.append_assoc])
    rw [HE.out] at hO8
    go_wp2_with fail
    go_ret
    exact ⟨_, rfl, hO8, hb8⟩
  have b3 : (f.k == 3) = false := by rw [beq_eq_false_iff_ne]; exact k3
  by_cases k4 : f.k = 4
  · have b4 : (f.k == 4) = true := by rw [beq_iff_eq]; exact k4
    have HKK := Lib.hid k4
    clear k4
    have q3 := hF2.c1
    go_wp2_with fail
    refine (rUint_of f.id (HWF.out.id0) (HWF.out.id1) _).mono ?_
    rintro e w3 ⟨v3, rfl, hP3, hc3⟩
    have hF3 := hF2.below hc3
    have hO3 := hO2.below hc3
    have hb3 := below_step hb2 hc3
    obtain ⟨A3, c3, rfl, hR3, _⟩ := hP3.reads'
    obtain ⟨y3, hy3⟩ : ∃ q, sh f.id.toNat = q := ⟨_, rfl⟩
    rw [hy3] at hR3 ⊢
    obtain ⟨n3, hn3⟩ : ∃ q, y3.length = q := ⟨_, rfl⟩
    rw [hn3] at hR3 ⊢
    have HN3 : Hid (n3 ≤ 10) := Lib.hid (by rw [← hn3, ← hy3]; exact sh_ten (by have := HWF.out.id1; omega))
    have HLN3 : Hid (a2.length + n3 ≤ 140737488355328) := Lib.hid (by have := HN3.out; have := HB2.out; omega)
    have HY3 := Lib.hid hy3
    have HE3 := Lib.hid hn3
    clear hb2 hF2 hO2 hc3 hP3 q3 hy3 hn3
    go_wp2_with (at_builtin; refine push_row (w0 := w) w.heap.size rfl (.tmp 94) (.tmp 97) 22 y3 A3 n3 c3 rfl Tryz.underlying22 u8_info rfl rfl hO3 hR3 hb3 hb3.size HLN3.out ?_)
    intro v4 w4 hO4 hb4 hg4 _
    have hF4 := keepG hF3 hO3 hg4
    obtain ⟨a4, ha4⟩ : ∃ q, a2 ++ y3 = q := ⟨_, rfl⟩
    rw [ha4] at hO4
    have HB4 : Hid (a4.length ≤ 20) := Lib.hid (by rw [← ha4, List.length_append, HE3.out]; have := HN3.out; have := HB2.out; omega)
    have HA4 : Hid (a4 = a2 ++ sh f.id.toNat) := Lib.hid (by rw [← ha4, HY3.out])
    clear hF3 hO3 hb3 hR3 hg4 HLN3 ha4
    have HE : Hid (a4 = bodyF f) := Lib.hid (by rw [HA4.out, HA2.out]; unfold bodyF layF; rw [if_neg (by rw [HKK.out]; decide), if_neg (by rw [HKK.out]; decide), if_neg (by rw [HKK.out]; decide), if_pos HKK.out])
    rw [HE.out] at hO4
    go_wp2_with fail
    go_ret
    exact ⟨_, rfl, hO4, hb4⟩
  have b4 : (f.k == 4) = false := by rw [beq_eq_false_iff_ne]; exact k4
  by_cases k6 : f.k = 6
  · have b6 : (f.k == 6) = true := by rw [beq_iff_eq]; exact k6
    have HKK := Lib.hid k6
    clear k6
    have q3 := hF2.c41
    go_wp2_with fail
    refine (rText_any f.body (by have := HL.out.body; omega)).mono ?_
    rintro e w3 ⟨v3, rfl, hP3, hc3⟩
    have hF3 := hF2.below hc3
    have hO3 := hO2.below hc3
    have hb3 := below_step hb2 hc3
    obtain ⟨A3, c3, rfl, hR3, _⟩ := hP3.reads'
    obtain ⟨y3, hy3⟩ : ∃ q, txt f.body = q := ⟨_, rfl⟩
    rw [hy3] at hR3 ⊢
    obtain ⟨n3, hn3⟩ : ∃ q, y3.length = q := ⟨_, rfl⟩
    rw [hn3] at hR3 ⊢
    have HN3 : Hid (n3 ≤ 2097162) := Lib.hid (by rw [← hn3, ← hy3]; exact Nat.le_trans (txt_length (by have := HL.out.body; omega)) (by have := HL.out.body; omega))
    have HLN3 : Hid (a2.length + n3 ≤ 140737488355328) := Lib.hid (by have := HN3.out; have := HB2.out; omega)
    have HY3 := Lib.hid hy3
    have HE3 := Lib.hid hn3
    clear hb2 hF2 hO2 hc3 hP3 q3 hy3 hn3
    go_wp2_with (at_builtin; refine push_row (w0 := w) w.heap.size rfl (.tmp 101) (.tmp 104) 22 y3 A3 n3 c3 rfl Tryz.underlying22 u8_info rfl rfl hO3 hR3 hb3 hb3.size HLN3.out ?_)
    intro v4 w4 hO4 hb4 hg4 _
    have hF4 := keepG hF3 hO3 hg4
    obtain ⟨a4, ha4⟩ : ∃ q, a2 ++ y3 = q := ⟨_, rfl⟩
    rw [ha4] at hO4
    have HB4 : Hid (a4.length ≤ 2097172) := Lib.hid (by rw [← ha4, List.length_append, HE3.out]; have := HN3.out; have := HB2.out; omega)
    have HA4 : Hid (a4 = a2 ++ txt f.body) := Lib.hid (by rw [← ha4, HY3.out])
    clear hF3 hO3 hb3 hR3 hg4 HLN3 ha4
    have HE : Hid (a4 = bodyF f) := Lib.hid (by rw [HA4.out, HA2.out]; unfold bodyF layF; rw [if_neg (by rw [HKK.out]; decide), if_neg (by rw [HKK.out]; decide), if_neg (by rw [HKK.out]; decide), if_neg (by rw [HKK.out]; decide), if_pos HKK.out])
    rw [HE.out] at hO4
    go_wp2_with fail
    go_ret
    exact ⟨_, rfl, hO4, hb4⟩
  have b6 : (f.k == 6) = false := by rw [beq_eq_false_iff_ne]; exact k6
  have HE : Hid (a2 = bodyF f) := Lib.hid (by rw [HA2.out]; unfold bodyF layF; rw [if_neg k1, if_neg k2, if_neg k3, if_neg k4, if_neg k6, List.append_nil])
  rw [HE.out] at hO2
  clear k1 k2 k3 k4 k6
  go_wp2_with fail
  go_ret
  exact ⟨_, rfl, hO2, hb2⟩
end
end Go.Proofs.YtpjpgcjhdbiepaaGreat
end
/-! The contracts of what reads a kind's fields: hello, request. -/
section
namespace Go.Proofs.YtpjpgcjhdbiepaaGreat
open Go.RowKit Go.Kit Go.Proofs.YtpjpgcjhdbiepaaGreatW.PrintWords
/-- A call of a region that draws its order, by a contract. -/
theorem at_call {P : Program} {ops : Array Oper} {o : Oper} {a : Act} {w : World} {K : Act → World → Prop} {Q : Exit → Act → World → Prop} {E : Prop} {f : FuncId} {args : Array Value} {R : Value → World → Prop} (hw : Region.wanted o (yielded ops a.tmps) = true)
    (he : (execOp a.eval o).run P w = .ok (.enter f args) w) (hc : Calls P f args w fun e w' => ∃ v, e = .returned v ∧ R v w') (hK : ∀ v w', R v w' → K (a.put o.dst v) w') : if Region.wanted o (yielded ops a.tmps) = true then Oper.wp P o a w K Q else E := by
  rw [if_pos hw]
  unfold Oper.wp
  rw [he, Oper.upon_enter]
  refine hc.mono ?_
  rintro e w' ⟨v, rfl, hR⟩
  exact hK v w' hR
/-- The tool copied out of what was read. -/
theorem at_copy_tool {ops : Array Oper} {o : Oper} {a : Act} {W : World} {K : Act → World → Prop} {Q : Exit → Act → World → Prop} {E : Prop} (x y : Operand) (hgd : o.guard = none)
    (ho : o.op = .call { callee := .builtin .copy, args := #[x, y], argTypes := #[22, 22] }) {g base : Nat} {v : Value} {ts : List Int} {F : Fr} (hd : a.eval x = .slice (some ⟨g, 4, none⟩) 32 32) (hs : a.eval y = v)
    (hO : OB 5 W base v ts) (hl : ts.length = 32 ∨ ts = []) (hF : F.at_ 48 W g)
    (hK : ∀ w' k, ({ F with tool := if ts.length = 32 then ts else F.tool } : Fr).at_ 48 w' g → Only W w' (fun k => k = g) → K (a.put o.dst (goInt k)) w') : if Region.wanted o (yielded ops a.tmps) = true then Oper.wp Tryz.prog o a W K Q else E := by
  refine at_list (by simp [Region.wanted, hgd]) (fun Q2 hQ => ?_)
  obtain ⟨A, c, hv, hr⟩ := hO.reads
  rcases hl with hl | hl
  · obtain ⟨ad, rfl, hc⟩ := hr.cells (by omega)
    have h32 : (nums .u8 ts).length = 32 := by rw [nums_length, hl]
    refine wpList_copy_own hgd x y 22 22 ho 5 Tryz.underlying22 u8_size g 4 32 32 ad ts.length c hd (hs.trans hv) F.arr 48 hF.blk (nums .u8 ts) (by rw [h32, hl]; rfl) hc (by rw [h32, Fr.arr_size F hF.tool]; omega) (nums_one _ _) ?_
    unfold wpList
    refine hQ _ _ (hK _ _ ?_ (Fr.only_row _ _ _))
    rw [if_pos hl]
    exact hF.tooled ts hl
  · subst hl
    refine wpList_copy_nothing hgd x y 22 22 ho 5 Tryz.underlying22 u8_size (some ⟨g, 4, none⟩) A 32 32 0 c hd (hs.trans hv) rfl ?_
    unfold wpList
    exact hQ _ _ (hK _ 0 hF (Only.refl _ _))
section
variable {w : World} {r g n c : Nat} {A : Option Addr} {D : Rd}
theorem rawS_len {D D1 : Rd} {ts : List Int} (hok : D.ok) (h : rawS D 32 = (D1, ts)) : ts.length = 32 ∨ ts = [] := by
  unfold rawS at h
  split at h
  · cases h; exact .inr rfl
  split at h
  · cases h; exact .inr rfl
  split at h
  · cases h; exact .inr rfl
  · have := hok.2.1
    cases h
    left
    rw [List.length_take, List.length_drop]
    omega
set_option maxHeartbeats 8000000 in
set_option maxRecDepth 100000 in
theorem hello_read (h : RS w r A n c D) (hF : (kF 1).at_ 48 w g) (hs : ¬ rdf r A g) : Calls Tryz.prog 108 #[.pointer (some ⟨r, 0, none⟩), .pointer (some ⟨g, 0, none⟩)] w (KindPost w r g n c A D 1) := by
  go_enter Tryz.func108, Tryz.ntmps108
  go_wp2_with fail
  refine (part_any h 1 (by omega)).mono ?_
  rintro e w2 ⟨D1, v, HC, hR, ho, (⟨HV, rfl⟩ | ⟨HV, rfl⟩)⟩
  · have hF2 := hF.only ho (notr hs)
    have q1 := hF2.c2
    have f1 := hF2.fz 2
    have ho2 := (Only.refl w (fun k => k = r ∨ k = g)).orr ho
    have hF3 := hF2.set2 (v : Int)
    have hR3 := hR.only (Fr.only_at w2 g 2 (.int .i64 (v : Int))) (sepg hs)
    have ho3 := ho2.org (Fr.only_at w2 g 2 (.int .i64 (v : Int)))
    clear hF hF2 hR ho ho2
    go_wp2_with fail
    generalize w2.setCell ⟨g, 2, none⟩ (.int .i64 (v : Int)) = w3 at *
    clear q1 f1
    refine (part_any hR3 64 (by omega)).mono ?_
    rintro e w4 ⟨D2, s, HC2, hR4, ho4, (⟨HV2, rfl⟩ | ⟨HV2, rfl⟩)⟩
    · have hF4 := hF3.only ho4 (notr hs)
      have q1 := hF4.c3
      have f1 := hF4.fz 3
      have ho5 := ho3.orr ho4
      have hF5 := hF4.set3 (s : Int)
      have hR5 := hR4.only (Fr.only_at w4 g 3 (.int .i64 (s : Int))) (sepg hs)
      have ho6 := ho5.org (Fr.only_at w4 g 3 (.int .i64 (s : Int)))
      clear hF3 hF4 hR3 hR4 ho3 ho4 ho5
      go_wp2_with fail
      generalize w4.setCell ⟨g, 3, none⟩ (.int .i64 (s : Int)) = w5 at *
      clear q1 f1
      have hb5 : Below w5.heap.size w5 w5.drew := below_drew (Below.refl _ _)
      have hF6 := hF5.below hb5
      have hR6 := hR5.below hb5
      have ho7 := ho6.below hb5
      clear hF5 hR5 ho6 hb5
      have hc : Calls Tryz.prog 89 #[.pointer (some ⟨r, 0, none⟩), .int .i64 32] w5.drew fun e w' => ∃ v, e = .returned v ∧ ∃ D3 ts, Hid (rawS D2 32 = (D3, ts)) ∧ OB 5 w' w5.drew.heap.size v ts ∧ RS w' r A n c D3 ∧ Only w5.drew w' (fun k => k = r) :=
        (Raw_any hR6 32 (by omega)).mono (fun e w7 ⟨D3, v7, ts, he, h7⟩ => ⟨v7, he, D3, ts, h7⟩)
      have hok := hR6.ok
      go_region_law (first
        | (refine at_call ?_ ?_ hc ?_; kernel_rfl; go_simp; rintro v7 w7 ⟨D3, ts, HT, hO7, hR7, ho8⟩; have hF7 := hF6.only ho8 (notr hs); have ho9 := ho7.orr ho8; have hts := rawS_len hok HT.out; clear hF6 hR6 ho7 ho8)
        | (refine at_copy_tool (.tmp 17) (.tmp 19) rfl rfl rfl rfl hO7 hts hF7 ?_; intro w8 k8 hF8 ho8))
      have hR8 := hR7.only ho8 (sepg hs)
      have ho10 := ho9.org ho8
      have HK : Hid (kindS D 1 = (D3, ({ kF 1 with v := (v : Int), s := (s : Int), tool := if ts.length = 32 then ts else z32 } : Fr).core)) := Lib.hid (by
        show helloS D = _
        unfold helloS; rw [someS_some HC.out HV.out]; dsimp only; rw [someS_some HC2.out HV2.out]; dsimp only; rw [HT.out]; rfl)
      clear hc hO7 hR7 hF7 ho9 ho8 hts hok
      go_wp2_with fail
      exact bodyPost_end (v := .tuple #[]) (by simp [results, Tryz.results108, go_sem]) rfl (.inl ⟨D3, _, rfl, HK, hR8, hF8, ⟨hF8.tool, rt_none _ rfl rfl rfl⟩, OwnA.none _ _ ⟨rfl, rfl, rfl, rfl⟩, ho10⟩)
    · have ho5 := ho3.orr ho4
      have hF4 := hF3.only ho4 (notr hs)
      have HK : Hid ((kindS D 1).1 = D1.fail 70 D1.at_) := Lib.hid (by
        have hbad : (D1.fail 70 D1.at_).why ≠ 0 := by show (70 : Int) ≠ 0; decide
        show (helloS D).1 = _
        have h0 := HV2.out.2
        subst h0
        unfold helloS; rw [someS_some HC.out HV.out]; dsimp only; rw [someS_none HC2.out HV2.out.1]; dsimp only; rw [rawS_bad hbad])
      clear hF3 hR3 ho3 hR4 ho4
      refine ⟨rfl, .inr ⟨_, ?_, ?_, hF4, ho5⟩⟩
      · rw [HK.out]; rfl
      · exact Lib.hid (by rw [HK.out]; rfl)
  · have ho5 := (Only.refl w (fun k => k = r ∨ k = g)).orr ho
    have hF4 := hF.only ho (notr hs)
    have HK : Hid ((kindS D 1).1 = D.fail 70 D.at_) := Lib.hid (by
      have hbad : (D.fail 70 D.at_).why ≠ 0 := by show (70 : Int) ≠ 0; decide
      show (helloS D).1 = _
      have h0 := HV.out.2
      subst h0
      unfold helloS; rw [someS_none HC.out HV.out.1]; dsimp only; rw [someS_bad hbad]; dsimp only; rw [rawS_bad hbad])
    clear hF hR ho
    refine ⟨rfl, .inr ⟨_, ?_, ?_, hF4, ho5⟩⟩
    · rw [HK.out]; rfl
    · exact Lib.hid (by rw [HK.out]; rfl)
set_option maxHeartbeats 8000000 in
set_option maxRecDepth 100000 in
theorem request_read (h : RS w r A n c D) (hn : n ≤ 4398046511104) (hF : (kF 2).at_ 48 w g) (hs : ¬ rdf r A g) : Calls Tryz.prog 114 #[.pointer (some ⟨r, 0, none⟩), .pointer (some ⟨g, 0, none⟩)] w (KindPost w r g n c A D 2) := by
  go_enter Tryz.func114, Tryz.ntmps114
  have hoz := Only.refl w (fun k => k = r ∨ k = g)
  go_wp2_with fail
  refine (Uint_any h).mono ?_
  rintro e w2 ⟨D1, v1, rfl, H1, hR1a, ho1a⟩
  have hF1a := hF.only ho1a (notr hs)
  have q1 := hF1a.c1
  have f1 := hF1a.fz 1
  have ho1b := hoz.orr ho1a
  have hF1 := hF1a.set1 (v1 : Int)
  have hR1 := hR1a.only (Fr.only_at w2 g 1 (.int .u64 (v1 : Int))) (sepg hs)
  have ho1 := ho1b.org (Fr.only_at w2 g 1 (.int .u64 (v1 : Int)))
  clear h hF hoz hF1a hR1a ho1a ho1b
  go_wp2_with fail
  generalize w2.setCell ⟨g, 1, none⟩ (.int .u64 (v1 : Int)) = w3 at *
  clear q1 f1
  refine (Count_any hR1 2147483648 (by omega)).mono ?_
  rintro e w4 ⟨D2, v2, rfl, H2, hR2a, ho2a⟩
  have hF2a := hF1.only ho2a (notr hs)
  have q2 := hF2a.c37
  have f2 := hF2a.fz 37
  have ho2b := ho1.orr ho2a
  have hF2 := hF2a.set37 (v2 : Int)
  have hR2 := hR2a.only (Fr.only_at w4 g 37 (.int .i64 (v2 : Int))) (sepg hs)
  have ho2 := ho2b.org (Fr.only_at w4 g 37 (.int .i64 (v2 : Int)))
  clear hR1 hF1 ho1 hF2a hR2a ho2a ho2b
  go_wp2_with fail
  generalize w4.setCell ⟨g, 37, none⟩ (.int .i64 (v2 : Int)) = w5 at *
  clear q2 f2
  refine (Count_any hR2 2147483648 (by omega)).mono ?_
  rintro e w6 ⟨D3, v3, rfl, H3, hR3a, ho3a⟩
  have hF3a := hF2.only ho3a (notr hs)
  have q3 := hF3a.c38
  have f3 := hF3a.fz 38
  have ho3b := ho2.orr ho3a
  have hF3 := hF3a.set38 (v3 : Int)
  have hR3 := hR3a.only (Fr.only_at w6 g 38 (.int .i64 (v3 : Int))) (sepg hs)
  have ho3 := ho3b.org (Fr.only_at w6 g 38 (.int .i64 (v3 : Int)))
  clear hR2 hF2 ho2 hF3a hR3a ho3a ho3b
  go_wp2_with fail
  generalize w6.setCell ⟨g, 38, none⟩ (.int .i64 (v3 : Int)) = w7 at *
  clear q3 f3
  refine (Count_any hR3 2147483648 (by omega)).mono ?_
  rintro e w8 ⟨D4, v4, rfl, H4, hR4a, ho4a⟩
  have hF4a := hF3.only ho4a (notr hs)
  have q4 := hF4a.c39
  have f4 := hF4a.fz 39
  have ho4b := ho3.orr ho4a
  have hF4 := hF4a.set39 (v4 : Int)
  have hR4 := hR4a.only (Fr.only_at w8 g 39 (.int .i64 (v4 : Int))) (sepg hs)
  have ho4 := ho4b.org (Fr.only_at w8 g 39 (.int .i64 (v4 : Int)))
  clear hR3 hF3 ho3 hF4a hR4a ho4a ho4b
  go_wp2_with fail
  generalize w8.setCell ⟨g, 39, none⟩ (.int .i64 (v4 : Int)) = w9 at *
  clear q4 f4
  refine (List_any hR4 hn 8 4096 (by omega) (by omega)).mono ?_
  rintro e w10 ⟨D5, v5, l5, rfl, H5, hO5, hR5a, ho5a⟩
  obtain ⟨A5, c5, rfl, hT5, hc5, hA5⟩ := hO5.open_
  have hF5a := hF4.only ho5a (notr hs)
  have q5 := hF5a.c40
  have f5 := hF5a.fz 40
  have ho5b := ho4.orr ho5a
  have hF5 := hF5a.set40 A5 l5.length c5 l5
  have hR5 := hR5a.only (Fr.only_at w10 g 40 (.slice A5 l5.length c5)) (sepg hs)
  have ho5 := ho5b.org (Fr.only_at w10 g 40 (.slice A5 l5.length c5))
  have hb5 := ho4.size
  have hT5b := hT5.apart (Fr.only_at w10 g 40 (.slice A5 l5.length c5)) (fun a e hg => by have := (hA5 a e).1; have := hF4.lt; omega)
  replace hA5 : ∀ a, A5 = some a → w.heap.size ≤ a.block ∧ ¬ a.block = r ∧ ¬ a.block = g := fun a e => by
    have h1 := (hA5 a e).1
    have h2 := hF4.lt
    have h3 := lt_of_block hR4.rk
    exact ⟨by omega, by omega, by omega⟩
  have hO5b := ot_only hO5 (Fr.only_at w10 g 40 (.slice A5 l5.length c5)) (fun k hk e => by obtain ⟨a, e2, rfl⟩ := own_block_at hk; exact (hA5 a e2).2.2 e)
  replace hO5b := hO5b.less (Nat.le_trans hb5 (Nat.le_refl _))
  clear hO5 hT5
  clear hR4 hF4 ho4 hF5a hR5a ho5a ho5b
  go_wp2_with fail
  generalize w10.setCell ⟨g, 40, none⟩ (.slice A5 l5.length c5) = w11 at *
  clear q5 f5
  refine (Text_any hR5 2097152 (by omega)).mono ?_
  rintro e w12 ⟨D6, v6, rfl, H6, hR6a, ho6a⟩
  have hF6a := hF5.only ho6a (notr hs)
  have q6 := hF6a.c41
  have f6 := hF6a.fz 41
  have ho6b := ho5.orr ho6a
  have hF6 := hF6a.set41 v6
  have hR6 := hR6a.only (Fr.only_at w12 g 41 (.string v6)) (sepg hs)
  have ho6 := ho6b.org (Fr.only_at w12 g 41 (.string v6))
  have hT6 := (hT5b.apart ho6a (fun a e => (hA5 a e).2.1)).apart (Fr.only_at w12 g 41 (.string v6)) (fun a e => (hA5 a e).2.2)
  have hO6 := ot_only (ot_only hO5b ho6a (fun k hk e => by obtain ⟨a, e2, rfl⟩ := own_block_at hk; exact (hA5 a e2).2.1 e)) (Fr.only_at w12 g 41 (.string v6)) (fun k hk e => by obtain ⟨a, e2, rfl⟩ := own_block_at hk; exact (hA5 a e2).2.2 e)
  clear hR5 hF5 ho5 hF6a hR6a ho6a ho6b
  have HK : Hid (kindS D 2 = (D6, ({ kF 2 with id := (v1 : Int), mo := (v2 : Int), fu := (v3 : Int), di := (v4 : Int), A := A5, n := l5.length, c := c5, args := l5, body := v6 } : Fr).core)) := Lib.hid (by
    show requestS D = _
    unfold requestS; rw [H1.out]; dsimp only; rw [H2.out]; dsimp only; rw [H3.out]; dsimp only; rw [H4.out]; dsimp only; rw [H5.out]; dsimp only; rw [H6.out]; rfl)
  go_wp2_with fail
  exact bodyPost_end (v := .tuple #[]) (by simp [results, Tryz.results114, go_sem]) rfl (.inl ⟨D6, _, rfl, HK, hR6, hF6, ⟨rfl, hT6⟩, hO6, ho6⟩)
end
end Go.Proofs.YtpjpgcjhdbiepaaGreat
end
