/-! The plain law of the check sums: 32 bits, one step, the product, moves. -/
namespace CrcM
abbrev W := BitVec 32
def poly : W := 0x82f63b78#32
/-- One step: the product with the first power. -/
def M (c : W) : W := if c.getLsbD 0 then (c >>> 1) ^^^ poly else c >>> 1
def Mn : Nat → W → W
  | 0, c => c
  | n + 1, c => Mn n (M c)
theorem xlc (a b c : W) : a ^^^ (b ^^^ c) = b ^^^ (a ^^^ c) := by rw [← BitVec.xor_assoc, BitVec.xor_comm a b, BitVec.xor_assoc]
theorem xself (a b : W) : a ^^^ (a ^^^ b) = b := by rw [← BitVec.xor_assoc]; simp
def one : W := 1#32 <<< 31

theorem M_xor (a b : W) : M (a ^^^ b) = M a ^^^ M b := by
  unfold M
  rw [BitVec.getLsbD_xor, BitVec.ushiftRight_xor_distrib]
  cases a.getLsbD 0 <;> cases b.getLsbD 0 <;> simp [BitVec.xor_assoc, BitVec.xor_comm, xlc, xself]
theorem M_zero : M 0#32 = 0#32 := by decide
theorem Mn_xor (n : Nat) : ∀ a b : W, Mn n (a ^^^ b) = Mn n a ^^^ Mn n b := by
  induction n with
  | zero => intro a b; rfl
  | succ n ih => intro a b; simp only [Mn, M_xor, ih]
theorem Mn_zero (n : Nat) : Mn n 0#32 = 0#32 := by
  induction n with
  | zero => rfl
  | succ n ih => rw [Mn, M_zero, ih]
theorem Mn_add (m n : Nat) : ∀ c, Mn (m + n) c = Mn n (Mn m c) := by
  induction m with
  | zero => intro c; simp [Mn]
  | succ m ih => intro c; rw [Nat.succ_add]; simp only [Mn, ih]
theorem Mn_succ' (n : Nat) (c : W) : Mn (n + 1) c = M (Mn n c) := by rw [Mn_add n 1]; rfl
theorem Mn_M (n : Nat) (c : W) : Mn n (M c) = M (Mn n c) := by rw [← Mn_succ', Mn]

/-- The product, the highest bit the power 0: n bits of a are still to come. -/
def tl : Nat → W → W → W → W
  | 0, _, _, p => p
  | n + 1, a, b, p => tl n a (M b) (if a.getLsbD n then p ^^^ b else p)
def times (a b : W) : W := tl 32 a b 0#32

theorem tl_left (n : Nat) : ∀ a a' b p p' : W, tl n (a ^^^ a') b (p ^^^ p') = tl n a b p ^^^ tl n a' b p' := by
  induction n with
  | zero => intros; rfl
  | succ n ih =>
    intro a a' b p p'
    simp only [tl]
    rw [← ih, BitVec.getLsbD_xor]
    congr 1
    cases a.getLsbD n <;> cases a'.getLsbD n <;> simp [BitVec.xor_assoc, BitVec.xor_comm, xlc, xself]
theorem tl_right (n : Nat) : ∀ a b b' p p' : W, tl n a (b ^^^ b') (p ^^^ p') = tl n a b p ^^^ tl n a b' p' := by
  induction n with
  | zero => intros; rfl
  | succ n ih =>
    intro a b b' p p'
    simp only [tl]
    rw [← ih, M_xor]
    congr 1
    cases a.getLsbD n <;> simp [BitVec.xor_assoc, BitVec.xor_comm, xlc]
theorem tl_M (n : Nat) : ∀ a b p : W, tl n a (M b) (M p) = M (tl n a b p) := by
  induction n with
  | zero => intros; rfl
  | succ n ih =>
    intro a b p
    simp only [tl]
    rw [← ih]
    congr 1
    cases a.getLsbD n <;> simp [M_xor]
theorem times_left (a a' b : W) : times (a ^^^ a') b = times a b ^^^ times a' b := by
  unfold times; rw [← tl_left]; simp
theorem times_right (a b b' : W) : times a (b ^^^ b') = times a b ^^^ times a b' := by
  unfold times; rw [← tl_right]; simp
theorem times_M (a b : W) : times a (M b) = M (times a b) := by
  unfold times; rw [← tl_M, M_zero]
theorem times_Mn (n : Nat) : ∀ a b : W, times a (Mn n b) = Mn n (times a b) := by
  induction n with
  | zero => intros; rfl
  | succ n ih => intro a b; simp only [Mn]; rw [ih, times_M]

theorem bit_one (k n : Nat) (hn : n < 32) : (1#32 <<< k).getLsbD n = decide (n = k) := by
  rw [BitVec.getLsbD_shiftLeft]
  by_cases h : n < k
  · simp [h]; omega
  · by_cases e : n = k
    · subst e; simp [hn]
    · simp [h, e, hn, BitVec.getLsbD_one]; omega
theorem tl_high (n : Nat) : ∀ (k : Nat) (b p : W), n ≤ 32 → n ≤ k → tl n (1#32 <<< k) b p = p := by
  induction n with
  | zero => intros; rfl
  | succ n ih =>
    intro k b p hn hk
    simp only [tl]
    rw [bit_one k n (by omega), ih k _ _ (by omega) (by omega)]
    simp; omega
theorem tl_bit (n : Nat) : ∀ (k : Nat) (b p : W), n ≤ 32 → k < n → tl n (1#32 <<< k) b p = p ^^^ Mn (n - 1 - k) b := by
  induction n with
  | zero => intro k b p _ h; omega
  | succ n ih =>
    intro k b p hn hk
    simp only [tl]
    rw [bit_one k n (by omega)]
    by_cases e : n = k
    · subst e
      rw [tl_high n n _ _ (by omega) (by omega)]
      simp [Mn]
    · rw [ih k _ _ (by omega) (by omega)]
      rw [show n + 1 - 1 - k = n - 1 - k + 1 from by omega]
      simp [e, Mn]
theorem times_bit (k : Nat) (hk : k < 32) (b : W) : times (1#32 <<< k) b = Mn (31 - k) b := by
  unfold times; rw [tl_bit 32 k b _ (by omega) hk]; simp

/-- Whatever holds of 0 and the bits, and of sums, holds of all. -/
theorem by_bits (P : W → Prop) (h0 : P 0#32) (hx : ∀ a b, P a → P b → P (a ^^^ b)) (hb : ∀ k, k < 32 → P (1#32 <<< k)) (a : W) : P a := by
  have key : ∀ n, n ≤ 32 → P (BitVec.ofNat 32 (a.toNat % 2 ^ n)) := by
    intro n
    induction n with
    | zero => intro _; simpa [Nat.mod_one] using h0
    | succ n ih =>
      intro hn
      have e : BitVec.ofNat 32 (a.toNat % 2 ^ (n + 1)) = BitVec.ofNat 32 (a.toNat % 2 ^ n) ^^^ (if a.getLsbD n then 1#32 <<< n else 0#32) := by
        apply BitVec.eq_of_getLsbD_eq
        intro i hi
        rw [BitVec.getLsbD_xor, BitVec.getLsbD_ofNat, BitVec.getLsbD_ofNat, Nat.testBit_mod_two_pow, Nat.testBit_mod_two_pow]
        by_cases h : a.getLsbD n = true
        · rw [if_pos h, bit_one n i hi]
          by_cases e : i = n
          · subst e; simp [hi, BitVec.getLsbD] at *; simp [h]
          · have : (i < n + 1) = (i < n) := by simp; omega
            simp [e, this]
        · rw [if_neg h]
          by_cases e : i = n
          · subst e; simp [BitVec.getLsbD] at *; simp [h]
          · have : (i < n + 1) = (i < n) := by simp; omega
            simp [this]
      rw [e]
      refine hx _ _ (ih (by omega)) ?_
      split
      · exact hb n (by omega)
      · exact h0
  have := key 32 (by omega)
  rw [Nat.mod_eq_of_lt a.isLt] at this
  simpa using this

theorem times_zero_left (b : W) : times 0#32 b = 0#32 := by
  have := times_left 0#32 0#32 b; simpa using this
theorem times_zero_right (a : W) : times a 0#32 = 0#32 := by
  have := times_right a 0#32 0#32; simpa using this
theorem bit_pow (k : Nat) (hk : k < 32) : (1#32 <<< k : W) = Mn (31 - k) one := by
  have h : ∀ j : Fin 32, (1#32 <<< j.val : W) = Mn (31 - j.val) one := by decide +kernel
  exact h ⟨k, hk⟩
theorem times_one (a : W) : times a one = a := by
  refine by_bits (fun a => times a one = a) (times_zero_left _) ?_ ?_ a
  · intro a b ha hb; rw [times_left, ha, hb]
  · intro k hk; rw [times_bit k hk, bit_pow k hk]
theorem one_times (b : W) : times one b = b := by
  have := times_bit 31 (by omega) b; simpa [one, Mn] using this
theorem times_comm (a b : W) : times a b = times b a := by
  refine by_bits (fun a => times a b = times b a) (by rw [times_zero_left, times_zero_right]) ?_ ?_ a
  · intro a a' ha hb; rw [times_left, times_right, ha, hb]
  · intro k hk; rw [times_bit k hk, bit_pow k hk, times_Mn, times_one]
theorem M_times (a b : W) : times (M a) b = M (times a b) := by rw [times_comm, times_M, times_comm]
theorem Mn_times (n : Nat) (a b : W) : times (Mn n a) b = Mn n (times a b) := by rw [times_comm, times_Mn, times_comm]
theorem times_assoc (a b c : W) : times (times a b) c = times a (times b c) := by
  refine by_bits (fun a => times (times a b) c = times a (times b c)) (by simp only [times_zero_left]) ?_ ?_ a
  · intro a a' ha hb; rw [times_left, times_left, times_left, ha, hb]
  · intro k hk; rw [times_bit k hk, times_bit k hk, Mn_times]
theorem pow_times (n : Nat) (c : W) : times (Mn n one) c = Mn n c := by rw [Mn_times, one_times]

/-- M is one to one. -/
theorem M_zero_of (c : W) (h : M c = 0#32) : c = 0#32 := by
  unfold M at h
  by_cases h0 : c.getLsbD 0 = true
  · rw [if_pos h0] at h
    have : ((c >>> 1) ^^^ poly).getLsbD 31 = true := by
      rw [BitVec.getLsbD_xor, BitVec.getLsbD_ushiftRight, BitVec.getLsbD_of_ge _ _ (by omega)]; decide
    rw [h] at this; simp at this
  · rw [if_neg h0] at h
    apply BitVec.eq_of_getLsbD_eq
    intro i hi
    cases i with
    | zero => simpa using h0
    | succ i =>
      have : (c >>> 1).getLsbD i = (0#32).getLsbD i := by rw [h]
      rw [BitVec.getLsbD_ushiftRight] at this
      rw [Nat.add_comm 1 i] at this
      simpa using this
theorem Mn_zero_of (n : Nat) : ∀ c, Mn n c = 0#32 → c = 0#32 := by
  induction n with
  | zero => intro c h; exact h
  | succ n ih => intro c h; exact M_zero_of c (ih _ h)

/-! Bytes -/
def byt (x : Int) : W := BitVec.ofInt 32 x
def over (c : W) (l : List Int) : W := l.foldl (fun c x => Mn 8 (c ^^^ byt x)) c
theorem over_append (c : W) (l r : List Int) : over c (l ++ r) = over (over c l) r := by unfold over; rw [List.foldl_append]
theorem over_nil (c : W) : over c [] = c := rfl
theorem over_cons (c : W) (x : Int) (l : List Int) : over c (x :: l) = over (Mn 8 (c ^^^ byt x)) l := rfl
theorem over_snoc (c : W) (x : Int) (l : List Int) : over c (l ++ [x]) = Mn 8 (over c l ^^^ byt x) := by rw [over_append]; rfl
/-- What stands in the sum beforehand is moved on over the bytes. -/
theorem over_xor (l : List Int) : ∀ c d : W, over (c ^^^ d) l = over c l ^^^ Mn (8 * l.length) d := by
  induction l with
  | nil => intro c d; rfl
  | cons x l ih =>
    intro c d
    rw [over_cons, over_cons, show c ^^^ d ^^^ byt x = (c ^^^ byt x) ^^^ d from by rw [BitVec.xor_assoc, BitVec.xor_assoc, BitVec.xor_comm d], Mn_xor, ih, ← Mn_add]
    rw [show 8 + 8 * l.length = 8 * (x :: l).length from by simp; omega]
theorem M_shl (c : W) (h : c.getLsbD 31 = false) : M (c <<< 1) = c := by
  unfold M
  rw [if_neg (by simp)]
  apply BitVec.eq_of_getLsbD_eq
  intro i hi
  rw [BitVec.getLsbD_ushiftRight, BitVec.getLsbD_shiftLeft]
  by_cases e : i = 31
  · subst e; rw [h]; simp
  · simp; intro; omega
theorem Mn_shl (n : Nat) : ∀ c : W, (∀ i, 32 - n ≤ i → c.getLsbD i = false) → n ≤ 32 → Mn n (c <<< n) = c := by
  induction n with
  | zero => intro c _ _; simp [Mn]
  | succ n ih =>
    intro c h hn
    rw [Mn, BitVec.shiftLeft_add, M_shl, ih c (fun i hi => h i (by omega)) (by omega)]
    rw [BitVec.getLsbD_shiftLeft]
    by_cases e : 31 < n
    · simp [e]
    · simp [e, h (31 - n) (by omega)]
/-- A byte's step by the table. -/
theorem Mn8_split (y : W) : Mn 8 y = (y >>> 8) ^^^ Mn 8 (y &&& 255#32) := by
  have e : y = (y &&& 255#32) ^^^ ((y >>> 8) <<< 8) := by
    apply BitVec.eq_of_getLsbD_eq
    intro i hi
    rw [BitVec.getLsbD_xor, BitVec.getLsbD_and, BitVec.getLsbD_shiftLeft, BitVec.getLsbD_ushiftRight]
    have h255 : (255#32 : W).getLsbD i = decide (i < 8) := by
      have : ∀ j : Fin 32, (255#32 : W).getLsbD j.val = decide (j.val < 8) := by decide
      exact this ⟨i, hi⟩
    rw [h255]
    by_cases h : i < 8
    · simp [h]
    · simp [h, hi]; rw [show 8 + (i - 8) = i from by omega, BitVec.getLsbD_eq_getElem hi]
  have h8 : Mn 8 ((y >>> 8) <<< 8) = y >>> 8 := Mn_shl 8 _ (fun i hi => by rw [BitVec.getLsbD_ushiftRight]; exact BitVec.getLsbD_of_ge _ _ (by omega)) (by omega)
  have h := congrArg (Mn 8) e
  rw [Mn_xor, h8, BitVec.xor_comm] at h
  exact h
/-! The moves, bit by bit of the length -/
theorem pow_mul (a b : Nat) : times (Mn a one) (Mn b one) = Mn (b + a) one := by rw [pow_times, Mn_add]
theorem half_even (N k : Nat) (h : N / 2 ^ k % 2 = 0) : N % 2 ^ (k + 1) = N % 2 ^ k := by
  rw [Nat.pow_succ, Nat.mod_mul, h]; simp
theorem half_odd (N k : Nat) (h : N / 2 ^ k % 2 = 1) : N % 2 ^ (k + 1) = N % 2 ^ k + 2 ^ k := by
  rw [Nat.pow_succ, Nat.mod_mul, h]; simp
theorem half_half (N k : Nat) : N / 2 ^ k / 2 = N / 2 ^ (k + 1) := by rw [Nat.div_div_eq_div_mul, ← Nat.pow_succ]
theorem half_done (N k : Nat) (h : N / 2 ^ k = 0) : N % 2 ^ k = N := by
  have := Nat.div_add_mod N (2 ^ k); rw [h] at this; simpa using this
theorem eighth : (1#32 <<< 23 : W) = Mn (8 * 2 ^ 0) one := by decide
theorem twice (k : Nat) : times (Mn (8 * 2 ^ k) one) (Mn (8 * 2 ^ k) one) = Mn (8 * 2 ^ (k + 1)) one := by
  rw [pow_mul]; congr 1; rw [Nat.pow_succ]; omega
theorem more_p (N k : Nat) (h : N / 2 ^ k % 2 = 1) : times (Mn (8 * (N % 2 ^ k)) one) (Mn (8 * 2 ^ k) one) = Mn (8 * (N % 2 ^ (k + 1))) one := by
  rw [pow_mul, half_odd N k h]; congr 1; omega
theorem more_c (N k : Nat) (c : W) (h : N / 2 ^ k % 2 = 1) : times (Mn (8 * 2 ^ k) one) (Mn (8 * (N % 2 ^ k)) c) = Mn (8 * (N % 2 ^ (k + 1))) c := by
  rw [pow_times, ← Mn_add, half_odd N k h]; congr 1; omega

/-! A byte turned -/
theorem byt_step (c : W) (x : Int) : Mn 8 (c ^^^ byt x) = Mn 8 c ^^^ Mn 8 (byt x) := Mn_xor 8 c _
theorem over_turn (l1 l2 : List Int) (x y m : Int) (c : W) (h : byt y = byt x ^^^ byt m) : over c (l1 ++ y :: l2) = over c (l1 ++ x :: l2) ^^^ Mn (8 * l2.length) (Mn 8 (byt m)) := by
  rw [over_append, over_append, over_cons, over_cons, h, ← BitVec.xor_assoc, Mn_xor, over_xor]
theorem over_set (l : List Int) (j : Nat) (m y : Int) (c : W) (hj : j < l.length) (h : byt y = byt (l.getD j 0) ^^^ byt m) :
    over c (l.set j y) = over c l ^^^ Mn (8 * (l.length - 1 - j)) (Mn 8 (byt m)) := by
  have e : l = l.take j ++ l[j] :: l.drop (j + 1) := by simp
  have e2 : l.set j y = l.take j ++ y :: l.drop (j + 1) := List.set_eq_take_append_cons_drop.trans (if_pos hj)
  rw [List.getD_eq_getElem?_getD, List.getElem?_eq_getElem hj] at h
  rw [e2, over_turn (l.take j) (l.drop (j + 1)) l[j] y m c h, ← e, List.length_drop, Nat.sub_sub, Nat.add_comm 1 j]

/-! Joined -/
theorem join_law (x y : List Int) (c : W) : over (over c x) y = over c y ^^^ Mn (8 * y.length) (over c x ^^^ c) := by
  rw [← over_xor, BitVec.xor_comm (over c x), xself]

/-! Four bytes -/
def b4 (d : W) : List Int := [((d &&& 255#32).toNat : Int), (((d >>> 8) &&& 255#32).toNat : Int), (((d >>> 16) &&& 255#32).toNat : Int), (((d >>> 24) &&& 255#32).toNat : Int)]
theorem byt_toNat (d : W) : byt ((d.toNat : Nat) : Int) = d := by unfold byt; rw [BitVec.ofInt_natCast]; simp
theorem b4_over (c d : W) : over c (b4 d) = Mn 32 (c ^^^ d) := by
  have h0 : over 0#32 (b4 d) = Mn 32 d := by
    have e1 := Mn8_split d
    have e2 := Mn8_split (d >>> 8)
    have e3 := Mn8_split (d >>> 16)
    have e4 := Mn8_split (d >>> 24)
    rw [← BitVec.shiftRight_add] at e2 e3 e4
    simp only [Nat.reduceAdd] at e2 e3 e4
    have z : d >>> 32 = 0#32 := by
      apply BitVec.eq_of_getLsbD_eq; intro i hi
      rw [BitVec.getLsbD_ushiftRight, BitVec.getLsbD_of_ge _ _ (by omega)]; simp
    unfold b4
    rw [over_cons, over_cons, over_cons, over_cons, over_nil, byt_toNat, byt_toNat, byt_toNat, byt_toNat]
    rw [show Mn 32 d = Mn 8 (Mn 8 (Mn 8 (Mn 8 d))) from by rw [← Mn_add, ← Mn_add, ← Mn_add]]
    rw [e1, Mn_xor 8 (d >>> 8), e2]
    rw [Mn_xor 8 (d >>> 16 ^^^ _), Mn_xor 8 (d >>> 16), e3]
    rw [Mn_xor 8 (d >>> 24 ^^^ _ ^^^ _), Mn_xor 8 (d >>> 24 ^^^ _), Mn_xor 8 (d >>> 24), e4, z]
    simp [Mn_xor, BitVec.xor_comm, xlc]
  have := over_xor (b4 d) 0#32 c
  rw [show 0#32 ^^^ c = c from by simp, h0] at this
  rw [this, Mn_xor, BitVec.xor_comm]; rfl

/-! Bits turned, all among thirty-two neighbours -/
theorem bit_back (b : Nat) (hb : b ≤ 8) : Mn 8 (1#32 <<< b) = Mn (8 - b) 1#32 := by
  have h : ∀ j : Fin 9, Mn 8 (1#32 <<< j.val) = Mn (8 - j.val) 1#32 := by decide +kernel
  exact h ⟨b, by omega⟩
theorem bit_back32 (b : Nat) (hb : b < 32) : Mn 32 (1#32 <<< b) = Mn (32 - b) 1#32 := by
  have h : ∀ j : Fin 32, Mn 32 (1#32 <<< j.val) = Mn (32 - j.val) 1#32 := by decide +kernel
  exact h ⟨b, hb⟩
/-- The lowest i bits. -/
def low (i : Nat) (b : W) : W := BitVec.ofNat 32 (b.toNat % 2 ^ i)
theorem low_zero (b : W) : low 0 b = 0#32 := by simp [low, Nat.mod_one]
theorem low_all (b : W) : low 32 b = b := by unfold low; rw [Nat.mod_eq_of_lt b.isLt]; simp
theorem low_succ (n : Nat) (b : W) : low (n + 1) b = low n b ^^^ (if b.getLsbD n then 1#32 <<< n else 0#32) := by
  unfold low
  apply BitVec.eq_of_getLsbD_eq
  intro i hi
  rw [BitVec.getLsbD_xor, BitVec.getLsbD_ofNat, BitVec.getLsbD_ofNat, Nat.testBit_mod_two_pow, Nat.testBit_mod_two_pow]
  by_cases h : b.getLsbD n = true
  · rw [if_pos h, bit_one n i hi]
    by_cases e : i = n
    · subst e; simp [hi, BitVec.getLsbD] at *; simp [h]
    · have : (i < n + 1) = (i < n) := by simp; omega
      simp [e, this]
  · rw [if_neg h]
    by_cases e : i = n
    · subst e; simp [BitVec.getLsbD] at *; simp [h]
    · have : (i < n + 1) = (i < n) := by simp; omega
      simp [this]
/-- One bit turned, in a text of len bytes: what its inner number becomes. -/
theorem tell_step (l : List Int) (c : W) (at_ i len : Nat) (y : Int) (hl : l.length = len) (hat : at_ + 32 ≤ 8 * len) (hi : i < 32)
    (hx : byt y = byt (l.getD ((at_ + i) / 8) 0) ^^^ (1#32 <<< ((at_ + i) % 8))) :
    over c (l.set ((at_ + i) / 8) y) = over c l ^^^ Mn (8 * len - at_ - 32) (Mn 32 (1#32 <<< i)) := by
  subst hl
  rw [over_set l ((at_ + i) / 8) (((1#32 <<< ((at_ + i) % 8) : W).toNat : Nat) : Int) y c (by omega) (by rw [byt_toNat]; exact hx)]
  rw [byt_toNat, bit_back _ (by omega), bit_back32 i hi, ← Mn_add, ← Mn_add]
  congr 2
  omega
/-- The same, beside the bits that were turned before. -/
theorem tell_more (l l0 : List Int) (c : W) (at_ i len : Nat) (b : W) (y : Int) (hl : l.length = len) (hat : at_ + 32 ≤ 8 * len) (hi : i < 32) (hb : b.getLsbD i = true)
    (hx : byt y = byt (l.getD ((at_ + i) / 8) 0) ^^^ (1#32 <<< ((at_ + i) % 8))) (h : over c l = over c l0 ^^^ Mn (8 * len - at_ - 32) (Mn 32 (low i b))) :
    over c (l.set ((at_ + i) / 8) y) = over c l0 ^^^ Mn (8 * len - at_ - 32) (Mn 32 (low (i + 1) b)) := by
  rw [tell_step l c at_ i len y hl hat hi hx, h, low_succ, if_pos hb, Mn_xor, Mn_xor, BitVec.xor_assoc]
theorem tell_same (i : Nat) (b : W) (hb : b.getLsbD i = false) : low (i + 1) b = low i b := by
  rw [low_succ, if_neg (by simp [hb])]; simp
/-- Sealed bytes: their inner number, the sum with them, is one and the same. -/
theorem sealed (c : W) (p : List Int) : over c (p ++ b4 (~~~ (over c p))) = Mn 32 (BitVec.allOnes 32) := by
  rw [over_append, b4_over]; congr 1
  apply BitVec.eq_of_getLsbD_eq; intro i hi
  rw [BitVec.getLsbD_xor, BitVec.getLsbD_not, BitVec.getLsbD_allOnes]; cases (over c p).getLsbD i <;> simp [hi]
/-- Whatever is opened has that inner number: so nothing that was turned is. -/
theorem told (c : W) (b : W) (k : Nat) (p q : List Int) (hq : over c q = over c (p ++ b4 (~~~ (over c p))) ^^^ Mn k (Mn 32 b)) (r : List Int) (hr : q = r ++ b4 (~~~ (over c r))) : b = 0#32 := by
  rw [hr, sealed, sealed] at hq
  have h : Mn k (Mn 32 b) = 0#32 := by
    have e := congrArg (fun z => Mn 32 (BitVec.allOnes 32) ^^^ z) hq
    simp only [xself, BitVec.xor_self] at e
    exact e.symm
  exact Mn_zero_of 32 b (Mn_zero_of k _ h)
end CrcM
