/- CRC-32C on natural numbers: the register's step, its linearity, that a change of up to four bytes in a row is told. No program here. -/
namespace Go.Proofs.Ytemgiodakoojiaa.Crc

/-- one bit of the register -/
def step (r : Nat) : Nat := if r % 2 = 1 then (r / 2) ^^^ 2197175160 else r / 2
def step4 (r : Nat) : Nat := step (step (step (step r)))
def step8 (r : Nat) : Nat := step4 (step4 r)
def upd (r b : Nat) : Nat := step8 (r ^^^ b)
def reg (r : Nat) (l : List UInt8) : Nat := l.foldl (fun r b => upd r b.toNat) r
def crc (l : List UInt8) : Nat := 4294967295 - reg 4294967295 l

theorem step_lt {r : Nat} (h : r < 4294967296) : step r < 4294967296 := by
  unfold step
  split
  · exact Nat.xor_lt_two_pow (n := 32) (by omega) (by omega)
  · omega
theorem step4_lt {r : Nat} (h : r < 4294967296) : step4 r < 4294967296 := step_lt (step_lt (step_lt (step_lt h)))
theorem step8_lt {r : Nat} (h : r < 4294967296) : step8 r < 4294967296 := step4_lt (step4_lt h)
theorem xor_lt32 {a b : Nat} (ha : a < 4294967296) (hb : b < 4294967296) : a ^^^ b < 4294967296 := Nat.xor_lt_two_pow (n := 32) ha hb
theorem upd_lt {r b : Nat} (h : r < 4294967296) (hb : b < 256) : upd r b < 4294967296 := step8_lt (xor_lt32 h (by omega))
theorem reg_lt {r : Nat} (h : r < 4294967296) (l : List UInt8) : reg r l < 4294967296 := by
  induction l generalizing r with
  | nil => exact h
  | cons b l ih => exact ih (upd_lt h b.toNat_lt)
theorem reg_append (r : Nat) (a b : List UInt8) : reg r (a ++ b) = reg (reg r a) b := List.foldl_append
theorem reg_nil (r : Nat) : reg r [] = r := rfl
theorem reg_snoc (r : Nat) (a : List UInt8) (b : UInt8) : reg r (a ++ [b]) = upd (reg r a) b.toNat := by rw [reg_append]; rfl

theorem xor_half (a b : Nat) : (a ^^^ b) / 2 = (a / 2) ^^^ (b / 2) := by
  apply Nat.eq_of_testBit_eq; intro i; simp [Nat.testBit_div_two, Nat.testBit_xor]
theorem xor_odd (a b : Nat) : (a ^^^ b) % 2 = (a % 2 + b % 2) % 2 := by
  have h := Nat.xor_mod_two_eq_one (a := a) (b := b)
  have ha := Nat.mod_two_eq_zero_or_one a
  have hb := Nat.mod_two_eq_zero_or_one b
  have hc := Nat.mod_two_eq_zero_or_one (a ^^^ b)
  omega
theorem step_xor (a b : Nat) : step (a ^^^ b) = step a ^^^ step b := by
  unfold step
  rw [xor_odd, xor_half]
  rcases Nat.mod_two_eq_zero_or_one a with ha | ha <;> rcases Nat.mod_two_eq_zero_or_one b with hb | hb <;> simp [ha, hb]
  · rw [Nat.xor_assoc]
  · rw [Nat.xor_assoc, Nat.xor_comm (b / 2), Nat.xor_assoc]
  · rw [Nat.xor_assoc, Nat.xor_comm 2197175160, Nat.xor_assoc, Nat.xor_self, Nat.xor_zero]
theorem step4_xor (a b : Nat) : step4 (a ^^^ b) = step4 a ^^^ step4 b := by simp [step4, step_xor]
theorem step8_xor (a b : Nat) : step8 (a ^^^ b) = step8 a ^^^ step8 b := by simp [step8, step4_xor]

theorem step_even (q : Nat) : step (2 * q) = q := by unfold step; rw [if_neg (by omega)]; omega
theorem step4_16 (q : Nat) : step4 (16 * q) = q := by
  unfold step4
  rw [show 16 * q = 2 * (2 * (2 * (2 * q))) from by omega, step_even, step_even, step_even, step_even]
theorem split16 (r : Nat) : r = (16 * (r / 16)) ^^^ (r % 16) := by
  apply Nat.eq_of_testBit_eq
  intro i
  have h1 : (16 * (r / 16)).testBit i = (decide (4 ≤ i) && r.testBit i) := by
    have := Nat.testBit_two_pow_mul (i := 4) (a := r / 2 ^ 4) (j := i)
    rw [show (2 : Nat) ^ 4 = 16 from rfl] at this
    rw [this]
    by_cases h : 4 ≤ i
    · simp only [h, decide_true, Bool.true_and]
      rw [show (16 : Nat) = 2 ^ 4 from rfl, Nat.testBit_div_two_pow, Nat.sub_add_cancel h]
    · simp [h]
  have h2 : (r % 16).testBit i = (decide (i < 4) && r.testBit i) := by
    have := Nat.testBit_mod_two_pow r 4 i
    rw [show (2 : Nat) ^ 4 = 16 from rfl] at this
    rw [this]
  rw [Nat.testBit_xor, h1, h2]
  by_cases h : 4 ≤ i
  · have h' : ¬ i < 4 := by omega
    simp [h, h']
  · have h' : i < 4 := by omega
    simp [h, h']
/-- the nibble's table -/
theorem step4_table (r : Nat) : step4 r = step4 (r % 16) ^^^ (r / 16) := by
  have h := step4_xor (16 * (r / 16)) (r % 16)
  rw [← split16 r, step4_16] at h
  rw [h, Nat.xor_comm]

/-! a change is told -/
theorem step_zero {a : Nat} (h : a < 4294967296) (h0 : step a = 0) : a = 0 := by
  unfold step at h0
  split at h0
  · have hx : a / 2 = 2197175160 := by
      have := congrArg (· ^^^ 2197175160) h0
      simp only [Nat.xor_assoc, Nat.xor_self, Nat.xor_zero, Nat.zero_xor] at this
      exact this
    omega
  · omega
theorem xor_eq_zero {a b : Nat} (h : a ^^^ b = 0) : a = b := by
  have := congrArg (· ^^^ b) h
  simpa only [Nat.xor_assoc, Nat.xor_self, Nat.xor_zero, Nat.zero_xor] using this
theorem step_small {a k : Nat} (ha : a < 4294967296) (hk : k ≤ 31) (h : step a < 2 ^ k) : a = 2 * step a := by
  have hk' : 2 ^ k ≤ 2 ^ 31 := Nat.pow_le_pow_right (by omega) hk
  unfold step at h ⊢
  split at h
  · exfalso
    have hb : (a / 2 ^^^ 2197175160).testBit 31 = true := by
      rw [Nat.testBit_xor, Nat.testBit_lt_two_pow (x := a / 2) (i := 31) (by omega)]
      decide
    have := Nat.ge_two_pow_of_testBit hb
    omega
  · rename_i hne
    rw [if_neg hne]
    omega
theorem step4_small {a k : Nat} (ha : a < 4294967296) (hk : k ≤ 28) (h : step4 a < 2 ^ k) : a = 16 * step4 a := by
  unfold step4 at h ⊢
  have l1 := step_lt ha
  have l2 := step_lt l1
  have l3 := step_lt l2
  have e4 := step_small l3 (by omega) h
  have e3 := step_small (k := k + 1) l2 (by omega) (by rw [Nat.pow_succ]; omega)
  have e2 := step_small (k := k + 2) l1 (by omega) (by rw [Nat.pow_succ, Nat.pow_succ]; omega)
  have e1 := step_small (k := k + 3) ha (by omega) (by rw [Nat.pow_succ, Nat.pow_succ, Nat.pow_succ]; omega)
  omega
theorem step8_small {a k : Nat} (ha : a < 4294967296) (hk : k ≤ 24) (h : step8 a < 2 ^ k) : a = 256 * step8 a := by
  unfold step8 at h ⊢
  have l1 := step4_lt ha
  have e2 := step4_small l1 (by omega) h
  have e1 := step4_small (k := k + 4) ha (by omega) (by rw [show k + 4 = k + 1 + 1 + 1 + 1 from rfl, Nat.pow_succ, Nat.pow_succ, Nat.pow_succ, Nat.pow_succ]; omega)
  omega
theorem upd_xor (a x b y : Nat) : upd a x ^^^ upd b y = step8 ((a ^^^ x) ^^^ (b ^^^ y)) := by unfold upd; rw [← step8_xor]
theorem step8_zero {a : Nat} (h : a < 4294967296) (h0 : step8 a = 0) : a = 0 := by
  have := step8_small (k := 0) h (by omega) (by omega)
  omega
theorem upd_inj {a b x : Nat} (ha : a < 4294967296) (hb : b < 4294967296) (hx : x < 256) (h : upd a x = upd b x) : a = b := by
  have h0 : upd a x ^^^ upd b x = 0 := by rw [h, Nat.xor_self]
  rw [upd_xor] at h0
  have h1 := step8_zero (xor_lt32 (xor_lt32 ha (by omega)) (xor_lt32 hb (by omega))) h0
  have h2 := xor_eq_zero h1
  have := congrArg (· ^^^ x) h2
  simpa only [Nat.xor_assoc, Nat.xor_self, Nat.xor_zero] using this
theorem reg_inj {a b : Nat} (ha : a < 4294967296) (hb : b < 4294967296) (l : List UInt8) (h : reg a l = reg b l) : a = b := by
  induction l generalizing a b with
  | nil => exact h
  | cons x l ih => exact upd_inj ha hb x.toNat_lt (ih (upd_lt ha x.toNat_lt) (upd_lt hb x.toNat_lt) h)
theorem four_xor (a x b y : Nat) : a ^^^ b = ((a ^^^ x) ^^^ (b ^^^ y)) ^^^ (x ^^^ y) := by
  apply Nat.eq_of_testBit_eq
  intro i
  simp only [Nat.testBit_xor]
  cases a.testBit i <;> cases b.testBit i <;> cases x.testBit i <;> cases y.testBit i <;> rfl
theorem burst_tail (l k : List UInt8) (hl : l.length = k.length) (h3 : l.length ≤ 3) {a b : Nat} (ha : a < 4294967296) (hb : b < 4294967296) (h : reg a l = reg b k) : a ^^^ b < 2 ^ (8 * l.length) := by
  induction l generalizing k a b with
  | nil =>
    cases k with
    | nil => have : a = b := h; subst this; rw [Nat.xor_self]; exact Nat.two_pow_pos _
    | cons y k => simp at hl
  | cons x l ih =>
    cases k with
    | nil => simp at hl
    | cons y k =>
      simp only [List.length_cons] at hl h3 ⊢
      have hx := x.toNat_lt
      have hy := y.toNat_lt
      have h1 := ih k (by omega) (by omega) (upd_lt ha hx) (upd_lt hb hy) h
      rw [upd_xor] at h1
      have hz := xor_lt32 (xor_lt32 ha (b := x.toNat) (by omega)) (xor_lt32 hb (b := y.toNat) (by omega))
      have h2 := step8_small hz (by omega) h1
      rw [four_xor a x.toNat b y.toNat]
      refine Nat.xor_lt_two_pow ?_ (Nat.lt_of_lt_of_le (Nat.xor_lt_two_pow (n := 8) (by omega) (by omega)) (Nat.pow_le_pow_right (by omega) (by omega)))
      rw [h2, show 8 * (l.length + 1) = 8 * l.length + 8 from by omega, Nat.pow_add]
      omega
theorem burst (l k : List UInt8) (hl : l.length = k.length) (h4 : l.length ≤ 4) {a : Nat} (ha : a < 4294967296) (h : reg a l = reg a k) : l = k := by
  induction l generalizing k a with
  | nil =>
    cases k with
    | nil => rfl
    | cons y k => simp at hl
  | cons x l ih =>
    cases k with
    | nil => simp at hl
    | cons y k =>
      simp only [List.length_cons] at hl h4
      have hx := x.toNat_lt
      have hy := y.toNat_lt
      have h1 := burst_tail l k (by omega) (by omega) (upd_lt ha hx) (upd_lt ha hy) h
      rw [upd_xor] at h1
      have hz := xor_lt32 (xor_lt32 ha (b := x.toNat) (by omega)) (xor_lt32 ha (b := y.toNat) (by omega))
      have h2 := step8_small hz (by omega) h1
      have h3 : (a ^^^ x.toNat) ^^^ (a ^^^ y.toNat) = x.toNat ^^^ y.toNat := by
        have := four_xor a x.toNat a y.toNat
        rw [Nat.xor_self] at this
        exact xor_eq_zero this.symm
      have h5 : x.toNat ^^^ y.toNat < 256 := Nat.xor_lt_two_pow (n := 8) hx hy
      rw [h3] at h2
      have h6 : x.toNat ^^^ y.toNat = 0 := by omega
      have h7 : x = y := UInt8.toNat_inj.1 (xor_eq_zero h6)
      subst h7
      rw [ih k (by omega) (by omega) (upd_lt ha hx) h]
/-- the register parts, if the bytes do in at most four in a row -/
theorem reg_told (p l k s : List UInt8) (hl : l.length = k.length) (h4 : l.length ≤ 4) {a : Nat} (ha : a < 4294967296) (h : reg a (p ++ (l ++ s)) = reg a (p ++ (k ++ s))) : l = k := by
  simp only [reg_append] at h
  exact burst l k hl h4 (reg_lt ha p) (reg_inj (reg_lt (reg_lt ha p) l) (reg_lt (reg_lt ha p) k) s h)
theorem crc_lt (l : List UInt8) : crc l < 4294967296 := by unfold crc; omega
theorem crc_eq_iff (l k : List UInt8) : crc l = crc k ↔ reg 4294967295 l = reg 4294967295 k := by
  have h1 := reg_lt (show (4294967295 : Nat) < 4294967296 by omega) l
  have h2 := reg_lt (show (4294967295 : Nat) < 4294967296 by omega) k
  unfold crc
  omega
theorem crc_nine : crc [49, 50, 51, 52, 53, 54, 55, 56, 57] = 3808858755 := by decide +kernel
end Go.Proofs.Ytemgiodakoojiaa.Crc
