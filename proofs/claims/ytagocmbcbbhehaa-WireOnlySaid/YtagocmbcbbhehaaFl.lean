/- Whole numbers up to 2^20 as words of floating point: which word, and how they compare. No program here. -/
import Derived.Test.YtagocmbcbbhehaaRdE
namespace Go.Proofs.Ytagocmbcbbhehaa
theorem word_le (f : Ieee.Format) (a b : Nat) : f.word false (min a b) ≤ b := by
  unfold Ieee.Format.word
  rw [if_neg (by simp)]
  exact Nat.min_le_right _ _
theorem nearest_le (f : Ieee.Format) (m : Nat) (p : Int) : f.nearest false m p ≤ f.infRung := by
  unfold Ieee.Format.nearest
  split
  · unfold Ieee.Format.word
    rw [if_neg (by simp)]
    exact Nat.zero_le _
  · exact word_le _ _ _
theorem order_le (f : Ieee.Format) (hi : f.infRung < f.signWeight) (r : Nat) (hr : r ≤ f.infRung) : f.order r r = some .eq := by
  have hm : r % f.signWeight = r := Nat.mod_eq_of_lt (Nat.lt_of_le_of_lt hr hi)
  unfold Ieee.Format.order Ieee.Format.read
  simp only [hm]
  split
  · simp [Ieee.Datum.order]
  · split
    · simp [Ieee.Datum.order]
    · split
      · simp [Ieee.Datum.order]
      · omega
theorem order_self (n : Nat) : FloatKind.f64.format.order (fl n) (fl n) = some .eq := by
  refine order_le Ieee.double (by decide +kernel) _ ?_
  have h : decide ((n : Int) < 0) = false := by simp
  have e : fl n = Ieee.double.nearest (decide ((n : Int) < 0)) ((n : Int).natAbs) 0 := by
    unfold fl FloatKind.nearest FloatKind.encode FloatKind.format Ieee.Format.write
    rfl
  rw [e, h]
  exact nearest_le _ _ _
theorem pow_cases {n : Nat} (h0 : 0 < n) (h : n ≤ 1048576) : ∃ k, k ≤ 20 ∧ 2 ^ k ≤ n ∧ n < 2 ^ (k + 1) := by
  refine ⟨n.log2, ?_, Nat.log2_self_le (by omega), Nat.lt_log2_self⟩
  have h1 : n.log2 < 21 := (Nat.log2_lt (by omega)).2 (by omega)
  omega
theorem cut_none (N : Nat) : Ieee.Toward.even.cut false N 0 = N := by
  unfold Ieee.Toward.cut
  simp [Nat.mod_one]
theorem fl_val {n k : Nat} (hk : k ≤ 20) (h1 : 2 ^ k ≤ n) (h2 : n < 2 ^ (k + 1)) : fl n = (k + 1022) * 4503599627370496 + n * 2 ^ (52 - k) := by
  have hp : 0 < 2 ^ k := Nat.two_pow_pos k
  have hn : n ≠ 0 := by omega
  have hl : n.log2 = k := (Nat.log2_eq_iff hn).2 ⟨h1, h2⟩
  have hd : decide ((n : Int) < 0) = false := by simp
  have e : fl n = Ieee.double.nearest (decide ((n : Int) < 0)) ((n : Int).natAbs) 0 := by
    unfold fl FloatKind.nearest FloatKind.encode FloatKind.format Ieee.Format.write
    rfl
  have hna : (n : Int).natAbs = n := Int.natAbs_natCast n
  rw [e, hd, hna]
  unfold Ieee.Format.nearest
  rw [if_neg hn, hl]
  have hlast : max ((0 : Int) + (k : Int) - (Ieee.double.fractionBits : Int)) Ieee.double.leastPlace = (k : Int) - 52 := by
    have a : Ieee.double.leastPlace = -1074 := by decide
    have b : (Ieee.double.fractionBits : Int) = 52 := by decide
    rw [a, b]
    omega
  simp only [hlast]
  have c1 : ((0 : Int) - ((k : Int) - 52)).toNat = 52 - k := by omega
  have c2 : ((k : Int) - 52 - 0).toNat = 0 := by omega
  have c3 : ((k : Int) - 52 - Ieee.double.leastPlace).toNat = k + 1022 := by
    have a : Ieee.double.leastPlace = -1074 := by decide
    rw [a]
    omega
  rw [c1, c2, c3, cut_none, Nat.shiftLeft_eq]
  unfold Ieee.Format.word
  rw [if_neg (by simp)]
  have hb : Ieee.double.binade = 4503599627370496 := by decide
  have hi : Ieee.double.infRung = 9218868437227405312 := by decide
  rw [hb, hi]
  refine Nat.min_eq_left ?_
  have h3 : n * 2 ^ (52 - k) ≤ 2 ^ (k + 1) * 2 ^ (52 - k) := Nat.mul_le_mul_right _ (Nat.le_of_lt h2)
  rw [← Nat.pow_add, show k + 1 + (52 - k) = 53 from by omega] at h3
  omega
theorem fl_frac {n k : Nat} (hk : k ≤ 20) (h1 : 2 ^ k ≤ n) (h2 : n < 2 ^ (k + 1)) : 4503599627370496 ≤ n * 2 ^ (52 - k) ∧ n * 2 ^ (52 - k) < 9007199254740992 := by
  have h3 : 2 ^ k * 2 ^ (52 - k) ≤ n * 2 ^ (52 - k) := Nat.mul_le_mul_right _ h1
  have h4 : n * 2 ^ (52 - k) < 2 ^ (k + 1) * 2 ^ (52 - k) := Nat.mul_lt_mul_of_pos_right h2 (Nat.two_pow_pos _)
  rw [← Nat.pow_add, show k + (52 - k) = 52 from by omega] at h3
  rw [← Nat.pow_add, show k + 1 + (52 - k) = 53 from by omega] at h4
  omega
theorem read_fl {n k : Nat} (hk : k ≤ 20) (h1 : 2 ^ k ≤ n) (h2 : n < 2 ^ (k + 1)) : Ieee.double.read (fl n) = .number false (n * 2 ^ (52 - k)) ((k : Int) - 52) := by
  obtain ⟨g1, g2⟩ := fl_frac hk h1 h2
  rw [fl_val hk h1 h2]
  obtain ⟨N, hN⟩ : ∃ N, N = n * 2 ^ (52 - k) := ⟨_, rfl⟩
  rw [← hN] at g1 g2 ⊢
  unfold Ieee.Format.read
  have hs : Ieee.double.signWeight = 9223372036854775808 := by decide
  have hb : Ieee.double.binade = 4503599627370496 := by decide
  have hi : Ieee.double.infRung = 9218868437227405312 := by decide
  have hl : Ieee.double.leastPlace = -1074 := by decide
  simp only [hs, hb, hi, hl]
  have e0 : ((k + 1022) * 4503599627370496 + N) / 9223372036854775808 % 2 = 0 := by omega
  have e1 : ((k + 1022) * 4503599627370496 + N) % 9223372036854775808 = (k + 1022) * 4503599627370496 + N := by omega
  rw [e0, e1, if_neg (by omega), if_pos (by omega)]
  have e2 : 4503599627370496 + ((k + 1022) * 4503599627370496 + N) % 4503599627370496 = N := by omega
  have e3 : (-1074 : Int) + (((k + 1022) * 4503599627370496 + N) / 4503599627370496 - 1 : Nat) = (k : Int) - 52 := by omega
  rw [e2, e3]
  rfl
theorem order_num {a b : Nat} {m n : Nat} {i j : Int} (ha : Ieee.double.read a = .number false m i) (hb : Ieee.double.read b = .number false n j) : FloatKind.f64.format.order a b = some (compare ((m * 2 ^ (i - min i j).toNat : Nat) : Int) ((n * 2 ^ (j - min i j).toNat : Nat) : Int)) := by
  show Ieee.double.order a b = _
  unfold Ieee.Format.order
  rw [ha, hb]
  simp only [Ieee.Datum.order, Ieee.signed, Nat.shiftLeft_eq]
  rfl
theorem read_zero : Ieee.double.read 0 = .number false 0 (-1074) := by decide
theorem read_max : Ieee.double.read 4697254411347427328 = .number false 4503599627370496 (-32) := by decide
theorem read_one : Ieee.double.read 4607182418800017408 = .number false 4503599627370496 (-52) := by decide
theorem fl_ge0 {n : Nat} (h0 : 0 < n) (h : n ≤ 1048576) : FloatKind.f64.format.order (fl n) 0 = some .gt := by
  obtain ⟨k, hk, h1, h2⟩ := pow_cases h0 h
  rw [order_num (read_fl hk h1 h2) read_zero]
  congr 1
  have : 0 < n * 2 ^ (52 - k) * 2 ^ ((k : Int) - 52 - min ((k : Int) - 52) (-1074)).toNat := Nat.mul_pos (Nat.mul_pos h0 (Nat.two_pow_pos _)) (Nat.two_pow_pos _)
  rw [Nat.zero_mul]
  rw [Int.compare_eq_gt]
  omega
theorem fl_max {n : Nat} (h0 : 0 < n) (h : n < 1048576) : FloatKind.f64.format.order (fl n) 4697254411347427328 = some .lt := by
  obtain ⟨k, hk, h1, h2⟩ := pow_cases h0 (by omega)
  rw [order_num (read_fl hk h1 h2) read_max]
  congr 1
  rw [show min ((k : Int) - 52) (-32) = (k : Int) - 52 from by omega, show ((k : Int) - 52 - ((k : Int) - 52)).toNat = 0 from by omega, show (-32 - ((k : Int) - 52)).toNat = 20 - k from by omega]
  rw [Nat.pow_zero, Nat.mul_one, Int.compare_eq_lt]
  have h3 : n * 2 ^ (52 - k) < 1048576 * 2 ^ (52 - k) := Nat.mul_lt_mul_of_pos_right h (Nat.two_pow_pos _)
  have h4 : 1048576 * 2 ^ (52 - k) = 4503599627370496 * 2 ^ (20 - k) := by
    rw [show (1048576 : Nat) = 2 ^ 20 from rfl, show (4503599627370496 : Nat) = 2 ^ 52 from rfl, ← Nat.pow_add, ← Nat.pow_add]
    congr 1
    omega
  omega
theorem fl_ge1 {n : Nat} (h0 : 0 < n) (h : n ≤ 1048576) : (FloatKind.f64.format.order (fl n) 4607182418800017408 == some .lt) = false := by
  obtain ⟨k, hk, h1, h2⟩ := pow_cases h0 h
  obtain ⟨g1, _⟩ := fl_frac hk h1 h2
  rw [order_num (read_fl hk h1 h2) read_one]
  rw [show min ((k : Int) - 52) (-52) = -52 from by omega, show ((k : Int) - 52 - -52).toNat = k from by omega, show ((-52 : Int) - -52).toNat = 0 from by omega]
  rw [Nat.pow_zero, Nat.mul_one, beq_eq_false_iff_ne]
  intro hc
  injection hc with hc
  rw [Int.compare_eq_lt] at hc
  have : n * 2 ^ (52 - k) * 1 ≤ n * 2 ^ (52 - k) * 2 ^ k := Nat.mul_le_mul_left _ (Nat.two_pow_pos k)
  omega
end Go.Proofs.Ytagocmbcbbhehaa
