/- Small laws on words: or, xor, and, shifts, as numbers. Over any program. -/
import Derived.WalkKit
import Derived.Laws.BitsAllLaws
import Derived.Laws.BitsLemmas
namespace Go.Proofs.Ytagocmbcbbhehaa
open Go.RowKit

theorem ret_int {k : IntKind} {a b : Int} (h : a = b) : Ending.returned (.int k a) = .returned (.int k b) := by rw [h]
theorem ret_bool {a b : Bool} (h : a = b) : Ending.returned (.bool a) = .returned (.bool b) := by rw [h]
theorem val_int {k : IntKind} {a b : Int} (h : a = b) : Value.int k a = Value.int k b := by rw [h]
theorem or8 (x y : Int) (hx0 : 0 ≤ x) (hx : x < 16777216) (hy0 : 0 ≤ y) (hy : y < 256) : bits .or .u32 (x * 256 % 4294967296) (y % 4294967296) = x * 256 + y := by
  rw [Int.emod_eq_of_lt (by omega) (by omega), Int.emod_eq_of_lt (by omega) (by omega)]
  exact bits_join .u32 32 (Nat.le_refl _) (fun n h0 h1 => by simp [IntKind.wrap_u32]; omega) 8 _ _ (by omega) (by omega) (by omega) hy0 (by omega) (by omega)
theorem or0 (y : Int) (hy0 : 0 ≤ y) (hy : y < 256) : bits .or .u32 0 (y % 4294967296) = y := by
  have := or8 0 y (by omega) (by omega) hy0 hy
  simpa using this
theorem or_four (a b c d : Int) (a0 : 0 ≤ a) (a1 : a < 256) (b0 : 0 ≤ b) (b1 : b < 256) (c0 : 0 ≤ c) (c1 : c < 256) (d0 : 0 ≤ d) (d1 : d < 256) :
    bits .or .u32 (bits .or .u32 (bits .or .u32 (bits .or .u32 0 (a % 4294967296) * 256 % 4294967296) (b % 4294967296) * 256 % 4294967296) (c % 4294967296) * 256 % 4294967296) (d % 4294967296) = a * 16777216 + b * 65536 + c * 256 + d := by
  rw [or0 a a0 a1, or8 a b a0 (by omega) b0 b1, or8 (a * 256 + b) c (by omega) (by omega) c0 c1, or8 ((a * 256 + b) * 256 + c) d (by omega) (by omega) d0 d1]
  omega
theorem and1_u32 (r : Nat) (h : r < 4294967296) : bits .and .u32 (r : Int) 1 = ((r % 2 : Nat) : Int) := by
  rw [show (1 : Int) = ((1 : Nat) : Int) from rfl, u32_and_nat r 1 h (by omega), Nat.and_one_is_mod]
theorem and15_u32 (r : Nat) (h : r < 4294967296) : bits .and .u32 (r : Int) 15 = ((r % 16 : Nat) : Int) := by
  rw [show (15 : Int) = ((15 : Nat) : Int) from rfl, u32_and_nat r 15 h (by omega), show (15 : Nat) = 2 ^ 4 - 1 from rfl, Nat.and_two_pow_sub_one_eq_mod]
theorem xor_u32 (a b : Nat) (ha : a < 4294967296) (hb : b < 4294967296) : bits .xor .u32 (a : Int) (b : Int) = ((a ^^^ b : Nat) : Int) := u32_xor_nat a b ha hb
theorem ones_xor (r : Nat) (h : r < 4294967296) : 4294967295 ^^^ r = 4294967295 - r := by
  apply Nat.eq_of_testBit_eq
  intro i
  have h1 := Nat.testBit_two_pow_sub_succ (n := 32) (x := r) h i
  rw [show 2 ^ 32 - (r + 1) = 4294967295 - r from by omega] at h1
  have h2 : (4294967295 : Nat).testBit i = decide (i < 32) := by
    have := Nat.testBit_two_pow_sub_one 32 i
    exact this
  rw [h1, Nat.testBit_xor, h2]
  by_cases hi : i < 32
  · simp [hi]
  · have : r.testBit i = false := Nat.testBit_lt_two_pow (Nat.lt_of_lt_of_le h (Nat.pow_le_pow_right (n := 2) (by omega) (show 32 ≤ i by omega)))
    simp [hi, this]
theorem not_u32 (r : Nat) (h : r < 4294967296) : bits .xor .u32 IntKind.u32.max (r : Int) = ((4294967295 - r : Nat) : Int) := by
  rw [show IntKind.u32.max = ((4294967295 : Nat) : Int) from by decide +kernel, xor_u32 4294967295 r (by omega) h, ones_xor r h]
/-- 'int(uint(x) % uint(S + 1))' is a number from 0 to S -/
theorem mod_form (x : Int) (S : Nat) (hS : S < 4611686018427387904) : ∃ r : Nat, wrap64 ((IntKind.u64.wrap x).tmod ((S : Int) + 1)) = (r : Int) ∧ r ≤ S := by
  obtain ⟨y, hy, hy0⟩ : ∃ y : Int, IntKind.u64.wrap x = y ∧ 0 ≤ y := ⟨_, rfl, by rw [IntKind.wrap_u64]; exact Int.emod_nonneg _ (by decide)⟩
  rw [hy, Int.tmod_eq_emod_of_nonneg hy0]
  have h1 := Int.emod_nonneg y (show (S : Int) + 1 ≠ 0 by omega)
  have h2 := Int.emod_lt_of_pos y (show 0 < (S : Int) + 1 by omega)
  obtain ⟨r, hr⟩ := Int.eq_ofNat_of_zero_le h1
  rw [hr] at h2 ⊢
  exact ⟨r, IntWalk.wrap64_in _ ⟨by omega, by omega⟩, by omega⟩
end Go.Proofs.Ytagocmbcbbhehaa
