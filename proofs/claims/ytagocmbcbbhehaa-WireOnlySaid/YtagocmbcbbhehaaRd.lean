/- A number read from bytes. No program here. -/
import Derived.Test.YtagocmbcbbhehaaUv
namespace Go.Proofs.Ytagocmbcbbhehaa
/-- the number that stands ahead in bytes, of which i have been gone by, and acc read; and how many bytes it has -/
def rdF (i acc : Nat) : List UInt8 → Option (Nat × Nat)
  | [] => none
  | b :: t => if i = 9 ∧ 1 < b.toNat then none else if 127 < b.toNat then rdF (i + 1) (acc + b.toNat % 128 * 2 ^ (7 * i)) t else if b.toNat = 0 ∧ 0 < i then none else some (acc + b.toNat % 128 * 2 ^ (7 * i), i + 1)
def rd (l : List UInt8) : Option (Nat × Nat) := rdF 0 0 l
theorem rdF_nil (i acc : Nat) : rdF i acc [] = none := by rw [rdF]
theorem rdF_far {i acc : Nat} {b : UInt8} {t : List UInt8} (h1 : i = 9) (h2 : 1 < b.toNat) : rdF i acc (b :: t) = none := by rw [rdF, if_pos ⟨h1, h2⟩]
theorem rdF_more {i acc : Nat} {b : UInt8} {t : List UInt8} (h1 : ¬ (i = 9 ∧ 1 < b.toNat)) (h2 : 127 < b.toNat) : rdF i acc (b :: t) = rdF (i + 1) (acc + b.toNat % 128 * 2 ^ (7 * i)) t := by rw [rdF, if_neg h1, if_pos h2]
theorem rdF_zero {i acc : Nat} {b : UInt8} {t : List UInt8} (h1 : ¬ (i = 9 ∧ 1 < b.toNat)) (h2 : b.toNat = 0) (h3 : 0 < i) : rdF i acc (b :: t) = none := by rw [rdF, if_neg h1, if_neg (by omega), if_pos ⟨h2, h3⟩]
theorem rdF_end {i acc : Nat} {b : UInt8} {t : List UInt8} (h1 : ¬ (i = 9 ∧ 1 < b.toNat)) (h2 : ¬ 127 < b.toNat) (h3 : ¬ (b.toNat = 0 ∧ 0 < i)) : rdF i acc (b :: t) = some (acc + b.toNat % 128 * 2 ^ (7 * i), i + 1) := by rw [rdF, if_neg h1, if_neg h2, if_neg h3]
/-- the group's bits lie above those that were read -/
theorem or_group {i acc : Nat} {b : UInt8} (hi : i ≤ 9) (hb : ¬ (i = 9 ∧ 1 < b.toNat)) (ha : acc < 2 ^ (7 * i)) :
    acc ||| (b.toNat % 128 * 2 ^ (7 * i)) = acc + b.toNat % 128 * 2 ^ (7 * i) ∧ b.toNat % 128 * 2 ^ (7 * i) < 18446744073709551616 ∧ acc + b.toNat % 128 * 2 ^ (7 * i) < 18446744073709551616 ∧ acc + b.toNat % 128 * 2 ^ (7 * i) < 2 ^ (7 * (i + 1)) := by
  have h1 : b.toNat % 128 < 128 := Nat.mod_lt _ (by decide)
  have e1 : 2 ^ (7 * (i + 1)) = 128 * 2 ^ (7 * i) := by rw [Nat.mul_add, Nat.pow_add, Nat.mul_comm]
  have h2 : (b.toNat % 128 + 1) * 2 ^ (7 * i) ≤ 128 * 2 ^ (7 * i) := Nat.mul_le_mul_right _ (by omega)
  rw [Nat.add_mul, Nat.one_mul] at h2
  have h3 : acc + b.toNat % 128 * 2 ^ (7 * i) < 18446744073709551616 := by
    by_cases h9 : i = 9
    · subst h9
      have : b.toNat % 128 ≤ 1 := by omega
      have : b.toNat % 128 * 2 ^ (7 * 9) ≤ 1 * 2 ^ (7 * 9) := Nat.mul_le_mul_right _ this
      omega
    · have : 2 ^ (7 * (i + 1)) ≤ 2 ^ 63 := Nat.pow_le_pow_right (by decide) (by omega)
      omega
  refine ⟨?_, by omega, h3, by omega⟩
  have := Nat.two_pow_add_eq_or_of_lt ha (b.toNat % 128)
  rw [Nat.mul_comm] at this
  rw [Nat.or_comm, ← this, Nat.add_comm]
end Go.Proofs.Ytagocmbcbbhehaa
