/- A number's bytes: seven bits each, the last one below 128. No program here. -/
import Derived.WalkKit
namespace Go.Proofs.Ytagocmbcbbhehaa
def uv (v : Nat) : List UInt8 := if v < 128 then [UInt8.ofNat v] else UInt8.ofNat (v % 128 + 128) :: uv (v / 128)
termination_by v
decreasing_by omega
theorem uv_small {v : Nat} (h : v < 128) : uv v = [UInt8.ofNat v] := by rw [uv, if_pos h]
theorem uv_big {v : Nat} (h : ¬ v < 128) : uv v = UInt8.ofNat (v % 128 + 128) :: uv (v / 128) := by rw [uv, if_neg h]
theorem uv_pos (v : Nat) : 1 ≤ (uv v).length := by
  by_cases h : v < 128
  · rw [uv_small h]; simp
  · rw [uv_big h]; simp
theorem uv_le (k : Nat) : ∀ v : Nat, v < 128 ^ (k + 1) → (uv v).length ≤ k + 1 := by
  induction k with
  | zero =>
    intro v h
    rw [uv_small (by simpa using h)]
    simp
  | succ k ih =>
    intro v h
    by_cases hv : v < 128
    · rw [uv_small hv]; simp
    · rw [uv_big hv, List.length_cons]
      have := ih (v / 128) (by rw [Nat.div_lt_iff_lt_mul (by decide)]; rw [Nat.pow_succ] at h; exact h)
      omega
theorem uv_ten {v : Nat} (h : v < 18446744073709551616) : (uv v).length ≤ 10 := uv_le 9 v (by omega)
/-- a byte of seven bits and the mark -/
theorem or128 (v : Nat) : bits .or .u8 ((v % 256 : Nat) : Int) 128 = (((UInt8.ofNat (v % 128 + 128)).toNat : Nat) : Int) := by
  have h := u8_or_nat (v % 256) 128 (Nat.mod_lt _ (by decide)) (by decide)
  have e : (v % 256) ||| 128 = v % 128 + 128 := by
    have : ∀ b : Fin 256, b.val ||| 128 = b.val % 128 + 128 := by decide +kernel
    have := this ⟨v % 256, Nat.mod_lt _ (by decide)⟩
    simp only at this
    omega
  rw [show (128 : Int) = ((128 : Nat) : Int) from rfl, h, e]
  simp
  omega
end Go.Proofs.Ytagocmbcbbhehaa
