/- What was written is read: a number's bytes. No program here. -/
import Derived.Test.YtloolhbikfdipaaRd
namespace Go.Proofs.Ytloolhbikfdipaa
theorem rdF_uv (t : List UInt8) : ∀ (v i acc : Nat), v * 2 ^ (7 * i) < 18446744073709551616 → i ≤ 9 → (0 < i → 0 < v) → rdF i acc (uv v ++ t) = some (acc + v * 2 ^ (7 * i), i + (uv v).length) := by
  intro v
  induction v using Nat.strongRecOn with
  | _ v ih =>
    intro i acc hv hi hp
    have h9 : i = 9 → v < 2 := by
      rintro rfl
      have : (2 : Nat) ^ (7 * 9) = 9223372036854775808 := by decide
      omega
    by_cases hs : v < 128
    · have hb : (UInt8.ofNat v).toNat = v := by simp; omega
      rw [uv_small hs]
      show rdF i acc (UInt8.ofNat v :: t) = _
      rw [rdF_end (by rw [hb]; intro h; have := h9 h.1; omega) (by rw [hb]; omega) (by rw [hb]; intro h; have := hp h.2; omega), hb, Nat.mod_eq_of_lt hs]
      rfl
    · have hb : (UInt8.ofNat (v % 128 + 128)).toNat = v % 128 + 128 := by simp; omega
      have e1 : 2 ^ (7 * (i + 1)) = 128 * 2 ^ (7 * i) := by rw [Nat.mul_add, Nat.pow_add, Nat.mul_comm]
      have hd := Nat.div_add_mod v 128
      have e2 : v * 2 ^ (7 * i) = v / 128 * 2 ^ (7 * (i + 1)) + v % 128 * 2 ^ (7 * i) := by
        rw [e1, ← Nat.mul_assoc, ← Nat.add_mul, Nat.mul_comm (v / 128) 128, hd]
      have hi8 : i ≠ 9 := fun h => by have := h9 h; omega
      rw [uv_big hs]
      show rdF i acc (UInt8.ofNat (v % 128 + 128) :: (uv (v / 128) ++ t)) = _
      rw [rdF_more (by intro h; exact hi8 h.1) (by rw [hb]; omega), hb, ih (v / 128) (by omega) (i + 1) _ (by omega) (by omega) (fun _ => by omega), List.length_cons, e2]
      have : (v % 128 + 128) % 128 = v % 128 := by omega
      rw [this]
      congr 2
      · omega
      · omega
theorem rd_uv (v : Nat) (hv : v < 18446744073709551616) (t : List UInt8) : rd (uv v ++ t) = some (v, (uv v).length) := by
  unfold rd
  rw [rdF_uv t v 0 0 (by simpa using hv) (by omega) (by omega)]
  simp
end Go.Proofs.Ytloolhbikfdipaa
