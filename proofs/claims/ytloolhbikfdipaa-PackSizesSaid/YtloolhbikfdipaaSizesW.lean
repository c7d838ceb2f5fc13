/- hanselaw03.PackSizes: the walk. -/
import Derived.Test.YtloolhbikfdipaaPkB
namespace Go.Proofs.Ytloolhbikfdipaa
open Go.RowKit
def us (y : Nat) : Nat := if y = 0 then 0 else (uv y).length
theorem us_step (v : Nat) : (uv v).length = 1 + us (v / 128) := by
  unfold us
  by_cases h : v < 128
  · rw [uv_small h, if_pos (by omega)]; rfl
  · rw [uv_big h, if_neg (by omega), List.length_cons]; omega
theorem us_pos {y : Nat} (h : 0 < y) : us y = 1 + us (y / 128) := by
  rw [← us_step]
  unfold us
  rw [if_neg (by omega)]
set_option maxHeartbeats 1000000 in
theorem sizes_law (x : Int) (w : World) (hx : (Lit.int .u64 x).wf = true) :
    Calls Try.prog 3 #[.int .u64 x] w fun e w' => e = .returned (.bool true) ∧ New w w' := by
  have hb : 0 ≤ x ∧ x < 18446744073709551616 := by
    simp [Lit.wf, IntKind.min, IntKind.max, IntKind.signed, IntKind.bits] at hx
    omega
  clear hx
  obtain ⟨v, rfl⟩ := Int.eq_ofNat_of_zero_le hb.1
  have hv : v < 18446744073709551616 := by omega
  have HT := Lib.hid (uv_ten hv)
  go_enter Try.func3, Try.ntmps3
  go_wp2_with fail
  refine (uint_pk (new_pk w) v hv (by have := HT.out; simp; omega) (by rw [World.size_alloc]; omega)).mono ?_
  rintro e w2 ⟨A2, c2, rfl, hd, hm⟩
  have hw2 : New w w2 := Below.trans (Below.alloc (Below.refl _ _) (Nat.le_refl _) _) (hm.below (new_pk w) (Nat.le_refl _) (by rw [World.size_alloc]; omega))
  rw [List.nil_append] at hd
  obtain ⟨z, hz⟩ : ∃ z, z = uv v := ⟨_, rfl⟩
  rw [← hz] at hd
  obtain ⟨n, hn⟩ : ∃ n, n = z.length := ⟨_, rfl⟩
  have hn10 : n ≤ 10 := by have := HT.out; rw [hn, hz]; exact this
  have hus : n = 1 + us (v / 128) := by rw [hn, hz]; exact us_step v
  go_wp2_with fail
  refine (bytes_pk hd (by omega)).mono ?_
  rintro e w3 ⟨B, d, rfl, ho, hw3⟩
  rw [← hn] at ho ⊢
  clear hd hm ho
  have HUS := Lib.hid hus
  clear hus hn hz
  go_wp2_with fail
  go_loopw [6, 7] (fun i q wr => ∃ (j y : Nat), i = .int .i64 j ∧ q = .int .u64 y ∧ y < 18446744073709551616 ∧ Hid (j + us y = n) ∧ wr = w3) (fun _ q _ => (intOf q).toNat)
  case atStart => exact ⟨1, v / 128, rfl, by go_num, by omega, HUS.out.symm, rfl⟩
  case round =>
    obtain ⟨j, y, rfl, rfl, hy, hj, rfl⟩ := hrel
    by_cases h0 : (0 : Int) < (y : Int)
    · have hj2 : j + 1 + us (y / 128) = n := by
        have := hj.out
        rw [us_pos (by omega)] at this
        omega
      have HJ := Lib.hid hj2
      have hjn : j + 1 ≤ 10 := by omega
      clear hj2
      go_wp2_with fail
      go_roundw
      case rel => exact ⟨j + 1, y / 128, by go_num, by go_num, by omega, HJ.out, by first | rfl | trivial⟩
      case measure => simp [intOf]; omega
    · have hy0 : y = 0 := by omega
      subst hy0
      have hjn : j = n := by
        have := hj.out
        unfold us at this
        simpa using this
      subst hjn
      go_wp2_with fail
      refine (wakes_any _).mono ?_
      rintro e w9 ⟨rfl, hw9⟩
      go_wp2_with fail
      go_ret
      exact ⟨rfl, New.trans hw2 (New.trans hw3 hw9)⟩
end Go.Proofs.Ytloolhbikfdipaa
