/- hanseref04.Sum: the CRC of the bytes. -/
import Derived.Test.YtemgiodakoojiaaFrA
namespace Go.Proofs.Ytemgiodakoojiaa
open Go.RowKit
open Go.Proofs.Ytemgiodakoojiaa.Frm
theorem take_snoc' {l : List UInt8} {m : Nat} {b : UInt8} (h : l[m]? = some b) : l.take (m + 1) = l.take m ++ [b] := by
  rw [List.take_add_one, h]; rfl
theorem refstep {R X T : Nat} (h : R ^^^ X = T) : (R + X) % 2 = T % 2 ∧ (R / 2) ^^^ (X / 2) = T / 2 := by
  subst h
  exact ⟨by rw [Crc.xor_odd]; omega, (Crc.xor_half R X).symm⟩
theorem refstep_odd {R X T : Nat} (h : R ^^^ X = T) (ho : (R + X) % 2 = 1) : ((R / 2) ^^^ 2197175160) ^^^ (X / 2) = Crc.step T := by
  obtain ⟨h1, h2⟩ := refstep h
  unfold Crc.step
  rw [if_pos (by omega), ← h2, Nat.xor_assoc, Nat.xor_comm 2197175160, Nat.xor_assoc]
theorem refstep_even {R X T : Nat} (h : R ^^^ X = T) (ho : (R + X) % 2 = 0) : (R / 2) ^^^ (X / 2) = Crc.step T := by
  obtain ⟨h1, h2⟩ := refstep h
  unfold Crc.step
  rw [if_neg (by omega), ← h2]
set_option maxHeartbeats 1000000 in
theorem rsum_any (A : Option Addr) (n c : Nat) (l : List UInt8) (w : World) (hn : n = l.length) (hmax : n ≤ maxLen) (hr : RB w A l) :
    Calls Try.prog 48 #[.slice A n c] w fun e w' => e = .returned (.int .u32 (Crc.crc l : Nat)) ∧ w = w' := by
  unfold maxLen at hmax
  have HN := Lib.hid hn
  clear hn
  go_enter Try.func48, Try.ntmps48
  go_wp2
  go_loop [3, 4] (fun r i => ∃ k : Nat, i = .int .i64 k ∧ k ≤ n ∧ r = .int .u32 (Crc.reg 4294967295 (l.take k) : Nat)) (fun _ i => n - (intOf i).toNat)
  case atStart => exact ⟨0, rfl, Nat.zero_le _, rfl⟩
  case round =>
    obtain ⟨k, rfl, hk, rfl⟩ := hrel
    have hS := Crc.reg_lt (show (4294967295 : Nat) < 4294967296 by omega) (l.take k)
    obtain ⟨S, hSe⟩ : ∃ S, S = Crc.reg 4294967295 (l.take k) := ⟨_, rfl⟩
    rw [← hSe] at hS ⊢
    have HS := Lib.hid hSe
    clear hSe
    by_cases hlt : k < n
    · obtain ⟨b, hbm⟩ : ∃ b, l[k]? = some b := ⟨_, List.getElem?_eq_getElem (by rw [← HN.out]; exact hlt)⟩
      obtain ⟨ad, rfl, hcb⟩ := hr k b hbm
      have HB := Lib.hid hbm
      clear hbm hr
      have hb8 := b.toNat_lt
      go_wp2
      go_loop [3, 5, 6] (fun r x i => ∃ m R X : Nat, i = .int .i64 m ∧ m ≤ 8 ∧ r = .int .u32 R ∧ x = .int .u32 X ∧ R < 4294967296 ∧ X < 256 ∧ X ≤ 255 / 2 ^ m ∧ R ^^^ X = stepN m (S ^^^ b.toNat)) (fun _ _ i => 8 - (intOf i).toNat)
      case atStart => exact ⟨0, S, b.toNat, rfl, by omega, rfl, rfl, hS, hb8, by omega, rfl⟩
      case round =>
        obtain ⟨m, R, X, rfl, hm, rfl, rfl, hR, hX, hXm, hx⟩ := hrel
        have HX := Lib.hid (And.intro hXm hx)
        clear hXm hx
        by_cases hlm : m < 8
        · have hhalf : X / 2 ≤ 255 / 2 ^ (m + 1) := by
            have := HX.out.1
            rw [Nat.pow_succ, ← Nat.div_div_eq_div_mul]
            exact Nat.div_le_div_right this
          have HH := Lib.hid hhalf
          clear hhalf
          by_cases hodd : (R + X) % 2 = 1
          · have hq : (((R : Int) + (X : Int)) % 2 == 1) = true := by rw [beq_iff_eq]; omega
            have hw : bits .xor .u32 ((R : Int) / 2) 2197175160 = ((R / 2 ^^^ 2197175160 : Nat) : Int) := xor_u32 (R / 2) 2197175160 (by omega) (by omega)
            have HO := Lib.hid hodd
            clear hodd
            go_wp2
            go_round
            case rel => exact ⟨m + 1, R / 2 ^^^ 2197175160, X / 2, by go_num, by omega, rfl, by go_num, Crc.xor_lt32 (by omega) (by omega), by omega, HH.out, refstep_odd HX.out.2 HO.out⟩
            case measure => simp [intOf]; omega
          · have hq : (((R : Int) + (X : Int)) % 2 == 1) = false := by rw [beq_eq_false_iff_ne]; omega
            have HO := Lib.hid hodd
            clear hodd
            go_wp2
            go_round
            case rel => exact ⟨m + 1, R / 2, X / 2, by go_num, by omega, by go_num, by go_num, by omega, by omega, HH.out, refstep_even HX.out.2 (by have : ¬ (R + X) % 2 = 1 := HO.out; omega)⟩
            case measure => simp [intOf]; omega
        · have hfin : R = Crc.reg 4294967295 (l.take (k + 1)) := by
            have h8 : m = 8 := by omega
            obtain ⟨h1, h2⟩ := HX.out
            rw [h8] at h1 h2
            have hX0 : X = 0 := by omega
            rw [hX0, Nat.xor_zero] at h2
            rw [take_snoc' HB.out, Crc.reg_snoc, ← HS.out, h2]
            rfl
          have HF := Lib.hid hfin
          clear hfin
          go_wp2
          go_round
          case rel => exact ⟨k + 1, by go_num, by omega, val_int (by rw [← HF.out])⟩
          case measure => simp [intOf]; omega
    · have hke : k = n := by omega
      have hfin : S = Crc.reg 4294967295 l := by rw [HS.out, hke, HN.out, List.take_length]
      have HF := Lib.hid hfin
      clear hke hfin
      go_wp2
      go_ret
      exact ⟨ret_int (by unfold Crc.crc; rw [← HF.out]; omega), rfl⟩
end Go.Proofs.Ytemgiodakoojiaa
