/- hanselaw04.heavy, wakes: what they answer. -/
import Derived.Test.YtjdcikhbgbefcaaFrB
import Derived.Test.YtjdcikhbgbefcaaKeepB
import Derived.BigGuardPart
namespace Go.Proofs.Ytjdcikhbgbefcaa
open Go.RowKit
open Go.Proofs.Ytjdcikhbgbefcaa.Frm

/-- what is known of rows that are not heavy -/
def Light (ls : List (List UInt8)) : Prop := ls.length ≤ 64 ∧ ls.flatten.length ≤ 262144 ∧ ∀ l ∈ ls, l.length ≤ 262144
def HeavyPost (ls : List (List UInt8)) (w : World) (e : Ending) (w' : World) : Prop := ∃ b : Bool, e = .returned (.bool b) ∧ (b = false → Light ls) ∧ w = w'

theorem mem_upto {ls : List (List UInt8)} {k : Nat} {B : Nat} (h : ∀ j : Nat, j < k → ∀ x, ls[j]? = some x → x.length ≤ B) (hk : ls.length ≤ k) : ∀ x ∈ ls, x.length ≤ B := by
  intro x hx
  obtain ⟨j, hj, rfl⟩ := List.mem_iff_getElem.1 hx
  exact h j (by omega) _ (List.getElem?_eq_getElem hj)
set_option maxHeartbeats 1000000 in
theorem heavy_any (A : Option Addr) (n c : Nat) (ls : List (List UInt8)) (w : World) (hn : n = ls.length) (hr : RR w A ls) :
    Calls Try.prog 11 #[.slice A n c] w (HeavyPost ls w) := by
  have HN := Lib.hid hn
  clear hn
  by_cases h64 : (64 : Int) < (n : Int)
  · go_enter Try.func11, Try.ntmps11
    go_wp2
    go_ret
    exact ⟨true, rfl, (fun h => absurd h (by simp)), rfl⟩
  · go_enter Try.func11, Try.ntmps11
    go_wp2
    go_loop [3, 4] (fun v i => ∃ k s : Nat, i = .int .i64 k ∧ k ≤ n ∧ v = .int .i64 s ∧ s ≤ 524288 ∧ Hid (s = (ls.take k).flatten.length) ∧ Hid (∀ j : Nat, j < k → ∀ x, ls[j]? = some x → x.length ≤ 262144)) (fun _ i => n - (intOf i).toNat)
    case atStart => exact ⟨0, 0, rfl, Nat.zero_le _, rfl, by omega, rfl, fun j h => absurd h (by omega)⟩
    case round =>
      obtain ⟨k, s, rfl, hk, rfl, hs, hse, hall⟩ := hrel
      by_cases hlt : (k : Int) < (n : Int)
      · by_cases hsl : (s : Int) ≤ 262144
        · obtain ⟨x, hx⟩ : ∃ x, ls[k]? = some x := ⟨_, List.getElem?_eq_getElem (by rw [← HN.out]; omega)⟩
          obtain ⟨ad, X, dx, rfl, hcx, hdx, hdx2, _⟩ := hr k x hx
          have HX := Lib.hid hx
          clear hx
          unfold maxLen at hdx2
          by_cases hxl : (262144 : Int) < (x.length : Int)
          · go_wp2
            go_ret
            exact ⟨true, rfl, (fun h => absurd h (by simp)), rfl⟩
          · have hs2 : Hid (s + x.length = (ls.take (k + 1)).flatten.length) := by
              show _ = _
              rw [List.take_add_one, HX.out, List.flatten_append, List.length_append, ← hse.out]
              simp
            go_wp2
            go_round
            case rel =>
              refine ⟨k + 1, s + x.length, by go_num, by omega, by go_num, by omega, hs2, fun j hj y hy => ?_⟩
              by_cases hjk : j = k
              · rw [hjk, HX.out] at hy
                cases hy
                omega
              · exact hall.out j (by omega) y hy
            case measure => simp [intOf]; omega
        · have hdc : decide ((262144 : Int) < (s : Int)) = true := by simp; omega
          go_wp2
          go_ret
          exact ⟨true, rfl, (fun h => absurd h (by simp)), rfl⟩
      · have hdc : decide ((k : Int) < (n : Int)) = false := by simpa using hlt
        have hfin : (s ≤ 262144 → Light ls) := by
          intro h
          have hn' : n = ls.length := HN.out
          refine ⟨by omega, ?_, mem_upto hall.out (by omega)⟩
          have := hse.out
          rw [List.take_of_length_le (by omega)] at this
          omega
        have HF := Lib.hid hfin
        clear hfin
        go_wp2
        go_ret
        exact ⟨_, rfl, (fun h => HF.out (by simp at h; omega)), rfl⟩
set_option maxHeartbeats 400000 in
theorem wakes_any (w : World) : Calls Try.prog 16 #[] w fun e w' => e = .returned (.bool true) ∧ New w w' := by
  have kc := fun (w : World) (C : Array Value) (n c : Nat) => Lib.run_convert_bytes_const (P := Try.prog) w _ _ C n c u_bytes u_byte
  have h1 : RB (w.alloc (.cells #[.int .u8 49, .int .u8 50, .int .u8 51, .int .u8 52, .int .u8 53, .int .u8 54, .int .u8 55, .int .u8 56, .int .u8 57] 5 (9, 10))) (some ⟨w.heap.size, 0, none⟩) [49, 50, 51, 52, 53, 54, 55, 56, 57] := RB.lit w _ _ _ rfl
  have h2 := RR.one (n := 9) (d := 9) 25 rfl h1 (Nat.le_refl _) (by unfold maxLen; omega) (g := w.heap.size + 1) (by simp)
  have hs : (Crc.crc [49, 50, 51, 52, 53, 54, 55, 56, 57] : Int) = 3808858755 := by rw [Crc.crc_nine]; rfl
  clear h1
  go_enter Try.func16, Try.ntmps16
  go_wp2_with fail
  refine (sum_any _ 1 1 _ _ rfl (by unfold maxLen; omega) h2).mono ?_
  rintro e w1 ⟨rfl, hw1⟩
  simp only [List.flatten_cons, List.flatten_nil, List.append_nil]
  go_wp2_with fail
  go_ret
  exact ⟨rfl, New.trans (Below.alloc (Below.alloc (Below.refl _ _) (Nat.le_refl _) _) (by simp) _) hw1⟩
end Go.Proofs.Ytjdcikhbgbefcaa
