/- pack.Writer: Int, Mark, Amount: what they do. -/
import Derived.Test.YtagocmbcbbhehaaTr
namespace Go.Proofs.Ytagocmbcbbhehaa
open Go.RowKit
set_option maxHeartbeats 1000000 in
theorem int_pk {base g c : Nat} {A : Option Addr} {l : List UInt8} {x : Bool} {w : World} (h : WK w base g A c l x) (v : Nat) (hv : v < 18446744073709551616) (hmax : l.length + (uv v).length ≤ 140737488355328) (hb : base ≤ w.heap.size) (z : Int) (hz : zz v = z) :
    Calls Try.prog 30 #[.pointer (some ⟨g, 0, none⟩), .int .i64 z] w (Put w base g A (.returned (.tuple #[])) (l ++ uv v) x) := by
  have HC := Lib.hid (uint_pk h v hv hmax hb)
  clear h hmax hb
  by_cases h2 : v % 2 = 0
  · have hz2 : z = ((v / 2 : Nat) : Int) := by rw [← hz, zz, if_pos h2]
    obtain ⟨m, hm⟩ : ∃ m, m = v / 2 := ⟨_, rfl⟩
    rw [← hm] at hz2
    subst hz2
    have e1 : IntKind.u64.wrap (m : Int) = (m : Int) := by rw [IntKind.wrap_u64]; omega
    have e2 : IntKind.u64.wrap ((m : Int) * 2) = (v : Int) := by rw [IntKind.wrap_u64]; omega
    clear hz h2 hm hv
    go_enter Try.func30, Try.ntmps30
    go_wp2_with fail
    refine HC.out.mono ?_
    rintro e w' ⟨A', c', rfl, hd, hm⟩
    go_wp2_with fail
    go_end0
    exact ⟨A', c', rfl, hd, hm⟩
  · have hz2 : z = -((v / 2 : Nat) : Int) - 1 := by rw [← hz, zz, if_neg h2]
    obtain ⟨M, hM⟩ : ∃ M : Nat, IntKind.u64.wrap z = (M : Int) := ⟨18446744073709551615 - v / 2, by rw [hz2, IntKind.wrap_u64]; omega⟩
    have hMv : M = 18446744073709551615 - v / 2 := by rw [hz2, IntKind.wrap_u64] at hM; omega
    obtain ⟨S, hS⟩ : ∃ S : Nat, IntKind.u64.wrap ((M : Int) * 2) = (S : Int) := ⟨18446744073709551615 - v, by rw [hMv, IntKind.wrap_u64]; omega⟩
    have hSv : S = 18446744073709551615 - v := by rw [IntKind.wrap_u64] at hS; omega
    have e3 : bits .xor .u64 IntKind.u64.max (S : Int) = (v : Int) := by rw [not_u64 S (by omega), hSv]; omega
    have hzn : z < 0 := by omega
    have hzd : decide (0 ≤ z) = false := by simp; omega
    clear hz h2 hMv hSv hv hz2
    go_enter Try.func30, Try.ntmps30
    go_wp2_with fail
    refine HC.out.mono ?_
    rintro e w' ⟨A', c', rfl, hd, hm⟩
    go_wp2_with fail
    go_end0
    exact ⟨A', c', rfl, hd, hm⟩
set_option maxHeartbeats 1000000 in
theorem mark_pk {base g c : Nat} {A : Option Addr} {l : List UInt8} {x : Bool} {w : World} (h : WK w base g A c l x) (hmax : l.length + 10 ≤ 140737488355328) (hb : base ≤ w.heap.size) (b : Bool) :
    Calls Try.prog 32 #[.pointer (some ⟨g, 0, none⟩), .bool b] w (Put w base g A (.returned (.tuple #[])) (l ++ uv (if b then 1 else 0)) x) := by
  have hu1 := uv_ten (v := 1) (by omega)
  have hu0 := uv_ten (v := 0) (by omega)
  have H1 := Lib.hid (uint_pk h 1 (by omega) (by omega) hb)
  have H0 := Lib.hid (uint_pk h 0 (by omega) (by omega) hb)
  clear h hb hmax hu1 hu0
  cases b with
  | true =>
    go_enter Try.func32, Try.ntmps32
    go_wp2_with fail
    refine H1.out.mono ?_
    rintro e w' ⟨A', c', rfl, hd, hm⟩
    go_wp2_with fail
    go_end0
    exact ⟨A', c', rfl, hd, hm⟩
  | false =>
    go_enter Try.func32, Try.ntmps32
    go_wp2_with fail
    refine H0.out.mono ?_
    rintro e w' ⟨A', c', rfl, hd, hm⟩
    go_wp2_with fail
    go_end0
    exact ⟨A', c', rfl, hd, hm⟩
set_option maxHeartbeats 1000000 in
theorem amount_pk {base g c : Nat} {A : Option Addr} {l : List UInt8} {x : Bool} {w : World} (h : WK w base g A c l x) (n k : Nat) (hn : n ≤ 1048576) (hk : k ≤ 1048576) (hmax : l.length + 20 ≤ 140737488355328) (hb : base ≤ w.heap.size) :
    Calls Try.prog 41 #[.pointer (some ⟨g, 0, none⟩), .complex .f64 (fl n) (fl k)] w (Put w base g A (.returned (.tuple #[])) (l ++ (uv n ++ uv k)) x) := by
  have hu1 := uv_ten (v := n) (by omega)
  have hu2 := uv_ten (v := k) (by omega)
  have HP := Lib.hid (parts_any n k hn hk)
  have e1 : IntKind.u64.wrap (n : Int) = (n : Int) := by rw [IntKind.wrap_u64]; omega
  have e2 : IntKind.u64.wrap (k : Int) = (k : Int) := by rw [IntKind.wrap_u64]; omega
  have HH := Lib.hid h
  obtain ⟨B, hB⟩ : ∃ B, B = fl n := ⟨_, rfl⟩
  obtain ⟨C, hC⟩ : ∃ C, C = fl k := ⟨_, rfl⟩
  rw [← hB, ← hC] at HP ⊢
  clear hB hC h
  go_enter Try.func41, Try.ntmps41
  go_wp2_with fail
  refine (HP.out w).mono ?_
  rintro e w1 ⟨rfl, rfl⟩
  go_wp2_with fail
  refine (uint_pk HH.out n (by omega) (by omega) hb).mono ?_
  rintro e w1 ⟨A1, c1, rfl, hd, hm⟩
  go_wp2_with fail
  refine (uint_pk hd k (by omega) (by rw [List.length_append]; omega) (Nat.le_trans hb hm.keep.size)).mono ?_
  rintro e w2 ⟨A2, c2, rfl, hd2, hm2⟩
  go_wp2_with fail
  go_end0
  rw [List.append_assoc] at hd2
  exact ⟨A2, c2, rfl, hd2, hm.trans hm2⟩
end Go.Proofs.Ytagocmbcbbhehaa
