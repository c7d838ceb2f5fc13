/- math.Trunc on whole numbers; amount.whole, Right, Parts: what they do. -/
import Derived.Test.YtagocmbcbbhehaaFl
import Derived.Test.YtagocmbcbbhehaaCan
import Derived.Laws.Externs
namespace Go.Proofs.Ytagocmbcbbhehaa
open Go.RowKit
theorem fl_zero : fl 0 = 0 := by decide
theorem integral_fl {n : Nat} (h : n ≤ 1048576) : ∃ m i, Ieee.double.read (fl n) = .number false m i ∧ Ieee.double.write ((Ieee.Datum.number false m i).integral .zero) = fl n := by
  by_cases h0 : n = 0
  · subst h0
    rw [fl_zero]
    exact ⟨0, -1074, read_zero, by decide⟩
  · obtain ⟨k, hk, h1, h2⟩ := pow_cases (by omega) h
    refine ⟨_, _, read_fl hk h1 h2, ?_⟩
    obtain ⟨g1, g2⟩ := fl_frac hk h1 h2
    have hcut : Ieee.Toward.zero.cut false (n * 2 ^ (52 - k)) (52 - k) = n := by
      unfold Ieee.Toward.cut
      have hl : 52 ≤ (n * 2 ^ (52 - k)).log2 := (Nat.le_log2 (by omega)).2 (by omega)
      rw [Nat.min_eq_left (by omega), Nat.shiftLeft_eq, Nat.one_mul]
      simp [Nat.mul_div_cancel _ (Nat.two_pow_pos (52 - k))]
    have e1 : ((k : Int) - 52).toNat = 0 := by omega
    have e2 : (-((k : Int) - 52)).toNat = 52 - k := by omega
    have e : (Ieee.Datum.number false (n * 2 ^ (52 - k)) ((k : Int) - 52)).integral .zero = .number false n 0 := by
      show Ieee.Datum.number false (Ieee.Toward.zero.cut false ((n * 2 ^ (52 - k)) <<< ((k : Int) - 52).toNat) (-((k : Int) - 52)).toNat) 0 = _
      rw [e1, e2, Nat.shiftLeft_eq, Nat.pow_zero, Nat.mul_one, hcut]
    rw [e]
    have hd : decide ((n : Int) < 0) = false := by simp
    have hna : (n : Int).natAbs = n := Int.natAbs_natCast n
    have ef : fl n = Ieee.double.nearest (decide ((n : Int) < 0)) ((n : Int).natAbs) 0 := by
      unfold fl FloatKind.nearest FloatKind.encode FloatKind.format Ieee.Format.write
      rfl
    rw [ef, hd, hna]
    rfl
theorem run_integral (nm : String) (way : Ieee.Toward) (x : Nat) (s : Bool) (m : Nat) (i : Int) (h : FloatKind.f64.decode x = .number s m i) : Extern.MathFloor.toIntegral nm way #[.float .f64 x] = pure (.float .f64 (FloatKind.f64.encode ((Ieee.Datum.number s m i).integral way))) := by
  delta Extern.MathFloor.toIntegral
  generalize FloatKind.f64.decode = D at h ⊢
  conv => lhs; whnf
  rw [h]
theorem u_int : Try.prog.underlying 3 = some (.int .i64) := by kernel_rfl
theorem run_trunc (n : Nat) (h : n ≤ 1048576) (w : World) : (callFunc 93 #[.float .f64 (fl n)]).run Try.prog w = .ok (.value (.float .f64 (fl n))) w := by
  obtain ⟨m, i, h1, h2⟩ := integral_fl h
  rw [run_callFunc_extern (e := Extern.MathFloor.toIntegral "math.archTrunc" .zero) Try.func93 (by kernel_rfl) (by kernel_rfl) (by kernel_rfl) (by kernel_rfl)]
  rw [run_integral _ _ _ false m i h1]
  rw [show FloatKind.f64.encode ((Ieee.Datum.number false m i).integral .zero) = fl n from h2]
  rfl
set_option maxHeartbeats 1000000 in
theorem trunc_any (n : Nat) (h : n ≤ 1048576) (w : World) : Calls Try.prog 92 #[.float .f64 (fl n)] w fun e w' => e = .returned (.float .f64 (fl n)) ∧ w = w' := by
  have hr := run_trunc n h
  obtain ⟨B, hB⟩ : ∃ B, B = fl n := ⟨_, rfl⟩
  rw [← hB] at hr ⊢
  clear hB
  go_enter Try.func92, Try.ntmps92
  go_wp2_with fail
  go_ret
  exact ⟨rfl, rfl⟩
set_option maxHeartbeats 1000000 in
theorem whole_any (n : Nat) (h : n ≤ 1048576) (w : World) : Calls Try.prog 91 #[.float .f64 (fl n)] w fun e w' => e = .returned (.bool true) ∧ w = w' := by
  have hs := order_self n
  have HT := Lib.hid (trunc_any n h)
  have hcase : (FloatKind.f64.format.order (fl n) 0 = some .eq ∨ FloatKind.f64.format.order (fl n) 0 = some .gt) ∧ (FloatKind.f64.format.order (fl n) 4697254411347427328 = some .lt ∨ FloatKind.f64.format.order (fl n) 4697254411347427328 = some .eq) := by
    by_cases h0 : n = 0
    · subst h0
      rw [fl_zero]
      exact ⟨.inl (by decide), .inl (by decide)⟩
    · refine ⟨.inr (fl_ge0 (by omega) h), ?_⟩
      by_cases hm : n = 1048576
      · subst hm
        exact .inr (by decide +kernel)
      · exact .inl (fl_max (by omega) (by omega))
  obtain ⟨B, hB⟩ : ∃ B, B = fl n := ⟨_, rfl⟩
  rw [← hB] at hs HT hcase ⊢
  clear hB
  obtain ⟨ha, hb⟩ := hcase
  rcases ha with ha | ha <;> rcases hb with hb | hb
  all_goals
    go_enter Try.func91, Try.ntmps91
    go_wp2_with fail
    refine (HT.out _).mono ?_
    rintro e w1 ⟨rfl, rfl⟩
    go_wp2_with fail
    go_ret
    exact ⟨rfl, rfl⟩
set_option maxHeartbeats 1000000 in
theorem right_any (n k : Nat) (hn : n ≤ 1048576) (hk : k ≤ 1048576) (w : World) : Calls Try.prog 90 #[.complex .f64 (fl n) (fl k)] w fun e w' => e = .returned (.bool true) ∧ w = w' := by
  have HN := Lib.hid (whole_any n hn)
  have HK := Lib.hid (whole_any k hk)
  obtain ⟨B, hB⟩ : ∃ B, B = fl n := ⟨_, rfl⟩
  obtain ⟨C, hC⟩ : ∃ C, C = fl k := ⟨_, rfl⟩
  rw [← hB] at HN ⊢
  rw [← hC] at HK ⊢
  clear hB hC
  go_enter Try.func90, Try.ntmps90
  go_wp2_with fail
  refine (HN.out _).mono ?_
  rintro e w1 ⟨rfl, rfl⟩
  go_wp2_with fail
  refine (HK.out _).mono ?_
  rintro e w1 ⟨rfl, rfl⟩
  go_wp2_with fail
  go_ret
  exact ⟨rfl, rfl⟩
theorem to_int (n : Nat) (h : n ≤ 1048576) : floatToIntVal .f64 (fl n) .i64 = some (n : Int) := by
  unfold floatToIntVal
  have hz : (FloatKind.f64.decode (fl n)).toInt .zero = some (n : Int) := by
    by_cases h0 : n = 0
    · subst h0
      rw [fl_zero]
      decide
    · obtain ⟨k, hk, h1, h2⟩ := pow_cases (by omega) h
      obtain ⟨g1, g2⟩ := fl_frac hk h1 h2
      have hcut : Ieee.Toward.zero.cut false (n * 2 ^ (52 - k)) (52 - k) = n := by
        unfold Ieee.Toward.cut
        have hl : 52 ≤ (n * 2 ^ (52 - k)).log2 := (Nat.le_log2 (by omega)).2 (by omega)
        rw [Nat.min_eq_left (by omega), Nat.shiftLeft_eq, Nat.one_mul]
        simp [Nat.mul_div_cancel _ (Nat.two_pow_pos (52 - k))]
      have e1 : ((k : Int) - 52).toNat = 0 := by omega
      have e2 : (-((k : Int) - 52)).toNat = 52 - k := by omega
      show (Ieee.double.read (fl n)).toInt .zero = _
      rw [read_fl hk h1 h2]
      show some (Ieee.signed false (Ieee.Toward.zero.cut false ((n * 2 ^ (52 - k)) <<< ((k : Int) - 52).toNat) (-((k : Int) - 52)).toNat) 0) = _
      rw [e1, e2, Nat.shiftLeft_eq, Nat.pow_zero, Nat.mul_one, hcut]
      simp [Ieee.signed]
  rw [hz]
  simp only
  rw [if_pos]
  have a : IntKind.i64.min = -9223372036854775808 := by decide
  have b : IntKind.i64.max = 9223372036854775807 := by decide
  rw [a, b]
  omega
set_option maxHeartbeats 1000000 in
theorem parts_any (n k : Nat) (hn : n ≤ 1048576) (hk : k ≤ 1048576) (w : World) : Calls Try.prog 77 #[.complex .f64 (fl n) (fl k)] w fun e w' => e = .returned (.tuple #[.int .i64 n, .int .i64 k, .int .i64 0]) ∧ w = w' := by
  have HR := Lib.hid (right_any n k hn hk)
  have c1 := fun w => run_convert_float_int (P := Try.prog) (w := w) 177 3 .f64 .i64 (fl n) n (by kernel_rfl) u_int (to_int n hn)
  have c2 := fun w => run_convert_float_int (P := Try.prog) (w := w) 177 3 .f64 .i64 (fl k) k (by kernel_rfl) u_int (to_int k hk)
  obtain ⟨B, hB⟩ : ∃ B, B = fl n := ⟨_, rfl⟩
  obtain ⟨C, hC⟩ : ∃ C, C = fl k := ⟨_, rfl⟩
  rw [← hB, ← hC] at HR
  rw [← hB] at c1 ⊢
  rw [← hC] at c2 ⊢
  clear hB hC
  go_enter Try.func77, Try.ntmps77
  go_wp2_with fail
  refine (HR.out _).mono ?_
  rintro e w1 ⟨rfl, rfl⟩
  go_wp2_with fail
  go_ret3
  exact ⟨rfl, rfl⟩
end Go.Proofs.Ytagocmbcbbhehaa
