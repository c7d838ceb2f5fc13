/- pack.Reader: Int, Mark, Amount; amount.Make: what they do. -/
import Derived.Test.YtagocmbcbbhehaaRdD
import Derived.Test.YtagocmbcbbhehaaBits
import Derived.Laws.Cover3
namespace Go.Proofs.Ytagocmbcbbhehaa
open Go.RowKit
theorem rdF_lt : ∀ (l : List UInt8) (i acc v k : Nat), i ≤ 9 → acc < 2 ^ (7 * i) → rdF i acc l = some (v, k) → v < 18446744073709551616 ∧ k ≤ i + l.length ∧ i < k := by
  intro l
  induction l with
  | nil => intro i acc v k _ _ h; rw [rdF_nil] at h; cases h
  | cons b t ih =>
    intro i acc v k hi ha h
    by_cases h1 : i = 9 ∧ 1 < b.toNat
    · rw [rdF_far h1.1 h1.2] at h; cases h
    · obtain ⟨_, _, g3, g4⟩ := or_group hi h1 ha
      by_cases h2 : 127 < b.toNat
      · rw [rdF_more h1 h2] at h
        have := ih (i + 1) _ v k (by omega) g4 h
        rw [List.length_cons]
        omega
      · by_cases h3 : b.toNat = 0 ∧ 0 < i
        · rw [rdF_zero h1 h3.1 h3.2] at h; cases h
        · rw [rdF_end h1 h2 h3] at h
          cases h
          rw [List.length_cons]
          omega
theorem rd_lt {l : List UInt8} {v k : Nat} (h : rd l = some (v, k)) : v < 18446744073709551616 ∧ k ≤ l.length ∧ 0 < k := by
  have := rdF_lt l 0 0 v k (by omega) (by simp) h
  omega
theorem rdU_lt {l l' : List UInt8} {e x : Int} {v : Nat} (h : rdU l e = (v, l', x)) : v < 18446744073709551616 ∧ l'.length ≤ l.length ∧ (e ≠ 0 → v = 0 ∧ l' = l ∧ x = e) ∧ (x ≠ 0 → v = 0) := by
  by_cases he : e = 0
  · subst he
    cases hr : rd l with
    | none =>
      rw [rdU_none hr] at h
      cases h
      exact ⟨by omega, Nat.le_refl _, fun h => absurd rfl h, fun _ => rfl⟩
    | some p =>
      obtain ⟨v', k⟩ := p
      rw [rdU_some hr] at h
      cases h
      exact ⟨(rd_lt hr).1, by rw [List.length_drop]; omega, fun h => absurd rfl h, fun h => absurd rfl h⟩
  · rw [rdU_err he] at h
    cases h
    exact ⟨by omega, Nat.le_refl _, fun _ => ⟨rfl, rfl, rfl⟩, fun _ => rfl⟩
theorem ones_xor64 (r : Nat) (h : r < 18446744073709551616) : 18446744073709551615 ^^^ r = 18446744073709551615 - r := by
  apply Nat.eq_of_testBit_eq
  intro i
  have h1 := Nat.testBit_two_pow_sub_succ (n := 64) (x := r) h i
  rw [show 2 ^ 64 - (r + 1) = 18446744073709551615 - r from by omega] at h1
  have h2 : (18446744073709551615 : Nat).testBit i = decide (i < 64) := by
    have := Nat.testBit_two_pow_sub_one 64 i
    exact this
  rw [h1, Nat.testBit_xor, h2]
  by_cases hi : i < 64
  · simp [hi]
  · have : r.testBit i = false := Nat.testBit_lt_two_pow (Nat.lt_of_lt_of_le h (Nat.pow_le_pow_right (n := 2) (by omega) (show 64 ≤ i by omega)))
    simp [hi, this]
theorem not_u64 (r : Nat) (h : r < 18446744073709551616) : bits .xor .u64 IntKind.u64.max (r : Int) = ((18446744073709551615 - r : Nat) : Int) := by
  rw [show IntKind.u64.max = ((18446744073709551615 : Nat) : Int) from by decide +kernel, u64_xor_nat 18446744073709551615 r (by omega) h, ones_xor64 r h]
theorem wrap64_big (x : Int) (h0 : 9223372036854775808 ≤ x) (h1 : x < 18446744073709551616) : wrap64 x = x - 18446744073709551616 := by
  unfold wrap64
  omega
/-- a whole number out of one -/
def zz (v : Nat) : Int := if v % 2 = 0 then ((v / 2 : Nat) : Int) else -((v / 2 : Nat) : Int) - 1
set_option maxHeartbeats 1000000 in
theorem int_rk {lo g c : Nat} {A : Option Addr} {l : List UInt8} {e : Int} {w : World} (h : RKp w lo g A c l e) (V : Nat) (l' : List UInt8) (x : Int) (hx : rdU l e = (V, l', x)) :
    Calls Try.prog 53 #[.pointer (some ⟨g, 0, none⟩)] w (Gotp w lo g (.returned (.int .i64 (zz V))) l' x) := by
  have HC := Lib.hid (uint_rk h V l' x hx)
  have hv := (rdU_lt hx).1
  clear h hx
  have ha : bits .and .u64 (V : Int) 1 = ((V % 2 : Nat) : Int) := by
    rw [show (1 : Int) = ((1 : Nat) : Int) from rfl, u64_and_nat V 1 hv (by omega), Nat.and_one_is_mod]
  by_cases h2 : V % 2 = 0
  · rw [h2] at ha
    go_enter Try.func53, Try.ntmps53
    go_wp2_with fail
    refine HC.out.mono ?_
    rintro e1 w1 ⟨rfl, hr, hk⟩
    go_wp2_with fail
    go_ret
    refine ⟨?_, hr, hk⟩
    refine ret_int (k := .i64) ?_
    rw [zz, if_pos h2]
    rfl
  · have h1 : V % 2 = 1 := by omega
    rw [h1] at ha
    go_enter Try.func53, Try.ntmps53
    go_wp2_with fail
    refine HC.out.mono ?_
    rintro e1 w1 ⟨rfl, hr, hk⟩
    go_wp2_with fail
    go_ret
    refine ⟨?_, hr, hk⟩
    refine ret_int (k := .i64) ?_
    rw [zz, if_neg h2, show ((V : Int) / 2) = ((V / 2 : Nat) : Int) from by omega, not_u64 _ (by omega)]
    rw [wrap64_big _ (by omega) (by omega)]
    omega
set_option maxHeartbeats 1000000 in
theorem mark_rk {lo g c : Nat} {A : Option Addr} {l : List UInt8} {e : Int} {w : World} (h : RKp w lo g A c l e) (V : Nat) (l' : List UInt8) (x : Int) (hx : rdU l e = (V, l', x)) :
    Calls Try.prog 55 #[.pointer (some ⟨g, 0, none⟩)] w (Gotp w lo g (.returned (.bool (V == 1))) l' (if 1 < V then 4 else x)) := by
  have HC := Lib.hid (uint_rk h V l' x hx)
  have hv := (rdU_lt hx).1
  clear h hx
  by_cases h1 : (1 : Int) < (V : Int)
  · rw [if_pos (by omega)]
    have hb : (V == 1) = false := by rw [beq_eq_false_iff_ne]; omega
    rw [hb]
    go_enter Try.func55, Try.ntmps55
    go_wp2_with fail
    refine HC.out.mono ?_
    rintro e1 w1 ⟨rfl, ⟨A1, c1, hr⟩, hk⟩
    have r1 := hr.c1
    have rf := hr.fr
    have HR := Lib.hid hr
    clear hr
    go_wp2_with fail
    go_ret
    exact ⟨rfl, ⟨A1, c1, rk_err HR.out 4⟩, hk.trans (Keep.setAt _ _ _ _)⟩
  · rw [if_neg (by omega)]
    have hd : decide ((1 : Int) < (V : Int)) = false := by simpa using h1
    have hb : ((V : Int) == 1) = (V == 1) := by
      rcases (show V = 0 ∨ V = 1 by omega) with rfl | rfl <;> rfl
    go_enter Try.func55, Try.ntmps55
    go_wp2_with fail
    refine HC.out.mono ?_
    rintro e1 w1 ⟨rfl, hr, hk⟩
    go_wp2_with fail
    go_ret
    exact ⟨rfl, hr, hk⟩
/-- so many as a number with a point -/
abbrev fl (n : Nat) : Nat := FloatKind.f64.nearest (n : Int)
set_option maxHeartbeats 1000000 in
theorem make_am (n k : Nat) (hn : n ≤ 1048576) (hk : k ≤ 1048576) (w : World) :
    Calls Try.prog 85 #[.int .i64 n, .int .i64 k] w fun e w' => e = .returned (.tuple #[.complex .f64 (fl n) (fl k), .int .i64 0]) ∧ w = w' := by
  have d1 : decide ((n : Int) < 0) = false := by simp
  have d2 : decide ((1048576 : Int) < (n : Int)) = false := by simp; omega
  have d3 : decide ((k : Int) < 0) = false := by simp
  have d4 : decide ((1048576 : Int) < (k : Int)) = false := by simp; omega
  go_enter Try.func85, Try.ntmps85
  go_wp2_with fail
  go_ret2
  exact ⟨rfl, rfl⟩
/-- two words, of an amount; or of none -/
def cx : Option (Nat × Nat) → Value
  | none => .complex .f64 0 0
  | some (n, k) => .complex .f64 (fl n) (fl k)
/-- an amount read -/
def rdA (l : List UInt8) (e : Int) : Option (Nat × Nat) × List UInt8 × Int :=
  if (rdU (rdU l e).2.1 (rdU l e).2.2).2.2 ≠ 0 then (none, (rdU (rdU l e).2.1 (rdU l e).2.2).2.1, (rdU (rdU l e).2.1 (rdU l e).2.2).2.2)
  else if 1048576 < (rdU l e).1 ∨ 1048576 < (rdU (rdU l e).2.1 (rdU l e).2.2).1 then (none, (rdU (rdU l e).2.1 (rdU l e).2.2).2.1, 2)
  else (some ((rdU l e).1, (rdU (rdU l e).2.1 (rdU l e).2.2).1), (rdU (rdU l e).2.1 (rdU l e).2.2).2.1, 0)
set_option maxHeartbeats 1000000 in
theorem amount_rk {lo g c : Nat} {A : Option Addr} {l : List UInt8} {e : Int} {w : World} (h : RKp w lo g A c l e) (o : Option (Nat × Nat)) (l' : List UInt8) (x : Int) (hx : rdA l e = (o, l', x)) :
    Calls Try.prog 66 #[.pointer (some ⟨g, 0, none⟩)] w (Gotp w lo g (.returned (cx o)) l' x) := by
  obtain ⟨V, l1, x1, h1⟩ : ∃ V l1 x1, rdU l e = (V, l1, x1) := ⟨_, _, _, rfl⟩
  obtain ⟨U, l2, x2, h2⟩ : ∃ U l2 x2, rdU l1 x1 = (U, l2, x2) := ⟨_, _, _, rfl⟩
  have HC := Lib.hid (uint_rk h V l1 x1 h1)
  have hV := (rdU_lt h1).1
  have hU := (rdU_lt h2).1
  unfold rdA at hx
  rw [h1] at hx
  simp only [h2] at hx
  have HX := Lib.hid hx
  have H2 := Lib.hid h2
  clear h h1 h2 hx
  go_enter Try.func66, Try.ntmps66
  go_wp2_with fail
  refine HC.out.mono ?_
  rintro e1 w1 ⟨rfl, ⟨A1, c1, hr1⟩, hk1⟩
  go_wp2_with fail
  refine (uint_rk hr1 U l2 x2 H2.out).mono ?_
  rintro e2 w2 ⟨rfl, ⟨A2, c2, hr⟩, hk2⟩
  have hk := hk1.trans hk2
  have r1 := hr.c1
  have rf := hr.fr
  have HR := Lib.hid hr
  clear hr hr1 hk1 hk2
  by_cases hx2 : x2 = 0
  · subst hx2
    by_cases hv1 : (1048576 : Int) < (V : Int)
    · go_wp2_with fail
      go_ret
      have := HX.out
      rw [if_neg (by simp), if_pos (.inl (by show 1048576 < V; omega))] at this
      cases this
      exact ⟨rfl, ⟨A2, c2, rk_err HR.out 2⟩, hk.trans (Keep.setAt _ _ _ _)⟩
    have hd1 : decide ((1048576 : Int) < (V : Int)) = false := by simpa using hv1
    by_cases hv2 : (1048576 : Int) < (U : Int)
    · go_wp2_with fail
      go_ret
      have := HX.out
      rw [if_neg (by simp), if_pos (.inr (by show 1048576 < U; omega))] at this
      cases this
      exact ⟨rfl, ⟨A2, c2, rk_err HR.out 2⟩, hk.trans (Keep.setAt _ _ _ _)⟩
    have hd2 : decide ((1048576 : Int) < (U : Int)) = false := by simpa using hv2
    have e1 : wrap64 (V : Int) = (V : Int) := IntWalk.wrap64_in _ ⟨by omega, by omega⟩
    have e2 : wrap64 (U : Int) = (U : Int) := IntWalk.wrap64_in _ ⟨by omega, by omega⟩
    go_wp2_with fail
    refine (make_am V U (by omega) (by omega) _).mono ?_
    rintro e3 w3 ⟨rfl, rfl⟩
    go_wp2_with fail
    go_ret
    have := HX.out
    rw [if_neg (by simp), if_neg (by show ¬ (1048576 < V ∨ 1048576 < U); omega)] at this
    cases this
    exact ⟨rfl, ⟨A2, c2, HR.out⟩, hk⟩
  · have hd3 : (x2 != 0) = true := by rw [bne_iff_ne]; exact hx2
    go_wp2_with fail
    go_ret
    have := HX.out
    rw [if_pos hx2] at this
    cases this
    exact ⟨rfl, ⟨A2, c2, HR.out⟩, hk⟩
end Go.Proofs.Ytagocmbcbbhehaa
