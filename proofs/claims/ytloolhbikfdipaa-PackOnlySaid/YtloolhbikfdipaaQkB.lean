/- hanseref03.Reader: Int, Mark, Amount: what they do. -/
import Derived.Test.YtloolhbikfdipaaQkA
namespace Go.Proofs.Ytloolhbikfdipaa
open Go.RowKit
set_option maxHeartbeats 1000000 in
theorem int_qk {lo g c p : Nat} {A : Option Addr} {L : List UInt8} {e : Int} {w : World} (h : QK w lo g A c L p e) (V : Nat) (l' : List UInt8) (x : Int) (hx : rdU (L.drop p) e = (V, l', x)) :
    Calls Try.prog 32 #[.pointer (some ⟨g, 0, none⟩)] w (QGot w lo g A c L (.returned (.int .i64 (zz V))) l' x) := by
  have HC := Lib.hid (uint_qk h V l' x hx)
  have hv := (rdU_lt hx).1
  clear h hx
  by_cases h2 : V % 2 = 0
  · have ha : (V : Int) % 2 = 0 := by omega
    go_enter Try.func32, Try.ntmps32
    go_wp2_with fail
    refine HC.out.mono ?_
    rintro e1 w1 ⟨rfl, hr, hk⟩
    go_wp2_with fail
    go_ret
    refine ⟨?_, hr, hk⟩
    refine ret_int (k := .i64) ?_
    rw [zz, if_pos h2]
    rfl
  · have ha : (V : Int) % 2 = 1 := by omega
    have hq : ((V : Int) / 2) = ((V / 2 : Nat) : Int) := by omega
    have hw1 : IntKind.i64.wrap (-((V : Int) / 2)) = -((V : Int) / 2) := IntWalk.i64_in _ ⟨by omega, by omega⟩
    have hw2 : IntKind.i64.wrap (-((V : Int) / 2) - 1) = -((V : Int) / 2) - 1 := IntWalk.i64_in _ ⟨by omega, by omega⟩
    have HQ := Lib.hid hq
    clear hq
    go_enter Try.func32, Try.ntmps32
    go_wp2_with fail
    refine HC.out.mono ?_
    rintro e1 w1 ⟨rfl, hr, hk⟩
    go_wp2_with fail
    go_ret
    refine ⟨?_, hr, hk⟩
    refine ret_int (k := .i64) ?_
    rw [zz, if_neg h2]
    rfl
set_option maxHeartbeats 1000000 in
theorem mark_qk {lo g c p : Nat} {A : Option Addr} {L : List UInt8} {e : Int} {w : World} (h : QK w lo g A c L p e) (V : Nat) (l' : List UInt8) (x : Int) (hx : rdU (L.drop p) e = (V, l', x)) :
    Calls Try.prog 33 #[.pointer (some ⟨g, 0, none⟩)] w (QGot w lo g A c L (.returned (.bool (V == 1))) l' (if 1 < V then 4 else x)) := by
  have HC := Lib.hid (uint_qk h V l' x hx)
  have hxv := (rdU_lt hx).2.2.2
  have hv := (rdU_lt hx).1
  clear h hx
  by_cases h1 : (1 : Int) < (V : Int)
  · rw [if_pos (by omega)]
    have hb : (V == 1) = false := by rw [beq_eq_false_iff_ne]; omega
    have hx0 : x = 0 := by
      by_cases hx : x = 0
      · exact hx
      · have := hxv hx
        omega
    subst hx0
    rw [hb]
    clear hxv
    go_enter Try.func33, Try.ntmps33
    go_wp2_with fail
    refine HC.out.mono ?_
    rintro e1 w1 ⟨rfl, ⟨q, hr, _⟩, hk⟩
    go_wp2_with fail
    refine (fail_qk hr 4 4 rfl).mono ?_
    rintro e5 w5 ⟨rfl, hq5, hk5⟩
    go_wp2_with fail
    go_ret
    exact ⟨rfl, ⟨q, hq5, fun h => by cases h⟩, hk.trans hk5⟩
  · rw [if_neg (by omega)]
    have hd : decide ((1 : Int) < (V : Int)) = false := by simpa using h1
    have hb : ((V : Int) == 1) = (V == 1) := by
      rcases (show V = 0 ∨ V = 1 by omega) with rfl | rfl <;> rfl
    clear hxv
    go_enter Try.func33, Try.ntmps33
    go_wp2_with fail
    refine HC.out.mono ?_
    rintro e1 w1 ⟨rfl, hr, hk⟩
    go_wp2_with fail
    go_ret
    exact ⟨rfl, hr, hk⟩
theorem make_ap (n k : Nat) (hn : n ≤ 1048576) (hk : k ≤ 1048576) (w : World) :
    Calls Try.prog 39 #[.int .i64 n, .int .i64 k] w fun e w' => e = .returned (.tuple #[.complex .f64 (fl n) (fl k), .int .i64 0]) ∧ w = w' := by
  have d1 : decide ((n : Int) < 0) = false := by simp
  have d2 : decide ((1048576 : Int) < (n : Int)) = false := by simp; omega
  have d3 : decide ((k : Int) < 0) = false := by simp
  have d4 : decide ((1048576 : Int) < (k : Int)) = false := by simp; omega
  go_enter Try.func39, Try.ntmps39
  go_wp2_with fail
  go_ret2
  exact ⟨rfl, rfl⟩
set_option maxHeartbeats 1000000 in
theorem amount_qk {lo g c p : Nat} {A : Option Addr} {L : List UInt8} {e : Int} {w : World} (h : QK w lo g A c L p e) (o : Option (Nat × Nat)) (l' : List UInt8) (x : Int) (hx : rdA (L.drop p) e = (o, l', x)) :
    Calls Try.prog 35 #[.pointer (some ⟨g, 0, none⟩)] w (QGot w lo g A c L (.returned (cx o)) l' x) := by
  obtain ⟨V, l1, x1, h1⟩ : ∃ V l1 x1, rdU (L.drop p) e = (V, l1, x1) := ⟨_, _, _, rfl⟩
  have HC := Lib.hid (uint_qk h V l1 x1 h1)
  have hV := (rdU_lt h1).1
  have hVx := (rdU_lt h1).2.2.2
  have HVX := Lib.hid hVx
  unfold rdA at hx
  rw [h1] at hx
  simp only at hx
  have HX := Lib.hid hx
  clear h h1 hx hVx
  go_enter Try.func35, Try.ntmps35
  go_wp2_with fail
  refine HC.out.mono ?_
  rintro e1 w1 ⟨rfl, ⟨q1, hr1, hl1⟩, hk1⟩
  obtain ⟨U, l2, x2, h2⟩ : ∃ U l2 x2, rdU (L.drop q1) x1 = (U, l2, x2) := ⟨_, _, _, rfl⟩
  have hU := (rdU_lt h2).1
  have HY : Hid ((if x2 ≠ 0 then ((none : Option (Nat × Nat)), l2, x2) else if 1048576 < V ∨ 1048576 < U then (none, l2, 2) else (some (V, U), l2, 0)) = (o, l', x) ∨ (x1 ≠ 0 ∧ o = none ∧ x = x1 ∧ x2 = x1)) := by
    by_cases hx1 : x1 = 0
    · rw [← hl1 hx1, h2] at HX
      exact .inl HX.out
    · have e1 := rdU_err (l := l1) hx1
      have e2 := rdU_err (l := L.drop q1) hx1
      rw [e2] at h2
      cases h2
      have hx := HX.out
      rw [e1, if_pos hx1] at hx
      cases hx
      exact .inr ⟨hx1, rfl, rfl, rfl⟩
  clear HX hl1
  have H2 := Lib.hid h2
  clear h2
  go_wp2_with fail
  refine (uint_qk hr1 U l2 x2 H2.out).mono ?_
  rintro e2 w2 ⟨rfl, ⟨q, hr, hl⟩, hk2⟩
  have hk := hk1.trans hk2
  have r1 := hr.c2
  have HR := Lib.hid hr
  have HLL := Lib.hid hl
  clear hr hr1 hk1 hk2 hl
  by_cases hx2 : x2 = 0
  · subst hx2
    have HZ : Hid ((if 1048576 < V ∨ 1048576 < U then ((none : Option (Nat × Nat)), l2, (2 : Int)) else (some (V, U), l2, 0)) = (o, l', x)) := by
      rcases HY.out with hy | ⟨h1, _, _, h4⟩
      · rw [if_neg (by simp)] at hy
        exact hy
      · exact absurd h4.symm h1
    by_cases hv1 : (1048576 : Int) < (V : Int)
    · go_wp2_with fail
      refine (fail_qk HR.out 2 2 rfl).mono ?_
      rintro e5 w5 ⟨rfl, hq5, hk5⟩
      go_wp2_with fail
      go_ret
      have := HZ.out
      rw [if_pos (.inl (by show 1048576 < V; omega))] at this
      cases this
      exact ⟨rfl, ⟨q, hq5, fun h => by cases h⟩, hk.trans hk5⟩
    have hd1 : decide ((1048576 : Int) < (V : Int)) = false := by simpa using hv1
    by_cases hv2 : (1048576 : Int) < (U : Int)
    · go_wp2_with fail
      refine (fail_qk HR.out 2 2 rfl).mono ?_
      rintro e5 w5 ⟨rfl, hq5, hk5⟩
      go_wp2_with fail
      go_ret
      have := HZ.out
      rw [if_pos (.inr (by show 1048576 < U; omega))] at this
      cases this
      exact ⟨rfl, ⟨q, hq5, fun h => by cases h⟩, hk.trans hk5⟩
    have hd2 : decide ((1048576 : Int) < (U : Int)) = false := by simpa using hv2
    have e1 : wrap64 (V : Int) = (V : Int) := IntWalk.wrap64_in _ ⟨by omega, by omega⟩
    have e2 : wrap64 (U : Int) = (U : Int) := IntWalk.wrap64_in _ ⟨by omega, by omega⟩
    go_wp2_with fail
    refine (make_ap V U (by omega) (by omega) _).mono ?_
    rintro e3 w3 ⟨rfl, rfl⟩
    go_wp2_with fail
    go_ret
    have := HZ.out
    rw [if_neg (by show ¬ (1048576 < V ∨ 1048576 < U); omega)] at this
    cases this
    exact ⟨rfl, ⟨q, HR.out, fun _ => HLL.out trivial⟩, hk⟩
  · have hd3 : (x2 != 0) = true := by rw [bne_iff_ne]; exact hx2
    go_wp2_with fail
    go_ret
    rcases HY.out with hy | ⟨h1, h2, h3, h4⟩
    · rw [if_pos hx2] at hy
      cases hy
      exact ⟨rfl, ⟨q, HR.out, HLL.out⟩, hk⟩
    · subst h2; subst h3; subst h4
      exact ⟨rfl, ⟨q, HR.out, fun h => absurd h h1⟩, hk⟩
end Go.Proofs.Ytloolhbikfdipaa
