/- hanselaw10.LifeLeads, LifeReaches, LifeShort: the walks. -/
import Derived.Test.YtblananbhibpmaaWayW
namespace Go.Proofs.Ytblananbhibpmaa
open Go.RowKit
theorem way_no (a b : Int) (h : ¬ (0 ≤ a ∧ a ≤ 7 ∧ 0 ≤ b ∧ b ≤ 7)) (w : World) :
    Calls Try.prog 17 #[.int .i64 a, .int .i64 b] w fun e w' => e = .returned (.tuple #[.slice none 0 0, .bool false]) ∧ w = w' := by
  by_cases h1 : a < 0
  · clear h
    go_enter Try.func17, Try.ntmps17
    go_wp2_with fail
    go_ret2
    exact ⟨rfl, rfl⟩
  have d1 : decide (a < 0) = false := by simpa using h1
  by_cases h2 : 7 < a
  · clear h
    go_enter Try.func17, Try.ntmps17
    go_wp2_with fail
    go_ret2
    exact ⟨rfl, rfl⟩
  have d2 : decide (7 < a) = false := by simpa using h2
  by_cases h3 : b < 0
  · clear h
    go_enter Try.func17, Try.ntmps17
    go_wp2_with fail
    go_ret2
    exact ⟨rfl, rfl⟩
  have d3 : decide (b < 0) = false := by simpa using h3
  have h4 : 7 < b := by omega
  clear h
  go_enter Try.func17, Try.ntmps17
  go_wp2_with fail
  go_ret2
  exact ⟨rfl, rfl⟩
theorem leads {a b : Int} (ha0 : 0 ≤ a) (ha7 : a ≤ 7) (hb0 : 0 ≤ b) (hb7 : b ≤ 7) : wk a (wayL a b) = (b, (wayL a b).length) := by
  have := way_leads ⟨a.toNat, by omega⟩ ⟨b.toNat, by omega⟩
  simp only [show ((a.toNat : Nat) : Int) = a from by omega, show ((b.toNat : Nat) : Int) = b from by omega] at this
  exact this
theorem short {a b : Int} (ha0 : 0 ≤ a) (ha7 : a ≤ 7) (hb0 : 0 ≤ b) (hb7 : b ≤ 7) : (wayL a b).length ≤ 7 := by
  have := way_short ⟨a.toNat, by omega⟩ ⟨b.toNat, by omega⟩
  simp only [show ((a.toNat : Nat) : Int) = a from by omega, show ((b.toNat : Nat) : Int) = b from by omega] at this
  exact this
/-- no walk is shorter than the way -/
theorem no_shorter : ∀ (l : List Int) (a : Int), 0 ≤ a → a ≤ 7 → 0 ≤ (wk a l).1 ∧ (wk a l).1 ≤ 7 ∧ (wayL a (wk a l).1).length ≤ (wk a l).2 := by
  intro l
  induction l with
  | nil =>
    intro a h0 h7
    have := way_self ⟨a.toNat, by omega⟩
    simp only [show ((a.toNat : Nat) : Int) = a from by omega] at this
    rw [wk_nil]
    refine ⟨h0, h7, ?_⟩
    rw [this]
    exact Nat.le_refl _
  | cons e t ih =>
    intro a h0 h7
    cases hx : nx a e with
    | none =>
      have := way_self ⟨a.toNat, by omega⟩
      simp only [show ((a.toNat : Nat) : Int) = a from by omega] at this
      rw [wk_none hx]
      refine ⟨h0, h7, ?_⟩
      rw [this]
      exact Nat.le_refl _
    | some u =>
      have hc := nx_cases hx
      have hu : 0 ≤ u ∧ u ≤ 7 ∧ 0 ≤ e ∧ e ≤ 10 := by
        rcases hc with ⟨_, h1, h2⟩ | ⟨_, h1, h2⟩ | ⟨_, h1, h2⟩ | ⟨_, h1, h2⟩ | ⟨_, h1, h2⟩ | ⟨_, h1, h2⟩ | ⟨_, h1, h2⟩ | ⟨_, h1, h2⟩ | ⟨_, h1, h2⟩ | ⟨_, h1, h2⟩ | ⟨_, h1, h2⟩ | ⟨_, h1, h2⟩ | ⟨_, h1, h2⟩ | ⟨_, h1, h2⟩ | ⟨_, h1, h2⟩ <;> (rw [h1, h2]; decide)
      obtain ⟨g0, g7, hg⟩ := ih u hu.1 hu.2.1
      rw [wk_some hx]
      refine ⟨g0, g7, ?_⟩
      obtain ⟨v, hv⟩ : ∃ v, v = (wk u t).1 := ⟨_, rfl⟩
      show (wayL a (wk u t).1).length ≤ (wk u t).2 + 1
      rw [← hv] at g0 g7 hg ⊢
      have := way_tri ⟨a.toNat, by omega⟩ ⟨v.toNat, by omega⟩ ⟨e.toNat, by omega⟩
      simp only [show ((a.toNat : Nat) : Int) = a from by omega, show ((v.toNat : Nat) : Int) = v from by omega, show ((e.toNat : Nat) : Int) = e from by omega, hx] at this
      have := of_decide_eq_true this
      omega
set_option maxHeartbeats 2000000 in
theorem lleads_law (a b : Int) (w : World) (_ : (Lit.int .i64 a).wf = true) (_ : (Lit.int .i64 b).wf = true) :
    Calls Try.prog 7 #[.int .i64 a, .int .i64 b] w fun e w' => e = .returned (.bool true) ∧ New w w' := by
  by_cases h : 0 ≤ a ∧ a ≤ 7 ∧ 0 ≤ b ∧ b ≤ 7
  · obtain ⟨a0, a7, b0, b7⟩ := h
    have HL := Lib.hid (leads a0 a7 b0 b7)
    have hsh := short a0 a7 b0 b7
    have HW := Lib.hid (way_any a b a0 a7 b0 b7)
    obtain ⟨z, hz⟩ : ∃ z, z = wayL a b := ⟨_, rfl⟩
    obtain ⟨n, hn⟩ : ∃ n, n = z.length := ⟨_, rfl⟩
    have HZ := Lib.hid hz
    have HN := Lib.hid hn
    rw [← hz, ← hn] at HL
    rw [← hz, ← hn] at hsh
    clear a0 a7 b0 b7 hz hn
    go_enter Try.func7, Try.ntmps7
    go_wp2_with fail
    refine (HW.out w).mono ?_
    rintro e w1 ⟨A, c, rfl, ho, hw1⟩
    rw [← HZ.out, ← HN.out] at ho ⊢
    go_wp2_with fail
    refine (walk_any a A n c z w1 HN.out (OIs.rb ho) (by omega)).mono ?_
    rintro e w2 ⟨rfl, hw2⟩
    rw [HL.out]
    go_wp2_with fail
    refine (wakes_any _).mono ?_
    rintro e w3 ⟨rfl, hw3⟩
    go_wp2_with fail
    go_ret
    exact ⟨rfl, New.trans hw1 (New.trans hw2 hw3)⟩
  · have HW := Lib.hid (way_no a b h)
    clear h
    go_enter Try.func7, Try.ntmps7
    go_wp2_with fail
    refine (HW.out w).mono ?_
    rintro e w1 ⟨rfl, rfl⟩
    go_wp2_with fail
    refine (wakes_any _).mono ?_
    rintro e w3 ⟨rfl, hw3⟩
    go_wp2_with fail
    go_ret
    exact ⟨rfl, hw3⟩
set_option maxHeartbeats 2000000 in
theorem lreaches_law (w : World) :
    Calls Try.prog 8 #[] w fun e w' => e = .returned (.bool true) ∧ New w w' := by
  go_enter Try.func8, Try.ntmps8
  go_wp2_with fail
  go_loopw [1] (fun i wr => ∃ j : Nat, i = .int .i64 j ∧ j ≤ 8 ∧ New w wr) (fun i _ => 8 - (intOf i).toNat)
  case atStart => exact ⟨0, rfl, by omega, New.refl _⟩
  case round =>
    obtain ⟨j, rfl, hj, hnew⟩ := hrel
    by_cases hlt : j < 8
    · have hj7 : (j : Int) ≤ 7 := by omega
      have h0 := short (a := 0) (b := j) (by omega) (by omega) (by omega) hj7
      have h1 := short (a := j) (b := 0) (by omega) hj7 (by omega) (by omega)
      have HW := Lib.hid (way_any 0 j (by omega) (by omega) (by omega) hj7)
      have HV := Lib.hid (way_any j 0 (by omega) hj7 (by omega) (by omega))
      obtain ⟨n, hn⟩ : ∃ n, n = (wayL 0 j).length := ⟨_, rfl⟩
      obtain ⟨m, hm⟩ : ∃ m, m = (wayL j 0).length := ⟨_, rfl⟩
      rw [← hn] at h0
      rw [← hm] at h1
      have d0 : decide ((7 : Int) < (n : Int)) = false := by simp; omega
      have e0 : decide ((7 : Int) < (m : Int)) = false := by simp; omega
      have HN := Lib.hid hn
      have HM := Lib.hid hm
      clear hn hm h0 h1
      go_wp2_with fail
      refine (HW.out wr).mono ?_
      rintro e w1 ⟨A, c, rfl, _, hw1⟩
      rw [← HN.out]
      go_wp2_with fail
      refine (HV.out w1).mono ?_
      rintro e w2 ⟨B, d, rfl, _, hw2⟩
      rw [← HM.out]
      have hn2 := New.trans hnew (New.trans hw1 hw2)
      go_wp2_with fail
      go_roundw
      case rel => exact ⟨j + 1, by go_num, by omega, hn2⟩
      case measure => simp [intOf]; omega
    · have hj8 : j = 8 := by omega
      subst hj8
      go_wp2_with fail
      refine (wakes_any _).mono ?_
      rintro e w3 ⟨rfl, hw3⟩
      go_wp2_with fail
      go_ret
      exact ⟨rfl, New.trans hnew hw3⟩
set_option maxHeartbeats 2000000 in
theorem lshort_law (a : Int) (A : Option Addr) (n c : Nat) (l : List Int) (w : World) (_ : (Lit.int .i64 a).wf = true) (hn : n = l.length) (_ : n ≤ c) (_ : c ≤ maxLen) (hr : RI w A l ∧ ∀ z ∈ l, (Lit.int .i64 z).wf = true) :
    Calls Try.prog 9 #[.int .i64 a, .slice A n c] w fun e w' => e = .returned (.bool true) ∧ New w w' := by
  have ra := hr.1
  have HN := Lib.hid hn
  clear hn hr
  by_cases h1 : (2000 : Int) < (n : Int)
  · go_enter Try.func9, Try.ntmps9
    go_wp2_with fail
    go_ret
    exact ⟨rfl, New.refl _⟩
  have d1 : decide ((2000 : Int) < (n : Int)) = false := by simpa using h1
  by_cases h2 : a < 0
  · go_enter Try.func9, Try.ntmps9
    go_wp2_with fail
    go_ret
    exact ⟨rfl, New.refl _⟩
  have d2 : decide (a < 0) = false := by simpa using h2
  by_cases h3 : 7 < a
  · go_enter Try.func9, Try.ntmps9
    go_wp2_with fail
    go_ret
    exact ⟨rfl, New.refl _⟩
  have d3 : decide (7 < a) = false := by simpa using h3
  have hns := no_shorter l a (by omega) (by omega)
  obtain ⟨x, p, hx⟩ : ∃ x p, wk a l = (x, p) := ⟨_, _, rfl⟩
  rw [hx] at hns
  have HX := Lib.hid hx
  have HW := Lib.hid (way_any a x (by omega) (by omega) hns.1 hns.2.1)
  have hle : (wayL a x).length ≤ p := hns.2.2
  obtain ⟨m, hm⟩ : ∃ m, m = (wayL a x).length := ⟨_, rfl⟩
  rw [← hm] at hle
  have hle2 : (m : Int) ≤ (p : Int) := by omega
  have HM := Lib.hid hm
  clear hns hx hm h2 h3
  go_enter Try.func9, Try.ntmps9
  go_wp2_with fail
  refine (walk_any a A n c l w HN.out ra (by omega)).mono ?_
  rintro e w1 ⟨rfl, hw1⟩
  rw [HX.out]
  go_wp2_with fail
  refine (HW.out w1).mono ?_
  rintro e w2 ⟨B, d, rfl, _, hw2⟩
  rw [← HM.out]
  go_wp2_with fail
  refine (wakes_any _).mono ?_
  rintro e w3 ⟨rfl, hw3⟩
  go_wp2_with fail
  go_ret
  exact ⟨rfl, New.trans hw1 (New.trans hw2 hw3)⟩
end Go.Proofs.Ytblananbhibpmaa
