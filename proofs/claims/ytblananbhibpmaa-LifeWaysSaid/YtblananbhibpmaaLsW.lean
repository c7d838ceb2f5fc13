/- hanselaw10.LifeStarts: the walk. -/
import Derived.Test.YtblananbhibpmaaLifeA
namespace Go.Proofs.Ytblananbhibpmaa
open Go.RowKit
/-- the fifteen steps -/
theorem nx_cases {s e t : Int} (h : nx s e = some t) : (s = 0 ∧ e = 1 ∧ t = 1) ∨ (s = 1 ∧ e = 2 ∧ t = 2) ∨ (s = 1 ∧ e = 5 ∧ t = 4) ∨ (s = 1 ∧ e = 9 ∧ t = 7) ∨ (s = 1 ∧ e = 10 ∧ t = 0) ∨ (s = 2 ∧ e = 3 ∧ t = 3) ∨ (s = 2 ∧ e = 8 ∧ t = 6) ∨ (s = 2 ∧ e = 9 ∧ t = 7) ∨ (s = 3 ∧ e = 4 ∧ t = 1) ∨ (s = 4 ∧ e = 6 ∧ t = 1) ∨ (s = 4 ∧ e = 7 ∧ t = 5) ∨ (s = 5 ∧ e = 8 ∧ t = 6) ∨ (s = 5 ∧ e = 9 ∧ t = 7) ∨ (s = 6 ∧ e = 9 ∧ t = 7) ∨ (s = 7 ∧ e = 10 ∧ t = 0) := by
  unfold nx at h
  by_cases c : s = 0 ∧ e = 1
  · rw [if_pos c] at h
    cases h
    exact .inl ⟨c.1, c.2, rfl⟩
  rw [if_neg c] at h
  clear c
  by_cases c : s = 1 ∧ e = 2
  · rw [if_pos c] at h
    cases h
    exact .inr (.inl ⟨c.1, c.2, rfl⟩)
  rw [if_neg c] at h
  clear c
  by_cases c : s = 1 ∧ e = 5
  · rw [if_pos c] at h
    cases h
    exact .inr (.inr (.inl ⟨c.1, c.2, rfl⟩))
  rw [if_neg c] at h
  clear c
  by_cases c : s = 1 ∧ e = 9
  · rw [if_pos c] at h
    cases h
    exact .inr (.inr (.inr (.inl ⟨c.1, c.2, rfl⟩)))
  rw [if_neg c] at h
  clear c
  by_cases c : s = 1 ∧ e = 10
  · rw [if_pos c] at h
    cases h
    exact .inr (.inr (.inr (.inr (.inl ⟨c.1, c.2, rfl⟩))))
  rw [if_neg c] at h
  clear c
  by_cases c : s = 2 ∧ e = 3
  · rw [if_pos c] at h
    cases h
    exact .inr (.inr (.inr (.inr (.inr (.inl ⟨c.1, c.2, rfl⟩)))))
  rw [if_neg c] at h
  clear c
  by_cases c : s = 2 ∧ e = 8
  · rw [if_pos c] at h
    cases h
    exact .inr (.inr (.inr (.inr (.inr (.inr (.inl ⟨c.1, c.2, rfl⟩))))))
  rw [if_neg c] at h
  clear c
  by_cases c : s = 2 ∧ e = 9
  · rw [if_pos c] at h
    cases h
    exact .inr (.inr (.inr (.inr (.inr (.inr (.inr (.inl ⟨c.1, c.2, rfl⟩)))))))
  rw [if_neg c] at h
  clear c
  by_cases c : s = 3 ∧ e = 4
  · rw [if_pos c] at h
    cases h
    exact .inr (.inr (.inr (.inr (.inr (.inr (.inr (.inr (.inl ⟨c.1, c.2, rfl⟩))))))))
  rw [if_neg c] at h
  clear c
  by_cases c : s = 4 ∧ e = 6
  · rw [if_pos c] at h
    cases h
    exact .inr (.inr (.inr (.inr (.inr (.inr (.inr (.inr (.inr (.inl ⟨c.1, c.2, rfl⟩)))))))))
  rw [if_neg c] at h
  clear c
  by_cases c : s = 4 ∧ e = 7
  · rw [if_pos c] at h
    cases h
    exact .inr (.inr (.inr (.inr (.inr (.inr (.inr (.inr (.inr (.inr (.inl ⟨c.1, c.2, rfl⟩))))))))))
  rw [if_neg c] at h
  clear c
  by_cases c : s = 5 ∧ e = 8
  · rw [if_pos c] at h
    cases h
    exact .inr (.inr (.inr (.inr (.inr (.inr (.inr (.inr (.inr (.inr (.inr (.inl ⟨c.1, c.2, rfl⟩)))))))))))
  rw [if_neg c] at h
  clear c
  by_cases c : s = 5 ∧ e = 9
  · rw [if_pos c] at h
    cases h
    exact .inr (.inr (.inr (.inr (.inr (.inr (.inr (.inr (.inr (.inr (.inr (.inr (.inl ⟨c.1, c.2, rfl⟩))))))))))))
  rw [if_neg c] at h
  clear c
  by_cases c : s = 6 ∧ e = 9
  · rw [if_pos c] at h
    cases h
    exact .inr (.inr (.inr (.inr (.inr (.inr (.inr (.inr (.inr (.inr (.inr (.inr (.inr (.inl ⟨c.1, c.2, rfl⟩)))))))))))))
  rw [if_neg c] at h
  clear c
  by_cases c : s = 7 ∧ e = 10
  · rw [if_pos c] at h
    cases h
    exact .inr (.inr (.inr (.inr (.inr (.inr (.inr (.inr (.inr (.inr (.inr (.inr (.inr (.inr (⟨c.1, c.2, rfl⟩))))))))))))))
  rw [if_neg c] at h
  clear c
  cases h
set_option maxHeartbeats 8000000 in
theorem lstarts_law (A : Option Addr) (n c : Nat) (l : List Int) (w : World) (hn : n = l.length) (_ : n ≤ c) (_ : c ≤ maxLen) (hr : RI w A l ∧ ∀ z ∈ l, (Lit.int .i64 z).wf = true) :
    Calls Try.prog 5 #[.slice A n c] w fun e w' => e = .returned (.bool true) ∧ New w w' := by
  have ra := hr.1
  have HN := Lib.hid hn
  clear hn hr
  by_cases h1 : (2000 : Int) < (n : Int)
  · go_enter Try.func5, Try.ntmps5
    go_wp2_with fail
    go_ret
    exact ⟨rfl, New.refl _⟩
  have d1 : decide ((2000 : Int) < (n : Int)) = false := by simpa using h1
  go_enter Try.func5, Try.ntmps5
  go_wp2_with fail
  go_loopw [3, 4, 5, 6] (fun s st ld i wr => ∃ (j : Nat) (t : Int) (b1 b2 : Bool), s = .int .i64 t ∧ st = .bool b1 ∧ ld = .bool b2 ∧ i = .int .i64 j ∧ j ≤ n ∧ Hid ((b1 = true → t = 6 ∨ t = 7 ∨ t = 0) ∧ (t = 2 ∨ t = 5 → b2 = true)) ∧ New w wr) (fun _ _ _ i _ => n - (intOf i).toNat)
  case atStart => exact ⟨0, 0, false, false, rfl, rfl, rfl, rfl, Nat.zero_le _, (show _ ∧ _ from ⟨fun h => (by cases h), fun h => (by omega)⟩), New.refl _⟩
  case round =>
    obtain ⟨j, t, b1, b2, rfl, rfl, rfl, rfl, hj, HI, hnew⟩ := hrel
    by_cases hlt : j < n
    · obtain ⟨e, he⟩ : ∃ e, l[j]? = some e := ⟨_, List.getElem?_eq_getElem (by rw [← HN.out]; exact hlt)⟩
      obtain ⟨ad, rfl, hc⟩ := (ra.new hnew) j e he
      clear he
      cases hx : nx t e with
      | none =>
        have h2 : nxp t e = (0, false) := by unfold nxp; rw [hx]
        have H2 := Lib.hid h2
        clear h2 hx
        go_wp2_with fail
        refine (next_any t e wr).mono ?_
        rintro v w2 ⟨rfl, hw2⟩
        rw [H2.out]
        have hnew2 := New.trans hnew hw2
        clear hc hw2
        go_wp2_with fail
        go_roundw
        case rel => exact ⟨j + 1, t, b1, b2, rfl, rfl, rfl, by go_num, by omega, HI, hnew2⟩
        case measure => simp [intOf]; omega
      | some u =>
        have h2 : nxp t e = (u, true) := by unfold nxp; rw [hx]
        have H2 := Lib.hid h2
        have hcs := nx_cases hx
        clear h2 hx
        rcases hcs with ⟨rfl, rfl, rfl⟩ | ⟨rfl, rfl, rfl⟩ | ⟨rfl, rfl, rfl⟩ | ⟨rfl, rfl, rfl⟩ | ⟨rfl, rfl, rfl⟩ | ⟨rfl, rfl, rfl⟩ | ⟨rfl, rfl, rfl⟩ | ⟨rfl, rfl, rfl⟩ | ⟨rfl, rfl, rfl⟩ | ⟨rfl, rfl, rfl⟩ | ⟨rfl, rfl, rfl⟩ | ⟨rfl, rfl, rfl⟩ | ⟨rfl, rfl, rfl⟩ | ⟨rfl, rfl, rfl⟩ | ⟨rfl, rfl, rfl⟩
        · skip
          go_wp2_with fail
          refine (next_any 0 1 wr).mono ?_
          rintro v w2 ⟨rfl, hw2⟩
          rw [H2.out]
          have hnew2 := New.trans hnew hw2
          have hc2 := (hw2.cell (World.block_lt_of_cell? _ _ hc)).trans hc
          clear hc hw2
          go_wp2_with fail
          go_roundw
          case rel => exact ⟨j + 1, 1, false, false, rfl, rfl, rfl, by go_num, by omega, (show _ ∧ _ from ⟨fun _ => (by first | omega | (have h := HI.out.1; simp_all)), fun h => (by first | rfl | omega)⟩), hnew2⟩
          case measure => simp [intOf]; omega
        · skip
          have hb1 : b1 = false := by
            have := HI.out.1
            cases b1 with
            | false => rfl
            | true => have := this rfl; omega
          subst hb1
          go_wp2_with fail
          refine (next_any 1 2 wr).mono ?_
          rintro v w2 ⟨rfl, hw2⟩
          rw [H2.out]
          have hnew2 := New.trans hnew hw2
          have hc2 := (hw2.cell (World.block_lt_of_cell? _ _ hc)).trans hc
          clear hc hw2
          go_wp2_with fail
          go_roundw
          case rel => exact ⟨j + 1, 2, false, true, rfl, rfl, rfl, by go_num, by omega, (show _ ∧ _ from ⟨fun _ => (by first | omega | (have h := HI.out.1; simp_all)), fun h => (by first | rfl | omega)⟩), hnew2⟩
          case measure => simp [intOf]; omega
        · skip
          have hb1 : b1 = false := by
            have := HI.out.1
            cases b1 with
            | false => rfl
            | true => have := this rfl; omega
          subst hb1
          go_wp2_with fail
          refine (next_any 1 5 wr).mono ?_
          rintro v w2 ⟨rfl, hw2⟩
          rw [H2.out]
          have hnew2 := New.trans hnew hw2
          have hc2 := (hw2.cell (World.block_lt_of_cell? _ _ hc)).trans hc
          clear hc hw2
          go_wp2_with fail
          go_roundw
          case rel => exact ⟨j + 1, 4, false, b2, rfl, rfl, rfl, by go_num, by omega, (show _ ∧ _ from ⟨fun _ => (by first | omega | (have h := HI.out.1; simp_all)), fun h => (by first | rfl | omega)⟩), hnew2⟩
          case measure => simp [intOf]; omega
        · skip
          have hb1 : b1 = false := by
            have := HI.out.1
            cases b1 with
            | false => rfl
            | true => have := this rfl; omega
          subst hb1
          go_wp2_with fail
          refine (next_any 1 9 wr).mono ?_
          rintro v w2 ⟨rfl, hw2⟩
          rw [H2.out]
          have hnew2 := New.trans hnew hw2
          have hc2 := (hw2.cell (World.block_lt_of_cell? _ _ hc)).trans hc
          clear hc hw2
          go_wp2_with fail
          go_roundw
          case rel => exact ⟨j + 1, 7, false, b2, rfl, rfl, rfl, by go_num, by omega, (show _ ∧ _ from ⟨fun _ => (by first | omega | (have h := HI.out.1; simp_all)), fun h => (by first | rfl | omega)⟩), hnew2⟩
          case measure => simp [intOf]; omega
        · skip
          have hb1 : b1 = false := by
            have := HI.out.1
            cases b1 with
            | false => rfl
            | true => have := this rfl; omega
          subst hb1
          go_wp2_with fail
          refine (next_any 1 10 wr).mono ?_
          rintro v w2 ⟨rfl, hw2⟩
          rw [H2.out]
          have hnew2 := New.trans hnew hw2
          have hc2 := (hw2.cell (World.block_lt_of_cell? _ _ hc)).trans hc
          clear hc hw2
          go_wp2_with fail
          go_roundw
          case rel => exact ⟨j + 1, 0, false, b2, rfl, rfl, rfl, by go_num, by omega, (show _ ∧ _ from ⟨fun _ => (by first | omega | (have h := HI.out.1; simp_all)), fun h => (by first | rfl | omega)⟩), hnew2⟩
          case measure => simp [intOf]; omega
        · skip
          have hb1 : b1 = false := by
            have := HI.out.1
            cases b1 with
            | false => rfl
            | true => have := this rfl; omega
          subst hb1
          have hb2 : b2 = true := HI.out.2 (by omega)
          subst hb2
          go_wp2_with fail
          refine (next_any 2 3 wr).mono ?_
          rintro v w2 ⟨rfl, hw2⟩
          rw [H2.out]
          have hnew2 := New.trans hnew hw2
          have hc2 := (hw2.cell (World.block_lt_of_cell? _ _ hc)).trans hc
          clear hc hw2
          go_wp2_with fail
          go_roundw
          case rel => exact ⟨j + 1, 3, false, true, rfl, rfl, rfl, by go_num, by omega, (show _ ∧ _ from ⟨fun _ => (by first | omega | (have h := HI.out.1; simp_all)), fun h => (by first | rfl | omega)⟩), hnew2⟩
          case measure => simp [intOf]; omega
        · skip
          have hb1 : b1 = false := by
            have := HI.out.1
            cases b1 with
            | false => rfl
            | true => have := this rfl; omega
          subst hb1
          have hb2 : b2 = true := HI.out.2 (by omega)
          subst hb2
          go_wp2_with fail
          refine (next_any 2 8 wr).mono ?_
          rintro v w2 ⟨rfl, hw2⟩
          rw [H2.out]
          have hnew2 := New.trans hnew hw2
          have hc2 := (hw2.cell (World.block_lt_of_cell? _ _ hc)).trans hc
          clear hc hw2
          go_wp2_with fail
          go_roundw
          case rel => exact ⟨j + 1, 6, true, true, rfl, rfl, rfl, by go_num, by omega, (show _ ∧ _ from ⟨fun _ => (by first | omega | (have h := HI.out.1; simp_all)), fun h => (by first | rfl | omega)⟩), hnew2⟩
          case measure => simp [intOf]; omega
        · skip
          have hb1 : b1 = false := by
            have := HI.out.1
            cases b1 with
            | false => rfl
            | true => have := this rfl; omega
          subst hb1
          have hb2 : b2 = true := HI.out.2 (by omega)
          subst hb2
          go_wp2_with fail
          refine (next_any 2 9 wr).mono ?_
          rintro v w2 ⟨rfl, hw2⟩
          rw [H2.out]
          have hnew2 := New.trans hnew hw2
          have hc2 := (hw2.cell (World.block_lt_of_cell? _ _ hc)).trans hc
          clear hc hw2
          go_wp2_with fail
          go_roundw
          case rel => exact ⟨j + 1, 7, false, true, rfl, rfl, rfl, by go_num, by omega, (show _ ∧ _ from ⟨fun _ => (by first | omega | (have h := HI.out.1; simp_all)), fun h => (by first | rfl | omega)⟩), hnew2⟩
          case measure => simp [intOf]; omega
        · skip
          have hb1 : b1 = false := by
            have := HI.out.1
            cases b1 with
            | false => rfl
            | true => have := this rfl; omega
          subst hb1
          go_wp2_with fail
          refine (next_any 3 4 wr).mono ?_
          rintro v w2 ⟨rfl, hw2⟩
          rw [H2.out]
          have hnew2 := New.trans hnew hw2
          have hc2 := (hw2.cell (World.block_lt_of_cell? _ _ hc)).trans hc
          clear hc hw2
          go_wp2_with fail
          go_roundw
          case rel => exact ⟨j + 1, 1, false, b2, rfl, rfl, rfl, by go_num, by omega, (show _ ∧ _ from ⟨fun _ => (by first | omega | (have h := HI.out.1; simp_all)), fun h => (by first | rfl | omega)⟩), hnew2⟩
          case measure => simp [intOf]; omega
        · skip
          have hb1 : b1 = false := by
            have := HI.out.1
            cases b1 with
            | false => rfl
            | true => have := this rfl; omega
          subst hb1
          go_wp2_with fail
          refine (next_any 4 6 wr).mono ?_
          rintro v w2 ⟨rfl, hw2⟩
          rw [H2.out]
          have hnew2 := New.trans hnew hw2
          have hc2 := (hw2.cell (World.block_lt_of_cell? _ _ hc)).trans hc
          clear hc hw2
          go_wp2_with fail
          go_roundw
          case rel => exact ⟨j + 1, 1, false, b2, rfl, rfl, rfl, by go_num, by omega, (show _ ∧ _ from ⟨fun _ => (by first | omega | (have h := HI.out.1; simp_all)), fun h => (by first | rfl | omega)⟩), hnew2⟩
          case measure => simp [intOf]; omega
        · skip
          have hb1 : b1 = false := by
            have := HI.out.1
            cases b1 with
            | false => rfl
            | true => have := this rfl; omega
          subst hb1
          go_wp2_with fail
          refine (next_any 4 7 wr).mono ?_
          rintro v w2 ⟨rfl, hw2⟩
          rw [H2.out]
          have hnew2 := New.trans hnew hw2
          have hc2 := (hw2.cell (World.block_lt_of_cell? _ _ hc)).trans hc
          clear hc hw2
          go_wp2_with fail
          go_roundw
          case rel => exact ⟨j + 1, 5, false, true, rfl, rfl, rfl, by go_num, by omega, (show _ ∧ _ from ⟨fun _ => (by first | omega | (have h := HI.out.1; simp_all)), fun h => (by first | rfl | omega)⟩), hnew2⟩
          case measure => simp [intOf]; omega
        · skip
          have hb1 : b1 = false := by
            have := HI.out.1
            cases b1 with
            | false => rfl
            | true => have := this rfl; omega
          subst hb1
          have hb2 : b2 = true := HI.out.2 (by omega)
          subst hb2
          go_wp2_with fail
          refine (next_any 5 8 wr).mono ?_
          rintro v w2 ⟨rfl, hw2⟩
          rw [H2.out]
          have hnew2 := New.trans hnew hw2
          have hc2 := (hw2.cell (World.block_lt_of_cell? _ _ hc)).trans hc
          clear hc hw2
          go_wp2_with fail
          go_roundw
          case rel => exact ⟨j + 1, 6, true, true, rfl, rfl, rfl, by go_num, by omega, (show _ ∧ _ from ⟨fun _ => (by first | omega | (have h := HI.out.1; simp_all)), fun h => (by first | rfl | omega)⟩), hnew2⟩
          case measure => simp [intOf]; omega
        · skip
          have hb1 : b1 = false := by
            have := HI.out.1
            cases b1 with
            | false => rfl
            | true => have := this rfl; omega
          subst hb1
          have hb2 : b2 = true := HI.out.2 (by omega)
          subst hb2
          go_wp2_with fail
          refine (next_any 5 9 wr).mono ?_
          rintro v w2 ⟨rfl, hw2⟩
          rw [H2.out]
          have hnew2 := New.trans hnew hw2
          have hc2 := (hw2.cell (World.block_lt_of_cell? _ _ hc)).trans hc
          clear hc hw2
          go_wp2_with fail
          go_roundw
          case rel => exact ⟨j + 1, 7, false, true, rfl, rfl, rfl, by go_num, by omega, (show _ ∧ _ from ⟨fun _ => (by first | omega | (have h := HI.out.1; simp_all)), fun h => (by first | rfl | omega)⟩), hnew2⟩
          case measure => simp [intOf]; omega
        · skip
          go_wp2_with fail
          refine (next_any 6 9 wr).mono ?_
          rintro v w2 ⟨rfl, hw2⟩
          rw [H2.out]
          have hnew2 := New.trans hnew hw2
          have hc2 := (hw2.cell (World.block_lt_of_cell? _ _ hc)).trans hc
          clear hc hw2
          go_wp2_with fail
          go_roundw
          case rel => exact ⟨j + 1, 7, b1, b2, rfl, rfl, rfl, by go_num, by omega, (show _ ∧ _ from ⟨fun _ => (by first | omega | (have h := HI.out.1; simp_all)), fun h => (by first | rfl | omega)⟩), hnew2⟩
          case measure => simp [intOf]; omega
        · skip
          go_wp2_with fail
          refine (next_any 7 10 wr).mono ?_
          rintro v w2 ⟨rfl, hw2⟩
          rw [H2.out]
          have hnew2 := New.trans hnew hw2
          have hc2 := (hw2.cell (World.block_lt_of_cell? _ _ hc)).trans hc
          clear hc hw2
          go_wp2_with fail
          go_roundw
          case rel => exact ⟨j + 1, 0, b1, b2, rfl, rfl, rfl, by go_num, by omega, (show _ ∧ _ from ⟨fun _ => (by first | omega | (have h := HI.out.1; simp_all)), fun h => (by first | rfl | omega)⟩), hnew2⟩
          case measure => simp [intOf]; omega
    · go_wp2_with fail
      refine (wakes_any _).mono ?_
      rintro v w2 ⟨rfl, hw2⟩
      go_wp2_with fail
      go_ret
      exact ⟨rfl, New.trans hnew hw2⟩
end Go.Proofs.Ytblananbhibpmaa
