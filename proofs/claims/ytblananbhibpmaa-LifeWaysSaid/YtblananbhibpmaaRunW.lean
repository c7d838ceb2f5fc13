/- life.run: the walk. -/
import Derived.Test.YtblananbhibpmaaRunA
import Derived.BigQuiet
import Derived.StillTailTactics
namespace Go.Proofs.Ytblananbhibpmaa
open Go.RowKit
set_option maxHeartbeats 8000000 in
theorem run_any (A : Option Addr) (n c : Nat) (l : List Int) (w : World) (hn : n = l.length) (hr : RI w A l) (hnb : n ≤ 1000000) :
    Calls Try.prog 21 #[.slice A n c] w (Ran w l) := by
  have HN := Lib.hid hn
  clear hn
  go_enter Try.func21, Try.ntmps21
  go_wp2_with fail
  refine wp_scope_8 (fun k => RunAt w A n c l (labSt k)) (runMu w l) rfl rfl rfl rfl rfl rfl rfl rfl ?first ?p0 ?p1 ?p2 ?p3 ?p4 ?p5 ?p6 ?p7
  case first =>
    have hwA : New w ((w.alloc (.cells #[.slice A n c] 22)).alloc (.cells #[.int .i64 0] 3)) := Below.alloc (Below.alloc (Below.refl _ _) (Nat.le_refl _) _) (by simp) _
    obtain ⟨wA, hA⟩ : ∃ wA, wA = ((w.alloc (.cells #[.slice A n c] 22)).alloc (.cells #[.int .i64 0] 3)) := ⟨_, rfl⟩
    have hsz : wA.heap.size = w.heap.size + 2 := by rw [hA]; simp
    have hb0 : wA.heap[w.heap.size]? = some (.cells #[.slice A n c] 22) := by
      rw [hA, (Below.alloc (Below.refl (w.heap.size + 1) _) (by simp) _).block _ (by omega)]
      exact heap_alloc_new w _
    have hb1 : wA.heap[w.heap.size + 1]? = some (.cells #[.int .i64 0] 3) := by
      rw [hA]
      have := heap_alloc_new (w.alloc (.cells #[.slice A n c] 22)) (.cells #[.int .i64 0] 3)
      simpa using this
    rw [← hA] at hwA ⊢
    have hcA : wA.cell? ⟨w.heap.size, 0, none⟩ = some (.slice A n c) := cell_of_row _ _ 0 _ _ _ hb0
    clear hA
    go_wp2_with fail
    refine (clone_any A n c l wA HN.out (hr.new hwA) (by omega)).mono ?_
    rintro e w1 ⟨B, d, rfl, ho, hw1⟩
    have h10 := (hw1.block _ (by omega)).trans hb0
    have h11 := (hw1.block _ (by omega)).trans hb1
    have hw01 := New.trans hwA hw1
    have hs1 := hw1.size
    rw [hsz] at ho hs1
    clear hb0 hb1 hcA hw1 hwA hsz
    go_wp2_with (at_builtin; refine wpList_append_OI _ rfl (.tmp 6) (.tmp 7) _ rfl (w.heap.size + 2) _ u_ints i_int B n d l rfl (Own.alloc ho _) (some ⟨w1.heap.size, 0, none⟩) 1 1 [0] rfl rfl (RI.lit w1 [0] 3 (0, 0) rfl) (by omega) (by rw [World.size_alloc]; omega) ?_; intro E d3 w3 ho3 hg3 _; refine stop ?_)
    have hbl : Below (w.heap.size + 2) (w1.alloc (.cells #[iv 0] 3)) w3 := below_blk (Own.alloc ho _) hg3 (by rw [World.size_alloc]; omega)
    have hbl2 : Below (w.heap.size + 2) w1 w3 := Below.trans (Below.alloc (Below.refl _ _) hs1 _) hbl
    have h30 := (hbl2.block _ (by omega)).trans h10
    have h31 := (hbl2.block _ (by omega)).trans h11
    have hw03 : New w w3 := Below.trans hw01 ⟨hbl2.os, hbl2.tape, hbl2.output, hbl2.size, fun k hk => hbl2.block k (by omega)⟩
    have c30 : w3.cell? ⟨w.heap.size, 0, none⟩ = some (.slice A n c) := cell_of_row _ _ 0 _ _ _ h30
    have c31 : w3.cell? ⟨w.heap.size + 1, 0, none⟩ = some (.int .i64 0) := cell_of_row _ _ 0 _ _ _ h31
    have f30 : w3.frozen? ⟨w.heap.size, 0, none⟩ = false := frozen_of_row _ _ 0 _ _ h30
    have f31 : w3.frozen? ⟨w.heap.size + 1, 0, none⟩ = false := frozen_of_row _ _ 0 _ _ h31
    have HO := Lib.hid ho3
    have H0 := Lib.hid h30
    have H1 := Lib.hid h31
    refine go ?_
    clear hg3 ho3 hbl hbl2 h10 h11 h30 h31 hs1 ho hw01
    go_wp2_with fail
    go_step3
    go_wp2_with fail
    have hnl : n = l.length := HN.out
    obtain ⟨w5, hw5⟩ : ∃ w5, w5 = (w3.setCell ⟨w.heap.size, 0, none⟩ (.slice E (n + 1) d3)).setCell ⟨w.heap.size + 1, 0, none⟩ (.int .i64 (-1)) := ⟨_, rfl⟩
    have hb : w5.heap[w.heap.size]? = some (.cells #[.slice E (l.length + 1) d3] 22) := by
      rw [hw5, Below.heap_setCell _ _ _ _ (by show w.heap.size ≠ w.heap.size + 1; omega), heap_setCell_same w3 w.heap.size 0 _ _ _ H0.out, hnl]
      rfl
    have hnn0 : w5.heap[w.heap.size + 1]? = some (.cells #[.int .i64 (((0 : Nat) : Int) - 1)] 3) := by
      rw [hw5]
      refine (heap_setCell_same _ (w.heap.size + 1) 0 _ _ _ ((Below.heap_setCell _ _ _ _ (by show w.heap.size + 1 ≠ w.heap.size; omega)).trans H1.out)).trans ?_
      rfl
    have ho : OIs w5 (w.heap.size + 2) E (l.length + 1) d3 (l ++ [0]) := by
      have := HO.out
      rw [hnl] at this
      rw [hw5]
      refine Own.keep (Own.keep this (Keep.setAt _ _ _ _) ?_) (Keep.setAt _ _ _ _) ?_
      · rintro i hi rfl
        have := (Own.lt HO.out hi).1
        omega
      · rintro i hi rfl
        have := (Own.lt HO.out hi).1
        omega
    have hw : New w w5 := by
      rw [hw5]
      exact Below.setCell (Below.setCell hw03 (by show w.heap.size ≤ w.heap.size; omega) _) (by show w.heap.size ≤ w.heap.size + 1; omega) _
    obtain ⟨j, hj⟩ : ∃ j : Nat, j = 0 := ⟨_, rfl⟩
    obtain ⟨x, hx⟩ : ∃ x, (l ++ [0])[j]? = some x := ⟨_, List.getElem?_eq_getElem (by simp; omega)⟩
    have hk : wk 0 l = ((wk 0 (l.drop j)).1, j + (wk 0 (l.drop j)).2) := by rw [hj]; simp
    have hnn : w5.heap[w.heap.size + 1]? = some (.cells #[.int .i64 ((j : Int) - 1)] 3) := by rw [hj]; exact hnn0
    have hj2 : j ≤ l.length := by omega
    have HE := Lib.hid (ev_any w.heap.size (w.heap.size + 1) E _ d3 _ (l ++ [0]) j x _ w5 hb hnn rfl (by omega) ho (by omega) hx (by omega))
    have HB := Lib.hid hb
    have HNN := Lib.hid hnn
    have HO := Lib.hid ho
    have HW := Lib.hid hw
    have HJ := Lib.hid hj2
    have HK := Lib.hid hk
    have HX := Lib.hid hx
    rw [← hw5]
    clear hw5 hb hnn hnn0 ho hw hx hk hj2 hnl c30 c31 f30 f31 hw03 H0 H1 hj
    by_cases h1 : x = 1
    · subst h1
      refine HE.out.mono ?_
      rintro e6 w6 ⟨rfl, rfl⟩
      go_wp2_with fail
      go_step3
      exact run_next0 (s := 0) HB.out HNN.out HO.out HW.out HJ.out HK.out HX.out (by decide) (by omega) rfl _ (by omega) rfl
    · have hnx : nx 0 x = none := by
        unfold nx
        repeat (first | (rw [if_neg (by omega)]) | rfl)
      have hst := wk_stop HK.out HX.out hnx
      have HS := Lib.hid hst
      have b1 : (x == 1) = false := by rw [beq_eq_false_iff_ne]; exact h1
      clear hnx hst h1
      refine HE.out.mono ?_
      rintro e6 w6 ⟨rfl, hw6⟩
      have h6 : w6.heap[w.heap.size + 1]? = some (.cells #[.int .i64 (j : Int)] 3 (0, 0)) := by
        rw [hw6]
        exact heap_setCell_same _ (w.heap.size + 1) 0 _ _ _ HNN.out
      have c6 : w6.cell? ⟨w.heap.size + 1, 0, none⟩ = some (.int .i64 j) := cell_of_row _ _ 0 _ _ _ h6
      have f6 : w6.frozen? ⟨w.heap.size + 1, 0, none⟩ = false := frozen_of_row _ _ 0 _ _ h6
      have hn6 : New w w6 := by
        rw [hw6]
        exact Below.setCell HW.out (by show w.heap.size ≤ w.heap.size + 1; omega) _
      have H6 := Lib.hid h6
      clear hw6 h6
      go_wp2_with fail
      go_still_tail 2, (by kernel_rfl)
      obtain ⟨w7, hw7⟩ : ∃ w7 : World, w7 = w6.drew := ⟨_, rfl⟩
      change wpList _ _ _ _ _ w6.drew
      rw [← hw7]
      have c7 : w7.cell? ⟨w.heap.size + 1, 0, none⟩ = some (.int .i64 j) := by rw [hw7]; exact c6
      have f7 : w7.frozen? ⟨w.heap.size + 1, 0, none⟩ = false := by rw [hw7]; exact f6
      have hn7 : New w w7 := by rw [hw7]; exact Below.drew hn6
      have H7 : Hid (w7.heap[w.heap.size + 1]? = some (.cells #[.int .i64 (j : Int)] 3 (0, 0))) := by rw [hw7]; exact H6
      clear hw7 c6 f6 hn6 H6
      go_wp2_with fail
      simp only [jumpsTo]
      refine bodyPost_ret (results_tc rfl u_int _ _ ⟨w.heap.size + 1, 0, none⟩ (.int .i64 j) rfl ?_) rfl ?_
      · rw [cell_of_row _ _ 0 _ _ _ (heap_setCell_same _ _ 0 _ _ _ H7.out)]
        rfl
      · refine ⟨?_, Below.setCell hn7 (by show w.heap.size ≤ w.heap.size + 1; omega) _⟩
        rw [HS.out]
        rfl
  case p0 =>
    rintro a' w' ⟨j, E, d, u, rfl, hb, hnn, ho, hw, hj, hk⟩
    obtain ⟨x, hx⟩ : ∃ x, (l ++ [0])[j]? = some x := ⟨_, List.getElem?_eq_getElem (by simp; omega)⟩
    have hln : l.length ≤ 1000000 := by rw [← HN.out]; exact hnb
    have HE := Lib.hid (ev_any w.heap.size (w.heap.size + 1) E _ d _ (l ++ [0]) j x _ w' hb hnn rfl (by omega) ho (by omega) hx (by omega))
    have HB := Lib.hid hb
    have HNN := Lib.hid hnn
    have HO := Lib.hid ho
    have HW := Lib.hid hw
    have HJ := Lib.hid hj
    have HK := Lib.hid hk
    have HX := Lib.hid hx
    clear hb hnn ho hw hj hk hx hln hr
    by_cases h2 : x = 2
    · subst h2
      go_wp2_with fail
      refine HE.out.mono ?_
      rintro e6 w6 ⟨rfl, rfl⟩
      go_wp2_with fail
      go_step3
      exact run_next (s := 1) HB.out HNN.out HO.out HW.out HJ.out HK.out HX.out (by decide) (by omega) rfl _ _ (by omega) rfl
    · by_cases h5 : x = 5
      · subst h5
        clear h2
        go_wp2_with fail
        refine HE.out.mono ?_
        rintro e6 w6 ⟨rfl, rfl⟩
        go_wp2_with fail
        go_step3
        exact run_next (s := 1) HB.out HNN.out HO.out HW.out HJ.out HK.out HX.out (by decide) (by omega) rfl _ _ (by omega) rfl
      · by_cases h9 : x = 9
        · subst h9
          clear h2
          clear h5
          go_wp2_with fail
          refine HE.out.mono ?_
          rintro e6 w6 ⟨rfl, rfl⟩
          go_wp2_with fail
          go_step3
          exact run_next (s := 1) HB.out HNN.out HO.out HW.out HJ.out HK.out HX.out (by decide) (by omega) rfl _ _ (by omega) rfl
        · by_cases h10 : x = 10
          · subst h10
            clear h2
            clear h5
            clear h9
            go_wp2_with fail
            refine HE.out.mono ?_
            rintro e6 w6 ⟨rfl, rfl⟩
            go_wp2_with fail
            go_step3
            exact run_next (s := 1) HB.out HNN.out HO.out HW.out HJ.out HK.out HX.out (by decide) (by omega) rfl _ _ (by omega) rfl
          · have hnx : nx 1 x = none := by
              unfold nx
              repeat (first | (rw [if_neg (by omega)]) | rfl)
            have hst := wk_stop HK.out HX.out hnx
            have HS := Lib.hid hst
            have b2 : (x == 2) = false := by rw [beq_eq_false_iff_ne]; exact h2
            have b5 : (x == 5) = false := by rw [beq_eq_false_iff_ne]; exact h5
            have b9 : (x == 9) = false := by rw [beq_eq_false_iff_ne]; exact h9
            have b10 : (x == 10) = false := by rw [beq_eq_false_iff_ne]; exact h10
            clear hnx hst h2 h5 h9 h10
            go_wp2_with fail
            refine HE.out.mono ?_
            rintro e6 w6 ⟨rfl, hw6⟩
            have h6 : w6.heap[w.heap.size + 1]? = some (.cells #[.int .i64 (j : Int)] 3 (0, 0)) := by
              rw [hw6]
              exact heap_setCell_same _ (w.heap.size + 1) 0 _ _ _ HNN.out
            have c6 : w6.cell? ⟨w.heap.size + 1, 0, none⟩ = some (.int .i64 j) := cell_of_row _ _ 0 _ _ _ h6
            have f6 : w6.frozen? ⟨w.heap.size + 1, 0, none⟩ = false := frozen_of_row _ _ 0 _ _ h6
            have hn6 : New w w6 := by
              rw [hw6]
              exact Below.setCell HW.out (by show w.heap.size ≤ w.heap.size + 1; omega) _
            have H6 := Lib.hid h6
            clear hw6 h6
            go_wp2_with fail
            go_still_tail 2, (by kernel_rfl)
            obtain ⟨w7, hw7⟩ : ∃ w7 : World, w7 = w6.drew := ⟨_, rfl⟩
            change wpList _ _ _ _ _ w6.drew
            rw [← hw7]
            have c7 : w7.cell? ⟨w.heap.size + 1, 0, none⟩ = some (.int .i64 j) := by rw [hw7]; exact c6
            have f7 : w7.frozen? ⟨w.heap.size + 1, 0, none⟩ = false := by rw [hw7]; exact f6
            have hn7 : New w w7 := by rw [hw7]; exact Below.drew hn6
            have H7 : Hid (w7.heap[w.heap.size + 1]? = some (.cells #[.int .i64 (j : Int)] 3 (0, 0))) := by rw [hw7]; exact H6
            clear hw7 c6 f6 hn6 H6
            go_wp2_with fail
            simp only [jumpsTo]
            refine bodyPost_ret (results_tc rfl u_int _ _ ⟨w.heap.size + 1, 0, none⟩ (.int .i64 j) rfl ?_) rfl ?_
            · rw [cell_of_row _ _ 0 _ _ _ (heap_setCell_same _ _ 0 _ _ _ H7.out)]
              rfl
            · refine ⟨?_, Below.setCell hn7 (by show w.heap.size ≤ w.heap.size + 1; omega) _⟩
              rw [HS.out]
              rfl
  case p1 =>
    rintro a' w' ⟨j, E, d, u, rfl, hb, hnn, ho, hw, hj, hk⟩
    obtain ⟨x, hx⟩ : ∃ x, (l ++ [0])[j]? = some x := ⟨_, List.getElem?_eq_getElem (by simp; omega)⟩
    have hln : l.length ≤ 1000000 := by rw [← HN.out]; exact hnb
    have HE := Lib.hid (ev_any w.heap.size (w.heap.size + 1) E _ d _ (l ++ [0]) j x _ w' hb hnn rfl (by omega) ho (by omega) hx (by omega))
    have HB := Lib.hid hb
    have HNN := Lib.hid hnn
    have HO := Lib.hid ho
    have HW := Lib.hid hw
    have HJ := Lib.hid hj
    have HK := Lib.hid hk
    have HX := Lib.hid hx
    clear hb hnn ho hw hj hk hx hln hr
    by_cases h1 : x = 1
    · subst h1
      go_wp2_with fail
      refine HE.out.mono ?_
      rintro e6 w6 ⟨rfl, rfl⟩
      go_wp2_with fail
      go_step3
      exact run_next (s := 0) HB.out HNN.out HO.out HW.out HJ.out HK.out HX.out (by decide) (by omega) rfl _ _ (by omega) rfl
    · have hnx : nx 0 x = none := by
        unfold nx
        repeat (first | (rw [if_neg (by omega)]) | rfl)
      have hst := wk_stop HK.out HX.out hnx
      have HS := Lib.hid hst
      have b1 : (x == 1) = false := by rw [beq_eq_false_iff_ne]; exact h1
      clear hnx hst h1
      go_wp2_with fail
      refine HE.out.mono ?_
      rintro e6 w6 ⟨rfl, hw6⟩
      have h6 : w6.heap[w.heap.size + 1]? = some (.cells #[.int .i64 (j : Int)] 3 (0, 0)) := by
        rw [hw6]
        exact heap_setCell_same _ (w.heap.size + 1) 0 _ _ _ HNN.out
      have c6 : w6.cell? ⟨w.heap.size + 1, 0, none⟩ = some (.int .i64 j) := cell_of_row _ _ 0 _ _ _ h6
      have f6 : w6.frozen? ⟨w.heap.size + 1, 0, none⟩ = false := frozen_of_row _ _ 0 _ _ h6
      have hn6 : New w w6 := by
        rw [hw6]
        exact Below.setCell HW.out (by show w.heap.size ≤ w.heap.size + 1; omega) _
      have H6 := Lib.hid h6
      clear hw6 h6
      go_wp2_with fail
      go_still_tail 2, (by kernel_rfl)
      obtain ⟨w7, hw7⟩ : ∃ w7 : World, w7 = w6.drew := ⟨_, rfl⟩
      change wpList _ _ _ _ _ w6.drew
      rw [← hw7]
      have c7 : w7.cell? ⟨w.heap.size + 1, 0, none⟩ = some (.int .i64 j) := by rw [hw7]; exact c6
      have f7 : w7.frozen? ⟨w.heap.size + 1, 0, none⟩ = false := by rw [hw7]; exact f6
      have hn7 : New w w7 := by rw [hw7]; exact Below.drew hn6
      have H7 : Hid (w7.heap[w.heap.size + 1]? = some (.cells #[.int .i64 (j : Int)] 3 (0, 0))) := by rw [hw7]; exact H6
      clear hw7 c6 f6 hn6 H6
      go_wp2_with fail
      simp only [jumpsTo]
      refine bodyPost_ret (results_tc rfl u_int _ _ ⟨w.heap.size + 1, 0, none⟩ (.int .i64 j) rfl ?_) rfl ?_
      · rw [cell_of_row _ _ 0 _ _ _ (heap_setCell_same _ _ 0 _ _ _ H7.out)]
        rfl
      · refine ⟨?_, Below.setCell hn7 (by show w.heap.size ≤ w.heap.size + 1; omega) _⟩
        rw [HS.out]
        rfl
  case p2 =>
    rintro a' w' ⟨j, E, d, u, rfl, hb, hnn, ho, hw, hj, hk⟩
    obtain ⟨x, hx⟩ : ∃ x, (l ++ [0])[j]? = some x := ⟨_, List.getElem?_eq_getElem (by simp; omega)⟩
    have hln : l.length ≤ 1000000 := by rw [← HN.out]; exact hnb
    have HE := Lib.hid (ev_any w.heap.size (w.heap.size + 1) E _ d _ (l ++ [0]) j x _ w' hb hnn rfl (by omega) ho (by omega) hx (by omega))
    have HB := Lib.hid hb
    have HNN := Lib.hid hnn
    have HO := Lib.hid ho
    have HW := Lib.hid hw
    have HJ := Lib.hid hj
    have HK := Lib.hid hk
    have HX := Lib.hid hx
    clear hb hnn ho hw hj hk hx hln hr
    by_cases h3 : x = 3
    · subst h3
      go_wp2_with fail
      refine HE.out.mono ?_
      rintro e6 w6 ⟨rfl, rfl⟩
      go_wp2_with fail
      go_step3
      exact run_next (s := 2) HB.out HNN.out HO.out HW.out HJ.out HK.out HX.out (by decide) (by omega) rfl _ _ (by omega) rfl
    · by_cases h8 : x = 8
      · subst h8
        clear h3
        go_wp2_with fail
        refine HE.out.mono ?_
        rintro e6 w6 ⟨rfl, rfl⟩
        go_wp2_with fail
        go_step3
        exact run_next (s := 2) HB.out HNN.out HO.out HW.out HJ.out HK.out HX.out (by decide) (by omega) rfl _ _ (by omega) rfl
      · by_cases h9 : x = 9
        · subst h9
          clear h3
          clear h8
          go_wp2_with fail
          refine HE.out.mono ?_
          rintro e6 w6 ⟨rfl, rfl⟩
          go_wp2_with fail
          go_step3
          exact run_next (s := 2) HB.out HNN.out HO.out HW.out HJ.out HK.out HX.out (by decide) (by omega) rfl _ _ (by omega) rfl
        · have hnx : nx 2 x = none := by
            unfold nx
            repeat (first | (rw [if_neg (by omega)]) | rfl)
          have hst := wk_stop HK.out HX.out hnx
          have HS := Lib.hid hst
          have b3 : (x == 3) = false := by rw [beq_eq_false_iff_ne]; exact h3
          have b8 : (x == 8) = false := by rw [beq_eq_false_iff_ne]; exact h8
          have b9 : (x == 9) = false := by rw [beq_eq_false_iff_ne]; exact h9
          clear hnx hst h3 h8 h9
          go_wp2_with fail
          refine HE.out.mono ?_
          rintro e6 w6 ⟨rfl, hw6⟩
          have h6 : w6.heap[w.heap.size + 1]? = some (.cells #[.int .i64 (j : Int)] 3 (0, 0)) := by
            rw [hw6]
            exact heap_setCell_same _ (w.heap.size + 1) 0 _ _ _ HNN.out
          have c6 : w6.cell? ⟨w.heap.size + 1, 0, none⟩ = some (.int .i64 j) := cell_of_row _ _ 0 _ _ _ h6
          have f6 : w6.frozen? ⟨w.heap.size + 1, 0, none⟩ = false := frozen_of_row _ _ 0 _ _ h6
          have hn6 : New w w6 := by
            rw [hw6]
            exact Below.setCell HW.out (by show w.heap.size ≤ w.heap.size + 1; omega) _
          have H6 := Lib.hid h6
          clear hw6 h6
          go_wp2_with fail
          go_still_tail 2, (by kernel_rfl)
          obtain ⟨w7, hw7⟩ : ∃ w7 : World, w7 = w6.drew := ⟨_, rfl⟩
          change wpList _ _ _ _ _ w6.drew
          rw [← hw7]
          have c7 : w7.cell? ⟨w.heap.size + 1, 0, none⟩ = some (.int .i64 j) := by rw [hw7]; exact c6
          have f7 : w7.frozen? ⟨w.heap.size + 1, 0, none⟩ = false := by rw [hw7]; exact f6
          have hn7 : New w w7 := by rw [hw7]; exact Below.drew hn6
          have H7 : Hid (w7.heap[w.heap.size + 1]? = some (.cells #[.int .i64 (j : Int)] 3 (0, 0))) := by rw [hw7]; exact H6
          clear hw7 c6 f6 hn6 H6
          go_wp2_with fail
          simp only [jumpsTo]
          refine bodyPost_ret (results_tc rfl u_int _ _ ⟨w.heap.size + 1, 0, none⟩ (.int .i64 j) rfl ?_) rfl ?_
          · rw [cell_of_row _ _ 0 _ _ _ (heap_setCell_same _ _ 0 _ _ _ H7.out)]
            rfl
          · refine ⟨?_, Below.setCell hn7 (by show w.heap.size ≤ w.heap.size + 1; omega) _⟩
            rw [HS.out]
            rfl
  case p3 =>
    rintro a' w' ⟨j, E, d, u, rfl, hb, hnn, ho, hw, hj, hk⟩
    obtain ⟨x, hx⟩ : ∃ x, (l ++ [0])[j]? = some x := ⟨_, List.getElem?_eq_getElem (by simp; omega)⟩
    have hln : l.length ≤ 1000000 := by rw [← HN.out]; exact hnb
    have HE := Lib.hid (ev_any w.heap.size (w.heap.size + 1) E _ d _ (l ++ [0]) j x _ w' hb hnn rfl (by omega) ho (by omega) hx (by omega))
    have HB := Lib.hid hb
    have HNN := Lib.hid hnn
    have HO := Lib.hid ho
    have HW := Lib.hid hw
    have HJ := Lib.hid hj
    have HK := Lib.hid hk
    have HX := Lib.hid hx
    clear hb hnn ho hw hj hk hx hln hr
    by_cases h6 : x = 6
    · subst h6
      go_wp2_with fail
      refine HE.out.mono ?_
      rintro e6 w6 ⟨rfl, rfl⟩
      go_wp2_with fail
      go_step3
      exact run_next (s := 4) HB.out HNN.out HO.out HW.out HJ.out HK.out HX.out (by decide) (by omega) rfl _ _ (by omega) rfl
    · by_cases h7 : x = 7
      · subst h7
        clear h6
        go_wp2_with fail
        refine HE.out.mono ?_
        rintro e6 w6 ⟨rfl, rfl⟩
        go_wp2_with fail
        go_step3
        exact run_next (s := 4) HB.out HNN.out HO.out HW.out HJ.out HK.out HX.out (by decide) (by omega) rfl _ _ (by omega) rfl
      · have hnx : nx 4 x = none := by
          unfold nx
          repeat (first | (rw [if_neg (by omega)]) | rfl)
        have hst := wk_stop HK.out HX.out hnx
        have HS := Lib.hid hst
        have b6 : (x == 6) = false := by rw [beq_eq_false_iff_ne]; exact h6
        have b7 : (x == 7) = false := by rw [beq_eq_false_iff_ne]; exact h7
        clear hnx hst h6 h7
        go_wp2_with fail
        refine HE.out.mono ?_
        rintro e6 w6 ⟨rfl, hw6⟩
        have h6 : w6.heap[w.heap.size + 1]? = some (.cells #[.int .i64 (j : Int)] 3 (0, 0)) := by
          rw [hw6]
          exact heap_setCell_same _ (w.heap.size + 1) 0 _ _ _ HNN.out
        have c6 : w6.cell? ⟨w.heap.size + 1, 0, none⟩ = some (.int .i64 j) := cell_of_row _ _ 0 _ _ _ h6
        have f6 : w6.frozen? ⟨w.heap.size + 1, 0, none⟩ = false := frozen_of_row _ _ 0 _ _ h6
        have hn6 : New w w6 := by
          rw [hw6]
          exact Below.setCell HW.out (by show w.heap.size ≤ w.heap.size + 1; omega) _
        have H6 := Lib.hid h6
        clear hw6 h6
        go_wp2_with fail
        go_still_tail 2, (by kernel_rfl)
        obtain ⟨w7, hw7⟩ : ∃ w7 : World, w7 = w6.drew := ⟨_, rfl⟩
        change wpList _ _ _ _ _ w6.drew
        rw [← hw7]
        have c7 : w7.cell? ⟨w.heap.size + 1, 0, none⟩ = some (.int .i64 j) := by rw [hw7]; exact c6
        have f7 : w7.frozen? ⟨w.heap.size + 1, 0, none⟩ = false := by rw [hw7]; exact f6
        have hn7 : New w w7 := by rw [hw7]; exact Below.drew hn6
        have H7 : Hid (w7.heap[w.heap.size + 1]? = some (.cells #[.int .i64 (j : Int)] 3 (0, 0))) := by rw [hw7]; exact H6
        clear hw7 c6 f6 hn6 H6
        go_wp2_with fail
        simp only [jumpsTo]
        refine bodyPost_ret (results_tc rfl u_int _ _ ⟨w.heap.size + 1, 0, none⟩ (.int .i64 j) rfl ?_) rfl ?_
        · rw [cell_of_row _ _ 0 _ _ _ (heap_setCell_same _ _ 0 _ _ _ H7.out)]
          rfl
        · refine ⟨?_, Below.setCell hn7 (by show w.heap.size ≤ w.heap.size + 1; omega) _⟩
          rw [HS.out]
          rfl
  case p4 =>
    rintro a' w' ⟨j, E, d, u, rfl, hb, hnn, ho, hw, hj, hk⟩
    obtain ⟨x, hx⟩ : ∃ x, (l ++ [0])[j]? = some x := ⟨_, List.getElem?_eq_getElem (by simp; omega)⟩
    have hln : l.length ≤ 1000000 := by rw [← HN.out]; exact hnb
    have HE := Lib.hid (ev_any w.heap.size (w.heap.size + 1) E _ d _ (l ++ [0]) j x _ w' hb hnn rfl (by omega) ho (by omega) hx (by omega))
    have HB := Lib.hid hb
    have HNN := Lib.hid hnn
    have HO := Lib.hid ho
    have HW := Lib.hid hw
    have HJ := Lib.hid hj
    have HK := Lib.hid hk
    have HX := Lib.hid hx
    clear hb hnn ho hw hj hk hx hln hr
    by_cases h10 : x = 10
    · subst h10
      go_wp2_with fail
      refine HE.out.mono ?_
      rintro e6 w6 ⟨rfl, rfl⟩
      go_wp2_with fail
      go_step3
      exact run_next (s := 7) HB.out HNN.out HO.out HW.out HJ.out HK.out HX.out (by decide) (by omega) rfl _ _ (by omega) rfl
    · have hnx : nx 7 x = none := by
        unfold nx
        repeat (first | (rw [if_neg (by omega)]) | rfl)
      have hst := wk_stop HK.out HX.out hnx
      have HS := Lib.hid hst
      have b10 : (x == 10) = false := by rw [beq_eq_false_iff_ne]; exact h10
      clear hnx hst h10
      go_wp2_with fail
      refine HE.out.mono ?_
      rintro e6 w6 ⟨rfl, hw6⟩
      have h6 : w6.heap[w.heap.size + 1]? = some (.cells #[.int .i64 (j : Int)] 3 (0, 0)) := by
        rw [hw6]
        exact heap_setCell_same _ (w.heap.size + 1) 0 _ _ _ HNN.out
      have c6 : w6.cell? ⟨w.heap.size + 1, 0, none⟩ = some (.int .i64 j) := cell_of_row _ _ 0 _ _ _ h6
      have f6 : w6.frozen? ⟨w.heap.size + 1, 0, none⟩ = false := frozen_of_row _ _ 0 _ _ h6
      have hn6 : New w w6 := by
        rw [hw6]
        exact Below.setCell HW.out (by show w.heap.size ≤ w.heap.size + 1; omega) _
      have H6 := Lib.hid h6
      clear hw6 h6
      go_wp2_with fail
      go_still_tail 2, (by kernel_rfl)
      obtain ⟨w7, hw7⟩ : ∃ w7 : World, w7 = w6.drew := ⟨_, rfl⟩
      change wpList _ _ _ _ _ w6.drew
      rw [← hw7]
      have c7 : w7.cell? ⟨w.heap.size + 1, 0, none⟩ = some (.int .i64 j) := by rw [hw7]; exact c6
      have f7 : w7.frozen? ⟨w.heap.size + 1, 0, none⟩ = false := by rw [hw7]; exact f6
      have hn7 : New w w7 := by rw [hw7]; exact Below.drew hn6
      have H7 : Hid (w7.heap[w.heap.size + 1]? = some (.cells #[.int .i64 (j : Int)] 3 (0, 0))) := by rw [hw7]; exact H6
      clear hw7 c6 f6 hn6 H6
      go_wp2_with fail
      simp only [jumpsTo]
      refine bodyPost_ret (results_tc rfl u_int _ _ ⟨w.heap.size + 1, 0, none⟩ (.int .i64 j) rfl ?_) rfl ?_
      · rw [cell_of_row _ _ 0 _ _ _ (heap_setCell_same _ _ 0 _ _ _ H7.out)]
        rfl
      · refine ⟨?_, Below.setCell hn7 (by show w.heap.size ≤ w.heap.size + 1; omega) _⟩
        rw [HS.out]
        rfl
  case p5 =>
    rintro a' w' ⟨j, E, d, u, rfl, hb, hnn, ho, hw, hj, hk⟩
    obtain ⟨x, hx⟩ : ∃ x, (l ++ [0])[j]? = some x := ⟨_, List.getElem?_eq_getElem (by simp; omega)⟩
    have hln : l.length ≤ 1000000 := by rw [← HN.out]; exact hnb
    have HE := Lib.hid (ev_any w.heap.size (w.heap.size + 1) E _ d _ (l ++ [0]) j x _ w' hb hnn rfl (by omega) ho (by omega) hx (by omega))
    have HB := Lib.hid hb
    have HNN := Lib.hid hnn
    have HO := Lib.hid ho
    have HW := Lib.hid hw
    have HJ := Lib.hid hj
    have HK := Lib.hid hk
    have HX := Lib.hid hx
    clear hb hnn ho hw hj hk hx hln hr
    by_cases h4 : x = 4
    · subst h4
      go_wp2_with fail
      refine HE.out.mono ?_
      rintro e6 w6 ⟨rfl, rfl⟩
      go_wp2_with fail
      go_step3
      exact run_next (s := 3) HB.out HNN.out HO.out HW.out HJ.out HK.out HX.out (by decide) (by omega) rfl _ _ (by omega) rfl
    · have hnx : nx 3 x = none := by
        unfold nx
        repeat (first | (rw [if_neg (by omega)]) | rfl)
      have hst := wk_stop HK.out HX.out hnx
      have HS := Lib.hid hst
      have b4 : (x == 4) = false := by rw [beq_eq_false_iff_ne]; exact h4
      clear hnx hst h4
      go_wp2_with fail
      refine HE.out.mono ?_
      rintro e6 w6 ⟨rfl, hw6⟩
      have h6 : w6.heap[w.heap.size + 1]? = some (.cells #[.int .i64 (j : Int)] 3 (0, 0)) := by
        rw [hw6]
        exact heap_setCell_same _ (w.heap.size + 1) 0 _ _ _ HNN.out
      have c6 : w6.cell? ⟨w.heap.size + 1, 0, none⟩ = some (.int .i64 j) := cell_of_row _ _ 0 _ _ _ h6
      have f6 : w6.frozen? ⟨w.heap.size + 1, 0, none⟩ = false := frozen_of_row _ _ 0 _ _ h6
      have hn6 : New w w6 := by
        rw [hw6]
        exact Below.setCell HW.out (by show w.heap.size ≤ w.heap.size + 1; omega) _
      have H6 := Lib.hid h6
      clear hw6 h6
      go_wp2_with fail
      go_still_tail 2, (by kernel_rfl)
      obtain ⟨w7, hw7⟩ : ∃ w7 : World, w7 = w6.drew := ⟨_, rfl⟩
      change wpList _ _ _ _ _ w6.drew
      rw [← hw7]
      have c7 : w7.cell? ⟨w.heap.size + 1, 0, none⟩ = some (.int .i64 j) := by rw [hw7]; exact c6
      have f7 : w7.frozen? ⟨w.heap.size + 1, 0, none⟩ = false := by rw [hw7]; exact f6
      have hn7 : New w w7 := by rw [hw7]; exact Below.drew hn6
      have H7 : Hid (w7.heap[w.heap.size + 1]? = some (.cells #[.int .i64 (j : Int)] 3 (0, 0))) := by rw [hw7]; exact H6
      clear hw7 c6 f6 hn6 H6
      go_wp2_with fail
      simp only [jumpsTo]
      refine bodyPost_ret (results_tc rfl u_int _ _ ⟨w.heap.size + 1, 0, none⟩ (.int .i64 j) rfl ?_) rfl ?_
      · rw [cell_of_row _ _ 0 _ _ _ (heap_setCell_same _ _ 0 _ _ _ H7.out)]
        rfl
      · refine ⟨?_, Below.setCell hn7 (by show w.heap.size ≤ w.heap.size + 1; omega) _⟩
        rw [HS.out]
        rfl
  case p6 =>
    rintro a' w' ⟨j, E, d, u, rfl, hb, hnn, ho, hw, hj, hk⟩
    obtain ⟨x, hx⟩ : ∃ x, (l ++ [0])[j]? = some x := ⟨_, List.getElem?_eq_getElem (by simp; omega)⟩
    have hln : l.length ≤ 1000000 := by rw [← HN.out]; exact hnb
    have HE := Lib.hid (ev_any w.heap.size (w.heap.size + 1) E _ d _ (l ++ [0]) j x _ w' hb hnn rfl (by omega) ho (by omega) hx (by omega))
    have HB := Lib.hid hb
    have HNN := Lib.hid hnn
    have HO := Lib.hid ho
    have HW := Lib.hid hw
    have HJ := Lib.hid hj
    have HK := Lib.hid hk
    have HX := Lib.hid hx
    clear hb hnn ho hw hj hk hx hln hr
    by_cases h9 : x = 9
    · subst h9
      go_wp2_with fail
      refine HE.out.mono ?_
      rintro e6 w6 ⟨rfl, rfl⟩
      go_wp2_with fail
      go_step3
      exact run_next (s := 6) HB.out HNN.out HO.out HW.out HJ.out HK.out HX.out (by decide) (by omega) rfl _ _ (by omega) rfl
    · have hnx : nx 6 x = none := by
        unfold nx
        repeat (first | (rw [if_neg (by omega)]) | rfl)
      have hst := wk_stop HK.out HX.out hnx
      have HS := Lib.hid hst
      have b9 : (x == 9) = false := by rw [beq_eq_false_iff_ne]; exact h9
      clear hnx hst h9
      go_wp2_with fail
      refine HE.out.mono ?_
      rintro e6 w6 ⟨rfl, hw6⟩
      have h6 : w6.heap[w.heap.size + 1]? = some (.cells #[.int .i64 (j : Int)] 3 (0, 0)) := by
        rw [hw6]
        exact heap_setCell_same _ (w.heap.size + 1) 0 _ _ _ HNN.out
      have c6 : w6.cell? ⟨w.heap.size + 1, 0, none⟩ = some (.int .i64 j) := cell_of_row _ _ 0 _ _ _ h6
      have f6 : w6.frozen? ⟨w.heap.size + 1, 0, none⟩ = false := frozen_of_row _ _ 0 _ _ h6
      have hn6 : New w w6 := by
        rw [hw6]
        exact Below.setCell HW.out (by show w.heap.size ≤ w.heap.size + 1; omega) _
      have H6 := Lib.hid h6
      clear hw6 h6
      go_wp2_with fail
      go_still_tail 2, (by kernel_rfl)
      obtain ⟨w7, hw7⟩ : ∃ w7 : World, w7 = w6.drew := ⟨_, rfl⟩
      change wpList _ _ _ _ _ w6.drew
      rw [← hw7]
      have c7 : w7.cell? ⟨w.heap.size + 1, 0, none⟩ = some (.int .i64 j) := by rw [hw7]; exact c6
      have f7 : w7.frozen? ⟨w.heap.size + 1, 0, none⟩ = false := by rw [hw7]; exact f6
      have hn7 : New w w7 := by rw [hw7]; exact Below.drew hn6
      have H7 : Hid (w7.heap[w.heap.size + 1]? = some (.cells #[.int .i64 (j : Int)] 3 (0, 0))) := by rw [hw7]; exact H6
      clear hw7 c6 f6 hn6 H6
      go_wp2_with fail
      simp only [jumpsTo]
      refine bodyPost_ret (results_tc rfl u_int _ _ ⟨w.heap.size + 1, 0, none⟩ (.int .i64 j) rfl ?_) rfl ?_
      · rw [cell_of_row _ _ 0 _ _ _ (heap_setCell_same _ _ 0 _ _ _ H7.out)]
        rfl
      · refine ⟨?_, Below.setCell hn7 (by show w.heap.size ≤ w.heap.size + 1; omega) _⟩
        rw [HS.out]
        rfl
  case p7 =>
    rintro a' w' ⟨j, E, d, u, rfl, hb, hnn, ho, hw, hj, hk⟩
    obtain ⟨x, hx⟩ : ∃ x, (l ++ [0])[j]? = some x := ⟨_, List.getElem?_eq_getElem (by simp; omega)⟩
    have hln : l.length ≤ 1000000 := by rw [← HN.out]; exact hnb
    have HE := Lib.hid (ev_any w.heap.size (w.heap.size + 1) E _ d _ (l ++ [0]) j x _ w' hb hnn rfl (by omega) ho (by omega) hx (by omega))
    have HB := Lib.hid hb
    have HNN := Lib.hid hnn
    have HO := Lib.hid ho
    have HW := Lib.hid hw
    have HJ := Lib.hid hj
    have HK := Lib.hid hk
    have HX := Lib.hid hx
    clear hb hnn ho hw hj hk hx hln hr
    by_cases h8 : x = 8
    · subst h8
      go_wp2_with fail
      refine HE.out.mono ?_
      rintro e6 w6 ⟨rfl, rfl⟩
      go_wp2_with fail
      go_step3
      exact run_next (s := 5) HB.out HNN.out HO.out HW.out HJ.out HK.out HX.out (by decide) (by omega) rfl _ _ (by omega) rfl
    · by_cases h9 : x = 9
      · subst h9
        clear h8
        go_wp2_with fail
        refine HE.out.mono ?_
        rintro e6 w6 ⟨rfl, rfl⟩
        go_wp2_with fail
        go_step3
        exact run_next (s := 5) HB.out HNN.out HO.out HW.out HJ.out HK.out HX.out (by decide) (by omega) rfl _ _ (by omega) rfl
      · have hnx : nx 5 x = none := by
          unfold nx
          repeat (first | (rw [if_neg (by omega)]) | rfl)
        have hst := wk_stop HK.out HX.out hnx
        have HS := Lib.hid hst
        have b8 : (x == 8) = false := by rw [beq_eq_false_iff_ne]; exact h8
        have b9 : (x == 9) = false := by rw [beq_eq_false_iff_ne]; exact h9
        clear hnx hst h8 h9
        go_wp2_with fail
        refine HE.out.mono ?_
        rintro e6 w6 ⟨rfl, hw6⟩
        have h6 : w6.heap[w.heap.size + 1]? = some (.cells #[.int .i64 (j : Int)] 3 (0, 0)) := by
          rw [hw6]
          exact heap_setCell_same _ (w.heap.size + 1) 0 _ _ _ HNN.out
        have c6 : w6.cell? ⟨w.heap.size + 1, 0, none⟩ = some (.int .i64 j) := cell_of_row _ _ 0 _ _ _ h6
        have f6 : w6.frozen? ⟨w.heap.size + 1, 0, none⟩ = false := frozen_of_row _ _ 0 _ _ h6
        have hn6 : New w w6 := by
          rw [hw6]
          exact Below.setCell HW.out (by show w.heap.size ≤ w.heap.size + 1; omega) _
        have H6 := Lib.hid h6
        clear hw6 h6
        go_wp2_with fail
        go_still_tail 2, (by kernel_rfl)
        obtain ⟨w7, hw7⟩ : ∃ w7 : World, w7 = w6.drew := ⟨_, rfl⟩
        change wpList _ _ _ _ _ w6.drew
        rw [← hw7]
        have c7 : w7.cell? ⟨w.heap.size + 1, 0, none⟩ = some (.int .i64 j) := by rw [hw7]; exact c6
        have f7 : w7.frozen? ⟨w.heap.size + 1, 0, none⟩ = false := by rw [hw7]; exact f6
        have hn7 : New w w7 := by rw [hw7]; exact Below.drew hn6
        have H7 : Hid (w7.heap[w.heap.size + 1]? = some (.cells #[.int .i64 (j : Int)] 3 (0, 0))) := by rw [hw7]; exact H6
        clear hw7 c6 f6 hn6 H6
        go_wp2_with fail
        simp only [jumpsTo]
        refine bodyPost_ret (results_tc rfl u_int _ _ ⟨w.heap.size + 1, 0, none⟩ (.int .i64 j) rfl ?_) rfl ?_
        · rw [cell_of_row _ _ 0 _ _ _ (heap_setCell_same _ _ 0 _ _ _ H7.out)]
          rfl
        · refine ⟨?_, Below.setCell hn7 (by show w.heap.size ≤ w.heap.size + 1; omega) _⟩
          rw [HS.out]
          rfl
end Go.Proofs.Ytblananbhibpmaa
