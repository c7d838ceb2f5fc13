/- hanseref10.Rows, Next, Walk: what they do. -/
import Derived.Test.YtblananbhibpmaaLifeA
namespace Go.Proofs.Ytblananbhibpmaa
open Go.RowKit
/-- the page's table -/
def rowsL : List (Int × Int × Int) := [(0, 1, 1), (1, 2, 2), (1, 5, 4), (1, 9, 7), (1, 10, 0), (2, 3, 3), (2, 8, 6), (2, 9, 7), (3, 4, 1), (4, 6, 1), (4, 7, 5), (5, 8, 6), (5, 9, 7), (6, 9, 7), (7, 10, 0)]
def rowIs (s e : Int) (r : Int × Int × Int) : Bool := r.1 == s && r.2.1 == e
def rowsNext (s e : Int) (l : List (Int × Int × Int)) : Int × Bool := match l.find? (rowIs s e) with
  | some r => (r.2.2, true)
  | none => (0, false)
theorem rowsNext_yes {s e : Int} {r : Int × Int × Int} {l : List (Int × Int × Int)} (h : rowIs s e r = true) : rowsNext s e (r :: l) = (r.2.2, true) := by
  unfold rowsNext
  rw [List.find?_cons_of_pos h]
theorem rowsNext_no {s e : Int} {r : Int × Int × Int} {l : List (Int × Int × Int)} (h : rowIs s e r = false) : rowsNext s e (r :: l) = rowsNext s e l := by
  unfold rowsNext
  rw [List.find?_cons_of_neg (by rw [h]; simp)]
theorem rows_in : ∀ r ∈ rowsL, 0 ≤ r.1 ∧ r.1 ≤ 7 ∧ 1 ≤ r.2.1 ∧ r.2.1 ≤ 10 := by decide
theorem rows_small : ∀ (a : Fin 8) (b : Fin 11), rowsNext (a.val : Int) (b.val : Int) rowsL = nxp (a.val : Int) (b.val : Int) := by decide +kernel
theorem nx_out {s e : Int} (h : s < 0 ∨ 7 < s ∨ e < 0 ∨ 10 < e) : nx s e = none := by
  unfold nx
  repeat (first | (rw [if_neg (by omega)]) | rfl)
theorem rowsNext_nxp (s e : Int) : rowsNext s e rowsL = nxp s e := by
  by_cases h : s < 0 ∨ 7 < s ∨ e < 0 ∨ 10 < e
  · have h1 : nxp s e = (0, false) := by unfold nxp; rw [nx_out h]
    rw [h1]
    unfold rowsNext
    have : rowsL.find? (rowIs s e) = none := by
      rw [List.find?_eq_none]
      intro r hr
      have := rows_in r hr
      unfold rowIs
      rw [Bool.and_eq_true, beq_iff_eq, beq_iff_eq]
      omega
    rw [this]
  · obtain ⟨a, ha⟩ : ∃ a : Nat, s = (a : Int) := ⟨s.toNat, by omega⟩
    obtain ⟨b, hb⟩ : ∃ b : Nat, e = (b : Int) := ⟨e.toNat, by omega⟩
    have := rows_small ⟨a, by omega⟩ ⟨b, by omega⟩
    rw [ha, hb]
    exact this
/-- the table's cells -/
def rowCells : Array Value := (rowsL.flatMap fun r => [iv r.1, iv r.2.1, iv r.2.2]).toArray
/-- a slice of rows of three numbers -/
def R3 (w : World) (ad : Addr) (ls : List (Int × Int × Int)) : Prop :=
  ∀ (j : Nat) r, ls[j]? = some r → w.cell? (ad.add (j * 3)) = some (.int .i64 r.1) ∧ w.cell? ⟨(ad.add (j * 3)).block, (ad.add (j * 3)).off + 1, none⟩ = some (.int .i64 r.2.1) ∧ w.cell? ⟨(ad.add (j * 3)).block, (ad.add (j * 3)).off + 2, none⟩ = some (.int .i64 r.2.2)
def Rowed (w : World) (e : Ending) (w' : World) : Prop := ∃ ad, e = .returned (.slice (some ad) 15 15) ∧ R3 w' ad rowsL ∧ New w w'
set_option maxHeartbeats 1000000 in
theorem rows_any (w : World) : Calls Try.prog 23 #[] w (Rowed w) := by
  go_enter Try.func23, Try.ntmps23
  go_wp2_with fail
  go_ret
  refine ⟨⟨w.heap.size, 0, none⟩, rfl, ?_, (Below.refl _ _).alloc (Nat.le_refl _) _⟩
  change R3 (w.alloc (.cells rowCells 45)) _ _
  intro j r hj
  have hh := heap_alloc_new w (.cells rowCells 45)
  have hlt : j < 15 := (List.getElem?_eq_some_iff.1 hj).1
  rw [addr_at]
  refine ⟨?_, ?_, ?_⟩
  · rw [cell_of_row _ _ _ _ _ _ hh]
    rcases j with _ | _ | _ | _ | _ | _ | _ | _ | _ | _ | _ | _ | _ | _ | _ | j <;> first | (cases hj; rfl) | omega
  · show (w.alloc _).cell? ⟨w.heap.size, j * 3 + 1, none⟩ = _
    rw [cell_of_row _ _ _ _ _ _ hh]
    rcases j with _ | _ | _ | _ | _ | _ | _ | _ | _ | _ | _ | _ | _ | _ | _ | j <;> first | (cases hj; rfl) | omega
  · show (w.alloc _).cell? ⟨w.heap.size, j * 3 + 2, none⟩ = _
    rw [cell_of_row _ _ _ _ _ _ hh]
    rcases j with _ | _ | _ | _ | _ | _ | _ | _ | _ | _ | _ | _ | _ | _ | _ | j <;> first | (cases hj; rfl) | omega
set_option maxHeartbeats 2000000 in
theorem rnext_any (s e : Int) (w : World) : Calls Try.prog 14 #[.int .i64 s, .int .i64 e] w fun v w' => v = .returned (.tuple #[.int .i64 (nxp s e).1, .bool (nxp s e).2]) ∧ New w w' := by
  have HR := Lib.hid (rowsNext_nxp s e)
  go_enter Try.func14, Try.ntmps14
  go_wp2_with fail
  refine (rows_any w).mono ?_
  rintro v w1 ⟨ad, rfl, hr, hw1⟩
  go_wp2_with fail
  go_loopw [7] (fun i wr => ∃ j : Nat, i = .int .i64 j ∧ j ≤ 15 ∧ Hid (rowsNext s e rowsL = rowsNext s e (rowsL.drop j)) ∧ wr = w1) (fun i _ => 15 - (intOf i).toNat)
  case atStart => exact ⟨0, rfl, by omega, rfl, rfl⟩
  case round =>
    obtain ⟨j, rfl, hj, HD, rfl⟩ := hrel
    by_cases hlt : j < 15
    · obtain ⟨r, hr1⟩ : ∃ r, rowsL[j]? = some r := ⟨_, List.getElem?_eq_getElem hlt⟩
      obtain ⟨c0, c1, c2⟩ := hr j r hr1
      have hdr : rowsL.drop j = r :: rowsL.drop (j + 1) := by
        obtain ⟨hlen, he⟩ := List.getElem?_eq_some_iff.1 hr1
        rw [List.drop_eq_getElem_cons hlen, he]
      obtain ⟨x, y, z⟩ := r
      simp only at c0 c1 c2
      have HDR := Lib.hid hdr
      clear hr1 hdr
      by_cases hx : x = s
      · subst hx
        by_cases hy : y = e
        · subst hy
          have hres : nxp x y = (z, true) := by rw [← HR.out, HD.out, HDR.out, rowsNext_yes (by unfold rowIs; simp)]
          have HRS := Lib.hid hres
          clear hres
          go_wp2_with fail
          go_ret2
          rw [HRS.out]
          exact ⟨rfl, hw1⟩
        · have hq : (y == e) = false := by rw [beq_eq_false_iff_ne]; exact hy
          have hnx : Hid (rowsNext x e rowsL = rowsNext x e (rowsL.drop (j + 1))) := by show _ = _; rw [HD.out, HDR.out, rowsNext_no (by unfold rowIs; rw [Bool.and_eq_false_iff]; exact .inr hq)]
          clear hy
          go_wp2_with fail
          go_roundw
          case rel => exact ⟨j + 1, by go_num, by omega, hnx, by first | rfl | trivial⟩
          case measure => simp [intOf]; omega
      · have hq : (x == s) = false := by rw [beq_eq_false_iff_ne]; exact hx
        have hnx : Hid (rowsNext s e rowsL = rowsNext s e (rowsL.drop (j + 1))) := by show _ = _; rw [HD.out, HDR.out, rowsNext_no (by unfold rowIs; rw [Bool.and_eq_false_iff]; exact .inl hq)]
        clear hx
        go_wp2_with fail
        go_roundw
        case rel => exact ⟨j + 1, by go_num, by omega, hnx, by first | rfl | trivial⟩
        case measure => simp [intOf]; omega
    · have hj15 : j = 15 := by omega
      subst hj15
      have hres : nxp s e = (0, false) := by rw [← HR.out, HD.out]; rfl
      have HRS := Lib.hid hres
      clear hres
      go_wp2_with fail
      go_ret2
      rw [HRS.out]
      exact ⟨rfl, hw1⟩
set_option maxHeartbeats 2000000 in
theorem rwalk_any (s : Int) (A : Option Addr) (n c : Nat) (l : List Int) (w : World) (hn : n = l.length) (hr : RI w A l) (hnb : n ≤ 900000) :
    Calls Try.prog 15 #[.int .i64 s, .slice A n c] w (Walked s l w) := by
  have HN := Lib.hid hn
  clear hn
  go_enter Try.func15, Try.ntmps15
  go_wp2_with fail
  go_loopw [0, 6] (fun s' i wr => ∃ (j : Nat) (t : Int), s' = .int .i64 t ∧ i = .int .i64 j ∧ j ≤ n ∧ Hid (wk s l = ((wk t (l.drop j)).1, j + (wk t (l.drop j)).2)) ∧ New w wr) (fun _ i _ => n - (intOf i).toNat)
  case atStart => exact ⟨0, s, rfl, rfl, Nat.zero_le _, by show _ = _; simp, New.refl _⟩
  case round =>
    obtain ⟨j, t, rfl, rfl, hj, HD, hnew⟩ := hrel
    by_cases hlt : j < n
    · obtain ⟨e, he⟩ : ∃ e, l[j]? = some e := ⟨_, List.getElem?_eq_getElem (by rw [← HN.out]; exact hlt)⟩
      obtain ⟨ad, rfl, hc⟩ := (hr.new hnew) j e he
      have hdr : l.drop j = e :: l.drop (j + 1) := by
        obtain ⟨hlen, hee⟩ := List.getElem?_eq_some_iff.1 he
        rw [List.drop_eq_getElem_cons hlen, hee]
      have HDR := Lib.hid hdr
      clear he hdr
      cases hx : nx t e with
      | none =>
        have h2 : nxp t e = (0, false) := by unfold nxp; rw [hx]
        have hres : wk s l = (t, j) := by rw [HD.out, HDR.out, wk_none hx]; rfl
        have H2 := Lib.hid h2
        have HRS := Lib.hid hres
        clear h2 hres hx
        go_wp2_with fail
        refine (rnext_any t e wr).mono ?_
        rintro v w2 ⟨rfl, hw2⟩
        rw [H2.out]
        go_wp2_with fail
        go_ret2
        refine ⟨?_, New.trans hnew hw2⟩
        rw [HRS.out]
        rfl
      | some u =>
        have h2 : nxp t e = (u, true) := by unfold nxp; rw [hx]
        have hres : wk s l = ((wk u (l.drop (j + 1))).1, (j + 1) + (wk u (l.drop (j + 1))).2) := by
          rw [HD.out, HDR.out, wk_some hx]
          simp only
          congr 1
          omega
        have H2 := Lib.hid h2
        have HRS := Lib.hid hres
        clear h2 hres hx
        go_wp2_with fail
        refine (rnext_any t e wr).mono ?_
        rintro v w2 ⟨rfl, hw2⟩
        rw [H2.out]
        have hnew2 := New.trans hnew hw2
        clear hc hw2
        go_wp2_with fail
        go_roundw
        case rel => exact ⟨j + 1, u, rfl, by go_num, by omega, HRS, hnew2⟩
        case measure => simp [intOf]; omega
    · have hjn : j = n := by omega
      subst hjn
      have hres : wk s l = (t, j) := by rw [HD.out, List.drop_eq_nil_of_le (by rw [← HN.out]; exact Nat.le_refl _), wk_nil]; rfl
      have HRS := Lib.hid hres
      clear hres
      go_wp2_with fail
      go_ret2
      refine ⟨?_, hnew⟩
      rw [HRS.out]
      rfl
end Go.Proofs.Ytblananbhibpmaa
