/- life.led, Walk, Next; hanselaw10.wakes: what they do. -/
import Derived.Test.YtblananbhibpmaaRunW
namespace Go.Proofs.Ytblananbhibpmaa
open Go.RowKit
/-- events that lead to a state -/
def ldl (s : Int) : List Int := if s = 1 then [1] else if s = 2 then [1, 2] else if s = 3 then [1, 2, 3] else if s = 4 then [1, 5] else if s = 5 then [1, 5, 7] else if s = 6 then [1, 2, 8] else if s = 7 then [1, 9] else []
theorem eight {s : Int} (h0 : 0 ≤ s) (h7 : s ≤ 7) : s = 0 ∨ s = 1 ∨ s = 2 ∨ s = 3 ∨ s = 4 ∨ s = 5 ∨ s = 6 ∨ s = 7 := by omega
theorem wk_ldl {s : Int} (h0 : 0 ≤ s) (h7 : s ≤ 7) : wk 0 (ldl s) = (s, (ldl s).length) := by
  rcases eight h0 h7 with rfl | rfl | rfl | rfl | rfl | rfl | rfl | rfl <;> decide
theorem ldl_len (s : Int) : (ldl s).length ≤ 3 := by
  unfold ldl
  repeat (first | (split; · decide) | decide)
theorem wk_led {s : Int} (h0 : 0 ≤ s) (h7 : s ≤ 7) (l : List Int) : wk 0 (ldl s ++ l) = ((wk s l).1, (ldl s).length + (wk s l).2) := by
  rw [wk_append, wk_ldl h0 h7, if_pos rfl]
def Led (s : Int) (w : World) (e : Ending) (w' : World) : Prop := ∃ A c, e = .returned (.tuple #[.slice A (ldl s).length c, .bool true]) ∧ RI w' A (ldl s) ∧ New w w'
set_option maxHeartbeats 1000000 in
theorem led_is (s : Int) (h0 : 0 ≤ s) (h7 : s ≤ 7) (w : World) : Calls Try.prog 20 #[.int .i64 s] w (Led s w) := by
  have key : ∀ (l : List Int), New w (w.alloc (.cells (l.map iv).toArray 3)) ∧ RI (w.alloc (.cells (l.map iv).toArray 3)) (some ⟨w.heap.size, 0, none⟩) l := fun l => ⟨(Below.refl _ _).alloc (Nat.le_refl _) _, RI.lit w l _ _ rfl⟩
  have K := Lib.hid key
  clear key
  rcases eight h0 h7 with rfl | rfl | rfl | rfl | rfl | rfl | rfl | rfl
  · go_enter Try.func20, Try.ntmps20
    go_wp2_with fail
    go_ret2
    exact ⟨none, 0, rfl, RI.nil _ _, New.refl _⟩
  · go_enter Try.func20, Try.ntmps20
    go_wp2_with fail
    go_ret2
    exact ⟨_, _, rfl, (K.out [1]).2, (K.out [1]).1⟩
  · go_enter Try.func20, Try.ntmps20
    go_wp2_with fail
    go_ret2
    exact ⟨_, _, rfl, (K.out [1, 2]).2, (K.out [1, 2]).1⟩
  · go_enter Try.func20, Try.ntmps20
    go_wp2_with fail
    go_ret2
    exact ⟨_, _, rfl, (K.out [1, 2, 3]).2, (K.out [1, 2, 3]).1⟩
  · go_enter Try.func20, Try.ntmps20
    go_wp2_with fail
    go_ret2
    exact ⟨_, _, rfl, (K.out [1, 5]).2, (K.out [1, 5]).1⟩
  · go_enter Try.func20, Try.ntmps20
    go_wp2_with fail
    go_ret2
    exact ⟨_, _, rfl, (K.out [1, 5, 7]).2, (K.out [1, 5, 7]).1⟩
  · go_enter Try.func20, Try.ntmps20
    go_wp2_with fail
    go_ret2
    exact ⟨_, _, rfl, (K.out [1, 2, 8]).2, (K.out [1, 2, 8]).1⟩
  · go_enter Try.func20, Try.ntmps20
    go_wp2_with fail
    go_ret2
    exact ⟨_, _, rfl, (K.out [1, 9]).2, (K.out [1, 9]).1⟩
set_option maxHeartbeats 1000000 in
theorem led_no (s : Int) (h : s < 0 ∨ 7 < s) (w : World) : Calls Try.prog 20 #[.int .i64 s] w fun e w' => e = .returned (.tuple #[.slice none 0 0, .bool false]) ∧ w = w' := by
  have b0 : (s == 0) = false := by rw [beq_eq_false_iff_ne]; omega
  have b1 : (s == 1) = false := by rw [beq_eq_false_iff_ne]; omega
  have b2 : (s == 2) = false := by rw [beq_eq_false_iff_ne]; omega
  have b3 : (s == 3) = false := by rw [beq_eq_false_iff_ne]; omega
  have b4 : (s == 4) = false := by rw [beq_eq_false_iff_ne]; omega
  have b5 : (s == 5) = false := by rw [beq_eq_false_iff_ne]; omega
  have b6 : (s == 6) = false := by rw [beq_eq_false_iff_ne]; omega
  have b7 : (s == 7) = false := by rw [beq_eq_false_iff_ne]; omega
  clear h
  go_enter Try.func20, Try.ntmps20
  go_wp2_with fail
  go_ret2
  exact ⟨rfl, rfl⟩
def Walked (s : Int) (l : List Int) (w : World) (e : Ending) (w' : World) : Prop := e = .returned (.tuple #[.int .i64 (wk s l).1, .int .i64 ((wk s l).2 : Nat)]) ∧ New w w'
set_option maxHeartbeats 2000000 in
theorem walk_any (s : Int) (A : Option Addr) (n c : Nat) (l : List Int) (w : World) (hn : n = l.length) (hr : RI w A l) (hnb : n ≤ 900000) :
    Calls Try.prog 10 #[.int .i64 s, .slice A n c] w (Walked s l w) := by
  have HN := Lib.hid hn
  clear hn
  by_cases hs : 0 ≤ s ∧ s ≤ 7
  · obtain ⟨h0, h7⟩ := hs
    have HW := Lib.hid (wk_led h0 h7 l)
    have HL := Lib.hid (led_is s h0 h7)
    have hll := ldl_len s
    obtain ⟨m, hm⟩ : ∃ m, m = (ldl s).length := ⟨_, rfl⟩
    have HM := Lib.hid hm
    rw [← hm] at hll
    clear h0 h7 hm
    go_enter Try.func10, Try.ntmps10
    go_wp2_with fail
    refine (HL.out w).mono ?_
    rintro e w1 ⟨B, d, rfl, hb, hw1⟩
    rw [← HM.out]
    go_wp2_with fail
    have hal : New w1 (w1.alloc (.cells #[.slice B m d, .slice A n c] 22)) := (Below.refl _ _).alloc (Nat.le_refl _) _
    have hh := heap_alloc_new w1 (.cells #[.slice B m d, .slice A n c] 22)
    refine (concat_two w1.heap.size B A m d n c (ldl s) l _ HM.out HN.out (hb.new hal) ((hr.new hw1).new hal) (by omega) (by omega) (by rw [cell_of_row _ _ 0 _ _ _ hh]; rfl) (by rw [cell_of_row _ _ 1 _ _ _ hh]; rfl)).mono ?_
    rintro e w2 ⟨C, cc, rfl, ho, hw2⟩
    have hw02 := New.trans (New.trans hw1 hal) hw2
    have hlen : (ldl s ++ l).length = m + n := by rw [List.length_append, HM.out, HN.out]
    have HLN := Lib.hid hlen.symm
    rw [hlen] at ho ⊢
    clear hw1 hal hh hw2 hb hr hlen
    go_wp2_with fail
    refine (run_any C (m + n) cc (ldl s ++ l) w2 HLN.out ho.rb (by omega)).mono ?_
    rintro e w3 ⟨rfl, hw3⟩
    rw [HW.out, ← HM.out]
    have hkl : (wk s l).2 ≤ n := by rw [HN.out]; exact wk_le l s
    obtain ⟨x, k, hx⟩ : ∃ x k, wk s l = (x, k) := ⟨_, _, rfl⟩
    have HX := Lib.hid hx
    rw [hx] at hkl ⊢
    clear hx
    have e1 : IntKind.i64.wrap (((m + k : Nat) : Int) - (m : Int)) = (k : Int) := by rw [show ((m + k : Nat) : Int) - (m : Int) = (k : Int) from by omega]; exact IntWalk.i64_in _ ⟨by omega, by omega⟩
    have e2 : IntKind.i64.wrap ((m : Int) + (k : Int) - (m : Int)) = (k : Int) := by rw [show (m : Int) + (k : Int) - (m : Int) = (k : Int) from by omega]; exact IntWalk.i64_in _ ⟨by omega, by omega⟩
    go_wp2_with fail
    go_ret2
    refine ⟨?_, New.trans hw02 hw3⟩
    rw [HX.out]
    first | rfl | (simp; done) | (simp; omega)
  · have hfar : s < 0 ∨ 7 < s := by omega
    have HF := Lib.hid hfar
    clear hs hfar
    go_enter Try.func10, Try.ntmps10
    go_wp2_with fail
    refine (led_no s HF.out w).mono ?_
    rintro e w1 ⟨rfl, rfl⟩
    go_wp2_with fail
    go_ret2
    refine ⟨?_, New.refl _⟩
    rw [wk_far l HF.out]
    rfl
/-- the next state, and whether there is one -/
def nxp (s e : Int) : Int × Bool := match nx s e with
  | none => (0, false)
  | some t => (t, true)
set_option maxHeartbeats 1000000 in
theorem next_any (s e : Int) (w : World) : Calls Try.prog 13 #[.int .i64 s, .int .i64 e] w fun v w' => v = .returned (.tuple #[.int .i64 (nxp s e).1, .bool (nxp s e).2]) ∧ New w w' := by
  have hal : New w (w.alloc (.cells ([e].map iv).toArray 3)) := (Below.refl _ _).alloc (Nat.le_refl _) _
  have HW := Lib.hid (walk_any s _ 1 1 [e] (w.alloc (.cells ([e].map iv).toArray 3)) rfl (RI.lit w [e] _ (0, 0) rfl) (by omega))
  cases h : nx s e with
  | none =>
    have h1 : wk s [e] = (s, 0) := wk_none h
    have h2 : nxp s e = (0, false) := by unfold nxp; rw [h]
    have H1 := Lib.hid h1
    rw [h2]
    clear h h1 h2
    go_enter Try.func13, Try.ntmps13
    go_wp2_with fail
    refine HW.out.mono ?_
    rintro v w1 ⟨rfl, hw1⟩
    rw [H1.out]
    go_wp2_with fail
    go_ret2
    exact ⟨rfl, New.trans hal hw1⟩
  | some t =>
    have h1 : wk s [e] = (t, 1) := by rw [wk_some h]; rfl
    have h2 : nxp s e = (t, true) := by unfold nxp; rw [h]
    have H1 := Lib.hid h1
    rw [h2]
    clear h h1 h2
    go_enter Try.func13, Try.ntmps13
    go_wp2_with fail
    refine HW.out.mono ?_
    rintro v w1 ⟨rfl, hw1⟩
    rw [H1.out]
    go_wp2_with fail
    go_ret2
    exact ⟨rfl, New.trans hal hw1⟩
set_option maxHeartbeats 1000000 in
theorem wakes_any (w : World) : Calls Try.prog 12 #[] w fun e w' => e = .returned (.bool true) ∧ New w w' := by
  have hal : New w (w.alloc (.cells ([1, 2, 8, 8].map iv).toArray 3)) := (Below.refl _ _).alloc (Nat.le_refl _) _
  have HW := Lib.hid (walk_any 0 _ 4 4 [1, 2, 8, 8] (w.alloc (.cells ([1, 2, 8, 8].map iv).toArray 3)) rfl (RI.lit w [1, 2, 8, 8] _ (0, 0) rfl) (by omega))
  have h1 : wk 0 [1, 2, 8, 8] = (6, 3) := by decide
  have H1 := Lib.hid h1
  clear h1
  go_enter Try.func12, Try.ntmps12
  go_wp2_with fail
  refine HW.out.mono ?_
  rintro v w1 ⟨rfl, hw1⟩
  rw [H1.out]
  go_wp2_with fail
  go_ret
  exact ⟨rfl, New.trans hal hw1⟩
end Go.Proofs.Ytblananbhibpmaa
