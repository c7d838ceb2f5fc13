/- hanselaw10.LifeParts: the walk. -/
import Derived.Test.YtblananbhibpmaaLifeA
namespace Go.Proofs.Ytblananbhibpmaa
open Go.RowKit
set_option maxHeartbeats 4000000 in
theorem lparts_law (s : Int) (A : Option Addr) (n c : Nat) (l : List Int) (B : Option Addr) (m d : Nat) (k : List Int) (w : World) (_ : (Lit.int .i64 s).wf = true) (hn : n = l.length) (_ : n ≤ c) (_ : c ≤ maxLen) (hr : RI w A l ∧ ∀ z ∈ l, (Lit.int .i64 z).wf = true) (hm : m = k.length) (_ : m ≤ d) (_ : d ≤ maxLen) (hk : RI w B k ∧ ∀ z ∈ k, (Lit.int .i64 z).wf = true) :
    Calls Try.prog 3 #[.int .i64 s, .slice A n c, .slice B m d] w fun e w' => e = .returned (.bool true) ∧ New w w' := by
  have ra := hr.1
  have rb := hk.1
  have HN := Lib.hid hn
  have HM := Lib.hid hm
  clear hn hm hr hk
  by_cases h1 : (2000 : Int) < (n : Int)
  · go_enter Try.func3, Try.ntmps3
    go_wp2_with fail
    go_ret
    exact ⟨rfl, New.refl _⟩
  have d1 : decide ((2000 : Int) < (n : Int)) = false := by simpa using h1
  by_cases h2 : (2000 : Int) < (m : Int)
  · go_enter Try.func3, Try.ntmps3
    go_wp2_with fail
    go_ret
    exact ⟨rfl, New.refl _⟩
  have d2 : decide ((2000 : Int) < (m : Int)) = false := by simpa using h2
  obtain ⟨x, p, hx⟩ : ∃ x p, wk s l = (x, p) := ⟨_, _, rfl⟩
  have hp : p ≤ n := by have := wk_le l s; rw [hx] at this; have : n = l.length := HN.out; omega
  have hwk := wk_append l k s
  rw [hx] at hwk
  have HX := Lib.hid hx
  have HWK := Lib.hid hwk
  clear hx hwk
  by_cases hpn : (p : Int) < (n : Int)
  · have hy : wk s (l ++ k) = (x, p) := by rw [HWK.out, if_neg (by show ¬ p = l.length; have : n = l.length := HN.out; omega)]
    have HY := Lib.hid hy
    clear hy
    go_enter Try.func3, Try.ntmps3
    go_wp2_with fail
    refine (walk_any s A n c l w HN.out ra (by omega)).mono ?_
    rintro e w1 ⟨rfl, hw1⟩
    rw [HX.out]
    go_wp2_with fail
    refine (twin_any A n c l w1 HN.out (ra.new hw1) (by omega)).mono ?_
    rintro e w2 ⟨C, cc, rfl, ho, hw2⟩
    have hw02 := New.trans hw1 hw2
    go_wp2_with (at_builtin; refine wpList_append_OI _ rfl (.tmp 36) (.tmp 37) _ rfl w1.heap.size _ u_ints i_int C n cc l rfl ho B m d k rfl HM.out (rb.new hw02) (by omega) hw2.size ?_; intro D dd w3 ho3 hg3 _; refine stop ?_)
    have hw03 : New w w3 := New.trans hw1 (Below.trans hw2 (below_blk ho hg3 hw2.size))
    have hlen : n + m = (l ++ k).length := by rw [List.length_append, ← HN.out, ← HM.out]
    have HL := Lib.hid hlen
    have HO : Hid (RI w3 D (l ++ k)) := OIs.rb ho3
    refine go ?_
    clear hw1 hw2 hw02 ho ho3 hg3 hlen
    go_wp2_with fail
    refine (walk_any s D (n + m) dd (l ++ k) w3 HL.out HO.out (by omega)).mono ?_
    rintro e w4 ⟨rfl, hw4⟩
    rw [HY.out]
    go_wp2_with fail
    refine (wakes_any _).mono ?_
    rintro e w5 ⟨rfl, hw5⟩
    go_wp2_with fail
    go_ret
    exact ⟨rfl, New.trans hw03 (New.trans hw4 hw5)⟩
  · have hpd : decide ((p : Int) < (n : Int)) = false := by simpa using hpn
    have hpn2 : p = n := by omega
    subst hpn2
    obtain ⟨y, q, hyq⟩ : ∃ y q, wk x k = (y, q) := ⟨_, _, rfl⟩
    have hq : q ≤ m := by have := wk_le k x; rw [hyq] at this; have : m = k.length := HM.out; omega
    have hy : wk s (l ++ k) = (y, p + q) := by rw [HWK.out, if_pos (show p = l.length from HN.out), hyq, ← HN.out]
    have HYQ := Lib.hid hyq
    have HY := Lib.hid hy
    have e1 : IntKind.i64.wrap ((p : Int) + (q : Int)) = ((p + q : Nat) : Int) := by rw [show ((p + q : Nat) : Int) = (p : Int) + (q : Int) from by omega]; exact IntWalk.i64_in _ ⟨by omega, by omega⟩
    clear hyq hy
    go_enter Try.func3, Try.ntmps3
    go_wp2_with fail
    refine (walk_any s A p c l w HN.out ra (by omega)).mono ?_
    rintro e w1 ⟨rfl, hw1⟩
    rw [HX.out]
    go_wp2_with fail
    refine (walk_any x B m d k w1 HM.out (rb.new hw1) (by omega)).mono ?_
    rintro e w1' ⟨rfl, hw1'⟩
    rw [HYQ.out]
    have hw11 := New.trans hw1 hw1'
    go_wp2_with fail
    refine (twin_any A p c l w1' HN.out (ra.new hw11) (by omega)).mono ?_
    rintro e w2 ⟨C, cc, rfl, ho, hw2⟩
    have hw02 := New.trans hw11 hw2
    go_wp2_with (at_builtin; refine wpList_append_OI _ rfl (.tmp 62) (.tmp 63) _ rfl w1'.heap.size _ u_ints i_int C p cc l rfl ho B m d k rfl HM.out (rb.new hw02) (by omega) hw2.size ?_; intro D dd w3 ho3 hg3 _; refine stop ?_)
    have hw03 : New w w3 := New.trans hw11 (Below.trans hw2 (below_blk ho hg3 hw2.size))
    have hlen : p + m = (l ++ k).length := by rw [List.length_append, ← HN.out, ← HM.out]
    have HL := Lib.hid hlen
    have HO : Hid (RI w3 D (l ++ k)) := OIs.rb ho3
    refine go ?_
    clear hw1 hw2 hw02 hw1' hw11 ho ho3 hg3 hlen
    go_wp2_with fail
    refine (walk_any s D (p + m) dd (l ++ k) w3 HL.out HO.out (by omega)).mono ?_
    rintro e w4 ⟨rfl, hw4⟩
    rw [HY.out]
    go_wp2_with fail
    refine (wakes_any _).mono ?_
    rintro e w5 ⟨rfl, hw5⟩
    go_wp2_with fail
    go_ret
    exact ⟨rfl, New.trans hw03 (New.trans hw4 hw5)⟩
end Go.Proofs.Ytblananbhibpmaa
