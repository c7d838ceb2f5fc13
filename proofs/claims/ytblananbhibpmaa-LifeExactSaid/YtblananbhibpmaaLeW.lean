/- hanselaw10.LifeExact: the walk. -/
import Derived.Test.YtblananbhibpmaaLifeB
namespace Go.Proofs.Ytblananbhibpmaa
open Go.RowKit
set_option maxHeartbeats 4000000 in
theorem lexact_law (s e : Int) (A : Option Addr) (n c : Nat) (l : List Int) (w : World) (_ : (Lit.int .i64 s).wf = true) (_ : (Lit.int .i64 e).wf = true) (hn : n = l.length) (_ : n ≤ c) (_ : c ≤ maxLen) (hr : RI w A l ∧ ∀ z ∈ l, (Lit.int .i64 z).wf = true) :
    Calls Try.prog 4 #[.int .i64 s, .int .i64 e, .slice A n c] w fun e w' => e = .returned (.bool true) ∧ New w w' := by
  have ra := hr.1
  have HN := Lib.hid hn
  clear hn hr
  by_cases h1 : (2000 : Int) < (n : Int)
  · go_enter Try.func4, Try.ntmps4
    go_wp2_with fail
    go_ret
    exact ⟨rfl, New.refl _⟩
  have d1 : decide ((2000 : Int) < (n : Int)) = false := by simpa using h1
  obtain ⟨a, b, hab⟩ : ∃ a b, nxp s e = (a, b) := ⟨_, _, rfl⟩
  obtain ⟨x, p, hx⟩ : ∃ x p, wk s l = (x, p) := ⟨_, _, rfl⟩
  have HAB := Lib.hid hab
  have HX := Lib.hid hx
  clear hab hx
  go_enter Try.func4, Try.ntmps4
  go_wp2_with fail
  refine (next_any s e w).mono ?_
  rintro v w1 ⟨rfl, hw1⟩
  rw [HAB.out]
  go_wp2_with fail
  refine (rnext_any s e w1).mono ?_
  rintro v w2 ⟨rfl, hw2⟩
  rw [HAB.out]
  have hw02 := New.trans hw1 hw2
  clear hw1 hw2
  go_wp2_with fail
  refine (twin_any A n c l w2 HN.out (ra.new hw02) (by omega)).mono ?_
  rintro v w3 ⟨C, cc, rfl, ho, hw3⟩
  have hal : New w3 (w3.alloc (.cells ([-9].map iv).toArray 3)) := (Below.refl _ _).alloc (Nat.le_refl _) _
  go_wp2_with (at_builtin; refine wpList_append_OI _ rfl (.tmp 38) (.tmp 39) _ rfl w2.heap.size _ u_ints i_int C n cc l rfl (Own.alloc ho _) (some ⟨w3.heap.size, 0, none⟩) 1 1 [-9] rfl rfl (RI.lit w3 [-9] 3 (0, 0) rfl) (by omega) (by rw [World.size_alloc]; have := hw3.size; omega) ?_; intro D dd w4 ho4 hg4 _; refine stop ?_)
  have hw04 : New w w4 := New.trans hw02 (Below.trans (Below.trans hw3 (hal.mono hw3.size)) (below_blk (Own.alloc ho _) hg4 (by rw [World.size_alloc]; have := hw3.size; omega)))
  have hD : ∃ g, D = some ⟨g, 0, none⟩ := by
    rcases Own.form ho4 with ⟨_, h, _⟩ | ⟨g, h, _⟩
    · omega
    · exact ⟨g, h⟩
  obtain ⟨g, rfl⟩ := hD
  have r4 : RI w4 (some ⟨g, 0, none⟩) l := by
    have := (OIs.rb ho4).take n
    rwa [HN.out, List.take_left] at this
  have c4 : w4.cell? ⟨g, n, none⟩ = some (iv (-9)) := by
    rw [Own.at_ ho4 rfl (by omega), List.getElem?_map, HN.out, List.getElem?_append_right (Nat.le_refl _)]
    simp
  have hle : n + 1 ≤ dd := (Own.le ho4).1
  have hnd : (n : Int) ≤ (dd : Int) := by omega
  have hmx : n ≤ maxLen := by unfold maxLen; omega
  refine go ?_
  clear hw3 hal hg4 ho ho4 hw02
  go_wp2_with fail
  refine (walk_any s _ n dd l w4 HN.out r4 (by omega)).mono ?_
  rintro v w5 ⟨rfl, hw5⟩
  rw [HX.out]
  go_wp2_with fail
  refine (rwalk_any s A n c l w5 HN.out (ra.new (New.trans hw04 hw5)) (by omega)).mono ?_
  rintro v w6 ⟨rfl, hw6⟩
  rw [HX.out]
  have hw46 := New.trans hw5 hw6
  clear hw5 hw6
  go_wp2_with fail
  refine (ints_is _ A n dd n c l l w6 HN.out HN.out (r4.new hw46) (ra.new (New.trans hw04 hw46)) hmx true (by simp)).mono ?_
  rintro v w7 ⟨rfl, hw7⟩
  have hw47 := New.trans hw46 hw7
  have c7 : w7.cell? ⟨g, n, none⟩ = some (iv (-9)) := (hw47.cell (World.block_lt_of_cell? _ _ c4)).trans c4
  clear hw7 hw46 c4 r4
  go_wp2_with fail
  refine (wakes_any _).mono ?_
  rintro v w8 ⟨rfl, hw8⟩
  go_wp2_with fail
  go_ret
  exact ⟨rfl, New.trans hw04 (New.trans hw47 hw8)⟩
end Go.Proofs.Ytblananbhibpmaa
