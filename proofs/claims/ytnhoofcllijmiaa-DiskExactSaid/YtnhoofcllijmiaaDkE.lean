/- hanselaw06.wakes: what it answers. -/
import Derived.Test.YtnhoofcllijmiaaDkD
namespace Go.Proofs.Ytnhoofcllijmiaa
open Go.RowKit
set_option maxHeartbeats 1000000 in
theorem wakes_any (w : World) : Calls Try.prog 14 #[] w fun e w' => e = .returned (.bool true) ∧ New w w' := by
  have kc := fun w C n c => Lib.run_convert_bytes_const (P := Try.prog) w _ _ C n c u_bytes u_byte
  go_enter Try.func14, Try.ntmps14
  go_wp2_with fail
  refine (new_dk w).mono ?_
  rintro e w1 ⟨rfl, hd1, hw1⟩
  have hs1 := hw1.size
  go_wp2_with fail
  have r1 := RB.lit w1 [97] 5 (1, 2) rfl
  have hd1' := hd1.alloc (.cells (List.map bv [97]).toArray 5 (1, 2))
  refine (append_dk hd1' _ 1 1 [97] rfl r1 (by decide) (by rw [World.size_alloc]; omega) 0 ⟨[97], 0, false, false, 0⟩ rfl).mono ?_
  rintro e w2 ⟨A2, c2, rfl, hd2, hm2⟩
  have hw2 : New w w2 := Below.trans (Below.alloc hw1 hw1.size _) (hm2.below hd1' (Nat.le_refl _) (by rw [World.size_alloc]; omega))
  have hs2 := hw2.size
  clear hd1 hm2 r1 hd1' hw1
  go_wp2_with fail
  refine (sync_dk hd2 0 ⟨[97], 1, false, false, 0⟩ rfl).mono ?_
  rintro e w3 ⟨A3, c3, rfl, hd3, hm3⟩
  have hw3 : New w w3 := Below.trans hw2 (hm3.below hd2 (Nat.le_refl _) hs2)
  have hs3 := hw3.size
  clear hd2 hm3 hw2
  go_wp2_with fail
  have r3 := RB.lit w3 [98] 5 (1, 2) rfl
  have hd3' := hd3.alloc (.cells (List.map bv [98]).toArray 5 (1, 2))
  refine (append_dk hd3' _ 1 1 [98] rfl r3 (by decide) (by rw [World.size_alloc]; omega) 0 ⟨[97, 98], 1, false, false, 0⟩ rfl).mono ?_
  rintro e w4 ⟨A4, c4, rfl, hd4, hm4⟩
  have hw4 : New w w4 := Below.trans (Below.alloc hw3 hw3.size _) (hm4.below hd3' (Nat.le_refl _) (by rw [World.size_alloc]; omega))
  clear hd3 hm4 r3 hd3' hw3
  go_wp2_with fail
  refine (synced_dk hd4).mono ?_
  rintro e w5 ⟨rfl, rfl⟩
  go_wp2_with fail
  go_ret
  exact ⟨rfl, hw4⟩
end Go.Proofs.Ytnhoofcllijmiaa
