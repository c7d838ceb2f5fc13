/- hanselaw03.PackEnds: the walk. -/
import Derived.Test.YtloolhbikfdipaaRdD
import Derived.Test.YtloolhbikfdipaaRdV
import Derived.Deep.RegionHeld3
import Derived.Laws.CopyOwn
namespace Go.Proofs.Ytloolhbikfdipaa
open Go.RowKit
theorem make_zero (n : Nat) : (madeCells (#[Value.int .u8 0]) n).toList = (List.replicate n (0 : UInt8)).map bv := by
  rw [toList_madeCells_one, List.map_replicate]
  rfl
set_option maxHeartbeats 1000000 in
theorem bytes_err {base g c : Nat} {A : Option Addr} {l : List UInt8} {x : Int} {w : World} (h : WK w base g A c l x) (hx : x ≠ 0) :
    Calls Try.prog 9 #[.pointer (some ⟨g, 0, none⟩)] w fun e w' => e = .returned (.tuple #[.slice none 0 0, .int .i64 x]) ∧ New w w' := by
  have h1 := h.c1
  have hd : (x != 0) = true := by rw [bne_iff_ne]; exact hx
  clear h hx
  go_enter Try.func9, Try.ntmps9
  go_wp2_with fail
  go_quiet (fail)
  go_wp2_with fail
  go_ret2
  exact ⟨rfl, New.drewN (New.refl _) _⟩
theorem rdT_ok {N : Nat} (hN : N ≤ 131072) {t r : List UInt8} (ht : N = t.length) : rdT (uv N ++ (t ++ r)) 0 = (t, r, 0) := by
  have h : rdU (uv N ++ (t ++ r)) 0 = (N, t ++ r, 0) := by
    rw [rdU_some (rd_uv N (by omega) _), List.drop_left]
  unfold rdT
  rw [h]
  show (if 131072 < N then _ else if (t ++ r).length < N then _ else if (0 : Int) ≠ 0 then _ else ((t ++ r).take N, (t ++ r).drop N, (0 : Int))) = _
  rw [if_neg (by omega), if_neg (by rw [List.length_append]; omega), if_neg (by simp), ht, List.take_left, List.drop_left]
theorem uv5 : uv 5 = [5] := by rw [uv_small (by omega)]; rfl
theorem rdU5 : rdU [5] 0 = (5, [], 0) := by
  have := rdU_some (rd_uv 5 (by omega) [])
  rw [uv5] at this
  exact this
set_option maxHeartbeats 2000000 in
theorem ends_law (x y : Int) (w : World) (hx : (Lit.int .u8 x).wf = true) (_ : (Lit.int .i64 y).wf = true) :
    Calls Try.prog 4 #[.int .u8 x, .int .i64 y] w fun e w' => e = .returned (.bool true) ∧ New w w' := by
  have hb : 0 ≤ x ∧ x < 256 := by
    simp [Lit.wf, IntKind.min, IntKind.max, IntKind.signed, IntKind.bits] at hx
    omega
  clear hx
  obtain ⟨ub, rfl⟩ : ∃ ub : UInt8, x = (ub.toNat : Int) := ⟨UInt8.ofNat x.toNat, by simp; omega⟩
  clear hb
  obtain ⟨i, hi, hz0, hz1, hz2⟩ := info_parts i_byte
  by_cases h0 : y < 0
  · go_enter Try.func4, Try.ntmps4
    go_wp2_with fail
    go_ret
    exact ⟨rfl, New.refl _⟩
  have d0 : decide (y < 0) = false := by simpa using h0
  by_cases h1 : 2 < y
  · go_enter Try.func4, Try.ntmps4
    go_wp2_with fail
    go_ret
    exact ⟨rfl, New.refl _⟩
  have d1 : decide (2 < y) = false := by simpa using h1
  obtain ⟨N, hN⟩ : ∃ N : Nat, (N : Int) = 131071 + y := ⟨(131071 + y).toNat, by omega⟩
  have hN1 : 131071 ≤ N := by omega
  have hN2 : N ≤ 131073 := by omega
  have hs : IntKind.i64.wrap (131071 + y) = (N : Int) := by rw [hN]; exact IntWalk.i64_in _ ⟨by omega, by omega⟩
  have HN := Lib.hid hN
  clear hN
  go_enter Try.func4, Try.ntmps4
  go_wp2_with (at_make; refine wpList_make_full _ rfl _ _ _ rfl w.heap.size _ i (.int .u8 0) 1 u_bytes hi hz0 hz1 _ _ _ _ N rfl rfl (by omega) (by omega) (by rw [hz2]; omega) (by unfold maxLen; omega) (Nat.le_refl _) ?_)
  intro w1 hown hg
  have hob : OBs w1 w.heap.size (some ⟨w.heap.size, 0, none⟩) N N (List.replicate N 0) := by
    show w1.ownsRow _ _ _ _ _ _
    rw [← make_zero]
    exact hown
  have hw1 : New w w1 := (Below.refl _ _).grown hg (Nat.le_refl _) (by simp)
  have hg0 : w.heap.size < w1.heap.size := (OB.lt hob rfl).2
  have hc : w1.cell? ⟨w.heap.size, 0, none⟩ = some (bv 0) := by
    rw [OB.at_ hob (j := 0) (by omega)]
    simp
  have hf : w1.frozen? ⟨w.heap.size, 0, none⟩ = false := OB.frozen hob 0
  have hN0 : (0 : Int) < (N : Int) := by omega
  clear hown hg
  obtain ⟨t, ht⟩ : ∃ t, t = (List.replicate N (0 : UInt8)).set 0 ub := ⟨_, rfl⟩
  have hob2 := OB.set_ hob 0 ub
  rw [← ht] at hob2
  have htl : Hid (N = t.length) := (OB.len hob2).symm
  have hw2 : New w (w1.setCell ⟨w.heap.size, 0, none⟩ (bv ub)) := Below.setCell hw1 (Nat.le_refl _) _
  obtain ⟨w2, hw2e⟩ : ∃ w2, w2 = w1.setCell ⟨w.heap.size, 0, none⟩ (bv ub) := ⟨_, rfl⟩
  have hlt2 : w.heap.size < w2.heap.size := by rw [hw2e]; simpa using hg0
  rw [← hw2e] at hob2 hw2
  have HW2 := Lib.hid hw2e
  have HSZ : Hid (w1.heap.size = w2.heap.size) := by show _ = _; rw [hw2e]; simp
  clear ht hob hw1 hg0 hw2e
  go_wp2_with fail
  rw [show w1.setCell ⟨w.heap.size, 0, none⟩ (bv ub) = w2 from HW2.out.symm, show w1.heap.size = w2.heap.size from HSZ.out]
  have hn0 := new_pk w2
  have hw3 : New w (w2.alloc (.cells #[.slice none 0 0, .int .i64 0] 27)) := Below.alloc hw2 hw2.size _
  by_cases hbig : (131072 : Int) < (N : Int)
  · have hy : (1 : Int) < y := by have : (N : Int) = 131071 + y := HN.out; omega
    refine (text_long hn0 _ N N hbig 5 (by simp)).mono ?_
    rintro e w4 ⟨A4, c4, rfl, hd4, hm4⟩
    have hw4 : New w w4 := Below.trans hw3 (hm4.below hn0 hw2.size hw3.size)
    go_wp2_with fail
    refine (uint_pk hd4 5 (by omega) (by rw [uv5]; decide) (by have := hm4.keep.size; rw [World.size_alloc] at this; omega)).mono ?_
    rintro e w5 ⟨A5, c5, rfl, hd5, hm5⟩
    have hw5 : New w w5 := Below.trans hw4 (hm5.below hd4 hw2.size hw4.size)
    go_wp2_with fail
    refine (bytes_err hd5 (by decide)).mono ?_
    rintro e w6 ⟨rfl, hw6⟩
    go_wp2_with fail
    refine (wakes_any _).mono ?_
    rintro e w7 ⟨rfl, hw7⟩
    go_wp2_with fail
    go_ret
    exact ⟨rfl, New.trans hw5 (New.trans hw6 hw7)⟩
  · have hy : decide ((1 : Int) < y) = false := by have : (N : Int) = 131071 + y := HN.out; simp; omega
    have hN3 : N ≤ 131072 := by omega
    have hu := uv_ten (v := N) (by omega)
    have hob3 := OB.alloc hob2 (.cells #[.slice none 0 0, .int .i64 0] 27)
    refine (text_pk hn0 _ N N t htl.out hob3.rb (by rintro ad e; cases e; exact ⟨by show w.heap.size ≠ _; omega, by simp [blk], by show w.heap.size < _; rw [World.size_alloc]; omega⟩) hN3 (by simp; omega) (by rw [World.size_alloc]; omega)).mono ?_
    rintro e w4 ⟨A4, c4, rfl, hd4, hm4⟩
    have hk4 : Below w2.heap.size w2 w4 := Below.trans (Below.alloc (Below.refl _ _) (Nat.le_refl _) _) (hm4.below hn0 (Nat.le_refl _) (by rw [World.size_alloc]; omega))
    rw [List.nil_append] at hd4
    go_wp2_with fail
    refine (uint_pk hd4 5 (by omega) (by rw [uv5, List.length_append]; have : N = t.length := htl.out; simp; omega) hk4.size).mono ?_
    rintro e w5 ⟨A5, c5, rfl, hd5, hm5⟩
    have hk5 : Below w2.heap.size w2 w5 := Below.trans hk4 (hm5.below hd4 (Nat.le_refl _) hk4.size)
    rw [uv5, List.append_assoc] at hd5
    obtain ⟨z, hz⟩ : ∃ z, z = uv N ++ (t ++ [5]) := ⟨_, rfl⟩
    have hzl : Hid (z.length ≤ 140737488355328) := by show _ ≤ _; rw [hz, List.length_append, List.length_append]; have : N = t.length := htl.out; simp; omega
    have hrt : rdT z 0 = (t, [5], 0) := by rw [hz]; exact rdT_ok hN3 htl.out
    rw [← hz] at hd5
    have HRT := Lib.hid hrt
    clear hz hrt hd4 hm4
    go_wp2_with fail
    refine (bytes_pk hd5 hzl.out).mono ?_
    rintro e w6 ⟨B6, d6, rfl, ho6, hw6⟩
    have hk6 : Below w2.heap.size w2 w6 := Below.trans hk5 (hw6.mono hk5.size)
    obtain ⟨q, hq⟩ : ∃ q, q = z.length := ⟨_, rfl⟩
    rw [← hq] at ho6 ⊢
    have HQ := Lib.hid hq
    clear hq
    go_wp2_with fail
    refine (newr_rk B6 q d6 z w6 HQ.out ho6.rb (by have : q = z.length := HQ.out; have := hzl.out; omega)).mono ?_
    rintro e w7 ⟨g, A7, c7, rfl, hr7, hw7⟩
    have hk7 : Below w2.heap.size w2 w7 := Below.trans hk6 (hw7.mono hk6.size)
    go_wp2_with fail
    refine (textr_rk hr7 t [5] 0 HRT.out).mono ?_
    rintro e w8 ⟨B8, d8, rfl, ho8, ⟨A8, c8, hr8⟩, hkk8⟩
    have hk8 : Below w2.heap.size w2 w8 := Below.trans hk7 (hkk8.below hk7.size (by rintro i rfl; exact Nat.le_trans hk6.size hr7.le))
    have hob8 := OB.new hob2 hk8
    go_wp2_with fail
    refine (bytes_is B8 _ t.length d8 N N t t w8 rfl htl.out ho8.rb hob8.rb true (by simp)).mono ?_
    rintro e w9 ⟨rfl, rfl⟩
    go_wp2_with fail
    refine (uint_rk hr8 5 [] 0 rdU5).mono ?_
    rintro e w10 ⟨rfl, ⟨A10, c10, hr10⟩, hkk10⟩
    have hk10 : Below w2.heap.size w2 w10 := Below.trans hk8 (hkk10.below hk8.size (by rintro i rfl; exact Nat.le_trans hk6.size hr7.le))
    go_wp2_with fail
    refine (done_rk hr10 0 (by simp)).mono ?_
    rintro e w11 ⟨rfl, rfl⟩
    go_wp2_with fail
    refine (wakes_any _).mono ?_
    rintro e w12 ⟨rfl, hw12⟩
    go_wp2_with fail
    go_ret
    exact ⟨rfl, New.trans (New.trans hw2 hk10) hw12⟩
end Go.Proofs.Ytloolhbikfdipaa
