/- hanselaw04.FrameBack: the walk. -/
import Derived.Test.YtjdcikhbgbefcaaFrK
import Derived.Test.YtjdcikhbgbefcaaFrG
namespace Go.Proofs.Ytjdcikhbgbefcaa
open Go.RowKit
open Go.Proofs.Ytjdcikhbgbefcaa.Frm
set_option maxHeartbeats 1000000 in
theorem back_law (A : Option Addr) (n c : Nat) (ls : List (List UInt8)) (B : Option Addr) (m d : Nat) (b : List UInt8) (w : World) (hn : n = ls.length) (_ : n ≤ c) (_ : c ≤ maxLen) (ha : RR w A ls) (hm : m = b.length) (_ : m ≤ d) (_ : d ≤ maxLen) (hb : RB w B b) :
    Calls Try.prog 9 #[.slice A n c, .slice B m d] w fun e w' => e = .returned (.bool true) ∧ New w w' := by
  have HN := Lib.hid hn
  have HM := Lib.hid hm
  clear hn hm
  go_enter Try.func9, Try.ntmps9
  go_wp2_with fail
  refine (heavy_any A n c ls w HN.out ha).mono ?_
  rintro e w' ⟨q, rfl, hq, rfl⟩
  cases q with
  | true =>
    clear hq
    go_wp2_with fail
    go_ret
    exact ⟨rfl, New.refl _⟩
  | false =>
    have HL := Lib.hid (hq rfl)
    clear hq
    by_cases hbig : (262144 : Int) < (m : Int)
    · go_wp2_with fail
      go_ret
      exact ⟨rfl, New.refl _⟩
    · have hdb : decide ((262144 : Int) < (m : Int)) = false := by simpa using hbig
      go_wp2_with fail
      refine (sealed_any A n c ls w HN.out ha HL.out).mono ?_
      rintro e w1 (⟨hno, rfl, hw1⟩ | ⟨hall, ⟨A1, c1, A2, c2, rfl, ho1, ho2⟩, hw1⟩)
      · clear hno
        go_wp2_with fail
        refine (wakes_any _).mono ?_
        rintro e w9 ⟨rfl, hw9⟩
        go_wp2_with fail
        go_ret
        exact ⟨rfl, New.trans hw1 hw9⟩
      · have HA := Lib.hid hall
        have hsl := seals_length ls
        have hll := HL.out
        have hs1 : (seals ls).length ≤ 262144 + 512 := by have := hll.1; have := hll.2.1; omega
        have h64 : ls.length ≤ 64 := hll.1
        obtain ⟨S, hS⟩ : ∃ S, S = (seals ls).length := ⟨_, rfl⟩
        obtain ⟨N, hNe⟩ : ∃ N, N = ls.length := ⟨_, rfl⟩
        rw [← hS] at hs1 ho1 ⊢
        rw [← hNe] at ho2 h64 ⊢
        have HS := Lib.hid hS
        have HNe := Lib.hid hNe
        clear hall hsl hll hS hNe
        have hlc := ho1.le
        go_wp2_with fail
        refine (twin_any A1 S c1 (seals ls) w1 HS.out ho1.rb (by omega)).mono ?_
        rintro e w2 ⟨A3, c3, rfl, ho3, hw2⟩
        go_wp2_with (at_builtin; refine wpList_append_OB _ rfl (.tmp 28) (.tmp 29) _ rfl w1.heap.size _ u_bytes i_byte A3 S c3 _ rfl ho3 B m d b rfl HM.out (hb.new (New.trans hw1 hw2)) (by omega) hw2.size ?_; intro A4 c4 w3 ho4 hg4 _; refine stop ?_)
        have hw3 : New w1 w3 := Below.trans hw2 (below_blk ho3 hg4 hw2.size)
        have hlc4 := ho4.le
        clear hg4 ho3
        refine go ?_
        go_wp2_with fail
        refine (scan_any A4 (S + m) c4 (seals ls ++ b) w3 ho4.len.symm ho4.rb hlc4.1 hlc4.2 (by omega)).mono ?_
        intro e w4 h
        unfold Scanned at h
        rw [scan_seals ls HA.out b] at h
        obtain ⟨A5, c5, rfl, ho5, hw4⟩ := h
        have hlc5 := ho5.le
        obtain ⟨G, hG⟩ : ∃ G, G = (ls ++ (scan b).1).length := ⟨_, rfl⟩
        have hG2 : N ≤ G := by rw [hG, HNe.out, List.length_append]; omega
        obtain ⟨E, hE⟩ : ∃ E, E = (seals ls).length + (scan b).2 := ⟨_, rfl⟩
        have hE2 : S ≤ E := by rw [hE, HS.out]; omega
        rw [← hG] at hlc5 ho5 ⊢
        rw [← hE]
        unfold maxLen at hlc5
        have hrr5 := ho5.rr.take N
        have htk : (ls ++ (scan b).1).take N = ls := by rw [HNe.out]; exact List.take_left
        rw [htk] at hrr5
        have hb1 : (0 : Int) ≤ (N : Int) := by omega
        have hb2 : (N : Int) ≤ (c5 : Int) := by omega
        have hg1 : decide ((G : Int) < (N : Int)) = false := by simp; omega
        have hg2 : decide ((E : Int) < (S : Int)) = false := by simp; omega
        have hnN : n = N := by rw [HNe.out]; exact HN.out
        subst hnN
        clear htk hG hE
        go_wp2_with fail
        refine (rows_any A5 A n c5 n c ls ls w4 HN.out HN.out (by unfold maxLen; omega) hrr5 (ha.new (New.trans hw1 (New.trans hw3 hw4)))).mono ?_
        rintro e w5 ⟨rfl, hw5⟩
        simp only [beq_self_eq_true]
        have hw15 : New w1 w5 := New.trans hw3 (New.trans hw4 hw5.new)
        go_wp2_with fail
        refine (scan_any A1 S c1 (seals ls) w5 HS.out (ho1.rb.new hw15) hlc.1 hlc.2 (by omega)).mono ?_
        intro e w6 h
        unfold Scanned at h
        rw [scan_seals_all ls HA.out, ← HS.out] at h
        obtain ⟨A6, c6, rfl, ho6, hw6⟩ := h
        simp only [← HNe.out] at ho6 ⊢
        go_wp2_with fail
        refine (wakes_any _).mono ?_
        rintro e w9 ⟨rfl, hw9⟩
        go_wp2_with fail
        go_ret
        exact ⟨rfl, New.trans hw1 (New.trans hw15 (New.trans hw6 hw9))⟩
end Go.Proofs.Ytjdcikhbgbefcaa
