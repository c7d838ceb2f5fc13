/- hanseref04.Seal: what it does. -/
import Derived.Test.YtemgiodakoojiaaFrC
import Derived.Test.YtemgiodakoojiaaFrE
namespace Go.Proofs.Ytemgiodakoojiaa
open Go.RowKit
open Go.Proofs.Ytemgiodakoojiaa.Frm
set_option maxHeartbeats 1000000 in
theorem rseal_any (B : Option Addr) (m d : Nat) (p : List UInt8) (w : World) (hm : m = p.length) (hr : RB w B p) :
    Calls Try.prog 21 #[.slice B m d] w (Sealed w p) := by
  have HM := Lib.hid hm
  by_cases hlen : (131072 : Int) < (m : Int)
  · clear hm
    go_enter Try.func21, Try.ntmps21
    go_wp2
    go_ret2
    have h0 : m = p.length := HM.out
    unfold Sealed
    rw [if_neg (by omega)]
    exact ⟨rfl, rfl⟩
  · clear hm
    have hN : w.heap.size ≤ w.heap.size := Nat.le_refl _
    go_enter Try.func21, Try.ntmps21
    go_wp2_with fail
    refine (rfour_any m w (by omega)).mono ?_
    rintro e w1 ⟨A1, c1, rfl, ho1, hw1⟩
    go_wp2_with (at_builtin; refine wpList_append_OB _ rfl (.tmp 14) (.tmp 15) _ rfl w.heap.size _ u_bytes i_byte none 0 0 [] rfl (OB.nil _ _ _) A1 4 c1 (be4 m) rfl rfl ho1.rb (by omega) hw1.size ?_; intro A2 c2 w2 ho2 hg2 hb2; refine stop ?_)
    have hw2 : New w w2 := Below.trans hw1 (below_blk (OB.nil w1 w.heap.size 5) hg2 hw1.size)
    have hap := apart_new ho1 hb2
    have ho1' := ho1.keep (Keep.of_grown hg2) (by simp [blk])
    simp only [Nat.zero_add, List.nil_append] at ho2
    clear hg2 ho1
    refine go ?_
    go_wp2_with (at_builtin; refine wpList_append_OB _ rfl (.tmp 16) (.tmp 17) _ rfl w.heap.size _ u_bytes i_byte A2 4 c2 (be4 m) rfl ho2 B m d p rfl HM.out (hr.new hw2) (by omega) hw2.size ?_; intro A3 c3 w3 ho3 hg3 _; refine stop ?_)
    have hw3 : New w w3 := Below.trans hw2 (below_blk ho2 hg3 hw2.size)
    have ho1a := ho1'.keep (Keep.of_grown hg3) hap
    have hl3 := ho3.len
    clear ho1' hap hg3 ho2 hb2
    refine go ?_
    go_wp2_with fail
    refine (rsum_any A3 (4 + m) c3 (be4 m ++ p) w3 hl3.symm (by unfold maxLen; omega) ho3.rb).mono ?_
    rintro e w4 ⟨rfl, rfl⟩
    go_wp2_with fail
    refine (rfour_any _ w3 (Crc.crc_lt _)).mono ?_
    rintro e w4 ⟨A4, c4, rfl, ho4, hw4⟩
    go_wp2_with (at_builtin; refine wpList_append_OB _ rfl (.tmp 19) (.tmp 22) _ rfl w.heap.size _ u_bytes i_byte A1 4 c1 (be4 m) rfl (ho1a.new hw4) A4 4 c4 _ rfl rfl ho4.rb (by omega) (Nat.le_trans hw3.size hw4.size) ?_; intro A5 c5 w5 ho5 hg5 _; refine stop ?_)
    have hw5 : New w w5 := Below.trans (New.trans hw3 hw4) (below_blk (ho1a.new hw4) hg5 (Nat.le_trans hw3.size hw4.size))
    clear ho1a ho4 hg5 ho3
    refine go ?_
    go_wp2_with (at_builtin; refine wpList_append_OB _ rfl (.tmp 24) (.tmp 25) _ rfl w.heap.size _ u_bytes i_byte A5 (4 + 4) c5 _ rfl ho5 B m d p rfl HM.out (hr.new hw5) (by omega) hw5.size ?_; intro A6 c6 w6 ho6 hg6 _; refine stop ?_)
    have hw6 : New w w6 := Below.trans hw5 (below_blk ho5 hg6 hw5.size)
    refine go ?_
    go_wp2_with fail
    go_ret2
    have hp : m = p.length := HM.out
    unfold Sealed
    rw [if_pos (by omega)]
    subst hp
    exact ⟨A6, c6, rfl, by unfold seal_; rw [← List.append_assoc]; exact ho6, hw6⟩
end Go.Proofs.Ytemgiodakoojiaa
