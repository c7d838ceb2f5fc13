/- wire.Bundle; hanselaw05.wakes: what they tell. -/
import Derived.Test.YtagocmbcbbhehaaWnB
import Derived.Test.YtagocmbcbbhehaaWzA
namespace Go.Proofs.Ytagocmbcbbhehaa
set_option linter.unusedVariables false
open Go.RowKit
set_option maxRecDepth 20000 in
set_option maxHeartbeats 2000000 in
theorem wireBundle (w : World) (L : Option Addr) (n d : Nat) (cs : Ch) (hE : FList EMsg 18 16 w.heap.size w [.slice L n d] cs) (hsz : sz cs ≤ MX) :
    Calls Try.prog 6 #[.slice L n d] w (Wrote w (run cs ([], false))) := by
  have hmf : ∀ (fn : Fn) (first cap : Array Value) (w : World), (Instr.makeFunc fn first cap).run Try.prog w = .ok (.func fn first cap) w := fun _ _ _ _ => rfl
  have HE := Lib.hid hE
  have HSZ := Lib.hid hsz
  clear hE hsz
  go_enter Try.func6, Try.ntmps6
  go_wp2_with fail
  obtain ⟨g, hg⟩ : ∃ g, g = w.heap.size := ⟨_, rfl⟩
  obtain ⟨w2, hw2⟩ : ∃ w2, w2 = w.alloc (.cells #[.slice none 0 0, .int .i64 0, .bool false] 66) := ⟨_, rfl⟩
  have H2 : Hid (PW w2 w.heap.size g none 0 (([], false) : Wst).1 (([], false) : Wst).2) := by rw [hw2, hg]; exact pw_new w
  have hn2 : New w w2 := by rw [hw2]; exact (Below.refl _ _).alloc (Nat.le_refl _) _
  have HN2 := Lib.hid hn2
  have HS2 : Hid (w.heap.size ≤ w2.heap.size) := hn2.size
  have HCL := Lib.hid (wlMsg H2.out L n d 16 cs (FList.below (fun _ _ h => h.below hn2) HE.out hn2) (by rw [List.length_nil, Nat.zero_add]; exact HSZ.out) HS2.out)
  rw [← hg, ← hw2]
  clear hg hw2 hn2
  refine HCL.out.mono ?_
  rintro e w3 ⟨A3, c3, rfl, hk3, hm3⟩
  have HN3 : Hid (New w w3) := Below.trans HN2.out (Moved.belowW hm3 H2.out (Nat.le_refl _) HS2.out)
  have HEN := Lib.hid (wend hk3 (Nat.le_trans (run_len cs ([], false)) (by rw [List.length_nil, Nat.zero_add]; exact HSZ.out)))
  clear hk3 hm3 HCL
  go_wp2_with fail
  refine HEN.out.mono ?_
  rintro e w4 ⟨hw4, hcase⟩
  have HN4 := Lib.hid (New.trans HN3.out hw4)
  have hs3 := HN3.out.size
  rcases hcase with ⟨hl, rfl⟩ | ⟨hl, B, d, rfl, ho⟩
  · have HL := Lib.hid hl
    clear hl hw4 HEN
    go_wp2_with fail
    go_ret2
    exact ⟨HN4.out, .inl ⟨HL.out, rfl⟩⟩
  · have HL := Lib.hid hl
    have HO := Lib.hid ho
    clear hl hw4 HEN ho
    go_wp2_with fail
    go_ret2
    exact ⟨HN4.out, .inr ⟨HL.out, B, d, rfl, HO.out.base_le hs3⟩⟩
theorem z_id {b : Nat} {w : World} : EId b w [.int .i64 0, .int .i64 0] ([some (iv 0)] ++ [some (iv 0)]) := ⟨_, _, _, _, z_int 0 (by decide), z_int 0 (by decide), rfl, rfl⟩
theorem z_reply {b : Nat} {w : World} : EReply b w [.int .i64 0, .int .i64 0, .int .i64 0, .int .i64 0, .int .i64 0, .int .i64 0, .int .i64 0] ([some (iv 0)] ++ (([some (iv 0)] ++ [some (iv 0)]) ++ ([some (iv 0)] ++ ([some (iv 0)] ++ ([some (iv 0)] ++ [some (iv 0)]))))) :=
  ⟨_, _, _, _, _, _, _, _, _, _, _, _, z_int 0 (by decide), z_id, z_int 0 (by decide), z_int 0 (by decide), z_int 0 (by decide), z_int 0 (by decide), rfl, rfl⟩
set_option maxRecDepth 20000 in
set_option maxHeartbeats 1000000 in
theorem wakes5_any (w : World) : Calls Try.prog 8 #[] w fun e w' => e = .returned (.bool true) ∧ New w w' := by
  have hiv : iv 0 = [0] := by unfold iv; rw [if_pos (by decide)]; exact uv_small (by decide)
  have HR := Lib.hid (wireReply w _ _ z_reply (by rw [hiv]; decide))
  rw [hiv] at HR
  have hrun : run ([some [0]] ++ (([some [0]] ++ [some [0]]) ++ ([some [0]] ++ ([some [0]] ++ ([some [0]] ++ [some [0]]))))) ([], false) = ([0, 0, 0, 0, 0, 0, 0], false) := rfl
  rw [hrun] at HR
  clear hrun hiv
  go_enter Try.func8, Try.ntmps8
  go_wp2_with fail
  refine HR.out.mono ?_
  rintro e w1 ⟨hw1, ⟨hl, _⟩ | ⟨_, B, d, rfl, ho⟩⟩
  · cases hl
  · have hcv := run_convert_RB (P := Try.prog) w1 _ _ u_bytes u_byte 7 d rfl (OB.rb ho) _ u_string
    have HN := Lib.hid hw1
    clear ho hw1 HR
    go_wp2_with fail
    go_ret
    exact ⟨by simp, HN.out⟩
end Go.Proofs.Ytagocmbcbbhehaa
