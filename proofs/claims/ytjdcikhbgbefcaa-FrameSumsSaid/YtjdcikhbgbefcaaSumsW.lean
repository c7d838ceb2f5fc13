/- hanselaw04.FrameSums: the walk. -/
import Derived.Test.YtjdcikhbgbefcaaFrC
import Derived.Test.YtjdcikhbgbefcaaFrD
namespace Go.Proofs.Ytjdcikhbgbefcaa
open Go.RowKit
open Go.Proofs.Ytjdcikhbgbefcaa.Frm
set_option maxHeartbeats 1000000 in
theorem sums_any (A : Option Addr) (n c : Nat) (ls : List (List UInt8)) (w : World) (hn : n = ls.length) (hr : RR w A ls) :
    Calls Try.prog 3 #[.slice A n c] w fun e w' => e = .returned (.bool true) ∧ New w w' := by
  have HN := Lib.hid hn
  clear hn
  go_enter Try.func3, Try.ntmps3
  go_wp2_with fail
  refine (heavy_any A n c ls w HN.out hr).mono ?_
  rintro e w' ⟨b, rfl, hb, rfl⟩
  cases b with
  | true =>
    clear hb
    go_wp2_with fail
    go_ret
    exact ⟨rfl, New.refl _⟩
  | false =>
    have HB := Lib.hid (hb rfl)
    clear hb
    go_wp2_with fail
    refine (twins_any A n c ls w HN.out hr (by have := HB.out.1; have : n = _ := HN.out; omega) (fun l hl => by have := HB.out.2.2 l hl; omega)).mono ?_
    rintro e w1 ⟨⟨A1, c1, rfl, hor⟩, hw1⟩
    have h64 : n ≤ 64 := by have := HB.out.1; have : n = _ := HN.out; omega
    go_wp2_with fail
    go_loopw [4, 5] (fun v i wr => ∃ (k s : Nat) (A' : Option Addr) (c' : Nat), i = .int .i64 k ∧ k ≤ n ∧ v = .slice A' s c' ∧ Hid (s = (ls.take k).flatten.length) ∧ OBs wr w1.heap.size A' s c' (ls.take k).flatten ∧ New w1 wr) (fun _ i _ => n - (intOf i).toNat)
    case atStart => exact ⟨0, 0, none, 0, rfl, Nat.zero_le _, rfl, rfl, OB.nil _ _ _, New.refl _⟩
    case round =>
      obtain ⟨k, s, A', c', rfl, hk, rfl, hs, hob, hnew⟩ := hrel
      by_cases hlt : k < n
      · obtain ⟨x, hx⟩ : ∃ x, ls[k]? = some x := ⟨_, List.getElem?_eq_getElem (by rw [← HN.out]; omega)⟩
        obtain ⟨ad, X, dx, rfl, hcx, hdx, hdx2, hbx⟩ := (hr.new (New.trans hw1 hnew)) k x hx
        have HX := Lib.hid hx
        clear hx
        have hsb : s + x.length ≤ 262144 := by
          have h1 : s = _ := hs.out
          have h2 : (ls.take (k + 1)).flatten.length ≤ ls.flatten.length := by
            rw [← List.take_append_drop (k + 1) ls, List.flatten_append, List.length_append, List.take_append_drop]
            omega
          have h3 : (ls.take (k + 1)).flatten.length = s + x.length := by
            rw [List.take_add_one, HX.out, List.flatten_append, List.length_append, ← h1]
            simp
          have := HB.out.2.1
          omega
        go_wp2_with (at_builtin; refine wpList_append_OB _ rfl _ _ _ rfl w1.heap.size _ u_bytes i_byte A' s c' _ rfl hob X x.length dx x rfl rfl hbx (by omega) hnew.size ?_; intro A2 c2 w2 hob2 hg2 _)
        have hb2 := below_blk hob hg2 hnew.size
        have hob3 : OBs w2 w1.heap.size A2 (s + x.length) c2 (ls.take (k + 1)).flatten := by
          rw [List.take_add_one, HX.out, List.flatten_append]
          simpa using hob2
        have hs3 : Hid (s + x.length = (ls.take (k + 1)).flatten.length) := hob3.len.symm
        have hnew3 := Below.trans hnew hb2
        clear hob2 hob hg2 hb2 hcx hbx hnew
        go_wp2_with fail
        go_roundw
        case rel => exact ⟨k + 1, _, A2, c2, by go_num, by omega, rfl, hs3, hob3, hnew3⟩
        case measure => simp [intOf]; omega
      · have hkn : k = n := by omega
        have hall : (ls.take k).flatten = ls.flatten := by
          have h1 : n = _ := HN.out
          rw [List.take_of_length_le (by omega)]
        have hob3 : OBs wr w1.heap.size A' s c' ls.flatten := by rw [← hall]; exact hob
        have hsl := hob3.len
        clear hob hall hkn
        have HSL := Lib.hid hsl
        clear hsl hs
        have hrr := hor.rr.new hnew
        have hsb : s ≤ 262144 := by have := HB.out.2.1; have : _ = s := HSL.out; omega
        have hcm := hob3.le
        go_wp2_with fail
        refine (sum_any A1 n c1 ls _ HN.out (by unfold maxLen; omega) hrr).mono ?_
        rintro e w2 ⟨rfl, hw2⟩
        go_wp2_with fail
        refine (rsum_any A' s c' ls.flatten _ HSL.out.symm (by unfold maxLen; omega) (hob3.new hw2).rb).mono ?_
        rintro e w3 ⟨rfl, rfl⟩
        go_wp2_with fail
        refine (sum_any _ 1 1 _ _ rfl (by unfold maxLen; omega) (RR.one _ HSL.out.symm (hob3.new hw2).rb hcm.1 hcm.2 rfl)).mono ?_
        rintro e w3 ⟨rfl, hw3⟩
        have hw13 : New wr w3 := New.trans hw2 (New.trans (Below.alloc (Below.refl _ _) (Nat.le_refl _) _) hw3)
        simp only [List.flatten_cons, List.flatten_nil, List.append_nil]
        go_wp2_with fail
        refine (rsum_any A' s c' ls.flatten _ HSL.out.symm (by unfold maxLen; omega) (hob3.new hw13).rb).mono ?_
        rintro e w4 ⟨rfl, rfl⟩
        go_wp2_with fail
        refine (rows_any A1 A n c1 n c ls ls _ HN.out HN.out (by unfold maxLen; omega) (hrr.new hw13) ((hr.new hw1).new (New.trans hnew hw13))).mono ?_
        rintro e w4 ⟨rfl, hw4⟩
        simp only [beq_self_eq_true]
        go_wp2_with fail
        refine (wakes_any _).mono ?_
        rintro e w5 ⟨rfl, hw5⟩
        go_wp2_with fail
        go_ret
        exact ⟨rfl, New.trans hw1 (New.trans hnew (New.trans hw13 (New.trans hw4.new hw5)))⟩
theorem sums_law (A : Option Addr) (n c : Nat) (ls : List (List UInt8)) (w : World) (hn : n = ls.length) (_ : n ≤ c) (_ : c ≤ maxLen) (hr : RR w A ls) :
    Calls Try.prog 3 #[.slice A n c] w fun e w' => e = .returned (.bool true) ∧ New w w' := sums_any A n c ls w hn hr
end Go.Proofs.Ytjdcikhbgbefcaa
