/- hanselaw04.sealed: what it does. -/
import Derived.Test.YtjdcikhbgbefcaaFrD
import Derived.Test.YtjdcikhbgbefcaaFrE
namespace Go.Proofs.Ytjdcikhbgbefcaa
open Go.RowKit
open Go.Proofs.Ytjdcikhbgbefcaa.Frm
def AllSealed (ls : List (List UInt8)) (w : World) (e : Ending) (w' : World) : Prop :=
  (¬ (∀ l ∈ ls, l.length ≤ 131072) ∧ e = .returned (.tuple #[.slice none 0 0, .slice none 0 0, .bool false]) ∧ New w w') ∨
  ((∀ l ∈ ls, l.length ≤ 131072) ∧ (∃ A c B d, e = .returned (.tuple #[.slice A (seals ls).length c, .slice B ls.length d, .bool true]) ∧ OBs w' w.heap.size A (seals ls).length c (seals ls) ∧ Own w' w.heap.size 3 B ls.length d ((ends ls ls.length).map fun (n : Nat) => Value.int .i64 n)) ∧ New w w')
set_option maxHeartbeats 1000000 in
theorem sealed_any (A : Option Addr) (n c : Nat) (ls : List (List UInt8)) (w : World) (hn : n = ls.length) (hr : RR w A ls) (hlt : Light ls) :
    Calls Try.prog 26 #[.slice A n c] w (AllSealed ls w) := by
  have HN := Lib.hid hn
  have HL := Lib.hid hlt
  have h64 : n ≤ 64 := by have := hlt.1; omega
  clear hn hlt
  go_enter Try.func26, Try.ntmps26
  go_wp2
  go_loopw [5, 6, 7] (fun u v i wr => ∃ (k s : Nat) (A1 A2 : Option Addr) (c1 c2 : Nat), i = .int .i64 k ∧ k ≤ n ∧ u = .slice A1 s c1 ∧ v = .slice A2 k c2 ∧ Hid (∀ j : Nat, j < k → ∀ x, ls[j]? = some x → x.length ≤ 131072) ∧
      Hid (s = (seals (ls.take k)).length) ∧ OBs wr w.heap.size A1 s c1 (seals (ls.take k)) ∧ Own wr w.heap.size 3 A2 k c2 ((ends ls k).map fun (n : Nat) => Value.int .i64 n) ∧ New w wr) (fun _ _ i _ => n - (intOf i).toNat)
  case atStart => exact ⟨0, 0, none, none, 0, 0, rfl, Nat.zero_le _, rfl, rfl, fun j h => absurd h (by omega), rfl, OB.nil _ _ _, Own.nil _ _ _, New.refl _⟩
  case round =>
    obtain ⟨k, s, A1, A2, c1, c2, rfl, hk, rfl, rfl, hall, hs, ho1, ho2, hnew⟩ := hrel
    by_cases hkn : k < n
    · obtain ⟨x, hx⟩ : ∃ x, ls[k]? = some x := ⟨_, List.getElem?_eq_getElem (by rw [← HN.out]; exact hkn)⟩
      obtain ⟨ad, X, dx, rfl, hcx, hdx, hdx2, hbx⟩ := (hr.new hnew) k x hx
      have HX := Lib.hid hx
      clear hx
      by_cases hxl : x.length ≤ 131072
      · have HXL := Lib.hid hxl
        clear hxl
        have hsb : s + (8 + x.length) ≤ 262144 + 8 * 65 := by
          have h1 : s = _ := hs.out
          have h2 := seals_take HX.out
          have h3 : (seals (ls.take (k + 1))).length = s + (8 + x.length) := by rw [h2, List.length_append, seal_length, ← h1]
          have h4 := seals_length (ls.take (k + 1))
          have h5 : (ls.take (k + 1)).flatten.length ≤ ls.flatten.length := by
            rw [← List.take_append_drop (k + 1) ls, List.flatten_append, List.length_append, List.take_append_drop]
            omega
          have h6 := HL.out.2.1
          have h7 : (ls.take (k + 1)).length ≤ k + 1 := List.length_take_le _ _
          omega
        go_wp2_with fail
        refine (seal_yes X x.length dx x wr rfl hbx hdx hdx2 HXL.out).mono ?_
        rintro e w1 ⟨⟨A3, c3, rfl, ho3⟩, hw1⟩
        go_wp2_with (at_builtin; refine wpList_append_OB _ rfl (.tmp 26) (.tmp 27) _ rfl w.heap.size _ u_bytes i_byte A1 s c1 _ rfl (ho1.new hw1) A3 (8 + x.length) c3 _ rfl ho3.len.symm ho3.rb (by omega) (Nat.le_trans hnew.size hw1.size) ?_; intro A4 c4 w2 ho4 hg4 _; refine stop ?_)
        have hw2 : New w w2 := Below.trans (New.trans hnew hw1) (below_blk (ho1.new hw1) hg4 (Nat.le_trans hnew.size hw1.size))
        have ho2' : Own w2 w.heap.size 3 A2 k c2 ((ends ls k).map fun (n : Nat) => Value.int .i64 n) := (ho2.new hw1).keep (Keep.of_grown hg4) (Own.apart (ho2.new hw1) (ho1.new hw1) (by decide))
        have ho4' : OBs w2 w.heap.size A4 (s + (8 + x.length)) c4 (seals (ls.take (k + 1))) := by rw [seals_take HX.out]; exact ho4
        have hs4 : Hid (s + (8 + x.length) = (seals (ls.take (k + 1))).length) := ho4'.len.symm
        clear ho4 hg4 ho1 ho2 ho3 hw1 hnew hcx hbx
        refine go ?_
        go_wp2_with (at_builtin; refine wpList_append_one _ rfl (.tmp 29) (.tmp 32) _ rfl w.heap.size _ _ 8 u_ints i_int rfl A2 k c2 _ rfl ho2' _ rfl rfl rfl (by unfold maxLen; omega) (by omega) hw2.size ?_; intro A5 c5 w3 ho5 hg5 hb5; refine stop ?_)
        have hw3 : New w w3 := Below.trans hw2 hb5
        have ho6 : OBs w3 w.heap.size A4 (s + (8 + x.length)) c4 (seals (ls.take (k + 1))) := (ho4'.alloc _).keep (Keep.of_grown hg5) (Own.apart ho4' ho2' (by decide))
        have ho7 : Own w3 w.heap.size 3 A5 (k + 1) c5 ((ends ls (k + 1)).map fun (n : Nat) => Value.int .i64 n) := by
          rw [ends_succ, List.map_append, ← hs4.out]
          exact ho5
        have hall2 : Hid (∀ j : Nat, j < k + 1 → ∀ x, ls[j]? = some x → x.length ≤ 131072) := fun j hj y hy => by
          by_cases hjk : j = k
          · rw [hjk, HX.out] at hy
            cases hy
            exact HXL.out
          · exact hall.out j (by omega) y hy
        clear ho5 hg5 hb5 ho2' ho4' hw2
        refine go ?_
        go_wp2_with fail
        go_roundw
        case rel => exact ⟨k + 1, _, A4, A5, c4, c5, by go_num, by omega, rfl, rfl, hall2, hs4, ho6, ho7, hw3⟩
        case measure => simp [intOf]; omega
      · have HXL := Lib.hid hxl
        clear hxl
        go_wp2_with fail
        refine (seal_no X x.length dx x wr rfl hbx hdx hdx2 HXL.out).mono ?_
        rintro e w1 ⟨rfl, rfl⟩
        go_wp2_with fail
        go_ret3
        exact .inl ⟨fun h => HXL.out (h x (List.mem_of_getElem? HX.out)), rfl, hnew⟩
    · have hke : k = ls.length := by have : n = ls.length := HN.out; omega
      subst hke
      rw [List.take_length] at ho1 hs
      have hs1 := hs.out
      subst hs1
      go_wp2_with fail
      go_ret3
      exact .inr ⟨mem_upto hall.out (Nat.le_refl _), ⟨A1, c1, A2, c2, rfl, ho1, ho2⟩, hnew⟩
end Go.Proofs.Ytjdcikhbgbefcaa
