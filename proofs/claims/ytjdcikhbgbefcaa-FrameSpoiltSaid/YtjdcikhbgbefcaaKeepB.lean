/- hansekeep.Twins, Rows: what they do. -/
import Derived.Test.YtjdcikhbgbefcaaKeepA
import Derived.Deep.QuietTactic
import Derived.BigQuiet
namespace Go.Proofs.Ytjdcikhbgbefcaa
open Go.RowKit
abbrev ORs (w : World) (base : Nat) (A : Option Addr) (n c : Nat) (ls : List (List UInt8)) : Prop := OR w base 5 25 A n c ls

set_option maxHeartbeats 400000 in
theorem twins_any (A : Option Addr) (n c : Nat) (ls : List (List UInt8)) (w : World) (hn : n = ls.length) (hr : RR w A ls) (hmax : n ≤ 1073741824) (hlen : ∀ l ∈ ls, l.length ≤ 140737488355328) :
    Calls Try.prog 12 #[.slice A n c] w fun e w' => (∃ A' c', e = .returned (.slice A' n c') ∧ ORs w' w.heap.size A' n c' ls) ∧ New w w' := by
  obtain ⟨i0, hi, hz0, hz1, hz2⟩ := info_parts i_bytes
  have HN := Lib.hid hn
  have HLen := Lib.hid hlen
  clear hn hlen
  go_enter Try.func12, Try.ntmps12
  go_wp2
  go_loopw [3, 4] (fun v i wr => ∃ (k : Nat) (A' : Option Addr) (c' : Nat), i = .int .i64 k ∧ k ≤ n ∧ v = .slice A' k c' ∧ ORs wr w.heap.size A' k c' (ls.take k) ∧ New w wr) (fun _ i _ => n - (intOf i).toNat)
  case atStart => exact ⟨0, none, 0, rfl, Nat.zero_le _, rfl, OR.nil _ _ _ _, New.refl _⟩
  case round =>
    obtain ⟨k, A', c', rfl, hk, rfl, hor, hnew⟩ := hrel
    by_cases hlt : k < n
    · obtain ⟨l, hl⟩ : ∃ l, ls[k]? = some l := ⟨_, List.getElem?_eq_getElem (by rw [← HN.out]; exact hlt)⟩
      obtain ⟨ad, B, d, rfl, hcell, hd, hdm, hb⟩ := (hr.new hnew) k l hl
      have HL := Lib.hid hl
      clear hl
      go_wp2_with (first
        | (go_at_call 19; refine (twin_any _ _ _ l _ rfl hb (HLen.out l (List.mem_of_getElem? HL.out))).mono ?_; rintro e w1 ⟨B1, d1, rfl, hob, hw1⟩)
        | (at_builtin; refine wpList_append_OR _ rfl _ _ _ rfl w.heap.size _ _ (by decide) u_rows i_bytes A' k c' (ls.take k) rfl (hor.new hw1) B1 _ d1 l rfl (hob.base_le hnew.size) (by omega) (Nat.le_trans hnew.size hw1.size) ?_; intro A2 c2 w2 hor2 hb2))
      have hor3 : ORs w2 w.heap.size A2 (k + 1) c2 (ls.take (k + 1)) := by
        rw [List.take_add_one, HL.out]
        exact hor2
      have hnew3 := Below.trans (New.trans hnew hw1) hb2
      clear hor2 hb2 hob hw1 hor hb hcell
      go_wp2
      go_roundw
      case rel => exact ⟨k + 1, A2, c2, by go_num, by omega, rfl, hor3, hnew3⟩
      case measure => simp [intOf]; omega
    · have hkn : k = n := by omega
      subst hkn
      have hor3 : ORs wr w.heap.size A' k c' ls := by
        have := hor
        rw [HN.out, List.take_length, ← HN.out] at this
        exact this
      clear hor
      go_wp2
      go_ret
      exact ⟨⟨A', c', rfl, hor3⟩, hnew⟩
theorem beq_of_parts {ls ks : List (List UInt8)} (h : ls.length = ks.length) (he : ∀ j : Nat, j < ls.length → ls[j]? = ks[j]?) : (ls == ks) = true := by
  rw [beq_iff_eq]
  apply List.ext_getElem?
  intro j
  by_cases hj : j < ls.length
  · exact he j hj
  · rw [List.getElem?_eq_none (by omega), List.getElem?_eq_none (by omega)]
set_option maxHeartbeats 1000000 in
theorem rows_any (A B : Option Addr) (n c m d : Nat) (ls ks : List (List UInt8)) (w : World) (hn : n = ls.length) (hm : m = ks.length) (hmax : n ≤ maxLen) (hl : RR w A ls) (hk : RR w B ks) :
    Calls Try.prog 15 #[.slice A n c, .slice B m d] w fun e w' => e = .returned (.bool (ls == ks)) ∧ Drawn w w' := by
  unfold maxLen at hmax
  have HN := Lib.hid hn
  have HM := Lib.hid hm
  clear hn hm
  by_cases hnm : n = m
  · subst hnm
    go_enter Try.func15, Try.ntmps15
    go_wp2
    go_loopw [5] (fun i wr => ∃ k : Nat, i = .int .i64 k ∧ k ≤ n ∧ Hid (∀ j : Nat, j < k → ls[j]? = ks[j]?) ∧ Drawn w wr) (fun i _ => n - (intOf i).toNat)
    case atStart => exact ⟨0, rfl, Nat.zero_le _, fun j h => absurd h (by omega), Drawn.refl _⟩
    case round =>
      obtain ⟨k, rfl, hkn, hall, hdr⟩ := hrel
      by_cases hlt : k < n
      · obtain ⟨x, hx⟩ : ∃ x, ls[k]? = some x := ⟨_, List.getElem?_eq_getElem (by rw [← HN.out]; exact hlt)⟩
        obtain ⟨y, hy⟩ : ∃ y, ks[k]? = some y := ⟨_, List.getElem?_eq_getElem (by rw [← HM.out]; exact hlt)⟩
        obtain ⟨ad, X, dx, rfl, hcx, hdx, hdx2, hbx⟩ := (hl.new hdr.new) k x hx
        obtain ⟨ad', Y, dy, rfl, hcy, hdy, hdy2, hby⟩ := (hk.new hdr.new) k y hy
        have HX := Lib.hid hx
        have HY := Lib.hid hy
        have HD := Lib.hid hdr
        clear hx hy hdr
        have hi : (k : Int) < (n : Int) := by omega
        by_cases hxy : x = y
        · have hq : (x == y) = true := by rw [beq_iff_eq]; exact hxy
          have HXY := Lib.hid hxy
          clear hxy
          go_wp2
          go_quiet ((go_at_call 18; exact quiet_id (bytes_is _ _ _ _ _ _ x y _ rfl rfl (hbx.drewN _) (hby.drewN _) true hq)))
          go_wp2
          go_roundw
          case rel =>
            refine ⟨k + 1, by go_num, by omega, fun j hj => ?_, Drawn.drewN HD.out _⟩
            by_cases hjk : j = k
            · rw [hjk, HX.out, HY.out, HXY.out]
            · exact hall.out j (by omega)
          case measure => simp [intOf]; omega
        · have hq : (x == y) = false := by rw [beq_eq_false_iff_ne]; exact hxy
          have hne : (ls == ks) = false := by
            rw [beq_eq_false_iff_ne]
            rintro rfl
            have := HX.out.symm.trans HY.out
            injection this with this
            exact hxy this
          have HNE := Lib.hid hne
          clear hne hxy
          go_wp2
          go_quiet ((go_at_call 18; exact quiet_id (bytes_is _ _ _ _ _ _ x y _ rfl rfl (hbx.drewN _) (hby.drewN _) false hq)))
          go_wp2
          go_ret
          exact ⟨ret_bool HNE.out.symm, Drawn.drewN HD.out _⟩
      · have hq := beq_of_parts (HN.out.symm.trans HM.out) (fun j hj => hall.out j (by have h : n = ls.length := HN.out; omega))
        have HQ := Lib.hid hq
        clear hq
        go_wp2
        go_ret
        exact ⟨ret_bool HQ.out.symm, hdr⟩
  · have h1 : ((n : Int) != (m : Int)) = true := by simp; omega
    go_enter Try.func15, Try.ntmps15
    go_wp2
    go_ret
    have hne : (ls == ks) = false := by
      rw [beq_eq_false_iff_ne]
      rintro rfl
      exact hnm (HN.out.trans HM.out.symm)
    exact ⟨ret_bool hne.symm, Drawn.refl _⟩
end Go.Proofs.Ytjdcikhbgbefcaa
