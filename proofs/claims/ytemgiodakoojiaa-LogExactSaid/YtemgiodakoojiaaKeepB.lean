/- hansekeep.Twins, Rows: what they do. -/
import Derived.Test.YtemgiodakoojiaaKeepA
import Derived.Deep.QuietTactic
import Derived.BigQuiet
namespace Go.Proofs.Ytemgiodakoojiaa
open Go.RowKit
abbrev ORs (w : World) (base : Nat) (A : Option Addr) (n c : Nat) (ls : List (List UInt8)) : Prop := OR w base 5 30 A n c ls

theorem beq_of_parts {ls ks : List (List UInt8)} (h : ls.length = ks.length) (he : ∀ j : Nat, j < ls.length → ls[j]? = ks[j]?) : (ls == ks) = true := by
  rw [beq_iff_eq]
  apply List.ext_getElem?
  intro j
  by_cases hj : j < ls.length
  · exact he j hj
  · rw [List.getElem?_eq_none (by omega), List.getElem?_eq_none (by omega)]
set_option maxHeartbeats 1000000 in
theorem rows_any (A B : Option Addr) (n c m d : Nat) (ls ks : List (List UInt8)) (w : World) (hn : n = ls.length) (hm : m = ks.length) (hmax : n ≤ maxLen) (hl : RR w A ls) (hk : RR w B ks) :
    Calls Try.prog 16 #[.slice A n c, .slice B m d] w fun e w' => e = .returned (.bool (ls == ks)) ∧ Drawn w w' := by
  unfold maxLen at hmax
  have HN := Lib.hid hn
  have HM := Lib.hid hm
  clear hn hm
  by_cases hnm : n = m
  · subst hnm
    go_enter Try.func16, Try.ntmps16
    go_wp2
    go_loopw [5] (fun i wr => ∃ k : Nat, i = .int .i64 k ∧ k ≤ n ∧ Hid (∀ j : Nat, j < k → ls[j]? = ks[j]?) ∧ Drawn w wr) (fun i _ => n - (intOf i).toNat)
    case atStart => exact ⟨0, rfl, Nat.zero_le _, fun j h => absurd h (by omega), Drawn.refl _⟩
    case round =>
      obtain ⟨k, rfl, hkn, hall, hdr⟩ := hrel
      by_cases hlt : k < n
      · obtain ⟨x, hx⟩ : ∃ x, ls[k]? = some x := ⟨_, List.getElem?_eq_getElem (by rw [← HN.out]; exact hlt)⟩
        obtain ⟨y, hy⟩ : ∃ y, ks[k]? = some y := ⟨_, List.getElem?_eq_getElem (by rw [← HM.out]; exact hlt)⟩
        obtain ⟨ad, X, dx, rfl, hcx, hdx, hdx2, hbx⟩ := (hl.new hdr.new) k x hx
        obtain ⟨ad', Y, dy, rfl, hcy, hdy, hdy2, hby⟩ := (hk.new hdr.new) k y hy
        have HX := Lib.hid hx
        have HY := Lib.hid hy
        have HD := Lib.hid hdr
        clear hx hy hdr
        have hi : (k : Int) < (n : Int) := by omega
        by_cases hxy : x = y
        · have hq : (x == y) = true := by rw [beq_iff_eq]; exact hxy
          have HXY := Lib.hid hxy
          clear hxy
          go_wp2
          go_quiet ((go_at_call 15; exact quiet_id (bytes_is _ _ _ _ _ _ x y _ rfl rfl (hbx.drewN _) (hby.drewN _) true hq)))
          go_wp2
          go_roundw
          case rel =>
            refine ⟨k + 1, by go_num, by omega, fun j hj => ?_, Drawn.drewN HD.out _⟩
            by_cases hjk : j = k
            · rw [hjk, HX.out, HY.out, HXY.out]
            · exact hall.out j (by omega)
          case measure => simp [intOf]; omega
        · have hq : (x == y) = false := by rw [beq_eq_false_iff_ne]; exact hxy
          have hne : (ls == ks) = false := by
            rw [beq_eq_false_iff_ne]
            rintro rfl
            have := HX.out.symm.trans HY.out
            injection this with this
            exact hxy this
          have HNE := Lib.hid hne
          clear hne hxy
          go_wp2
          go_quiet ((go_at_call 15; exact quiet_id (bytes_is _ _ _ _ _ _ x y _ rfl rfl (hbx.drewN _) (hby.drewN _) false hq)))
          go_wp2
          go_ret
          exact ⟨ret_bool HNE.out.symm, Drawn.drewN HD.out _⟩
      · have hq := beq_of_parts (HN.out.symm.trans HM.out) (fun j hj => hall.out j (by have h : n = ls.length := HN.out; omega))
        have HQ := Lib.hid hq
        clear hq
        go_wp2
        go_ret
        exact ⟨ret_bool HQ.out.symm, hdr⟩
  · have h1 : ((n : Int) != (m : Int)) = true := by simp; omega
    go_enter Try.func16, Try.ntmps16
    go_wp2
    go_ret
    have hne : (ls == ks) = false := by
      rw [beq_eq_false_iff_ne]
      rintro rfl
      exact hnm (HN.out.trans HM.out.symm)
    exact ⟨ret_bool hne.symm, Drawn.refl _⟩
end Go.Proofs.Ytemgiodakoojiaa
