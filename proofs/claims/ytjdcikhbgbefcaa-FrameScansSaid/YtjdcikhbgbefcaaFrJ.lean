/- hanseref04.Scan: what it does. -/
import Derived.Test.YtjdcikhbgbefcaaFrG
import Derived.Test.YtjdcikhbgbefcaaFrI
namespace Go.Proofs.Ytjdcikhbgbefcaa
open Go.RowKit
open Go.Proofs.Ytjdcikhbgbefcaa.Frm
set_option maxHeartbeats 1000000 in
theorem rscan_any (A : Option Addr) (n c : Nat) (b : List UInt8) (w : World) (hn : n = b.length) (hr : RB w A b) (hnc : n ≤ c) (hmax : c ≤ maxLen) (hbd : n ≤ 1099511627776) :
    Calls Try.prog 21 #[.slice A n c] w (Scanned w b) := by
  have HN := Lib.hid hn
  have hM := hmax
  unfold maxLen at hM
  have hcut := fun en => hr.cut en c (by omega)
  have hcz := hr
  clear hn hr
  go_enter Try.func21, Try.ntmps21
  go_wp2
  go_loopw [4, 5] (fun v i wr => ∃ (k en : Nat) (A' : Option Addr) (c' : Nat) (ps : List (List UInt8)), v = .slice A' k c' ∧ i = .int .i64 en ∧ ORs wr w.heap.size A' k c' ps ∧ New w wr ∧ en ≤ b.length ∧ 8 * k ≤ en ∧ Hid (scan b = (ps ++ (scan (b.drop en)).1, en + (scan (b.drop en)).2))) (fun _ i _ => n - (intOf i).toNat)
  case atStart => exact ⟨0, 0, none, 0, [], rfl, rfl, OR.nil _ _ _ _, New.refl _, Nat.zero_le _, Nat.le_refl _, by show _ = _; simp⟩
  case round =>
    obtain ⟨k, en, A', c', ps, rfl, rfl, hor, hnew, hen, hk8, HS⟩ := hrel
    have hc' := hor.le
    unfold maxLen at hc'
    have henn : (en : Int) ≤ (n : Int) := by have : n = b.length := HN.out; omega
    have henc : (en : Int) ≤ (c : Int) := by omega
    obtain ⟨X, hX⟩ : ∃ X : Option Addr, (if c = en then A else A.map (·.add en)) = X := ⟨_, rfl⟩
    have hrX := (hcut en).new hnew
    rw [hX] at hrX
    have hfirst := rfirst_any X (n - en) (c - en) (b.drop en) wr (by rw [List.length_drop, ← HN.out]) hrX (by omega) (by unfold maxLen; omega)
    have HF := Lib.hid hfirst
    clear hfirst hen hrX
    cases hf : first (b.drop en) with
    | none =>
      have HN1 := Lib.hid hf
      clear hf
      go_wp2_with fail
      refine HF.out.mono ?_
      intro e w2 h
      unfold Firsted at h
      rw [HN1.out] at h
      obtain ⟨rfl, hw2⟩ := h
      clear HF
      go_wp2_with fail
      go_ret2
      exact scanned_fin (hor.new hw2) (New.trans hnew hw2) HS.out HN1.out
    | some p =>
      have hb := (first_some hf).1
      rw [List.length_drop] at hb
      have hpl : en + (8 + p.length) ≤ n := by have : n = b.length := HN.out; omega
      have hplb : en + (8 + p.length) ≤ b.length := by have : n = b.length := HN.out; omega
      have HN1 := Lib.hid hf
      have HP := Lib.hid (And.intro hpl hplb)
      clear hf hb hpl hplb
      go_wp2_with fail
      refine HF.out.mono ?_
      intro e w2 h
      unfold Firsted at h
      rw [HN1.out] at h
      obtain ⟨A2, c2, rfl, hob, hw2⟩ := h
      clear HF
      obtain ⟨hpl, hplb⟩ := HP.out
      go_wp2_with (at_builtin; refine wpList_append_OR _ rfl _ _ _ rfl w.heap.size _ _ (by decide) u_rows i_bytes A' k c' ps rfl (hor.new hw2) A2 p.length c2 p rfl (hob.base_le hnew.size) (by omega) (Nat.le_trans hnew.size hw2.size) ?_; intro A3 c3 w3 hor3 hb3)
      have hnew3 : New w w3 := Below.trans (New.trans hnew hw2) hb3
      clear hb3 hw2 hnew hor hob
      go_wp2_with fail
      go_roundw
      case rel => exact ⟨k + 1, en + (8 + p.length), A3, c3, ps ++ [p], rfl, by go_num, hor3, hnew3, hplb, by omega, scan_next HS.out HN1.out⟩
      case measure => simp [intOf]; omega
end Go.Proofs.Ytjdcikhbgbefcaa
