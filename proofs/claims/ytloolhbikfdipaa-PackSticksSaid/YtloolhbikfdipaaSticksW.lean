/- hanselaw03.PackSticks: the walk. -/
import Derived.Test.YtloolhbikfdipaaGotA
import Derived.Deep.LoopGhost
import Derived.Deep.WholeRow
namespace Go.Proofs.Ytloolhbikfdipaa
open Go.RowKit
set_option maxHeartbeats 4000000 in
theorem sticks_law (A : Option Addr) (n c : Nat) (l : List UInt8) (B : Option Addr) (m d : Nat) (ks : List Int) (w : World) (hn : n = l.length) (_ : n ≤ c) (_ : c ≤ maxLen) (hr : RB w A l) (hm : m = ks.length) (_ : m ≤ d) (_ : d ≤ maxLen) (hk : RI w B ks ∧ ∀ z ∈ ks, (Lit.int .i64 z).wf = true) :
    Calls Try.prog 6 #[.slice A n c, .slice B m d] w fun e w' => e = .returned (.bool true) ∧ New w w' := by
  have hki := hk.1
  have HN := Lib.hid hn
  have HM := Lib.hid hm
  clear hn hm hk
  by_cases h1 : (65536 : Int) < (n : Int)
  · go_enter Try.func6, Try.ntmps6
    go_wp2_with fail
    go_ret
    exact ⟨rfl, New.refl _⟩
  have d1 : decide ((65536 : Int) < (n : Int)) = false := by simpa using h1
  by_cases h2 : (256 : Int) < (m : Int)
  · go_enter Try.func6, Try.ntmps6
    go_wp2_with fail
    go_ret
    exact ⟨rfl, New.refl _⟩
  have d2 : decide ((256 : Int) < (m : Int)) = false := by simpa using h2
  go_enter Try.func6, Try.ntmps6
  go_wp2_with fail
  refine (newr_rk A n c l w HN.out hr (by omega)).mono ?_
  rintro e w1 ⟨g, A1, c1, rfl, hrk, hw1⟩
  go_wp2_with fail
  go_loopw [6, 7] (fun b i wr => ∃ (k : Nat) (bad e : Int) (A2 : Option Addr) (c2 : Nat) (l2 : List UInt8), b = .int .i64 bad ∧ i = .int .i64 k ∧ k ≤ m ∧ RKp wr w.heap.size g A2 c2 l2 e ∧ Hid (bad ≠ 0 → bad = e) ∧ New w wr) (fun _ i _ => m - (intOf i).toNat)
  case atStart => exact ⟨0, 0, 0, A1, c1, l, rfl, rfl, Nat.zero_le _, hrk, (fun h => absurd rfl h), hw1⟩
  case round =>
    obtain ⟨k, bad, e, A2, c2, l2, rfl, rfl, hkm, hrk, HB, hnew⟩ := hrel
    by_cases hlt : k < m
    · obtain ⟨y, hy⟩ : ∃ y, ks[k]? = some y := ⟨_, List.getElem?_eq_getElem (by rw [← HM.out]; exact hlt)⟩
      obtain ⟨ad, rfl, hcell⟩ := (hki.new hnew) k y hy
      have HR := Lib.hid hrk
      clear hy hrk
      have hst : ∀ (w : World) (a : Addr) (m : Mode), (store a (.complex .f64 0 0) m).run Try.prog w = stored Try.prog w a (.complex .f64 0 0) m := fun w a m => run_store Try.prog w a _ m rfl
      go_wp2_with fail
      refine (got_any (HR.out.new ((Below.refl _ _).alloc (Nat.le_refl _) _)) y).mono ?_
      rintro e3 w3 ⟨b, l3, x, rfl, ⟨A3, c3, hr3⟩, hk3, hz⟩
      have hn3 : New w w3 := Below.trans (Below.alloc hnew hnew.size _) (hk3.below (by rw [World.size_alloc]; have := hnew.size; omega) (by rintro i rfl; exact HR.out.le))
      clear hk3 hst hcell
      obtain ⟨v, hv⟩ : ∃ v : Int, (if x = 0 ∧ 0 < l3.length then 4 else x) = v := ⟨_, rfl⟩
      have HD := Lib.hid (done_rk hr3 v hv)
      have HV := Lib.hid hv
      have HR3 := Lib.hid hr3
      clear hv hr3
      by_cases hb0 : bad = 0
      · subst hb0
        by_cases h5 : v = 5
        · subst h5
          have hx5 : Hid (x = 5) := by
            show _ = _
            have := HV.out
            split at this <;> omega
          go_wp2_with fail
          refine HD.out.mono ?_
          rintro e4 w4 ⟨rfl, rfl⟩
          go_wp2_with fail
          go_roundw
          case rel => exact ⟨k + 1, 5, x, A3, c3, l3, rfl, by go_num, by omega, HR3.out, (fun _ => hx5.out.symm), hn3⟩
          case measure => simp [intOf]; omega
        · by_cases h2 : v = 2
          · subst h2
            have hx5 : Hid (x = 2) := by
              show _ = _
              have := HV.out
              split at this <;> omega
            go_wp2_with fail
            refine HD.out.mono ?_
            rintro e4 w4 ⟨rfl, rfl⟩
            go_wp2_with fail
            go_roundw
            case rel => exact ⟨k + 1, 2, x, A3, c3, l3, rfl, by go_num, by omega, HR3.out, (fun _ => hx5.out.symm), hn3⟩
            case measure => simp [intOf]; omega
          · have f5 : (v == 5) = false := by rw [beq_eq_false_iff_ne]; exact h5
            have f2 : (v == 2) = false := by rw [beq_eq_false_iff_ne]; exact h2
            clear h5 h2
            go_wp2_with fail
            refine HD.out.mono ?_
            rintro e4 w4 ⟨rfl, rfl⟩
            go_wp2_with fail
            go_roundw
            case rel => exact ⟨k + 1, 0, x, A3, c3, l3, rfl, by go_num, by omega, HR3.out, (fun h => absurd rfl h), hn3⟩
            case measure => simp [intOf]; omega
      · have hbe : bad = e := HB.out hb0
        obtain ⟨rfl, hxe⟩ := hz (hbe ▸ hb0)
        have hxb : x = bad := by rw [hxe, hbe]
        subst hxb
        have hvx : v = x := by
          have := HV.out
          rw [if_neg (fun h => hb0 h.1)] at this
          exact this.symm
        subst hvx
        have f0 : (v == 0) = false := by rw [beq_eq_false_iff_ne]; exact hb0
        have f1 : (v != 0) = true := by rw [bne_iff_ne]; exact hb0
        clear hbe hxe hz
        go_wp2_with fail
        refine HD.out.mono ?_
        rintro e4 w4 ⟨rfl, rfl⟩
        go_wp2_with fail
        refine HD.out.mono ?_
        rintro e4 w4 ⟨rfl, rfl⟩
        go_wp2_with fail
        go_roundw
        case rel => exact ⟨k + 1, v, v, A3, c3, l3, rfl, by go_num, by omega, HR3.out, (fun _ => rfl), hn3⟩
        case measure => simp [intOf]; omega
    · go_wp2_with fail
      refine (wakes_any _).mono ?_
      rintro e9 w9 ⟨rfl, hw9⟩
      go_wp2_with fail
      go_ret
      exact ⟨rfl, New.trans hnew hw9⟩
end Go.Proofs.Ytloolhbikfdipaa
