/- pack.Reader.Uint: what it does. -/
import Derived.Test.YtagocmbcbbhehaaRdA
namespace Go.Proofs.Ytagocmbcbbhehaa
open Go.RowKit
def rdU (l : List UInt8) (e : Int) : Nat × List UInt8 × Int := if e ≠ 0 then (0, l, e) else match rd l with | some (v, k) => (v, l.drop k, 0) | none => (0, l, 4)
theorem rdU_err {l : List UInt8} {e : Int} (h : e ≠ 0) : rdU l e = (0, l, e) := by unfold rdU; rw [if_pos h]
theorem rdU_none {l : List UInt8} (h : rd l = none) : rdU l 0 = (0, l, 4) := by unfold rdU; rw [if_neg (by simp), h]
theorem rdU_some {l : List UInt8} {v k : Nat} (h : rd l = some (v, k)) : rdU l 0 = (v, l.drop k, 0) := by unfold rdU; rw [if_neg (by simp), h]
theorem rk_cut {lo g c n k n' c' : Nat} {A A' : Option Addr} {l : List UInt8} {e : Int} {w : World} (h : RKp w lo g A c l e) (hn : n = l.length) (hk : k ≤ n) (hA : A' = if c = k then A else A.map (·.add k)) (hn' : n' = n - k) (hc' : c' = c - k) :
    RKp (w.setCell ⟨g, 0, none⟩ (.slice A' n' c')) lo g A' c' (l.drop k) e := by
  subst hn' hc'
  have hfar : ∀ ad, A' = some ad → ad.block < g ∧ lo ≤ ad.block := by
    intro ad e
    rw [hA] at e
    split at e
    · exact h.low ad e
    · cases A with
      | none => cases e
      | some b =>
        simp only [Option.map_some, Option.some.injEq] at e
        subst e
        rw [add_block]
        exact h.low b rfl
  refine ⟨?_, ?_, hfar, h.le, ?_⟩
  · rw [dk_set h.cells, List.length_drop, ← hn]
    rfl
  · have := h.rb.cut k c h.cap.1
    rw [← hA] at this
    exact this.kept (Keep.setAt _ _ _ _) fun ad e => Nat.ne_of_lt (hfar ad e).1
  · have := h.cap
    rw [List.length_drop]
    omega
set_option maxHeartbeats 1000000 in
theorem uint_rk {lo g c : Nat} {A : Option Addr} {l : List UInt8} {e : Int} {w : World} (h : RKp w lo g A c l e) (V : Nat) (l' : List UInt8) (x : Int) (hx : rdU l e = (V, l', x)) :
    Calls Try.prog 83 #[.pointer (some ⟨g, 0, none⟩)] w (Gotp w lo g (.returned (.int .u64 V)) l' x) := by
  have h0 := h.c0
  have h1 := h.c1
  have hf := h.fr
  have hr := h.rb
  have hc1 := h.cap.1
  have hc2 := h.cap.2
  unfold maxLen at hc2
  have HH := Lib.hid h
  clear h
  obtain ⟨n, hn⟩ : ∃ n, n = l.length := ⟨_, rfl⟩
  rw [← hn] at h0 hc1
  have HN := Lib.hid hn
  have HX := Lib.hid hx
  clear hn hx
  by_cases he : e = 0
  · subst he
    go_enter Try.func83, Try.ntmps83
    go_wp2_with fail
    go_loopw [3, 4, 5, 16] (fun v i b q wr => ∃ k acc : Nat, v = .int .u64 acc ∧ q = .int .i64 k ∧ k ≤ n ∧ k ≤ 9 ∧ acc < 18446744073709551616 ∧ Hid (acc < 2 ^ (7 * k)) ∧ Hid (rd l = rdF k acc (l.drop k)) ∧ wr = w) (fun _ _ _ q _ => n - (intOf q).toNat)
    case atStart => exact ⟨0, 0, rfl, rfl, Nat.zero_le _, by omega, by omega, by show 0 < 1; omega, rfl, rfl⟩
    case round =>
      obtain ⟨k, acc, rfl, rfl, hkn, hk9, hac, HA, HR, rfl⟩ := hrel
      by_cases hlt : (k : Int) < (n : Int)
      · obtain ⟨u, hu⟩ : ∃ u, l[k]? = some u := ⟨_, List.getElem?_eq_getElem (by have : n = l.length := HN.out; omega)⟩
        obtain ⟨ad, rfl, hcell⟩ := hr k u hu
        have hdr : l.drop k = u :: l.drop (k + 1) := by
          obtain ⟨hlen, he⟩ := List.getElem?_eq_some_iff.1 hu
          rw [List.drop_eq_getElem_cons hlen, he]
        have hub := UInt8.toNat_lt u
        by_cases hfar : k = 9 ∧ 1 < u.toNat
        · obtain ⟨hk, hu1⟩ := hfar
          have hkb : ((k : Int) == 9) = true := by rw [beq_iff_eq]; omega
          have hui : (1 : Int) < (u.toNat : Int) := by omega
          have hrn : rd l = none := by rw [HR.out, hdr]; exact rdF_far hk hu1
          have HXN := Lib.hid (HX.out.symm.trans (rdU_none hrn))
          clear hu hdr hrn hk
          go_wp2_with fail
          go_ret
          cases HXN.out
          refine ⟨rfl, ⟨some ad, c, ⟨?_, ?_, HH.out.low, HH.out.le, HH.out.cap⟩⟩, Keep.setAt _ _ _ _⟩
          · rw [dk_set HH.out.cells]
            rfl
          · exact HH.out.rb.kept (Keep.setAt _ _ _ _) fun ad' e => (HH.out.far ad' e).1
        · have hg := or_group (b := u) hk9 hfar HA.out
          obtain ⟨E, hE⟩ : ∃ E, E = u.toNat % 128 * 2 ^ (7 * k) := ⟨_, rfl⟩
          rw [← hE] at hg
          have hguard : ((k : Int) == 9) = false ∨ (((k : Int) == 9) = true ∧ decide ((1 : Int) < (u.toNat : Int)) = false) := by
            by_cases hk : k = 9
            · exact .inr ⟨by rw [beq_iff_eq]; omega, by simp; omega⟩
            · exact .inl (by rw [beq_eq_false_iff_ne]; omega)
          obtain ⟨F, hFE⟩ : ∃ F, F = acc + E := ⟨_, rfl⟩
          have hand : bits .and .u8 (u.toNat : Int) 127 = ((u.toNat % 128 : Nat) : Int) := by
            rw [show (127 : Int) = ((127 : Nat) : Int) from rfl, u8_and_nat _ _ (by omega) (by decide)]
            exact congrArg _ (Nat.and_two_pow_sub_one_eq_mod u.toNat 7)
          have hsh : IntKind.u64.wrap ((u.toNat : Int) % 128 * 2 ^ (7 * k)) = (E : Int) := by
            have e : ((u.toNat : Int) % 128 * 2 ^ (7 * k)) = (E : Int) := by rw [hE]; simp
            rw [e, IntKind.wrap_u64]
            have := hg.2.1
            omega
          have hor : bits .or .u64 (acc : Int) (E : Int) = (F : Int) := by rw [u64_or_nat _ _ hac hg.2.1, hg.1, hFE]
          have hmul : IntKind.i64.wrap (7 * (k : Int)) = ((7 * k : Nat) : Int) := by
            rw [show ((7 * k : Nat) : Int) = 7 * (k : Int) from by simp]
            exact IntWalk.i64_in _ ⟨by omega, by omega⟩
          have hF64 : F < 18446744073709551616 := by rw [hFE]; exact hg.2.2.1
          have HFB : Hid (F < 2 ^ (7 * (k + 1))) := by show _ < _; rw [hFE]; exact hg.2.2.2
          have hm1 : IntKind.i64.wrap ((k : Int) + 1) = (k : Int) + 1 := IntWalk.i64_in _ ⟨by omega, by omega⟩
          have HE := Lib.hid hE
          have HFE := Lib.hid hFE
          have HF := Lib.hid hfar
          have HU := Lib.hid hu
          have HD := Lib.hid hdr
          clear hg hE hfar hu hdr hFE
          rcases hguard with hgd | ⟨hgk, hgd⟩
          · skip
            by_cases hbig : (127 : Int) < (u.toNat : Int)
            · skip
              have hrr : rd l = rdF (k + 1) F (l.drop (k + 1)) := by rw [HR.out, HD.out, rdF_more HF.out (by omega), HFE.out, HE.out]
              have HRR := Lib.hid hrr
              clear hrr
              have hk8 : k ≤ 8 := by have := HF.out; omega
              go_wp2_with fail
              go_roundw
              case rel => exact ⟨k + 1, F, rfl, by go_num, by omega, by omega, hF64, HFB, HRR.out, by first | rfl | trivial⟩
              case measure => simp [intOf]; omega
            · have hbd : decide ((127 : Int) < (u.toNat : Int)) = false := by simpa using hbig
              by_cases hz : u.toNat = 0
              · have hzb : ((u.toNat : Int) == 0) = true := by rw [beq_iff_eq]; omega
                have HZ := Lib.hid hz
                clear hz
                by_cases hk0 : (0 : Int) < (k : Int)
                · skip
                  have hrn : rd l = none := by rw [HR.out, HD.out]; exact rdF_zero HF.out HZ.out (by omega)
                  have HXN := Lib.hid (HX.out.symm.trans (rdU_none hrn))
                  clear hrn
                  go_wp2_with fail
                  go_ret
                  cases HXN.out
                  refine ⟨rfl, ⟨some ad, c, ⟨?_, ?_, HH.out.low, HH.out.le, HH.out.cap⟩⟩, Keep.setAt _ _ _ _⟩
                  · rw [dk_set HH.out.cells]
                    rfl
                  · exact HH.out.rb.kept (Keep.setAt _ _ _ _) fun ad' e => (HH.out.far ad' e).1
                · have hkd : decide ((0 : Int) < (k : Int)) = false := by simpa using hk0
                  have hrs : rd l = some (F, k + 1) := by rw [HR.out, HD.out, rdF_end HF.out (by omega) (by omega), HFE.out, HE.out]
                  have HXN := Lib.hid (HX.out.symm.trans (rdU_some hrs))
                  clear hrs
                  go_wp2_with fail
                  all_goals go_ret
                  all_goals cases HXN.out
                  all_goals exact ⟨rfl, ⟨_, _, rk_cut (k := k + 1) HH.out HN.out (by omega) (by first | (rw [if_pos (by assumption)]; done) | (rw [if_neg (by assumption)]; rfl)) (by omega) (by omega)⟩, Keep.setAt _ _ _ _⟩
              · have hzb : ((u.toNat : Int) == 0) = false := by rw [beq_eq_false_iff_ne]; omega
                have hrs : rd l = some (F, k + 1) := by rw [HR.out, HD.out, rdF_end HF.out (by omega) (by omega), HFE.out, HE.out]
                have HXN := Lib.hid (HX.out.symm.trans (rdU_some hrs))
                clear hrs
                go_wp2_with fail
                all_goals go_ret
                all_goals cases HXN.out
                all_goals exact ⟨rfl, ⟨_, _, rk_cut (k := k + 1) HH.out HN.out (by omega) (by first | (rw [if_pos (by assumption)]; done) | (rw [if_neg (by assumption)]; rfl)) (by omega) (by omega)⟩, Keep.setAt _ _ _ _⟩
          · skip
            by_cases hbig : (127 : Int) < (u.toNat : Int)
            · skip
              have hrr : rd l = rdF (k + 1) F (l.drop (k + 1)) := by rw [HR.out, HD.out, rdF_more HF.out (by omega), HFE.out, HE.out]
              have HRR := Lib.hid hrr
              clear hrr
              have hk8 : k ≤ 8 := by have := HF.out; omega
              go_wp2_with fail
              go_roundw
              case rel => exact ⟨k + 1, F, rfl, by go_num, by omega, by omega, hF64, HFB, HRR.out, by first | rfl | trivial⟩
              case measure => simp [intOf]; omega
            · have hbd : decide ((127 : Int) < (u.toNat : Int)) = false := by simpa using hbig
              by_cases hz : u.toNat = 0
              · have hzb : ((u.toNat : Int) == 0) = true := by rw [beq_iff_eq]; omega
                have HZ := Lib.hid hz
                clear hz
                by_cases hk0 : (0 : Int) < (k : Int)
                · skip
                  have hrn : rd l = none := by rw [HR.out, HD.out]; exact rdF_zero HF.out HZ.out (by omega)
                  have HXN := Lib.hid (HX.out.symm.trans (rdU_none hrn))
                  clear hrn
                  go_wp2_with fail
                  go_ret
                  cases HXN.out
                  refine ⟨rfl, ⟨some ad, c, ⟨?_, ?_, HH.out.low, HH.out.le, HH.out.cap⟩⟩, Keep.setAt _ _ _ _⟩
                  · rw [dk_set HH.out.cells]
                    rfl
                  · exact HH.out.rb.kept (Keep.setAt _ _ _ _) fun ad' e => (HH.out.far ad' e).1
                · have hkd : decide ((0 : Int) < (k : Int)) = false := by simpa using hk0
                  have hrs : rd l = some (F, k + 1) := by rw [HR.out, HD.out, rdF_end HF.out (by omega) (by omega), HFE.out, HE.out]
                  have HXN := Lib.hid (HX.out.symm.trans (rdU_some hrs))
                  clear hrs
                  go_wp2_with fail
                  all_goals go_ret
                  all_goals cases HXN.out
                  all_goals exact ⟨rfl, ⟨_, _, rk_cut (k := k + 1) HH.out HN.out (by omega) (by first | (rw [if_pos (by assumption)]; done) | (rw [if_neg (by assumption)]; rfl)) (by omega) (by omega)⟩, Keep.setAt _ _ _ _⟩
              · have hzb : ((u.toNat : Int) == 0) = false := by rw [beq_eq_false_iff_ne]; omega
                have hrs : rd l = some (F, k + 1) := by rw [HR.out, HD.out, rdF_end HF.out (by omega) (by omega), HFE.out, HE.out]
                have HXN := Lib.hid (HX.out.symm.trans (rdU_some hrs))
                clear hrs
                go_wp2_with fail
                all_goals go_ret
                all_goals cases HXN.out
                all_goals exact ⟨rfl, ⟨_, _, rk_cut (k := k + 1) HH.out HN.out (by omega) (by first | (rw [if_pos (by assumption)]; done) | (rw [if_neg (by assumption)]; rfl)) (by omega) (by omega)⟩, Keep.setAt _ _ _ _⟩
      · have hrn : rd l = none := by
          rw [HR.out, List.drop_eq_nil_of_le (by have : n = l.length := HN.out; omega)]
          exact rdF_nil _ _
        have HXN := Lib.hid (HX.out.symm.trans (rdU_none hrn))
        have hld : decide ((k : Int) < (n : Int)) = false := by simpa using hlt
        clear hrn
        go_wp2_with fail
        go_ret
        cases HXN.out
        refine ⟨rfl, ⟨A, c, ⟨?_, ?_, HH.out.low, HH.out.le, HH.out.cap⟩⟩, Keep.setAt _ _ _ _⟩
        · rw [dk_set HH.out.cells]
          rfl
        · exact HH.out.rb.kept (Keep.setAt _ _ _ _) fun ad' e => (HH.out.far ad' e).1
  · have hd : (e != 0) = true := by rw [bne_iff_ne]; exact he
    go_enter Try.func83, Try.ntmps83
    go_wp2_with fail
    go_ret
    have := HX.out.symm.trans (rdU_err he)
    cases this
    exact ⟨rfl, ⟨A, c, HH.out⟩, Keep.refl _ _⟩
end Go.Proofs.Ytagocmbcbbhehaa
