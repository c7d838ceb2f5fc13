/- hanselaw04.FrameSpoilt: the walk. -/
import Derived.Test.YtjdcikhbgbefcaaFrD
import Derived.Test.YtjdcikhbgbefcaaSpl
import Derived.Test.YtjdcikhbgbefcaaFrE
import Derived.Test.YtjdcikhbgbefcaaFrF
import Derived.StillTailTactics
namespace Go.Proofs.Ytjdcikhbgbefcaa
open Go.RowKit
open Go.Proofs.Ytjdcikhbgbefcaa.Frm
set_option maxHeartbeats 1000000 in
theorem spoilt_law (A : Option Addr) (n c : Nat) (p : List UInt8) (x : Int) (e0 e1 e2 e3 : UInt8) (w : World) (hn : n = p.length) (hnc : n ≤ c) (hmax : c ≤ maxLen) (ha : RB w A p) (_ : (Lit.int .i64 x).wf = true) :
    Calls Try.prog 8 #[.slice A n c, .int .i64 x, .agg #[bv e0, bv e1, bv e2, bv e3]] w fun e w' => e = .returned (.bool true) ∧ New w w' := by
  have HN := Lib.hid hn
  clear hn
  by_cases h0 : (n : Int) = 0
  · have h0' : n = 0 := by omega
    subst h0'
    go_enter Try.func8, Try.ntmps8
    go_wp2_with fail
    go_ret
    exact ⟨rfl, Below.alloc (Below.refl _ _) (Nat.le_refl _) _⟩
  by_cases h1 : (131072 : Int) < (n : Int)
  · have hq : ((n : Int) == 0) = false := by rw [beq_eq_false_iff_ne]; exact h0
    go_enter Try.func8, Try.ntmps8
    go_wp2_with fail
    go_ret
    exact ⟨rfl, Below.alloc (Below.refl _ _) (Nat.le_refl _) _⟩
  · have hq : ((n : Int) == 0) = false := by rw [beq_eq_false_iff_ne]; exact h0
    have hd1 : decide ((131072 : Int) < (n : Int)) = false := by simpa using h1
    have hd2 : decide ((262144 : Int) < (n : Int)) = false := by simp; omega
    have hp : Hid (p.length ≤ 131072) := by show _ ≤ _; have : n = p.length := HN.out; omega
    obtain ⟨r, hr, hrn⟩ := mod_form x (n - 1) (by omega)
    have hr' : wrap64 ((IntKind.u64.wrap x).tmod (n : Int)) = (r : Int) := by
      rw [← hr]
      congr 2
      omega
    have HR := Lib.hid hr'
    clear hr hr'
    go_enter Try.func8, Try.ntmps8
    go_wp2_with fail
    have hnw0 : New w (w.alloc (.cells #[bv e0, bv e1, bv e2, bv e3] 42)) := Below.alloc (Below.refl _ _) (Nat.le_refl _) _
    have harr : (w.alloc (.cells #[bv e0, bv e1, bv e2, bv e3] 42)).heap[w.heap.size]? = some (.cells #[bv e0, bv e1, bv e2, bv e3] 42) := heap_alloc_new w _
    refine (seal_yes A n c p _ HN.out (ha.alloc _) hnc hmax hp.out).mono ?_
    rintro e w1 ⟨⟨A1, c1, rfl, ho1⟩, hw1⟩
    have harr1 := (hw1.block w.heap.size (by simp)).trans harr
    have hnw1 := New.trans hnw0 hw1
    obtain ⟨g, rfl, hg0, hg1⟩ : ∃ g, A1 = some ⟨g, 0, none⟩ ∧ w.heap.size < g ∧ g < w1.heap.size := by
      rcases ho1.form with ⟨_, h, _⟩ | ⟨g, h, h2, h3⟩
      · omega
      · exact ⟨g, h, by simp at h2; omega, h3⟩
    have ho1' : OBs w1 (w.heap.size + 1) (some ⟨g, 0, none⟩) (8 + p.length) c1 (seal_ p) := by
      refine OB.base_le ho1 ?_
      simp
    obtain ⟨M, hM⟩ : ∃ M, M = 8 + p.length := ⟨_, rfl⟩
    rw [← hM] at ho1' ⊢
    have hMn : (M : Int) = (n : Int) + 8 := by have : n = p.length := HN.out; omega
    have HM := Lib.hid hM
    have HMn := Lib.hid hMn
    have hM1 : 8 + n ≤ M := by omega
    have hM2 : M ≤ 8 + n := by omega
    clear hM hMn harr hw1 hnw0 ho1 ha
    have hMM : ((M : Int) != (n : Int) + 8) = false := by simp; omega
    have hrn2 : r < n := by omega
    go_wp2_with fail
    rw [HR.out]
    go_loopw [10, 11] (fun ch i wr => ∃ (k : Nat) (q : Bool), i = .int .i64 k ∧ k ≤ 4 ∧ r + k ≤ n ∧ ch = .bool q ∧ Hid (q = ([e0, e1, e2, e3].take k).any (· != 0)) ∧ OBs wr (w.heap.size + 1) (some ⟨g, 0, none⟩) M c1 (spl (seal_ p) (8 + r) [e0, e1, e2, e3] k) ∧ wr.heap[w.heap.size]? = some (.cells #[bv e0, bv e1, bv e2, bv e3] 42) ∧ New w wr) (fun _ i _ => 4 - (intOf i).toNat)
    case atStart => exact ⟨0, false, rfl, by omega, by omega, rfl, rfl, by rw [spl_zero]; exact ho1', harr1, hnw1⟩
    case round =>
      obtain ⟨k, q, rfl, hk4, hrk, rfl, hq2, hob, harr, hnew⟩ := hrel
      by_cases hlt : (k : Int) < 4
      · by_cases hlr : (r : Int) + (k : Int) < (n : Int)
        · obtain ⟨b, hb⟩ : ∃ b, (spl (seal_ p) (8 + r) [e0, e1, e2, e3] k)[8 + r + k]? = some b := ⟨_, List.getElem?_eq_getElem (by rw [hob.len]; omega)⟩
          obtain ⟨e, he⟩ : ∃ e, [e0, e1, e2, e3][k]? = some e := ⟨_, List.getElem?_eq_getElem (by simp; omega)⟩
          have hcs : wr.cell? ⟨g, 8 + r + k, none⟩ = some (bv b) := by
            rw [Own.at_ hob rfl (by omega), List.getElem?_map, hb]
            rfl
          have hfs : wr.frozen? ⟨g, 8 + r + k, none⟩ = false := OB.frozen hob _
          have hce : wr.cell? ⟨w.heap.size, k, none⟩ = some (bv e) := by
            rw [cell_of_row _ _ k _ _ _ harr]
            match k, he with
            | 0, he => cases he; rfl
            | 1, he => cases he; rfl
            | 2, he => cases he; rfl
            | 3, he => cases he; rfl
          obtain ⟨z, hz0⟩ : ∃ z, z = b ^^^ e := ⟨_, rfl⟩
          have hx : bits .xor .u8 (b.toNat : Int) (e.toNat : Int) = (z.toNat : Int) := by
            rw [hz0, UInt8.toNat_xor]
            exact u8_xor_nat b.toNat e.toNat b.toNat_lt e.toNat_lt
          have hx2 : b.toNat ^^^ e.toNat = z.toNat := by rw [hz0, UInt8.toNat_xor]
          have HB := Lib.hid hb
          have HE := Lib.hid he
          have i1 : (8 : Int) + (r : Int) + (k : Int) < (M : Int) := by omega
          have i0 : (0 : Int) ≤ (8 : Int) + (r : Int) + (k : Int) := by omega
          have s1 : IntKind.i64.wrap ((8 : Int) + (r : Int)) = (8 : Int) + (r : Int) := IntWalk.i64_in _ ⟨by omega, by omega⟩
          have s2 : IntKind.i64.wrap ((8 : Int) + (r : Int) + (k : Int)) = (8 : Int) + (r : Int) + (k : Int) := IntWalk.i64_in _ ⟨by omega, by omega⟩
          have s3 : ((8 : Int) + (r : Int) + (k : Int)).toNat = 8 + r + k := by omega
          have HZ0 := Lib.hid hz0
          clear hb he hz0
          go_wp2_with fail
          go_still_tail 17, (by kernel_rfl)
          obtain ⟨w2, hw2⟩ : ∃ w2 : World, w2 = wr.drew := ⟨_, rfl⟩
          change wpList _ _ _ _ _ wr.drew
          rw [← hw2]
          have hcs2 : w2.cell? ⟨g, 8 + r + k, none⟩ = some (bv b) := by rw [hw2]; exact hcs
          have hfs2 : w2.frozen? ⟨g, 8 + r + k, none⟩ = false := by rw [hw2]; exact hfs
          have hob2 : OBs w2 (w.heap.size + 1) (some ⟨g, 0, none⟩) M c1 (spl (seal_ p) (8 + r) [e0, e1, e2, e3] k) := by rw [hw2]; exact hob
          have harr2 : w2.heap[w.heap.size]? = some (.cells #[bv e0, bv e1, bv e2, bv e3] 42) := by rw [hw2]; exact harr
          have hnew2 : New w w2 := by rw [hw2]; exact Below.drew hnew
          have hob3 := OB.set_ hob2 (8 + r + k) z
          rw [show z = b ^^^ e from HZ0.out, spl_succ HB.out HE.out, ← (show z = b ^^^ e from HZ0.out)] at hob3
          have harr3 : (w2.setCell ⟨g, 8 + r + k, none⟩ (bv z)).heap[w.heap.size]? = some (.cells #[bv e0, bv e1, bv e2, bv e3] 42) := by
            rw [Below.heap_setCell _ _ _ _ (by show w.heap.size ≠ g; omega)]
            exact harr2
          have hnew3 : New w (w2.setCell ⟨g, 8 + r + k, none⟩ (bv z)) := Below.setCell hnew2 (by show w.heap.size ≤ g; omega) _
          have hce3 : (w2.setCell ⟨g, 8 + r + k, none⟩ (bv z)).cell? ⟨w.heap.size, k, none⟩ = some (bv e) := by
            rw [World.cell?_of_block (Below.heap_setCell _ _ _ _ (by show w.heap.size ≠ g; omega)), hw2]
            exact hce
          clear hob2 harr2 hnew2 hob harr hnew hcs hfs hce s1 s2 s3 hw2
          have hnext : (([e0, e1, e2, e3].take (k + 1)).any (· != 0)) = (q || (e != 0)) := by
            rw [List.take_add_one, HE.out, List.any_append, ← hq2.out]
            simp
          have HNX := Lib.hid hnext
          clear hnext
          cases q with
          | true =>
            go_wp2_with fail
            go_roundw
            case rel => exact ⟨k + 1, true, by go_num, by omega, by omega, rfl, HNX.out.symm, hob3, harr3, hnew3⟩
            case measure => simp [intOf]; omega
          | false =>
            by_cases hez : e = 0
            · have hz : ((e.toNat : Int) != 0) = false := by rw [hez]; rfl
              have HZ : Hid ((([e0, e1, e2, e3].take (k + 1)).any (· != 0)) = false) := by show _ = _; rw [HNX.out, hez]; rfl
              clear hez
              go_wp2_with fail
              go_roundw
              case rel => exact ⟨k + 1, false, by go_num, by omega, by omega, rfl, HZ.out.symm, hob3, harr3, hnew3⟩
              case measure => simp [intOf]; omega
            · have hz : ((e.toNat : Int) != 0) = true := by
                rw [bne_iff_ne]
                intro h
                exact hez (UInt8.toNat_inj.1 (by simp; omega))
              have HZ : Hid ((([e0, e1, e2, e3].take (k + 1)).any (· != 0)) = true) := by show _ = _; rw [HNX.out]; simpa using hez
              clear hez
              go_wp2_with fail
              go_roundw
              case rel => exact ⟨k + 1, true, by go_num, by omega, by omega, rfl, HZ.out.symm, hob3, harr3, hnew3⟩
              case measure => simp [intOf]; omega
        · have hdd : decide ((r : Int) + (k : Int) < (n : Int)) = false := by simpa using hlr
          have hfs := first_any (some ⟨g, 0, none⟩) M c1 _ wr hob.len.symm hob.rb hob.le.1 hob.le.2
          have hpl : n = p.length := HN.out
          have hsp := first_spl p [e0, e1, e2, e3] r k hp.out (by simp; omega) hk4 (by omega)
          rw [← hq2.out] at hsp
          have HF := Lib.hid hfs
          have HSP := Lib.hid hsp
          clear hfs hsp hpl hob harr
          cases q with
          | true =>
            go_wp2_with fail
            refine HF.out.mono ?_
            intro e w5 h
            unfold Firsted at h
            rw [show first _ = none from HSP.out] at h
            obtain ⟨rfl, hw5⟩ := h
            go_wp2_with fail
            refine (wakes_any _).mono ?_
            rintro e w9 ⟨rfl, hw9⟩
            go_wp2_with fail
            go_ret
            exact ⟨rfl, New.trans hnew (New.trans hw5 hw9)⟩
          | false =>
            go_wp2_with fail
            refine HF.out.mono ?_
            intro e w5 h
            unfold Firsted at h
            rw [show first _ = some p from HSP.out] at h
            obtain ⟨A5, c5, rfl, _, hw5⟩ := h
            go_wp2_with fail
            refine (wakes_any _).mono ?_
            rintro e w9 ⟨rfl, hw9⟩
            go_wp2_with fail
            go_ret
            exact ⟨rfl, New.trans hnew (New.trans hw5 hw9)⟩
      · have hdd : decide ((k : Int) < 4) = false := by simpa using hlt
        have hfs := first_any (some ⟨g, 0, none⟩) M c1 _ wr hob.len.symm hob.rb hob.le.1 hob.le.2
        have hpl : n = p.length := HN.out
        have hsp := first_spl p [e0, e1, e2, e3] r k hp.out (by simp; omega) hk4 (by omega)
        rw [← hq2.out] at hsp
        have HF := Lib.hid hfs
        have HSP := Lib.hid hsp
        clear hfs hsp hpl hob harr
        cases q with
        | true =>
          go_wp2_with fail
          refine HF.out.mono ?_
          intro e w5 h
          unfold Firsted at h
          rw [show first _ = none from HSP.out] at h
          obtain ⟨rfl, hw5⟩ := h
          go_wp2_with fail
          refine (wakes_any _).mono ?_
          rintro e w9 ⟨rfl, hw9⟩
          go_wp2_with fail
          go_ret
          exact ⟨rfl, New.trans hnew (New.trans hw5 hw9)⟩
        | false =>
          go_wp2_with fail
          refine HF.out.mono ?_
          intro e w5 h
          unfold Firsted at h
          rw [show first _ = some p from HSP.out] at h
          obtain ⟨A5, c5, rfl, _, hw5⟩ := h
          go_wp2_with fail
          refine (wakes_any _).mono ?_
          rintro e w9 ⟨rfl, hw9⟩
          go_wp2_with fail
          go_ret
          exact ⟨rfl, New.trans hnew (New.trans hw5 hw9)⟩
end Go.Proofs.Ytjdcikhbgbefcaa
