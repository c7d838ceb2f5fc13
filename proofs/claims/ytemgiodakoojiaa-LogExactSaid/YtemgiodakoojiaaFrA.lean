/- frame.get, frame.put, frame.four, hanseref04.four, hanseref04.number: what they do. -/
import Derived.Test.YtemgiodakoojiaaKeepA
import Derived.Test.YtemgiodakoojiaaFrm
import Derived.Outline
import Derived.Deep.LoopGhost
import Derived.Deep.QuietTactic
import Derived.BigQuiet
import Derived.Laws.CopyOwn
namespace Go.Proofs.Ytemgiodakoojiaa
open Go.RowKit
open Go.Proofs.Ytemgiodakoojiaa.Frm
theorem num_of4 (l : List UInt8) (h : 4 ≤ l.length) : num l = (l[0]'(by omega)).toNat * 16777216 + (l[1]'(by omega)).toNat * 65536 + (l[2]'(by omega)).toNat * 256 + (l[3]'(by omega)).toNat := by
  unfold num at_
  simp [List.getD_eq_getElem?_getD, List.getElem?_eq_getElem (show 0 < l.length by omega), List.getElem?_eq_getElem (show 1 < l.length by omega), List.getElem?_eq_getElem (show 2 < l.length by omega), List.getElem?_eq_getElem (show 3 < l.length by omega)]
set_option maxHeartbeats 400000 in
theorem get_any (A : Option Addr) (n c : Nat) (l : List UInt8) (w : World) (h4 : 4 ≤ l.length) (hn : n = l.length) (hr : RB w A l) :
    Calls Try.prog 57 #[.slice A n c] w fun e w' => e = .returned (.int .u32 (num l : Int)) ∧ w = w' := by
  subst hn
  obtain ⟨ad, rfl, h0⟩ := hr.at_ (j := 0) (by omega)
  obtain ⟨_, e1, h1⟩ := hr.at_ (j := 1) (by omega)
  obtain ⟨_, e2, h2⟩ := hr.at_ (j := 2) (by omega)
  obtain ⟨_, e3, h3⟩ := hr.at_ (j := 3) (by omega)
  cases e1; cases e2; cases e3
  rw [add_zero_] at h0
  replace h1 : w.cell? ⟨ad.block, ad.off + 1, none⟩ = _ := h1
  replace h2 : w.cell? ⟨ad.block, ad.off + 2, none⟩ = _ := h2
  replace h3 : w.cell? ⟨ad.block, ad.off + 3, none⟩ = _ := h3
  clear hr
  go_enter Try.func57, Try.ntmps57
  go_wp2
  refine wp_loop_rounds 5 ?_
  rw [rounds_succ]
  go_wp2
  rw [rounds_succ]
  go_wp2
  rw [rounds_succ]
  go_wp2
  rw [rounds_succ]
  go_wp2
  rw [rounds_succ]
  go_wp2
  go_ret
  refine ⟨ret_int ((or_four _ _ _ _ (by omega) (by have := (l[0]'(by omega)).toNat_lt; omega) (by omega) (by have := (l[1]'(by omega)).toNat_lt; omega) (by omega) (by have := (l[2]'(by omega)).toNat_lt; omega) (by omega) (by have := (l[3]'(by omega)).toNat_lt; omega)).trans ?_), rfl⟩
  rw [num_of4 l h4]
  omega
set_option maxHeartbeats 400000 in
theorem put_any (g o n c v : Nat) (w : World) (h4 : 4 ≤ n) (hv : v < 4294967296) (hc : ∀ j, j < 4 → ∃ u, w.cell? ⟨g, o + j, none⟩ = some u) (hf : ∀ j, w.frozen? ⟨g, j, none⟩ = false) :
    Calls Try.prog 63 #[.slice (some ⟨g, o, none⟩) n c, .int .u32 v] w fun e w' => e = .returned (.tuple #[]) ∧
      w' = (((w.setCell ⟨g, o, none⟩ (bv (UInt8.ofNat (v / 16777216)))).setCell ⟨g, o + 1, none⟩ (bv (UInt8.ofNat (v / 65536)))).setCell ⟨g, o + 2, none⟩ (bv (UInt8.ofNat (v / 256)))).setCell ⟨g, o + 3, none⟩ (bv (UInt8.ofNat v)) := by
  obtain ⟨u0, h0⟩ := hc 0 (by omega)
  obtain ⟨u1, h1⟩ := hc 1 (by omega)
  obtain ⟨u2, h2⟩ := hc 2 (by omega)
  obtain ⟨u3, h3⟩ := hc 3 (by omega)
  rw [Nat.add_zero] at h0
  have f0 := hf o
  have f1 := hf (o + 1)
  have f2 := hf (o + 2)
  have f3 := hf (o + 3)
  clear hc hf
  go_enter Try.func63, Try.ntmps63
  go_wp2
  refine wp_loop_rounds 5 ?_
  rw [rounds_succ]
  go_wp2
  rw [rounds_succ]
  go_wp2
  rw [rounds_succ]
  go_wp2
  rw [rounds_succ]
  go_wp2
  rw [rounds_succ]
  go_wp2
  go_end0
  rw [bv_nat (v / 16777216) _ (by omega), bv_nat (v / 65536) _ (by omega), bv_nat (v / 256) _ (by omega), bv_nat v _ (by omega)]
  exact ⟨rfl, rfl⟩
theorem set4 (l : List UInt8) (o : Nat) (a b c d : UInt8) (h : o + 4 ≤ l.length) : (((l.set o a).set (o + 1) b).set (o + 2) c).set (o + 3) d = l.take o ++ ([a, b, c, d] ++ l.drop (o + 4)) := by
  apply List.ext_getElem?
  intro j
  by_cases h0 : j < o
  · rw [List.getElem?_append_left (by rw [List.length_take]; omega), List.getElem?_take_of_lt h0]
    simp only [List.getElem?_set_ne (show o ≠ j by omega), List.getElem?_set_ne (show o + 1 ≠ j by omega), List.getElem?_set_ne (show o + 2 ≠ j by omega), List.getElem?_set_ne (show o + 3 ≠ j by omega)]
  · rw [List.getElem?_append_right (by rw [List.length_take]; omega), List.length_take, Nat.min_eq_left (by omega)]
    by_cases h1 : j < o + 4
    · rw [List.getElem?_append_left (by simp only [List.length_cons, List.length_nil]; omega)]
      have hj : j = o ∨ j = o + 1 ∨ j = o + 2 ∨ j = o + 3 := by omega
      have l1 : j < l.length := by omega
      rcases hj with rfl | rfl | rfl | rfl <;> simp [l1]
    · rw [List.getElem?_append_right (by simp only [List.length_cons, List.length_nil]; omega), List.getElem?_drop]
      simp only [List.getElem?_set_ne (show o ≠ j by omega), List.getElem?_set_ne (show o + 1 ≠ j by omega), List.getElem?_set_ne (show o + 2 ≠ j by omega), List.getElem?_set_ne (show o + 3 ≠ j by omega)]
      congr 1
      simp only [List.length_cons, List.length_nil]
      omega
theorem put_blk (g o n c v : Nat) (l : List UInt8) (w : World) (e : TypeId) (h4 : 4 ≤ n) (hv : v < 4294967296) (hb : FB w g e l) (ho : o + 4 ≤ l.length) :
    Calls Try.prog 63 #[.slice (some ⟨g, o, none⟩) n c, .int .u32 v] w fun r w' => r = .returned (.tuple #[]) ∧ FB w' g e (l.take o ++ (be4 v ++ l.drop (o + 4))) ∧ Keep (fun i => i = g) w w' := by
  refine (put_any g o n c v w h4 hv (fun j hj => ?_) (hb.frozen)).mono ?_
  · rw [hb.cell, List.getElem?_eq_getElem (by omega)]
    exact ⟨_, rfl⟩
  · rintro r w' ⟨rfl, rfl⟩
    refine ⟨rfl, ?_, ((Keep.setAt w g o _).trans (Keep.setAt _ g (o + 1) _)).trans ((Keep.setAt _ g (o + 2) _).trans (Keep.setAt _ g (o + 3) _))⟩
    have := (((hb.set_ o (UInt8.ofNat (v / 16777216))).set_ (o + 1) (UInt8.ofNat (v / 65536))).set_ (o + 2) (UInt8.ofNat (v / 256))).set_ (o + 3) (UInt8.ofNat v)
    rw [set4 l o _ _ _ _ ho] at this
    exact this
set_option maxHeartbeats 400000 in
theorem rnum_any (A : Option Addr) (n c : Nat) (l : List UInt8) (w : World) (h4 : 4 ≤ l.length) (hn : n = l.length) (hr : RB w A l) :
    Calls Try.prog 64 #[.slice A n c] w fun e w' => e = .returned (.int .i64 (num l : Int)) ∧ ∃ k, w' = w.drewN k := by
  subst hn
  obtain ⟨ad, rfl, h0⟩ := hr.at_ (j := 0) (by omega)
  obtain ⟨_, e1, h1⟩ := hr.at_ (j := 1) (by omega)
  obtain ⟨_, e2, h2⟩ := hr.at_ (j := 2) (by omega)
  obtain ⟨_, e3, h3⟩ := hr.at_ (j := 3) (by omega)
  cases e1; cases e2; cases e3
  rw [add_zero_] at h0
  replace h1 : w.cell? ⟨ad.block, ad.off + 1, none⟩ = _ := h1
  replace h2 : w.cell? ⟨ad.block, ad.off + 2, none⟩ = _ := h2
  replace h3 : w.cell? ⟨ad.block, ad.off + 3, none⟩ = _ := h3
  clear hr
  have b0 := (l[0]'(by omega)).toNat_lt
  have b1 := (l[1]'(by omega)).toNat_lt
  have b2 := (l[2]'(by omega)).toNat_lt
  have b3 := (l[3]'(by omega)).toNat_lt
  have i0 : (0 : Int) < (l.length : Int) := by omega
  have i1 : (1 : Int) < (l.length : Int) := by omega
  have i2 : (2 : Int) < (l.length : Int) := by omega
  have i3 : (3 : Int) < (l.length : Int) := by omega
  go_enter Try.func64, Try.ntmps64
  go_wp2
  go_quiet (fail)
  go_wp2
  go_ret
  exact ⟨ret_int (by rw [num_of4 l h4]; omega), nq, rfl⟩
set_option maxHeartbeats 400000 in
theorem rfour_any (v : Nat) (w : World) (hv : v < 4294967296) :
    Calls Try.prog 47 #[.int .u32 v] w (Copied w 4 (be4 v)) := by
  go_enter Try.func47, Try.ntmps47
  go_wp2
  go_ret
  rw [bv_nat (v / 16777216) _ (by omega), bv_nat (v / 65536) _ (by omega), bv_nat (v / 256) _ (by omega), bv_nat v _ (by omega)]
  exact ⟨some ⟨w.heap.size, 0, none⟩, 4, rfl, World.ownsRow_lit w _ 4 (Nat.le_refl _) (by unfold maxLen; omega) rfl, (Below.refl _ _).alloc (Nat.le_refl _) _⟩
def stepN : Nat → Nat → Nat
  | 0, r => r
  | k + 1, r => Crc.step (stepN k r)
theorem stepN_lt (k : Nat) {r : Nat} (h : r < 4294967296) : stepN k r < 4294967296 := by
  induction k with
  | zero => exact h
  | succ k ih => exact Crc.step_lt ih
theorem i_table : (Try.prog.info? 78).map (·.size) = some 16 := by kernel_rfl
theorem u_table : Try.prog.underlying 78 = some (.array 16 71) := by kernel_rfl
theorem heap_at_ (w : World) (o : Obj) {k : Nat} (h : k = w.heap.size) : (w.alloc o).heap[k]? = some o := by subst h; exact heap_alloc_new w o
theorem stepN_even {m k : Nat} (h : stepN m k % 2 = 0) : ((stepN m k : Nat) : Int) / 2 = (stepN (m + 1) k : Nat) := by
  have : stepN (m + 1) k = Crc.step (stepN m k) := rfl
  rw [this]; unfold Crc.step; rw [if_neg (by omega)]; omega
theorem stepN_odd {m k : Nat} (h : stepN m k % 2 = 1) (hb : stepN m k < 4294967296) : bits .xor .u32 (((stepN m k : Nat) : Int) / 2) 2197175160 = (stepN (m + 1) k : Nat) := by
  have : stepN (m + 1) k = Crc.step (stepN m k) := rfl
  rw [this]; unfold Crc.step; rw [if_pos h]
  exact xor_u32 (stepN m k / 2) 2197175160 (by omega) (by omega)
theorem table_of {cs : Array Value} (hs : cs.size = 16) (hj : ∀ j, j < 16 → cs[j]? = some (.int .u32 (Crc.step4 j))) : cs = ((List.range 16).map fun i => Value.int .u32 (Crc.step4 i)).toArray := by
  apply Array.ext_getElem?
  intro j
  by_cases h : j < 16
  · rw [hj j h]; simp [h]
  · simp [h]; omega
set_option maxHeartbeats 400000 in
theorem four_any (w : World) :
    Calls Try.prog 62 #[] w fun e w' => e = .returned (.agg ((List.range 16).map fun i => Value.int .u32 (Crc.step4 i)).toArray) ∧ New w w' := by
  go_enter Try.func62, Try.ntmps62
  go_wp2
  go_loopw [2, 3, 4, 5] (fun _ _ _ i wr => ∃ (k : Nat) (cs ds : Array Value), i = .int .i64 k ∧ k ≤ 16 ∧ wr.heap[w.heap.size + 1]? = some (.cells cs 78 (0, 0)) ∧ wr.heap[w.heap.size]? = some (.cells ds 78 (0, 0)) ∧ ds.size = 16 ∧ cs.size = 16 ∧ (∀ j, j < k → cs[j]? = some (.int .u32 (Crc.step4 j))) ∧ New w wr) (fun _ _ _ i _ => 16 - (intOf i).toNat)
  case atStart =>
    refine ⟨0, _, _, rfl, by omega, heap_at_ (w.alloc _) _ (by simp), (Below.heap_alloc _ _ _ (by simp)).trans (heap_alloc_new w _), by rfl, by rfl, fun j h => absurd h (by omega), Below.alloc ((Below.refl _ _).alloc (Nat.le_refl _) _) (by simp) _⟩
  case round =>
    obtain ⟨k, cs, ds, rfl, hk, hblk, hres, hds, hcs, hj, hnew⟩ := hrel
    by_cases hlt : k < 16
    · go_wp2
      obtain ⟨wo, rfl⟩ : ∃ wo : World, wo = wr := ⟨_, rfl⟩
      go_loop [3, 4, 10] (fun r _ i => ∃ m : Nat, i = .int .i64 m ∧ m ≤ 4 ∧ r = .int .u32 (stepN m k)) (fun _ _ i => 4 - (intOf i).toNat)
      case atStart => exact ⟨0, rfl, by omega, rfl⟩
      case round =>
        obtain ⟨m, rfl, hm, rfl⟩ := hrel
        have hb := stepN_lt m (r := k) (by omega)
        by_cases hlm : m < 4
        · have ha := and1_u32 (stepN m k) hb
          rcases Nat.mod_two_eq_zero_or_one (stepN m k) with hodd | hodd
          · have hq : (bits .and .u32 ((stepN m k : Nat) : Int) 1 == 1) = false := by rw [ha, hodd]; rfl
            clear ha
            go_wp2
            go_round
            case rel => exact ⟨m + 1, by go_num, by omega, val_int (stepN_even hodd)⟩
            case measure => simp [intOf]; omega
          · have hq : (bits .and .u32 ((stepN m k : Nat) : Int) 1 == 1) = true := by rw [ha, hodd]; rfl
            clear ha
            go_wp2
            go_round
            case rel => exact ⟨m + 1, by go_num, by omega, val_int (stepN_odd hodd hb)⟩
            case measure => simp [intOf]; omega
        · have h4 : m = 4 := by omega
          subst h4
          have hcell : wo.cell? ⟨w.heap.size + 1, k, none⟩ = some (cs[k]'(by omega)) := by rw [cell_of_row wo _ k cs _ (0, 0) hblk, Array.getElem?_eq_getElem (by omega)]
          have hfro : wo.frozen? ⟨w.heap.size + 1, k, none⟩ = false := frozen_of_row wo _ k cs _ hblk
          have hst : stepN 4 k = Crc.step4 k := rfl
          have HS := Lib.hid hst
          clear hst
          go_wp2
          go_roundw
          case rel =>
            refine ⟨k + 1, cs.setIfInBounds k (.int .u32 (stepN 4 k)), ds, by go_num, by omega, heap_setCell_same _ _ _ _ _ _ hblk, (Below.heap_setCell _ _ _ _ (by simp)).trans hres, hds, by simp [hcs], fun j hjk => ?_, Below.setCell hnew (by simp) _⟩
            rw [HS.out]
            by_cases hjk' : j = k
            · subst hjk'; simp [hcs, hlt]
            · rw [Array.getElem?_setIfInBounds_ne (by omega)]; exact hj j (by omega)
          case measure => simp [intOf]; omega
    · have hkk : k = 16 := by omega
      subst hkk
      have ht := table_of hcs hj
      have hone : cs.all (·.oneCell') = true := by rw [ht]; decide +kernel
      have HT := Lib.hid ht
      clear ht hj
      go_wp2_with (first | (refine wpList_load_row rfl _ _ rfl _ rfl _ cs _ _ hblk u_table rfl (by rw [hcs]; exact i_table) ?_) | (refine wpList_store_row rfl _ _ _ rfl _ cs rfl rfl _ ds hres (by rw [hcs]; exact i_table) (by omega) hone ?_))
      exact bodyPost_ret (results_cell_row (P := Try.prog) rfl _ _ w.heap.size _ cs (0, 0) _ rfl (setRow_heap _ _ _ _ _ _ hres) u_table rfl (by rw [hcs]; exact i_table)) rfl ⟨by rw [HT.out], below_setRow hnew (Nat.le_refl _) _⟩
end Go.Proofs.Ytemgiodakoojiaa
