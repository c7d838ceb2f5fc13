/- frame.Sum, hanseref04.Sum: both are the CRC of the bytes. -/
import Derived.Test.YtemgiodakoojiaaFrA
namespace Go.Proofs.Ytemgiodakoojiaa
open Go.RowKit
open Go.Proofs.Ytemgiodakoojiaa.Frm

/-- a nibble's step by the table -/
theorem nib {w : World} {g : Nat} (ht : ∀ j, j < 16 → w.cell? ⟨g, j, none⟩ = some (.int .u32 (Crc.step4 j : Nat))) (T : Nat) (hT : T < 4294967296) :
    ∃ q z U : Nat, q < 16 ∧ bits .and .u32 (T : Int) 15 = (q : Int) ∧ w.cell? ⟨g, q, none⟩ = some (.int .u32 (z : Int)) ∧ bits .xor .u32 (z : Int) ((T : Int) / 16) = (U : Int) ∧ U < 4294967296 ∧ Hid (U = Crc.step4 T) := by
  refine ⟨T % 16, Crc.step4 (T % 16), Crc.step4 T, by omega, and15_u32 T hT, ht _ (by omega), ?_, Crc.step4_lt hT, rfl⟩
  rw [Crc.step4_table T]
  exact xor_u32 _ (T / 16) (Crc.step4_lt (by omega)) (by omega)
theorem take_snoc_ {l : List UInt8} {m : Nat} {b : UInt8} (h : l[m]? = some b) : l.take (m + 1) = l.take m ++ [b] := by
  rw [List.take_add_one, h]; rfl
set_option maxHeartbeats 1000000 in
theorem sum_any (A : Option Addr) (n c : Nat) (ls : List (List UInt8)) (w : World) (hn : n = ls.length) (hmax : n ≤ maxLen) (hr : RR w A ls) :
    Calls Try.prog 58 #[.slice A n c] w fun e w' => e = .returned (.int .u32 (Crc.crc ls.flatten : Nat)) ∧ New w w' := by
  unfold maxLen at hmax
  have HN := Lib.hid hn
  clear hn
  go_enter Try.func58, Try.ntmps58
  go_wp2_with (go_at_call 62; refine (four_any _).mono ?_; rintro e w1 ⟨rfl, hw1⟩)
  obtain ⟨w2, hw2⟩ : ∃ w2 : World, w2 = w1.alloc (.cells (((List.range 16).map fun i => Value.int .u32 (Crc.step4 i)).toArray) 78) := ⟨_, rfl⟩
  have htab : ∀ j, j < 16 → w2.cell? ⟨w1.heap.size, j, none⟩ = some (.int .u32 (Crc.step4 j : Nat)) := fun j hj => by
    rw [hw2, cell_of_row _ _ j _ _ _ (heap_alloc_new w1 _)]
    simp [hj]
  have hnew : New w w2 := by rw [hw2]; exact Below.alloc hw1 hw1.size _
  have hr2 := hr.new hnew
  simp only [List.range_succ, List.range_zero, List.nil_append, List.cons_append, List.map_cons, List.map_nil] at hw2
  rw [← hw2]
  generalize (Value.agg _) = v9
  clear hw2 hw1 hr
  have HT := Lib.hid htab
  clear htab
  go_loop [4, 12] (fun r i => ∃ k : Nat, i = .int .i64 k ∧ k ≤ n ∧ r = .int .u32 (Crc.reg 4294967295 (ls.take k).flatten : Nat)) (fun _ i => n - (intOf i).toNat)
  case atStart => exact ⟨0, rfl, Nat.zero_le _, rfl⟩
  case round =>
    obtain ⟨k, rfl, hk, rfl⟩ := hrel
    by_cases hlt : k < n
    · obtain ⟨l, hl⟩ : ∃ l, ls[k]? = some l := ⟨_, List.getElem?_eq_getElem (by rw [← HN.out]; exact hlt)⟩
      obtain ⟨ad, B, d, rfl, hcell, hd, hdm, hb⟩ := hr2 k l hl
      have hR := Crc.reg_lt (show (4294967295 : Nat) < 4294967296 by omega) (ls.take k).flatten
      obtain ⟨R, hRe⟩ : ∃ R, R = Crc.reg 4294967295 (ls.take k).flatten := ⟨_, rfl⟩
      rw [← hRe] at hR ⊢
      have HL := Lib.hid hl
      have HR := Lib.hid hRe
      clear hl hRe
      unfold maxLen at hdm
      go_wp2
      go_loop [4, 18] (fun r i => ∃ m : Nat, i = .int .i64 m ∧ m ≤ l.length ∧ r = .int .u32 (Crc.reg R (l.take m) : Nat)) (fun _ i => l.length - (intOf i).toNat)
      case atStart => exact ⟨0, rfl, Nat.zero_le _, rfl⟩
      case round =>
        obtain ⟨m, rfl, hm, rfl⟩ := hrel
        by_cases hlm : m < l.length
        · obtain ⟨b, hbm⟩ : ∃ b, l[m]? = some b := ⟨_, List.getElem?_eq_getElem hlm⟩
          obtain ⟨ad', rfl, hcb⟩ := hb m b hbm
          have hS := Crc.reg_lt hR (l.take m)
          obtain ⟨S, hSe⟩ : ∃ S, S = Crc.reg R (l.take m) := ⟨_, rfl⟩
          rw [← hSe] at hS ⊢
          have HB := Lib.hid hbm
          have HS := Lib.hid hSe
          clear hbm hSe
          obtain ⟨T, hTe⟩ : ∃ T, T = S ^^^ b.toNat := ⟨_, rfl⟩
          have hb8 := b.toNat_lt
          have hT : T < 4294967296 := by rw [hTe]; exact Crc.xor_lt32 hS (by omega)
          have x1 : bits .xor .u32 (S : Int) (b.toNat : Int) = (T : Int) := by rw [hTe]; exact xor_u32 S b.toNat hS (by omega)
          have HTe := Lib.hid hTe
          clear hTe
          obtain ⟨q1, z1, U, hq1, a1, c1, x2, hU, HU⟩ := nib HT.out T hT
          obtain ⟨q2, z2, V, hq2, a2, c2, x3, hV, HV⟩ := nib HT.out U hU
          have HX : Hid (V = Crc.reg R (l.take (m + 1))) := by
            show V = _
            rw [take_snoc_ HB.out, Crc.reg_snoc, ← HS.out, HV.out, HU.out, HTe.out]
            rfl
          clear HT HTe HU HV HS HB
          go_wp2
          go_round
          case rel => exact ⟨m + 1, by go_num, by omega, val_int (by rw [HX.out])⟩
          case measure => simp [intOf]; omega
        · have hme : m = l.length := by omega
          have HX : Hid (Crc.reg R (l.take m) = Crc.reg 4294967295 (ls.take (k + 1)).flatten) := by
            show _ = _
            rw [hme, List.take_length, List.take_add_one, HL.out, List.flatten_append, Crc.reg_append, ← HR.out]
            simp
          clear hme
          go_wp2
          go_round
          case rel => exact ⟨k + 1, by go_num, by omega, val_int (by rw [HX.out])⟩
          case measure => simp [intOf]; omega
    · have hke : k = n := by omega
      have HX : Hid ((ls.take k).flatten = ls.flatten) := by
        show _ = _
        rw [hke, HN.out, List.take_length]
      have hR := Crc.reg_lt (show (4294967295 : Nat) < 4294967296 by omega) (ls.take k).flatten
      clear hke
      go_wp2
      go_ret
      exact ⟨ret_int (by rw [not_u32 _ hR, HX.out]; rfl), hnew⟩
end Go.Proofs.Ytemgiodakoojiaa
