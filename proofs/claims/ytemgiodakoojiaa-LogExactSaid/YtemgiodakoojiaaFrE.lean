/- frame.Seal, frame.First: what they do. -/
import Derived.Test.YtemgiodakoojiaaFrB
import Derived.Test.YtemgiodakoojiaaKeepB
import Derived.Deep.RegionHeld3
import Derived.Laws.CopyOwn
namespace Go.Proofs.Ytemgiodakoojiaa
open Go.RowKit
open Go.Proofs.Ytemgiodakoojiaa.Frm
/-- a payload's frame, or that it is too long -/
def Sealed (w : World) (p : List UInt8) (e : Ending) (w' : World) : Prop :=
  if p.length ≤ 131072 then ∃ A c, e = .returned (.tuple #[.slice A (8 + p.length) c, .int .i64 0]) ∧ OBs w' w.heap.size A (8 + p.length) c (seal_ p) ∧ New w w'
  else e = .returned (.tuple #[.slice none 0 0, .int .i64 5]) ∧ w = w'
theorem i_size : (Try.prog.info? 5).map (·.size) = some 1 := by kernel_rfl
theorem make_zero (n : Nat) : (madeCells (#[Value.int .u8 0]) n).toList = (List.replicate n (0 : UInt8)).map bv := by
  rw [toList_madeCells_one, List.map_replicate]
  rfl
theorem sealed_fin {w w' : World} {p : List UInt8} {m : Nat} (hm : m = p.length) (hp : m ≤ 131072)
    (hg : w'.heap[w.heap.size]? = some (.cells (splice (List.map bv ((be4 m ++ be4 (Crc.crc (be4 m ++ p))) ++ List.replicate m 0)) 8 (List.map bv p)).toArray 5)) (hw : New w w') (K : Nat) (hK : K = 8 + m) :
    Sealed w p (.returned (.tuple #[.slice (some ⟨w.heap.size, 0, none⟩) K K, .int .i64 0])) w' := by
  subst hm; subst hK
  unfold Sealed
  rw [if_pos hp]
  have e : splice (List.map bv ((be4 p.length ++ be4 (Crc.crc (be4 p.length ++ p))) ++ List.replicate p.length 0)) 8 (List.map bv p) = (seal_ p).map bv := by
    have h8 : (List.map bv (be4 p.length ++ be4 (Crc.crc (be4 p.length ++ p)))).length = 8 := by simp [be4_length]
    unfold splice
    rw [List.map_append, List.take_left' h8, List.drop_eq_nil_of_le (by simp [be4_length]; omega), List.append_nil, ← List.map_append, List.append_assoc]
    rfl
  rw [e] at hg
  exact ⟨_, _, rfl, FB.own hg (Nat.le_refl _) (seal_length p).symm (by unfold maxLen; omega), hw⟩
set_option maxHeartbeats 1000000 in
theorem seal_any (B : Option Addr) (m d : Nat) (p : List UInt8) (w : World) (hm : m = p.length) (hr : RB w B p) (hmd : m ≤ d) (hmax : d ≤ maxLen) :
    Calls Try.prog 59 #[.slice B m d] w (Sealed w p) := by
  obtain ⟨i, hi, hz0, hz1, hz2⟩ := info_parts i_byte
  have hM := hmax
  unfold maxLen at hM
  have HM := Lib.hid hm
  clear hm
  by_cases hlen : (131072 : Int) < (m : Int)
  · go_enter Try.func59, Try.ntmps59
    go_wp2
    go_ret2
    have h0 : m = p.length := HM.out
    unfold Sealed
    rw [if_neg (by omega)]
    exact ⟨rfl, rfl⟩
  · go_enter Try.func59, Try.ntmps59
    go_wp2_with (at_make; refine wpList_make_full _ rfl _ _ _ rfl w.heap.size _ i (.int .u8 0) 1 u_bytes hi hz0 hz1 _ _ _ _ (8 + m) rfl rfl (by omega) (by omega) (by rw [hz2]; omega) (by unfold maxLen; omega) (Nat.le_refl _) ?_)
    intro w1 hown hg
    have hob : OBs w1 w.heap.size (some ⟨w.heap.size, 0, none⟩) (8 + m) (8 + m) (List.replicate (8 + m) 0) := by
      show w1.ownsRow _ _ _ _ _ _
      rw [← make_zero]
      exact hown
    have hfb := FB.of_own hob
    have hw1 : New w w1 := (Below.refl _ _).grown hg (Nat.le_refl _) (by simp)
    clear hown hg hob
    go_wp2_with fail
    have h4 : 4 ≤ (List.replicate (8 + m) (0 : UInt8)).length := by simp; omega
    refine (put_blk w.heap.size 0 (8 + m) (8 + m) m _ w1 _ (by omega) (by omega) hfb h4).mono ?_
    rintro e w2 ⟨rfl, hfb2, hk2⟩
    have hw2 : New w w2 := Below.trans hw1 (hk2.below hw1.size (by rintro i rfl; exact Nat.le_refl _))
    have e2 : List.take 0 (List.replicate (8 + m) (0 : UInt8)) ++ (be4 m ++ List.drop (0 + 4) (List.replicate (8 + m) 0)) = be4 m ++ List.replicate (4 + m) 0 := by
      rw [List.take_zero, List.nil_append, List.drop_replicate]
      congr 2
      omega
    rw [e2] at hfb2
    have hb4 := (hfb2.rb).take 4
    have e3 : (be4 m ++ List.replicate (4 + m) (0 : UInt8)).take 4 = be4 m := List.take_left' (be4_length _)
    rw [e3] at hb4
    clear e2 e3 hfb hk2 h4
    have hrr := RR.two 30 (n := 4) (d := 8 + m) (m := m) (c := d) (be4_length m).symm HM.out hb4 (hr.new hw2) (by omega) (by unfold maxLen; omega) hmd hmax rfl
    obtain ⟨N, hN⟩ : ∃ N, N = 8 + m := ⟨_, rfl⟩
    rw [← hN] at hrr ⊢
    have hN8 : 8 ≤ N := by omega
    have hNm : N ≤ 131080 := by omega
    have HN := Lib.hid hN
    clear hN
    have b1 : (4 : Int) ≤ (N : Int) := by omega
    have b2 : (8 : Int) ≤ (N : Int) := by omega
    have h44 : 4 + 4 ≤ (be4 m ++ List.replicate (4 + m) (0 : UInt8)).length := by simp only [List.length_append, be4_length, List.length_replicate]; omega
    go_wp2_with fail
    go_region_held3 (fun _ => True) (trivial) ((first | (go_at_call 58; refine (sum_any _ 2 2 _ _ rfl (by unfold maxLen; omega) hrr.drew).mono ?_; rintro e w3 ⟨rfl, hw3⟩) | (go_at_call 63; refine (put_blk _ 4 _ _ _ _ _ 5 (by omega) (Crc.crc_lt _) (hfb2.new (New.trans (Below.drew (Below.alloc (Below.refl _ _) (Nat.le_refl _) _)) hw3)) h44).mono ?_; rintro e w4 ⟨rfl, hfb4, hk4⟩)))
    have hw4 : New w w4 := Below.trans (New.trans hw2 (New.trans (Below.drew (Below.alloc (Below.refl _ _) (Nat.le_refl _) _)) hw3)) (hk4.below (Nat.le_trans hw2.size (Nat.le_trans (by simp) hw3.size)) (by rintro i rfl; exact Nat.le_refl _))
    have e4 : List.take 4 (be4 m ++ List.replicate (4 + m) 0) ++ (be4 (Crc.crc (be4 m ++ p)) ++ List.drop (4 + 4) (be4 m ++ List.replicate (4 + m) (0 : UInt8))) = (be4 m ++ be4 (Crc.crc (be4 m ++ p))) ++ List.replicate m 0 := by
      rw [List.take_left' (be4_length _), ← List.drop_drop, List.drop_left' (be4_length _), List.drop_replicate, List.append_assoc]
      congr 3
      omega
    rw [e4] at hfb4
    have hrp := hr.new hw4
    have hp : m = p.length := HM.out
    have hNe : N = 8 + m := HN.out
    have hsplit : 0 < (p.map bv).length → (if N = 8 then some (⟨w.heap.size, 0, none⟩ : Addr) else some ⟨w.heap.size, 8, none⟩) = some ⟨w.heap.size, 8, none⟩ ∧ ∃ ad, B = some ad ∧ ∀ j v, (p.map bv)[j]? = some v → w4.cell? (ad.add j) = some v := by
      intro h
      rw [List.length_map] at h
      rw [if_neg (by omega)]
      obtain ⟨ad, hB, _⟩ := hrp.at_ h
      refine ⟨rfl, ad, hB, fun j v hj => ?_⟩
      rw [List.getElem?_map, Option.map_eq_some_iff] at hj
      obtain ⟨u, hu, rfl⟩ := hj
      obtain ⟨ad', hB', hc⟩ := hrp j u hu
      rw [hB] at hB'
      cases hB'
      exact hc
    have hfit : 8 + (p.map bv).length ≤ (((be4 m ++ be4 (Crc.crc (be4 m ++ p))) ++ List.replicate m 0).map bv).length := by
      simp only [List.length_map, List.length_append, be4_length, List.length_replicate]
      omega
    have hlenp : (p.map bv).length = Nat.min m (N - 8) := by
      rw [List.length_map, hNe, Nat.add_sub_cancel_left, ← hp]
      exact (Nat.min_self m).symm
    have HS := Lib.hid hsplit
    have HF := Lib.hid hfit
    have HL := Lib.hid hlenp
    clear e4 hsplit hfit hlenp hfb2 hb4 hrr h44 hw3 hk4 hrp hp hNe hw2 hw1
    go_wp2_with (refine wpList_copy_splice rfl (.tmp 26) (.tmp 27) 30 30 rfl 5 u_bytes i_size _ _ _ _ _ _ rfl rfl w.heap.size 8 _ 5 hfb4 (p.map bv) HL.out HS.out HF.out (bytes_one p) w.heap.size w hw4 (Nat.le_refl _) ?_; intro w5 hg5 hw5)
    all_goals
      go_ret2
      refine sealed_fin HM.out (by omega) hg5.out hw5 _ ?_
      have : N = 8 + m := HN.out
      omega
theorem Sealed.yes {w w' : World} {p : List UInt8} {e : Ending} (h : Sealed w p e w') (hp : p.length ≤ 131072) : ∃ A c, e = .returned (.tuple #[.slice A (8 + p.length) c, .int .i64 0]) ∧ OBs w' w.heap.size A (8 + p.length) c (seal_ p) ∧ New w w' := by
  unfold Sealed at h
  rwa [if_pos hp] at h
theorem Sealed.no {w w' : World} {p : List UInt8} {e : Ending} (h : Sealed w p e w') (hp : ¬ p.length ≤ 131072) : e = .returned (.tuple #[.slice none 0 0, .int .i64 5]) ∧ w = w' := by
  unfold Sealed at h
  rwa [if_neg hp] at h
theorem seal_yes (B : Option Addr) (m d : Nat) (p : List UInt8) (w : World) (hm : m = p.length) (hr : RB w B p) (hmd : m ≤ d) (hmax : d ≤ maxLen) (hp : p.length ≤ 131072) :
    Calls Try.prog 59 #[.slice B m d] w fun e w' => (∃ A c, e = .returned (.tuple #[.slice A (8 + p.length) c, .int .i64 0]) ∧ OBs w' w.heap.size A (8 + p.length) c (seal_ p)) ∧ New w w' :=
  (seal_any B m d p w hm hr hmd hmax).mono fun _ _ h => by obtain ⟨A, c, h1, h2, h3⟩ := h.yes hp; exact ⟨⟨A, c, h1, h2⟩, h3⟩
theorem seal_no (B : Option Addr) (m d : Nat) (p : List UInt8) (w : World) (hm : m = p.length) (hr : RB w B p) (hmd : m ≤ d) (hmax : d ≤ maxLen) (hp : ¬ p.length ≤ 131072) :
    Calls Try.prog 59 #[.slice B m d] w fun e w' => e = .returned (.tuple #[.slice none 0 0, .int .i64 5]) ∧ w = w' :=
  (seal_any B m d p w hm hr hmd hmax).mono fun _ _ h => h.no hp
end Go.Proofs.Ytemgiodakoojiaa
