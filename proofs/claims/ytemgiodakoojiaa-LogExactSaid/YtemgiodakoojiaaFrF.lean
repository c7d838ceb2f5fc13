/- frame.First: what it does. -/
import Derived.Test.YtemgiodakoojiaaFrB
import Derived.Test.YtemgiodakoojiaaKeepB
import Derived.Deep.RegionHeld3
namespace Go.Proofs.Ytemgiodakoojiaa
open Go.RowKit
open Go.Proofs.Ytemgiodakoojiaa.Frm
/-- the first frame's payload, or that there is none -/
def Firsted (w : World) (b : List UInt8) (e : Ending) (w' : World) : Prop :=
  match first b with
  | some p => ∃ A c, e = .returned (.tuple #[.slice A p.length c, .int .i64 (8 + p.length : Nat), .int .i64 0]) ∧ OBs w' w.heap.size A p.length c p ∧ New w w'
  | none => e = .returned (.tuple #[.slice none 0 0, .int .i64 0, .int .i64 4]) ∧ New w w'
theorem firsted_none {w w' : World} {b : List UInt8} (h : first b = none) (hw : New w w') : Firsted w b (.returned (.tuple #[.slice none 0 0, .int .i64 0, .int .i64 4])) w' := by
  unfold Firsted
  rw [h]
  exact ⟨rfl, hw⟩
theorem firsted_some {w w' : World} {b p : List UInt8} {A : Option Addr} {c m : Nat} {k : Int} (h : first b = some p) (hm : m = p.length) (hk : k = 8 + (m : Int)) (ho : OBs w' w.heap.size A m c p) (hw : New w w') :
    Firsted w b (.returned (.tuple #[.slice A m c, .int .i64 k, .int .i64 0])) w' := by
  subst hm
  unfold Firsted
  rw [h]
  exact ⟨A, c, by rw [hk]; rfl, ho, hw⟩
/-- the hypotheses of the walk behind the size: the two cuts, and what they read -/
theorem cut8 {w : World} {ad : Addr} {b : List UInt8} {c : Nat} (hr : RB w (some ad) b) (hc : b.length ≤ c) : RB w (if c = 8 then some ad else some ⟨ad.block, ad.off + 8, none⟩) (b.drop 8) := hr.cut 8 c hc
theorem cut4 {w : World} {ad : Addr} {b : List UInt8} {c : Nat} (hr : RB w (some ad) b) (hc : b.length ≤ c) (h : 4 < c) : RB w (some ⟨ad.block, ad.off + 4, none⟩) (b.drop 4) := by
  have := hr.cut 4 c hc
  rw [if_neg (by omega)] at this
  exact this
set_option maxHeartbeats 1000000 in
theorem first_none1 (A : Option Addr) (n c : Nat) (b : List UInt8) (w : World) (hn : n = b.length) (hr : RB w A b) (hnc : n ≤ c) (hM : c ≤ 9223372036854775807) (hs : (n : Int) < 8 ∨ (131072 : Int) < (num b : Int) ∨ (n : Int) - 8 < (num b : Int)) :
    Calls Try.prog 41 #[.slice A n c] w (Firsted w b) := by
  have HN := Lib.hid hn
  by_cases h8 : (n : Int) < 8
  · have HO := Lib.hid (first_lt (b := b) (by omega))
    clear hn hs
    go_enter Try.func41, Try.ntmps41
    go_wp2
    go_ret3
    exact firsted_none HO.out (New.refl _)
  · have h4 : 4 ≤ b.length := by omega
    obtain ⟨k, hk'⟩ : ∃ k, k = num b := ⟨_, rfl⟩
    have hk : k < 4294967296 := by rw [hk']; exact num_lt b
    have hget := fun W (h : RB W A b) => get_any A n c b W h4 HN.out h
    rw [← hk'] at hget hs
    have hbig : 131072 < k ∨ b.length - 8 < k → first b = none := fun h => first_big (by omega) (by rw [← hk']; exact h)
    have HO := Lib.hid (hbig (by omega))
    clear hk' hn hbig
    by_cases hb1 : (131072 : Int) < (k : Int)
    · clear hs
      go_enter Try.func41, Try.ntmps41
      go_wp2_with (go_at_call 57; refine (hget _ hr).mono ?_; rintro e w' ⟨rfl, rfl⟩)
      go_ret3
      exact firsted_none HO.out (New.refl _)
    · have hb2 : (n : Int) - 8 < (k : Int) := by omega
      clear hs
      go_enter Try.func41, Try.ntmps41
      go_wp2_with (go_at_call 57; refine (hget _ hr).mono ?_; rintro e w' ⟨rfl, rfl⟩)
      go_ret3
      exact firsted_none HO.out (New.refl _)
set_option maxHeartbeats 1000000 in
theorem first_core (ad : Addr) (n c k S T : Nat) (b : List UInt8) (w : World) (hr : RB w (some ad) b) (hn : n ≤ b.length) (hn' : b.length ≤ n) (hnc : n ≤ c) (hM : c ≤ 9223372036854775807) (h8 : (8 : Int) ≤ (n : Int)) (hb1 : ¬ (131072 : Int) < (k : Int)) (hb2 : ¬ (n : Int) - 8 < (k : Int))
    (hget : ∀ W, RB W (some ad) b → Calls Try.prog 57 #[.slice (some ad) n c] W fun e w' => e = .returned (.int .u32 (k : Int)) ∧ W = w')
    (hsum : ∀ Y W, RR W Y [b.take 4, (b.drop 8).take k] → Calls Try.prog 58 #[.slice Y 2 2] W fun e w' => e = .returned (.int .u32 (S : Int)) ∧ New W w')
    (hgt : ∀ Y W, RB W Y (b.drop 4) → Calls Try.prog 57 #[.slice Y (n - 4) (c - 4)] W fun e w' => e = .returned (.int .u32 (T : Int)) ∧ W = w')
    (hno : Hid (S ≠ T → first b = none)) (hyes : Hid (S = T → first b = some ((b.drop 8).take k))) :
    Calls Try.prog 41 #[.slice (some ad) n c] w (Firsted w b) := by
  have f1 : (8 : Int) ≤ 8 + (k : Int) := by omega
  have f2 : 8 + (k : Int) ≤ (c : Int) := by omega
  have f3 : (4 : Int) ≤ (c : Int) := by omega
  have f4 : (4 : Int) ≤ (n : Int) := by omega
  have hr8 := cut8 hr (c := c) (by omega)
  have hr4 := cut4 hr (c := c) (by omega) (by omega)
  have hc4 : ¬ c = 4 := by omega
  obtain ⟨X, hX⟩ : ∃ X : Option Addr, (if c = 8 then some ad else some ⟨ad.block, ad.off + 8, none⟩) = X := ⟨_, rfl⟩
  rw [hX] at hr8
  have hl4 : 4 = (b.take 4).length := by rw [List.length_take]; omega
  have hlk : (8 + (k : Int)).toNat - 8 = ((b.drop 8).take k).length := by rw [List.length_take, List.length_drop]; omega
  have hrr := RR.two 30 hl4 hlk (hr.take 4) (hr8.take k) (d := c) (c := c - 8) (by omega) (by unfold maxLen; omega) (by omega) (by unfold maxLen; omega) rfl
  have hkk : k = ((b.drop 8).take k).length := by rw [← hlk]; omega
  have HLK := Lib.hid hkk
  clear hlk hkk hl4 hn hn'
  by_cases hST : S = T
  · have HO := Lib.hid (hyes.out hST)
    have hne : ((S : Int) != (T : Int)) = false := by rw [hST]; simp
    clear hST hno hyes
    go_enter Try.func41, Try.ntmps41
    go_wp2_with (go_at_call 57; refine (hget _ hr).mono ?_; rintro e w' ⟨rfl, rfl⟩)
    go_region_held3 (fun _ => True) (trivial) ((first
      | (go_at_call 58; refine (hsum _ _ hrr.drew).mono ?_; rintro e w1 ⟨rfl, hw1⟩)
      | (go_at_call 57; refine (hgt _ _ (hr4.new (New.trans (Below.drew (Below.alloc (Below.refl _ _) (Nat.le_refl _) _)) hw1))).mono ?_; rintro e w2 ⟨rfl, rfl⟩)))
    have hw2 : New w w1 := New.trans (Below.drew (Below.alloc (Below.refl _ _) (Nat.le_refl _) _)) hw1
    go_wp2_with fail
    refine (clone_any _ _ _ _ _ HLK.out ((hr8.take k).new hw2) (by omega)).mono ?_
    rintro e w3 ⟨A3, c3, rfl, hob, hw3⟩
    go_wp2_with fail
    go_ret3
    exact firsted_some HO.out HLK.out (by omega) (OB.base_le hob hw2.size) (New.trans hw2 hw3)
  · have HO := Lib.hid (hno.out hST)
    have hne : ((S : Int) != (T : Int)) = true := by simp; omega
    clear hST hno hyes
    go_enter Try.func41, Try.ntmps41
    go_wp2_with (go_at_call 57; refine (hget _ hr).mono ?_; rintro e w' ⟨rfl, rfl⟩)
    go_region_held3 (fun _ => True) (trivial) ((first
      | (go_at_call 58; refine (hsum _ _ hrr.drew).mono ?_; rintro e w1 ⟨rfl, hw1⟩)
      | (go_at_call 57; refine (hgt _ _ (hr4.new (New.trans (Below.drew (Below.alloc (Below.refl _ _) (Nat.le_refl _) _)) hw1))).mono ?_; rintro e w2 ⟨rfl, rfl⟩)))
    have hw2 : New w w1 := New.trans (Below.drew (Below.alloc (Below.refl _ _) (Nat.le_refl _) _)) hw1
    go_wp2_with fail
    go_ret3
    exact firsted_none HO.out hw2
theorem first_any (A : Option Addr) (n c : Nat) (b : List UInt8) (w : World) (hn : n = b.length) (hr : RB w A b) (hnc : n ≤ c) (hmax : c ≤ maxLen) :
    Calls Try.prog 41 #[.slice A n c] w (Firsted w b) := by
  have hM := hmax
  unfold maxLen at hM
  by_cases hs : (n : Int) < 8 ∨ (131072 : Int) < (num b : Int) ∨ (n : Int) - 8 < (num b : Int)
  · exact first_none1 A n c b w hn hr hnc (by omega) hs
  · have h8 : ¬ (n : Int) < 8 := fun h => hs (.inl h)
    have hb1 : ¬ (131072 : Int) < (num b : Int) := fun h => hs (.inr (.inl h))
    have hb2 : ¬ (n : Int) - 8 < (num b : Int) := fun h => hs (.inr (.inr h))
    obtain ⟨ad, rfl⟩ : ∃ ad, A = some ad := by obtain ⟨ad, h, _⟩ := hr.at_ (j := 0) (by omega); exact ⟨ad, h⟩
    have hfl : [b.take 4, (b.drop 8).take (num b)].flatten = b.take 4 ++ (b.drop 8).take (num b) := by simp
    have hc := first_crc (b := b) (by omega) (by omega) (by omega)
    refine first_core ad n c (num b) (Crc.crc (b.take 4 ++ (b.drop 8).take (num b))) (num (b.drop 4)) b w hr (by omega) (by omega) hnc (by omega) (by omega) hb1 hb2 (fun W h => get_any (some ad) n c b W (by omega) hn h) (fun Y W h => ?_) (fun Y W h => get_any Y (n - 4) (c - 4) (b.drop 4) W (by rw [List.length_drop]; omega) (by rw [List.length_drop]; omega) h) (fun h => ?_) (fun h => ?_)
    · have := sum_any Y 2 2 _ W rfl (by unfold maxLen; omega) h
      rwa [hfl] at this
    · rw [hc, if_neg h]
    · rw [hc, if_pos h]
end Go.Proofs.Ytemgiodakoojiaa
