/- hanselaw04.FrameFirsts: the walk. -/
import Derived.Test.YtjdcikhbgbefcaaFrD
import Derived.Test.YtjdcikhbgbefcaaFrG
namespace Go.Proofs.Ytjdcikhbgbefcaa
open Go.RowKit
open Go.Proofs.Ytjdcikhbgbefcaa.Frm
/-- the rows behind the first one -/
theorem RR.tail {w : World} {ad : Addr} {l : List UInt8} {ls : List (List UInt8)} (h : RR w (some ad) (l :: ls)) : RR w (some (ad.add 1)) ls := fun j u hu => by
  obtain ⟨ad', B, d, e, hc, h1, h2, h3⟩ := h (j + 1) u (by simpa using hu)
  cases e
  exact ⟨_, B, d, rfl, by rw [add_add_, Nat.add_comm]; exact hc, h1, h2, h3⟩
set_option maxHeartbeats 1000000 in
theorem firsts_law (A : Option Addr) (n c : Nat) (b : List UInt8) (w : World) (hn : n = b.length) (hnc : n ≤ c) (hmax : c ≤ maxLen) (hr : RB w A b) :
    Calls Try.prog 6 #[.slice A n c] w fun e w' => e = .returned (.bool true) ∧ New w w' := by
  have HN := Lib.hid hn
  by_cases hbig : (262144 : Int) < (n : Int)
  · clear hn
    go_enter Try.func6, Try.ntmps6
    go_wp2_with fail
    go_ret
    exact ⟨rfl, New.refl _⟩
  · have hM := hmax
    unfold maxLen at hM
    cases hf : first b with
    | none =>
      have HF := Lib.hid hf
      have hsc := scan_any A n c b w hn hr hnc hmax (by omega)
      unfold Scanned at hsc
      rw [scan_none hf] at hsc
      have HS := Lib.hid hsc
      clear hn hf hsc
      go_enter Try.func6, Try.ntmps6
      go_wp2_with fail
      refine HS.out.mono ?_
      rintro e w1 ⟨A1, c1, rfl, ho1, hw1⟩
      go_wp2_with fail
      refine (first_any A n c b w1 HN.out (hr.new hw1) hnc hmax).mono ?_
      intro e w2 h
      unfold Firsted at h
      rw [HF.out] at h
      obtain ⟨rfl, hw2⟩ := h
      go_wp2_with fail
      refine (wakes_any _).mono ?_
      rintro e w9 ⟨rfl, hw9⟩
      go_wp2_with fail
      go_ret
      exact ⟨rfl, New.trans hw1 (New.trans hw2 hw9)⟩
    | some p =>
      have hfs := first_some hf
      have hsc := scan_any A n c b w hn hr hnc hmax (by omega)
      unfold Scanned at hsc
      rw [scan_some hf] at hsc
      simp only [List.length_cons] at hsc
      obtain ⟨K, hK⟩ : ∃ K, K = 8 + p.length := ⟨_, rfl⟩
      rw [← hK] at hsc
      obtain ⟨qs, hqs⟩ : ∃ qs, qs = (scan (b.drop K)).1 := ⟨_, rfl⟩
      obtain ⟨en, hen⟩ : ∃ en, en = (scan (b.drop K)).2 := ⟨_, rfl⟩
      rw [← hqs, ← hen] at hsc
      have HS := Lib.hid hsc
      have hqc := scan_count (b.drop K)
      have hql := scan_le (b.drop K)
      rw [← hqs, ← hen] at hqc
      rw [← hen, List.length_drop] at hql
      have hfc : Hid (∀ W, RB W A b → Calls Try.prog 23 #[.slice A n c] W fun e w' => (∃ A2 c2, e = .returned (.tuple #[.slice A2 p.length c2, .int .i64 (K : Int), .int .i64 0]) ∧ OBs w' W.heap.size A2 p.length c2 p) ∧ New W w') := fun W h => (first_any A n c b W hn h hnc hmax).mono fun e w' h => by
        unfold Firsted at h
        rw [hf] at h
        obtain ⟨A2, c2, h1, h2, h3⟩ := h
        exact ⟨⟨A2, c2, by rw [h1, hK], h2⟩, h3⟩
      have hp2 : (K : Int) ≤ (n : Int) := by omega
      have hp3 : (K : Int) ≤ (c : Int) := by omega
      have hqn : qs.length ≤ 262144 := by omega
      have hen2 : en ≤ 262144 := by omega
      have hpK : (p.length : Int) + 8 = (K : Int) := by omega
      have HQS := Lib.hid hqs
      have HEN := Lib.hid hen
      have HPK := Lib.hid hpK
      have hp1 : p.length ≤ 131072 := hfs.2.1
      have hX := fun W (h : RB W A b) => h.cut K c (by omega)
      obtain ⟨X, hXe⟩ : ∃ X : Option Addr, (if c = K then A else A.map (·.add K)) = X := ⟨_, rfl⟩
      rw [hXe] at hX
      have hsc2 : Hid (∀ W, RB W A b → Calls Try.prog 20 #[.slice X (n - K) (c - K)] W (Scanned W (b.drop K))) := fun W h => scan_any X (n - K) (c - K) (b.drop K) W (by rw [List.length_drop]; omega) (hX W h) (by omega) (by unfold maxLen; omega) (by omega)
      clear hn hf hsc hfs hqc hql hqs hen hK hpK
      go_enter Try.func6, Try.ntmps6
      go_wp2_with fail
      refine HS.out.mono ?_
      rintro e w1 ⟨A1, c1, rfl, ho1, hw1⟩
      go_wp2_with fail
      refine (hfc.out w1 (hr.new hw1)).mono ?_
      rintro e w2 ⟨⟨A2, c2, rfl, ho2⟩, hw2⟩
      go_wp2_with fail
      refine (hsc2.out w2 (hr.new (New.trans hw1 hw2))).mono ?_
      intro e w3 h
      unfold Scanned at h
      rw [← HQS.out, ← HEN.out] at h
      obtain ⟨A3, c3, rfl, ho3, hw3⟩ := h
      have hrr1 := ho1.rr.new (New.trans hw2 hw3)
      obtain ⟨ad, B, d, hA1, hcell, hd, hdm, hbp⟩ := hrr1 0 p rfl
      subst hA1
      rw [add_zero_] at hcell
      have hc1 := ho1.le
      have htail : RR w3 (if c1 = 1 then some ad else some ⟨ad.block, ad.off + 1, none⟩) qs := by
        by_cases h1 : c1 = 1
        · have : qs = [] := List.eq_nil_of_length_eq_zero (by omega)
          subst this
          exact fun j u hu => by simp at hu
        · rw [if_neg h1]
          exact hrr1.tail
      obtain ⟨Y, hY⟩ : ∃ Y : Option Addr, (if c1 = 1 then some ad else some ⟨ad.block, ad.off + 1, none⟩) = Y := ⟨_, rfl⟩
      rw [hY] at htail
      unfold maxLen at hc1
      have hc1' : (1 : Int) ≤ (c1 : Int) := by omega
      have hpk := HPK.out
      go_wp2_with fail
      refine (bytes_is B A2 _ d _ c2 p p w3 rfl rfl hbp (ho2.rb.new hw3) true (by simp)).mono ?_
      rintro e w4 ⟨rfl, rfl⟩
      go_wp2_with fail
      refine (rows_any Y A3 qs.length (c1 - 1) qs.length c3 qs qs w3 rfl rfl (by unfold maxLen; omega) htail ho3.rr).mono ?_
      rintro e w4 ⟨rfl, hw4⟩
      simp only [beq_self_eq_true]
      go_wp2_with fail
      refine (wakes_any _).mono ?_
      rintro e w9 ⟨rfl, hw9⟩
      go_wp2_with fail
      go_ret
      exact ⟨rfl, New.trans hw1 (New.trans hw2 (New.trans hw3 (New.trans hw4.new hw9)))⟩
end Go.Proofs.Ytjdcikhbgbefcaa
