/- hanselaw04.FrameCuts: the walk. -/
import Derived.Test.YtjdcikhbgbefcaaFrK
import Derived.Test.YtjdcikhbgbefcaaFrG
namespace Go.Proofs.Ytjdcikhbgbefcaa
open Go.RowKit
open Go.Proofs.Ytjdcikhbgbefcaa.Frm
set_option maxHeartbeats 1000000 in
theorem cuts_law (A : Option Addr) (n c : Nat) (ls : List (List UInt8)) (x : Int) (w : World) (hn : n = ls.length) (hnc : n ≤ c) (hmax : c ≤ maxLen) (ha : RR w A ls) (_ : (Lit.int .i64 x).wf = true) :
    Calls Try.prog 10 #[.slice A n c, .int .i64 x] w fun e w' => e = .returned (.bool true) ∧ New w w' := by
  have HN := Lib.hid hn
  unfold maxLen at hmax
  clear hn
  go_enter Try.func10, Try.ntmps10
  go_wp2_with fail
  refine (heavy_any A n c ls w HN.out ha).mono ?_
  rintro e w' ⟨q, rfl, hq, rfl⟩
  cases q with
  | true =>
    clear hq
    go_wp2_with fail
    go_ret
    exact ⟨rfl, New.refl _⟩
  | false =>
      have HL := Lib.hid (hq rfl)
      clear hq
      go_wp2_with fail
      refine (sealed_any A n c ls w HN.out ha HL.out).mono ?_
      rintro e w1 (⟨hno, rfl, hw1⟩ | ⟨hall, ⟨A1, c1, A2, c2, rfl, ho1, ho2⟩, hw1⟩)
      · clear hno
        go_wp2_with fail
        refine (wakes_any _).mono ?_
        rintro e w9 ⟨rfl, hw9⟩
        go_wp2_with fail
        go_ret
        exact ⟨rfl, New.trans hw1 hw9⟩
      · have HA := Lib.hid hall
        have hsl := seals_length ls
        have hll := HL.out
        have hs1 : (seals ls).length ≤ 262144 + 512 := by have := hll.1; have := hll.2.1; omega
        have h64 : ls.length ≤ 64 := hll.1
        obtain ⟨S, hS⟩ : ∃ S, S = (seals ls).length := ⟨_, rfl⟩
        obtain ⟨N, hNe⟩ : ∃ N, N = ls.length := ⟨_, rfl⟩
        rw [← hS] at hs1 ho1 ⊢
        rw [← hNe] at ho2 h64 ⊢
        have HS := Lib.hid hS
        have HNe := Lib.hid hNe
        clear hall hsl hll hS hNe
        have hlc := ho1.le
        have hnN : n = N := by rw [HNe.out]; exact HN.out
        subst hnN
        obtain ⟨r, hr, hrS⟩ := mod_form x S (by omega)
        have HR := Lib.hid hr
        clear hr
        go_wp2_with fail
        rw [HR.out]
        go_loopw [9, 10] (fun i e wr => ∃ k en : Nat, i = .int .i64 k ∧ k ≤ n ∧ e = .int .i64 en ∧ Hid (en = (seals (ls.take k)).length) ∧ en ≤ r ∧ Drawn w1 wr) (fun i _ _ => n - (intOf i).toNat)
        case atStart => exact ⟨0, 0, rfl, Nat.zero_le _, rfl, rfl, Nat.zero_le _, Drawn.refl _⟩
        case round =>
          obtain ⟨k, en, rfl, hk, rfl, hen, henr, hdr⟩ := hrel
          by_cases hkn : (k : Int) < (n : Int)
          · obtain ⟨g, rfl⟩ : ∃ g, A2 = some ⟨g, 0, none⟩ := by
              rcases ho2.form with ⟨_, h, _⟩ | ⟨g, h, _⟩
              · omega
              · exact ⟨g, h⟩
            obtain ⟨E, hE⟩ : ∃ E, E = (seals (ls.take (k + 1))).length := ⟨_, rfl⟩
            have hcell : wr.cell? ⟨g, k, none⟩ = some (.int .i64 (E : Int)) := by
              have h1 := (ho2.new hdr.new).at_ rfl (j := k) (by omega)
              rw [h1, List.getElem?_map]
              unfold ends
              rw [List.getElem?_map, List.getElem?_range (by omega), hE]
              rfl
            have HE := Lib.hid hE
            clear hE
            by_cases hEr : (E : Int) ≤ (r : Int)
            · go_wp2_with fail
              go_roundw
              case rel => exact ⟨k + 1, E, by go_num, by omega, rfl, HE.out, by omega, hdr⟩
              case measure => simp [intOf]; omega
            · have hwh : whole ls r = (k, en) := by
                have h1 := whole_is ls r k (by rw [← HN.out]; exact hk) (by rw [← hen.out]; exact henr) (.inr (by rw [← HE.out]; omega))
                rw [h1, ← hen.out]
              have hsc := scan_any A1 r c1 ((seals ls).take r) wr (by rw [List.length_take, ← HS.out]; omega) ((ho1.rb.new hdr.new).take r) (by omega) hlc.2 (by omega)
              unfold Scanned at hsc
              rw [scan_cut ls HA.out r, hwh] at hsc
              have hkl : k = (ls.take k).length := by rw [List.length_take, ← HN.out]; omega
              simp only [← hkl] at hsc
              have HSC := Lib.hid hsc
              have HKL := Lib.hid hkl
              have hrk := (ha.new (New.trans hw1 hdr.new)).take k
              clear hsc hwh hkl
              go_wp2_with fail
              refine HSC.out.mono ?_
              rintro e w2 ⟨A3, c3, rfl, ho3, hw2⟩
              have hkn2 : (k : Int) ≤ (c : Int) := by omega
              have hk0 : (0 : Int) ≤ (k : Int) := by omega
              go_wp2_with fail
              refine (rows_any A3 A k c3 k c (ls.take k) (ls.take k) w2 HKL.out HKL.out (by unfold maxLen; omega) ho3.rr (hrk.new hw2)).mono ?_
              rintro e w3 ⟨rfl, hw3⟩
              simp only [beq_self_eq_true]
              go_wp2_with fail
              refine (wakes_any _).mono ?_
              rintro e w9 ⟨rfl, hw9⟩
              go_wp2_with fail
              go_ret
              exact ⟨rfl, New.trans hw1 (New.trans hdr.new (New.trans hw2 (New.trans hw3.new hw9)))⟩
          · have hdk : decide ((k : Int) < (n : Int)) = false := by simpa using hkn
            have hwh : whole ls r = (k, en) := by
              have h1 := whole_is ls r k (by rw [← HN.out]; exact hk) (by rw [← hen.out]; exact henr) (.inl (by rw [← HN.out]; omega))
              rw [h1, ← hen.out]
            have hsc := scan_any A1 r c1 ((seals ls).take r) wr (by rw [List.length_take, ← HS.out]; omega) ((ho1.rb.new hdr.new).take r) (by omega) hlc.2 (by omega)
            unfold Scanned at hsc
            rw [scan_cut ls HA.out r, hwh] at hsc
            have hkl : k = (ls.take k).length := by rw [List.length_take, ← HN.out]; omega
            simp only [← hkl] at hsc
            have HSC := Lib.hid hsc
            have HKL := Lib.hid hkl
            have hrk := (ha.new (New.trans hw1 hdr.new)).take k
            clear hsc hwh hkl
            go_wp2_with fail
            refine HSC.out.mono ?_
            rintro e w2 ⟨A3, c3, rfl, ho3, hw2⟩
            have hkn2 : (k : Int) ≤ (c : Int) := by omega
            have hk0 : (0 : Int) ≤ (k : Int) := by omega
            go_wp2_with fail
            refine (rows_any A3 A k c3 k c (ls.take k) (ls.take k) w2 HKL.out HKL.out (by unfold maxLen; omega) ho3.rr (hrk.new hw2)).mono ?_
            rintro e w3 ⟨rfl, hw3⟩
            simp only [beq_self_eq_true]
            go_wp2_with fail
            refine (wakes_any _).mono ?_
            rintro e w9 ⟨rfl, hw9⟩
            go_wp2_with fail
            go_ret
            exact ⟨rfl, New.trans hw1 (New.trans hdr.new (New.trans hw2 (New.trans hw3.new hw9)))⟩
end Go.Proofs.Ytjdcikhbgbefcaa
