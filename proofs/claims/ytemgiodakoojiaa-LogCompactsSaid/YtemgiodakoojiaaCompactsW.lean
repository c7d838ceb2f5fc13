/- hanselaw07.LogCompacts: the walk. -/
import Derived.Test.YtemgiodakoojiaaLgJ
namespace Go.Proofs.Ytemgiodakoojiaa
set_option linter.unusedVariables false
open Go.RowKit
open Go.Proofs.Ytemgiodakoojiaa.Frm
open Go.Proofs.Ytemgiodakoojiaa.Jr
theorem crash_all (l : List UInt8) (tr : Bool) (k x : Int) (hx : 0 ≤ x) : St.crash ⟨l, l.length, false, tr, k⟩ x = ⟨l, l.length, true, false, 0⟩ := by
  have h : St.left ⟨l, l.length, false, tr, k⟩ x = l.length := by
    unfold St.left
    show l.length + (min (max x 0) ((l.length : Int) - (l.length : Int))).toNat = _
    omega
  show (⟨l.take (St.left ⟨l, l.length, false, tr, k⟩ x), l.length, true, false, 0⟩ : St) = _
  rw [h, List.take_length]
set_option maxRecDepth 20000 in
set_option maxHeartbeats 8000000 in
theorem compacts_law (A : Option Addr) (n c : Nat) (l : List (List UInt8)) (B : Option Addr) (m d : Nat) (r : List (List UInt8)) (C : Option Addr) (p q : Nat) (s : List UInt8) (tr : Bool) (w : World) (hn : n = l.length) (hnc : n ≤ c) (hmax : c ≤ maxLen) (hr : RR w A l) (hm : m = r.length) (hmd : m ≤ d) (hmax' : d ≤ maxLen) (hr' : RR w B r) (hp : p = s.length) (hpq : p ≤ q) (hmax'' : q ≤ maxLen) (hs : RB w C s) :
    Calls Try.prog 8 #[.slice A n c, .slice B m d, .slice C p q, .bool tr] w fun e w' => e = .returned (.bool true) ∧ New w w' := by
  have HN := Lib.hid hn
  have HM := Lib.hid hm
  have HP := Lib.hid hp
  have HR := Lib.hid hr
  have HR' := Lib.hid hr'
  have HS := Lib.hid hs
  clear hn hr hm hr' hp hs
  unfold maxLen at hmax hmax' hmax''
  by_cases h1 : (50 : Int) < (n : Int)
  · skip
    go_enter Try.func8, Try.ntmps8
    go_wp2_with fail
    go_ret
    exact ⟨rfl, New.refl _⟩
  have d1 : decide ((50 : Int) < (n : Int)) = false := by simpa using h1
  by_cases h2 : (50 : Int) < (m : Int)
  · skip
    go_enter Try.func8, Try.ntmps8
    go_wp2_with fail
    go_ret
    exact ⟨rfl, New.refl _⟩
  have d2 : decide ((50 : Int) < (m : Int)) = false := by simpa using h2
  by_cases h3 : (4096 : Int) < (p : Int)
  · skip
    go_enter Try.func8, Try.ntmps8
    go_wp2_with fail
    go_ret
    exact ⟨rfl, New.refl _⟩
  have d3 : decide ((4096 : Int) < (p : Int)) = false := by simpa using h3
  go_enter Try.func8, Try.ntmps8
  go_wp2_with fail
  refine (disk_new w).mono ?_
  rintro e w1 ⟨dg, rfl, hd1⟩
  go_wp2_with fail
  refine (open_log hd1 (Nat.zero_le _) parts_nil).mono ?_
  rintro e w2 ⟨g, A2, c2, rfl, h2⟩
  clear hd1
  have H2 : Hid (∃ A' c', LogAt (Since w) w w2 g dg A' c' ⟨rows (l.take 0), 0, false, false, 0⟩ [] (l.take 0)) := ⟨A2, c2, h2⟩
  clear h2
  go_wp2_with fail
  go_loopw [12] (fun v wr => ∃ j : Nat, v = .int .i64 j ∧ j ≤ n ∧ Hid (∃ A' c', LogAt (Since w) w wr g dg A' c' ⟨rows (l.take j), 0, false, false, 0⟩ [] (l.take j)) ∧ Hid (∀ t ∈ l.take j, t.length ≤ 4096)) (fun v _ => n - (intOf v).toNat)
  case atStart => exact ⟨0, rfl, Nat.zero_le _, H2, fun t ht => (by simp at ht)⟩
  case round =>
    obtain ⟨j, rfl, hj, HL, HB⟩ := hrel
    obtain ⟨A3, c3, h3⟩ := HL.out
    by_cases hlt : j < n
    · obtain ⟨t, ht⟩ : ∃ t, l[j]? = some t := ⟨_, List.getElem?_eq_getElem (by rw [← HN.out]; exact hlt)⟩
      have hnew := h3.fr.since
      obtain ⟨ad, X, xc, rfl, hcB, hBd, hdm, hbB⟩ := (HR.out.new hnew) j t ht
      obtain ⟨qt, hq⟩ : ∃ qt, qt = t.length := ⟨_, rfl⟩
      rw [← hq] at hcB
      have hji : (j : Int) < (n : Int) := by omega
      have HT := Lib.hid ht
      have HQ := Lib.hid hq
      have H3 := Lib.hid h3
      have HNW := Lib.hid hnew
      by_cases hbig : (4096 : Int) < (qt : Int)
      · clear hlt ht hq h3 hnew hbB hBd hdm
        go_wp2_with fail
        go_ret
        exact ⟨rfl, HNW.out⟩
      · have htl : t.length ≤ 4096 := by omega
        have hrl := rows_bound (l.take j) HB.out
        rw [List.length_take] at hrl
        have HAP := Lib.hid (lg_append h3 X qt xc t hq hbB (by omega) (by omega) (by rw [List.length_take]; omega))
        have htk : l.take (j + 1) = l.take j ++ [t] := by rw [List.take_add_one, ht]; rfl
        have HTK := Lib.hid htk
        have HB4 : Hid (∀ t ∈ l.take (j + 1), t.length ≤ 4096) := by
          intro y hy
          rw [htk] at hy
          rcases List.mem_append.1 hy with hy | hy
          · exact HB.out y hy
          · rw [List.mem_singleton.1 hy]; exact htl
        clear hlt ht hq h3 hnew hbB hBd hdm htl hrl htk
        go_wp2_with fail
        refine HAP.out.mono ?_
        rintro e v4 ⟨A4, c4, rfl, h4⟩
        have H4' : Hid (∃ A' c', LogAt (Since w) w v4 g dg A' c' ⟨rows (l.take (j + 1)), 0, false, false, 0⟩ [] (l.take (j + 1))) := ⟨A4, c4, by rw [HTK.out, rows_snoc]; exact h4⟩
        clear h4
        go_wp2_with fail
        go_roundw
        case rel => exact ⟨j + 1, by go_num, by omega, H4', HB4⟩
        case measure => simp [intOf]; omega
    · have hjn : j = n := by omega
      subst hjn
      have hall : l.take j = l := List.take_of_length_le (by rw [← HN.out]; exact Nat.le_refl _)
      rw [hall] at h3 HB
      have hrl := rows_bound l HB.out
      obtain ⟨b, hb⟩ : ∃ b, b = rows l := ⟨_, rfl⟩
      rw [← hb] at h3 hrl
      have HBL : Hid (b.length ≤ 205250) := by show _ ≤ _; have : j = l.length := HN.out; omega
      have HPT : Hid (parts b = ([], l, b.length)) := by
        show parts b = _
        rw [hb]
        exact parts_all l (fun t ht => by have := HB.out t ht; omega)
      have HNL : ¬ (j : Int) < (j : Int) := by omega
      have HSY := Lib.hid (lg_sync h3 0 ⟨b, b.length, false, false, 0⟩ rfl)
      clear hlt h3 hall hrl hb HL
      go_wp2_with fail
      refine HSY.out.mono ?_
      rintro e w4 ⟨A4, c4, rfl, h4⟩
      have H4 := Lib.hid h4
      clear h4 HSY
      cases tr with
      | true =>
        have HTR := Lib.hid (trip_at H4.out.a 3 ⟨b, b.length, false, true, 3⟩ rfl)
        go_wp2_with fail
        refine HTR.out.mono ?_
        intro e w5 hd
        obtain ⟨A5, c5, rfl, h5⟩ := H4.out.did hd
        have HCO := Lib.hid (lg_compact_off h5 C p q s HP.out (HS.out.new h5.fr.since) (by omega))
        clear hd h5 HTR
        go_wp2_with fail
        refine HCO.out.mono ?_
        rintro e w6 ⟨A6, c6, rfl, h6⟩
        rw [crash_all b true 3 3 (by decide)] at h6
        have HST := Lib.hid (start_at h6.a ⟨b, b.length, false, false, 0⟩ rfl)
        have H6 := Lib.hid h6
        clear h6 HCO
        go_wp2_with fail
        refine HST.out.mono ?_
        intro e w7 hd
        obtain ⟨A7, c7, rfl, h7⟩ := H6.out.toDiskAt.did hd
        have HOP := Lib.hid (open_log h7 (by have := HBL.out; omega) HPT.out)
        clear hd h7 HST
        go_wp2_with fail
        refine HOP.out.mono ?_
        rintro e w8 ⟨g8, A8, c8, rfl, h8⟩
        have H8 := Lib.hid h8
        have HSN := Lib.hid (snap_any h8 (Nat.zero_le _))
        clear h8 HOP
        go_wp2_with fail
        refine HSN.out.mono ?_
        rintro e w9 ⟨S9, sc9, rfl, ho9, hw9⟩
        have H9 := Lib.hid (H8.out.also hw9)
        have HRC := Lib.hid (recs_any H9.out (by rw [← HN.out]; omega) (fun t ht => by have := HB.out t ht; omega))
        clear ho9 hw9 HSN
        go_wp2_with fail
        refine HRC.out.mono ?_
        rintro e w10 ⟨R10, rc10, rfl, hR10, hw10⟩
        rw [← HN.out] at hR10 ⊢
        have H10 := Lib.hid (H9.out.also hw10)
        have HRO := Lib.hid (rows_same R10 A j rc10 j c l w10 HN.out HN.out (by unfold maxLen; omega) hR10.rr (HR.out.new H10.out.fr.since))
        clear hR10 hw10 HRC
        go_wp2_with fail
        refine HRO.out.mono ?_
        rintro e w11 ⟨rfl, hw11⟩
        have H11 := Lib.hid (H10.out.also hw11)
        clear hw11 HRO
        go_wp2_with fail
        refine (wakes7_any _).mono ?_
        rintro e w12 ⟨rfl, hw12⟩
        have HFI := Lib.hid (New.trans H11.out.fr.since hw12)
        clear hw12
        go_wp2_with fail
        go_ret
        exact ⟨rfl, HFI.out⟩
      | false =>
        have HCO := Lib.hid (lg_compact H4.out C p q s HP.out (HS.out.new H4.out.fr.since) (by omega))
        go_wp2_with fail
        refine HCO.out.mono ?_
        rintro e w5 ⟨A5, c5, rfl, h5⟩
        obtain ⟨f, hf⟩ : ∃ f, f = seal_ (83 :: s) := ⟨_, rfl⟩
        have hfl : 9 + s.length = f.length := by rw [hf, seal_length, List.length_cons]; omega
        rw [← hf, hfl] at h5
        have HFE := Lib.hid hf
        have HFL : Hid (f.length ≤ 4105) := by show _ ≤ _; rw [← hfl]; have := HP.out; omega
        have H5 := Lib.hid h5
        have HRC := Lib.hid (recs_any h5 (Nat.zero_le _) (fun t ht => by simp at ht))
        clear h5 HCO hf hfl
        go_wp2_with fail
        refine HRC.out.mono ?_
        rintro e w6 ⟨R6, rc6, rfl, hR6, hw6⟩
        have H6 := Lib.hid (H5.out.also hw6)
        have HSN := Lib.hid (snap_any H6.out (by have := HP.out; omega))
        rw [← HP.out] at HSN
        clear hR6 hw6 HRC
        go_wp2_with fail
        refine HSN.out.mono ?_
        rintro e w7 ⟨S7, sc7, rfl, ho7, hw7⟩
        have H7 := Lib.hid (H6.out.also hw7)
        have HBY := Lib.hid (bytes_is S7 C p sc7 p q s s w7 HP.out HP.out (OB.rb ho7) (HS.out.new H7.out.fr.since) true (by rw [beq_self_eq_true]))
        clear ho7 hw7 HSN
        go_wp2_with fail
        refine HBY.out.mono ?_
        rintro e w8 ⟨rfl, rfl⟩
        have HV : Hid (∃ A' c', LogAt (Since w) w w7 g dg A' c' ⟨f ++ rows (r.take 0), f.length, false, false, 0⟩ s (r.take 0)) := ⟨A5, c5, by rw [List.take_zero, rows_nil, List.append_nil]; exact H7.out⟩
        clear HBY
        go_wp2_with fail
        go_loopw [13] (fun v wr => ∃ j : Nat, v = .int .i64 j ∧ j ≤ m ∧ Hid (∃ A' c', LogAt (Since w) w wr g dg A' c' ⟨f ++ rows (r.take j), f.length, false, false, 0⟩ s (r.take j)) ∧ Hid (∀ t ∈ r.take j, t.length ≤ 4096)) (fun v _ => m - (intOf v).toNat)
        case atStart => exact ⟨0, rfl, Nat.zero_le _, HV, fun t ht => (by simp at ht)⟩
        case round =>
          obtain ⟨i, rfl, hi, HL2, HB2⟩ := hrel
          obtain ⟨A3, c3, h3⟩ := HL2.out
          by_cases hlt : i < m
          · obtain ⟨t, ht⟩ : ∃ t, r[i]? = some t := ⟨_, List.getElem?_eq_getElem (by rw [← HM.out]; exact hlt)⟩
            have hnew := h3.fr.since
            obtain ⟨ad, X, xc, rfl, hcB, hBd, hdm, hbB⟩ := (HR'.out.new hnew) i t ht
            obtain ⟨qt, hq⟩ : ∃ qt, qt = t.length := ⟨_, rfl⟩
            rw [← hq] at hcB
            have hji : (i : Int) < (m : Int) := by omega
            have HT := Lib.hid ht
            have HQ := Lib.hid hq
            have H3 := Lib.hid h3
            have HNW := Lib.hid hnew
            by_cases hbig : (4096 : Int) < (qt : Int)
            · clear hlt ht hq h3 hnew hbB hBd hdm
              go_wp2_with fail
              go_ret
              exact ⟨rfl, HNW.out⟩
            · have htl : t.length ≤ 4096 := by omega
              have hrl := rows_bound (r.take i) HB2.out
              rw [List.length_take] at hrl
              have HAP := Lib.hid (lg_append h3 X qt xc t hq hbB (by omega) (by have := HFL.out; rw [List.length_append]; omega) (by rw [List.length_take]; omega))
              have htk : r.take (i + 1) = r.take i ++ [t] := by rw [List.take_add_one, ht]; rfl
              have HTK := Lib.hid htk
              have HB4 : Hid (∀ t ∈ r.take (i + 1), t.length ≤ 4096) := by
                intro y hy
                rw [htk] at hy
                rcases List.mem_append.1 hy with hy | hy
                · exact HB2.out y hy
                · rw [List.mem_singleton.1 hy]; exact htl
              clear hlt ht hq h3 hnew hbB hBd hdm htl hrl htk
              go_wp2_with fail
              refine HAP.out.mono ?_
              rintro e v4 ⟨A4, c4, rfl, h4⟩
              have H4' : Hid (∃ A' c', LogAt (Since w) w v4 g dg A' c' ⟨f ++ rows (r.take (i + 1)), f.length, false, false, 0⟩ s (r.take (i + 1))) := ⟨A4, c4, by rw [HTK.out, rows_snoc, ← List.append_assoc]; exact h4⟩
              clear h4
              go_wp2_with fail
              go_roundw
              case rel => exact ⟨i + 1, by go_num, by omega, H4', HB4⟩
              case measure => simp [intOf]; omega
          · have him : i = m := by omega
            subst him
            have hall : r.take i = r := List.take_of_length_le (by rw [← HM.out]; exact Nat.le_refl _)
            rw [hall] at h3 HB2
            have hrl := rows_bound r HB2.out
            obtain ⟨z, hz⟩ : ∃ z, z = f ++ rows r := ⟨_, rfl⟩
            have hzl : z.length ≤ 300000 := by rw [hz, List.length_append]; have := HFL.out; have : i = r.length := HM.out; omega
            have HZP : Hid (parts z = (s, r, z.length)) := by
              show parts z = _
              rw [hz, HFE.out]
              exact parts_snap s r (by have := HP.out; omega) (fun t ht => by have := HB2.out t ht; omega)
            rw [← hz] at h3
            have HZL := Lib.hid hzl
            have HNL : ¬ (i : Int) < (i : Int) := by omega
            have HSY := Lib.hid (lg_sync h3 0 ⟨z, z.length, false, false, 0⟩ rfl)
            clear hlt h3 hall hrl hz HL2 hzl
            go_wp2_with fail
            refine HSY.out.mono ?_
            rintro e v4 ⟨A4, c4, rfl, h4⟩
            have HCR := Lib.hid (crash_at h4.a 0 _ (crash_all z false 0 0 (by decide)))
            have H4 := Lib.hid h4
            clear h4 HSY
            go_wp2_with fail
            refine HCR.out.mono ?_
            intro e v5 hd
            obtain ⟨A5, c5, rfl, h5⟩ := H4.out.toDiskAt.did hd
            have HST := Lib.hid (start_at h5.a ⟨z, z.length, false, false, 0⟩ rfl)
            have H5 := Lib.hid h5
            clear hd h5 HCR
            go_wp2_with fail
            refine HST.out.mono ?_
            intro e v6 hd
            obtain ⟨A6, c6, rfl, h6⟩ := H5.out.did hd
            have HOP := Lib.hid (open_log h6 (by have := HZL.out; omega) HZP.out)
            clear hd h6 HST
            go_wp2_with fail
            refine HOP.out.mono ?_
            rintro e v8 ⟨g8, A8, c8, rfl, h8⟩
            have H8 := Lib.hid h8
            have HSN := Lib.hid (snap_any h8 (by have := HP.out; omega))
            rw [← HP.out] at HSN
            clear h8 HOP
            go_wp2_with fail
            refine HSN.out.mono ?_
            rintro e v9 ⟨S9, sc9, rfl, ho9, hw9⟩
            have H9 := Lib.hid (H8.out.also hw9)
            have HBY := Lib.hid (bytes_is S9 C p sc9 p q s s v9 HP.out HP.out (OB.rb ho9) (HS.out.new H9.out.fr.since) true (by rw [beq_self_eq_true]))
            clear ho9 hw9 HSN
            go_wp2_with fail
            refine HBY.out.mono ?_
            rintro e w8 ⟨rfl, rfl⟩
            have HRC := Lib.hid (recs_any H9.out (by rw [← HM.out]; omega) (fun t ht => by have := HB2.out t ht; omega))
            clear HBY
            go_wp2_with fail
            refine HRC.out.mono ?_
            rintro e v10 ⟨R10, rc10, rfl, hR10, hw10⟩
            rw [← HM.out] at hR10 ⊢
            have H10 := Lib.hid (H9.out.also hw10)
            have HRO := Lib.hid (rows_same R10 B i rc10 i d r v10 HM.out HM.out (by unfold maxLen; omega) hR10.rr (HR'.out.new H10.out.fr.since))
            clear hR10 hw10 HRC
            go_wp2_with fail
            refine HRO.out.mono ?_
            rintro e v11 ⟨rfl, hw11⟩
            have H11 := Lib.hid (H10.out.also hw11)
            clear hw11 HRO
            go_wp2_with fail
            refine (wakes7_any _).mono ?_
            rintro e v12 ⟨rfl, hw12⟩
            have HFI := Lib.hid (New.trans H11.out.fr.since hw12)
            clear hw12
            go_wp2_with fail
            go_ret
            exact ⟨rfl, HFI.out⟩
end Go.Proofs.Ytemgiodakoojiaa
