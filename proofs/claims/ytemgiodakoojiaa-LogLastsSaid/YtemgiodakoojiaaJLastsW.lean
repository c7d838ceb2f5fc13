/- hanselaw07.LogLasts: the walk. -/
import Derived.Test.YtemgiodakoojiaaLgJ
namespace Go.Proofs.Ytemgiodakoojiaa
set_option linter.unusedVariables false
open Go.RowKit
open Go.Proofs.Ytemgiodakoojiaa.Frm
open Go.Proofs.Ytemgiodakoojiaa.Jr
set_option maxRecDepth 20000 in
set_option maxHeartbeats 8000000 in
theorem jlasts_law (A : Option Addr) (n c : Nat) (l : List (List UInt8)) (B : Option Addr) (m d : Nat) (r : List (List UInt8)) (x : Int) (w : World) (hn : n = l.length) (hnc : n ≤ c) (hmax : c ≤ maxLen) (hr : RR w A l) (hm : m = r.length) (hmd : m ≤ d) (hmax' : d ≤ maxLen) (hr' : RR w B r) (wx : (Lit.int .i64 x).wf = true) :
    Calls Try.prog 6 #[.slice A n c, .slice B m d, .int .i64 x] w fun e w' => e = .returned (.bool true) ∧ New w w' := by
  have HN := Lib.hid hn
  have HM := Lib.hid hm
  have HR := Lib.hid hr
  have HR' := Lib.hid hr'
  clear hn hr hm hr'
  unfold maxLen at hmax hmax'
  by_cases h1 : (50 : Int) < (n : Int)
  · skip
    go_enter Try.func6, Try.ntmps6
    go_wp2_with fail
    go_ret
    exact ⟨rfl, New.refl _⟩
  have d1 : decide ((50 : Int) < (n : Int)) = false := by simpa using h1
  by_cases h2 : (50 : Int) < (m : Int)
  · skip
    go_enter Try.func6, Try.ntmps6
    go_wp2_with fail
    go_ret
    exact ⟨rfl, New.refl _⟩
  have d2 : decide ((50 : Int) < (m : Int)) = false := by simpa using h2
  obtain ⟨al, hal⟩ : ∃ al, al = l ++ r := ⟨_, rfl⟩
  have hall : al.length = n + m := by rw [hal, List.length_append]; have := HN.out; have := HM.out; omega
  have HALL := Lib.hid hall
  have HAL := Lib.hid hal
  clear hall hal
  go_enter Try.func6, Try.ntmps6
  go_wp2_with fail
  refine (disk_new w).mono ?_
  rintro e w1 ⟨dg, rfl, hd1⟩
  have hdb := DiskB.of_new (New.refl w) hd1
  go_wp2_with fail
  refine (open_log hdb.disk (Nat.zero_le _) parts_nil).mono ?_
  rintro e w2 ⟨g, A2, c2, rfl, h2⟩
  obtain ⟨hlb, _⟩ := LogB.step hdb h2
  obtain ⟨F2, hF2⟩ : ∃ F2, F2 = After (fun i => w.heap.size ≤ i ∧ i < w1.heap.size) w1 w2 := ⟨_, rfl⟩
  rw [← hF2] at hlb
  have H2 : Hid (∃ Ad cd, LogB F2 w w2 g dg Ad cd ⟨rows (al.take 0), 0, false, false, 0⟩ [] (al.take 0)) := ⟨A2, c2, hlb⟩
  clear hd1 h2 hdb hlb hF2
  go_wp2_with fail
  go_loopw [10, 11, 12] (fun a nn i wr => ∃ (j q sy : Nat) (A' : Option Addr) (c' : Nat) (Fj : Nat → Prop), a = .slice A' j c' ∧ nn = .int .i64 q ∧ i = .int .i64 j ∧ j ≤ n + m ∧ Hid (Held w wr A' j c' (al.take j)) ∧ Hid (∃ Ad cd, LogB Fj w wr g dg Ad cd ⟨rows (al.take j), sy, false, false, 0⟩ [] (al.take j)) ∧ Hid (∀ i, blk A' = some i → ¬ Fj i) ∧ Hid ((j ≤ n ∧ q = 0 ∧ sy = 0) ∨ (n < j ∧ q = n ∧ sy = (rows l).length)) ∧ Hid (∀ t ∈ al.take j, t.length ≤ 4096)) (fun _ _ i _ => n + m - (intOf i).toNat)
  case atStart => exact ⟨0, 0, 0, none, 0, F2, rfl, rfl, rfl, Nat.zero_le _, Held.nil _ _, H2, fun i hi => (by cases hi), Or.inl ⟨Nat.zero_le _, rfl, rfl⟩, fun t ht => (by simp at ht)⟩
  case round =>
    obtain ⟨j, q, sy, A', c', Fj, rfl, rfl, rfl, hj, HH, HL, HF, HQ, HT⟩ := hrel
    have hwr : IntKind.i64.wrap ((n : Int) + (m : Int)) = (n : Int) + (m : Int) := IntWalk.i64_in _ ⟨by omega, by omega⟩
    by_cases hlt : j < n + m
    · have hji : (j : Int) < (n : Int) + (m : Int) := by omega
      obtain ⟨Aj, cj, hLj⟩ := HL.out
      have HLj := Lib.hid hLj
      clear hLj HL
      have hrl := rows_bound (al.take j) HT.out
      rw [List.length_take, HALL.out] at hrl
      have HRL : Hid ((rows (al.take j)).length ≤ 410500) := by show _ ≤ _; omega
      clear hrl
      by_cases hc1 : j < n
      · obtain ⟨t, ht⟩ : ∃ t, l[j]? = some t := ⟨_, List.getElem?_eq_getElem (by rw [← HN.out]; exact hc1)⟩
        have HTK : Hid (al.take (j + 1) = al.take j ++ [t]) := by
          show _ = _
          rw [List.take_add_one, HAL.out, List.getElem?_append_left (by have := HN.out; omega), ht]
          rfl
        obtain ⟨ad, C, dc, rfl, hcC0, hCd, hdm, hbC0⟩ := HR.out j t ht
        obtain ⟨wv, hwv⟩ : ∃ wv, wv = wr := ⟨_, rfl⟩
        have hcC : wv.cell? (ad.add j) = some (.slice C t.length dc) := by rw [hwv]; exact (HLj.out.new.cell (World.block_lt_of_cell? _ _ hcC0)).trans hcC0
        have hbC : RB wv C t := by rw [hwv]; exact hbC0.new HLj.out.new
        have HCW := Lib.hid hbC0
        have HB := HLj
        have HHv := HH
        have HFv := HF
        obtain ⟨Fv, hFv⟩ : ∃ Fv, Fv = Fj := ⟨_, rfl⟩
        rw [← hwv, ← hFv] at HB
        rw [← hwv] at HHv
        rw [← hFv] at HFv
        have HQ5 : Hid ((j + 1 ≤ n ∧ q = 0 ∧ sy = 0) ∨ (n < j + 1 ∧ q = n ∧ sy = (rows l).length)) := by
          rcases HQ.out with h | h
          · exact .inl ⟨hc1, h.2⟩
          · omega
        have hjn : (j : Int) < (n : Int) := by omega
        have dne : ((j : Int) == (n : Int)) = false := by simp; omega
        rw [← hwv]
        clear hcC0 hbC0 ht hwv hFv HLj HH HF HQ
        obtain ⟨qt, hqt⟩ : ∃ qt, qt = t.length := ⟨_, rfl⟩
        rw [← hqt] at hcC
        have HQT := Lib.hid hqt
        have HCB : Hid (RB wv C t) := hbC
        have hdcl : qt ≤ dc := by rw [hqt]; exact hCd
        have HDM := Lib.hid hdm
        clear hbC hCd hdm hqt hlt
        by_cases hbig : (4096 : Int) < (qt : Int)
        · go_wp2_with fail
          go_ret
          exact ⟨rfl, HB.out.new⟩
        · have dbig : decide ((4096 : Int) < (qt : Int)) = false := by simpa using hbig
          have HAP := Lib.hid (lg_append HB.out.log C qt dc t HQT.out HCB.out (by omega) (by have := HRL.out; show _ + 9 + _ ≤ _; omega) (by rw [List.length_take]; omega))
          go_wp2_with fail
          refine HAP.out.mono ?_
          rintro e w4 ⟨A4, c4, rfl, h4⟩
          obtain ⟨h4b, hgr⟩ := LogB.step HB.out.toDisk h4
          obtain ⟨F4, hF4⟩ : ∃ F4, F4 = After Fv wv w4 := ⟨_, rfl⟩
          rw [← hF4] at h4b hgr
          rw [← rows_snoc, ← HTK.out] at h4b
          have hh4 : Held w w4 A' j c' (al.take j) := HHv.out.keep hgr.keep (fun i hi hs => HFv.out i hi hs)
          have HF4 : Hid (∀ i, blk A' = some i → ¬ F4 i) := fun i hi hs => by
            rcases hgr.sub i hs with hs | hs
            · exact HFv.out i hi hs
            · have := (HHv.out.blk_lt i hi).2; omega
          have HL4 := Lib.hid h4b
          obtain ⟨xs, ho, hln, hxs⟩ := hh4
          have HO4 := Lib.hid ho
          have HXS := Lib.hid (And.intro hln hxs)
          clear h4 h4b hgr hF4 hln hxs HAP HB HCB
          go_wp2_with (at_builtin; refine wpList_append_at w4 rfl (.tmp 76) (.tmp 78) _ rfl w.heap.size _ (.slice none 0 0) 24 u_rows i_bytes rfl A' j c' xs rfl ho (.slice C qt dc) rfl rfl rfl (by unfold maxLen; omega) (by omega) HL4.out.new.size ?_; intro A5 c5 w5 ho5 hg5 hat5 hb5; refine stop ?_)
          have hnA : New w4 (w4.alloc (.cells #[.slice C qt dc] 30)) := Below.alloc (Below.refl _ _) (Nat.le_refl _) _
          have hk5 : Keep (fun i => blk A' = some i) w4 w5 := (Keep.of_new hnA).trans_new (Keep.of_grown hg5) (fun i hi _ => hi)
          have HL5 := Lib.hid (HL4.out.other hk5 (fun i hi => HF4.out i hi) (Below.trans HL4.out.new hb5))
          have HH5 : Hid (Held w w5 A5 (j + 1) c5 (al.take (j + 1))) := by
            rw [HTK.out]
            rw [HQT.out] at ho5
            exact Held.snoc HXS.out.2 HXS.out.1 HO4.out ho5 HCW.out (by rw [← HQT.out]; exact hdcl) HDM.out
          have HF5 : Hid (∀ i, blk A5 = some i → ¬ F4 i) := fun i hi hs => by
            rcases hat5 with e | e
            · exact HF4.out i (e ▸ hi) hs
            · rw [e] at hi
              injection hi with hi
              have := (HL4.out.lo i hs).2
              omega
          have HT5 : Hid (∀ t ∈ al.take (j + 1), t.length ≤ 4096) := by
            intro y hy
            rw [HTK.out] at hy
            rcases List.mem_append.1 hy with hy | hy
            · exact HT.out y hy
            · rw [List.mem_singleton.1 hy, ← HQT.out]; omega
          clear hnA hk5 ho5 hg5 hat5 hb5 ho HO4 HXS HL4 HF4
          have hjb : (j : Int) ≤ 100 := by omega
          have HJI := Lib.hid hji
          clear hji hwr
          refine go ?_
          go_wp2_with fail
          go_roundw
          case rel => exact ⟨j + 1, q, sy, A5, c5, F4, rfl, rfl, by go_num, (by have := HJI.out; omega), HH5, ⟨A4, c4, HL5.out⟩, HF5, HQ5, HT5⟩
          case measure => have := HJI.out; simp [intOf]; omega
      · obtain ⟨p, hp⟩ : ∃ p, j = n + p := ⟨j - n, by omega⟩
        have hpm : p < m := by omega
        obtain ⟨t, ht⟩ : ∃ t, r[p]? = some t := ⟨_, List.getElem?_eq_getElem (by rw [← HM.out]; exact hpm)⟩
        have HTK : Hid (al.take (j + 1) = al.take j ++ [t]) := by
          show _ = _
          rw [List.take_add_one, HAL.out, List.getElem?_append_right (by have := HN.out; omega), show j - l.length = p from by have := HN.out; omega, ht]
          rfl
        obtain ⟨ad, C, dc, rfl, hcC0, hCd, hdm, hbC0⟩ := HR'.out p t ht
        have HCW := Lib.hid hbC0
        have hjn : ¬ (j : Int) < (n : Int) := by omega
        have hsub : IntKind.i64.wrap ((j : Int) - (n : Int)) = (p : Int) := by
          rw [show (j : Int) - (n : Int) = (p : Int) from by omega]
          exact IntWalk.i64_in _ ⟨by omega, by omega⟩
        have hpmi : (p : Int) < (m : Int) := by omega
        have HP := Lib.hid hp
        clear ht hp
        by_cases hc2 : j = n
        · subst hc2
          have HSY := Lib.hid (lg_sync HLj.out.log 0 ⟨rows (al.take j), (rows (al.take j)).length, false, false, 0⟩ rfl)
          go_wp2_with fail
          refine HSY.out.mono ?_
          rintro e wv ⟨Av, cv, rfl, hv⟩
          obtain ⟨hvb, hgr⟩ := LogB.step HLj.out.toDisk hv
          obtain ⟨Fv, hFv⟩ : ∃ Fv, Fv = After Fj wr wv := ⟨_, rfl⟩
          rw [← hFv] at hvb hgr
          have HHv : Hid (Held w wv A' j c' (al.take j)) := HH.out.keep hgr.keep (fun i hi hs => HF.out i hi hs)
          have HFv : Hid (∀ i, blk A' = some i → ¬ Fv i) := fun i hi hs => by
            rcases hgr.sub i hs with hs | hs
            · exact HF.out i hi hs
            · have := (HH.out.blk_lt i hi).2; omega
          have HB := Lib.hid hvb
          obtain rfl : p = 0 := by have := HP.out; omega
          have hcC : wv.cell? ad = some (.slice C t.length dc) := (hvb.new.cell (World.block_lt_of_cell? _ _ hcC0)).trans hcC0
          have hbC : RB wv C t := HCW.out.new hvb.new
          have hsyl : rows (al.take j) = rows l := by rw [HAL.out, HN.out, List.take_left' rfl]
          have HSL : Hid ((rows (al.take j)).length = (rows l).length) := by show _ = _; rw [hsyl]
          clear hv hvb hgr hFv hcC0 hbC0 hsyl HSY HLj HH HF HQ
          obtain ⟨qt, hqt⟩ : ∃ qt, qt = t.length := ⟨_, rfl⟩
          rw [← hqt] at hcC
          have HQT := Lib.hid hqt
          have HCB : Hid (RB wv C t) := hbC
          have hdcl : qt ≤ dc := by rw [hqt]; exact hCd
          have HDM := Lib.hid hdm
          clear hbC hCd hdm hqt hlt
          by_cases hbig : (4096 : Int) < (qt : Int)
          · go_wp2_with fail
            go_ret
            exact ⟨rfl, HB.out.new⟩
          · have dbig : decide ((4096 : Int) < (qt : Int)) = false := by simpa using hbig
            have HAP := Lib.hid (lg_append HB.out.log C qt dc t HQT.out HCB.out (by omega) (by have := HRL.out; show _ + 9 + _ ≤ _; omega) (by rw [List.length_take]; omega))
            go_wp2_with fail
            refine HAP.out.mono ?_
            rintro e w4 ⟨A4, c4, rfl, h4⟩
            obtain ⟨h4b, hgr⟩ := LogB.step HB.out.toDisk h4
            obtain ⟨F4, hF4⟩ : ∃ F4, F4 = After Fv wv w4 := ⟨_, rfl⟩
            rw [← hF4] at h4b hgr
            rw [← rows_snoc, ← HTK.out] at h4b
            have hh4 : Held w w4 A' j c' (al.take j) := HHv.out.keep hgr.keep (fun i hi hs => HFv.out i hi hs)
            have HF4 : Hid (∀ i, blk A' = some i → ¬ F4 i) := fun i hi hs => by
              rcases hgr.sub i hs with hs | hs
              · exact HFv.out i hi hs
              · have := (HHv.out.blk_lt i hi).2; omega
            have HL4 := Lib.hid h4b
            obtain ⟨xs, ho, hln, hxs⟩ := hh4
            have HO4 := Lib.hid ho
            have HXS := Lib.hid (And.intro hln hxs)
            clear h4 h4b hgr hF4 hln hxs HAP HB HCB
            go_wp2_with (at_builtin; refine wpList_append_at w4 rfl (.tmp 76) (.tmp 78) _ rfl w.heap.size _ (.slice none 0 0) 24 u_rows i_bytes rfl A' j c' xs rfl ho (.slice C qt dc) rfl rfl rfl (by unfold maxLen; omega) (by omega) HL4.out.new.size ?_; intro A5 c5 w5 ho5 hg5 hat5 hb5; refine stop ?_)
            have hnA : New w4 (w4.alloc (.cells #[.slice C qt dc] 30)) := Below.alloc (Below.refl _ _) (Nat.le_refl _) _
            have hk5 : Keep (fun i => blk A' = some i) w4 w5 := (Keep.of_new hnA).trans_new (Keep.of_grown hg5) (fun i hi _ => hi)
            have HL5 := Lib.hid (HL4.out.other hk5 (fun i hi => HF4.out i hi) (Below.trans HL4.out.new hb5))
            have HH5 : Hid (Held w w5 A5 (j + 1) c5 (al.take (j + 1))) := by
              rw [HTK.out]
              rw [HQT.out] at ho5
              exact Held.snoc HXS.out.2 HXS.out.1 HO4.out ho5 HCW.out (by rw [← HQT.out]; exact hdcl) HDM.out
            have HF5 : Hid (∀ i, blk A5 = some i → ¬ F4 i) := fun i hi hs => by
              rcases hat5 with e | e
              · exact HF4.out i (e ▸ hi) hs
              · rw [e] at hi
                injection hi with hi
                have := (HL4.out.lo i hs).2
                omega
            have HT5 : Hid (∀ t ∈ al.take (j + 1), t.length ≤ 4096) := by
              intro y hy
              rw [HTK.out] at hy
              rcases List.mem_append.1 hy with hy | hy
              · exact HT.out y hy
              · rw [List.mem_singleton.1 hy, ← HQT.out]; omega
            clear hnA hk5 ho5 hg5 hat5 hb5 ho HO4 HXS HL4 HF4
            have hjb : (j : Int) ≤ 100 := by omega
            have HJI := Lib.hid hji
            clear hji hwr
            refine go ?_
            go_wp2_with fail
            go_roundw
            case rel => exact ⟨j + 1, j, (rows (al.take j)).length, A5, c5, F4, rfl, rfl, by go_num, (by have := HJI.out; omega), HH5, ⟨A4, c4, HL5.out⟩, HF5, .inr ⟨by omega, rfl, HSL.out⟩, HT5⟩
            case measure => have := HJI.out; simp [intOf]; omega
        · have dne : ((j : Int) == (n : Int)) = false := by simp; omega
          obtain ⟨wv, hwv⟩ : ∃ wv, wv = wr := ⟨_, rfl⟩
          have hcC : wv.cell? (ad.add p) = some (.slice C t.length dc) := by rw [hwv]; exact (HLj.out.new.cell (World.block_lt_of_cell? _ _ hcC0)).trans hcC0
          have hbC : RB wv C t := by rw [hwv]; exact hbC0.new HLj.out.new
          have HB := HLj
          have HHv := HH
          have HFv := HF
          obtain ⟨Fv, hFv⟩ : ∃ Fv, Fv = Fj := ⟨_, rfl⟩
          rw [← hwv, ← hFv] at HB
          rw [← hwv] at HHv
          rw [← hFv] at HFv
          have HQ5 : Hid ((j + 1 ≤ n ∧ q = 0 ∧ sy = 0) ∨ (n < j + 1 ∧ q = n ∧ sy = (rows l).length)) := by
            rcases HQ.out with h | h
            · omega
            · exact .inr ⟨by omega, h.2⟩
          rw [← hwv]
          clear hcC0 hbC0 hwv hFv HLj HH HF HQ hc2
          obtain ⟨qt, hqt⟩ : ∃ qt, qt = t.length := ⟨_, rfl⟩
          rw [← hqt] at hcC
          have HQT := Lib.hid hqt
          have HCB : Hid (RB wv C t) := hbC
          have hdcl : qt ≤ dc := by rw [hqt]; exact hCd
          have HDM := Lib.hid hdm
          clear hbC hCd hdm hqt hlt
          by_cases hbig : (4096 : Int) < (qt : Int)
          · go_wp2_with fail
            go_ret
            exact ⟨rfl, HB.out.new⟩
          · have dbig : decide ((4096 : Int) < (qt : Int)) = false := by simpa using hbig
            have HAP := Lib.hid (lg_append HB.out.log C qt dc t HQT.out HCB.out (by omega) (by have := HRL.out; show _ + 9 + _ ≤ _; omega) (by rw [List.length_take]; omega))
            go_wp2_with fail
            refine HAP.out.mono ?_
            rintro e w4 ⟨A4, c4, rfl, h4⟩
            obtain ⟨h4b, hgr⟩ := LogB.step HB.out.toDisk h4
            obtain ⟨F4, hF4⟩ : ∃ F4, F4 = After Fv wv w4 := ⟨_, rfl⟩
            rw [← hF4] at h4b hgr
            rw [← rows_snoc, ← HTK.out] at h4b
            have hh4 : Held w w4 A' j c' (al.take j) := HHv.out.keep hgr.keep (fun i hi hs => HFv.out i hi hs)
            have HF4 : Hid (∀ i, blk A' = some i → ¬ F4 i) := fun i hi hs => by
              rcases hgr.sub i hs with hs | hs
              · exact HFv.out i hi hs
              · have := (HHv.out.blk_lt i hi).2; omega
            have HL4 := Lib.hid h4b
            obtain ⟨xs, ho, hln, hxs⟩ := hh4
            have HO4 := Lib.hid ho
            have HXS := Lib.hid (And.intro hln hxs)
            clear h4 h4b hgr hF4 hln hxs HAP HB HCB
            go_wp2_with (at_builtin; refine wpList_append_at w4 rfl (.tmp 76) (.tmp 78) _ rfl w.heap.size _ (.slice none 0 0) 24 u_rows i_bytes rfl A' j c' xs rfl ho (.slice C qt dc) rfl rfl rfl (by unfold maxLen; omega) (by omega) HL4.out.new.size ?_; intro A5 c5 w5 ho5 hg5 hat5 hb5; refine stop ?_)
            have hnA : New w4 (w4.alloc (.cells #[.slice C qt dc] 30)) := Below.alloc (Below.refl _ _) (Nat.le_refl _) _
            have hk5 : Keep (fun i => blk A' = some i) w4 w5 := (Keep.of_new hnA).trans_new (Keep.of_grown hg5) (fun i hi _ => hi)
            have HL5 := Lib.hid (HL4.out.other hk5 (fun i hi => HF4.out i hi) (Below.trans HL4.out.new hb5))
            have HH5 : Hid (Held w w5 A5 (j + 1) c5 (al.take (j + 1))) := by
              rw [HTK.out]
              rw [HQT.out] at ho5
              exact Held.snoc HXS.out.2 HXS.out.1 HO4.out ho5 HCW.out (by rw [← HQT.out]; exact hdcl) HDM.out
            have HF5 : Hid (∀ i, blk A5 = some i → ¬ F4 i) := fun i hi hs => by
              rcases hat5 with e | e
              · exact HF4.out i (e ▸ hi) hs
              · rw [e] at hi
                injection hi with hi
                have := (HL4.out.lo i hs).2
                omega
            have HT5 : Hid (∀ t ∈ al.take (j + 1), t.length ≤ 4096) := by
              intro y hy
              rw [HTK.out] at hy
              rcases List.mem_append.1 hy with hy | hy
              · exact HT.out y hy
              · rw [List.mem_singleton.1 hy, ← HQT.out]; omega
            clear hnA hk5 ho5 hg5 hat5 hb5 ho HO4 HXS HL4 HF4
            have hjb : (j : Int) ≤ 100 := by omega
            have HJI := Lib.hid hji
            clear hji hwr
            refine go ?_
            go_wp2_with fail
            go_roundw
            case rel => exact ⟨j + 1, q, sy, A5, c5, F4, rfl, rfl, by go_num, (by have := HJI.out; omega), HH5, ⟨A4, c4, HL5.out⟩, HF5, HQ5, HT5⟩
            case measure => have := HJI.out; simp [intOf]; omega
    · have HJN : Hid (j = n + m) := by show _ = _; omega
      have hjx : ¬ (j : Int) < (n : Int) + (m : Int) := by omega
      have hall : al.take j = al := List.take_of_length_le (by rw [HALL.out]; omega)
      rw [hall] at HL HT HH
      obtain ⟨Aj, cj, hLj⟩ := HL.out
      have HLj := Lib.hid hLj
      clear hLj HL hall hlt
      by_cases hm0 : m = 0
      · subst hm0
        have hjn : j = n := HJN.out
        subst hjn
        have HRL := Lib.hid (rows_bound al HT.out)
        have HSY := Lib.hid (lg_sync HLj.out.log 0 ⟨rows al, (rows al).length, false, false, 0⟩ rfl)
        go_wp2_with fail
        refine HSY.out.mono ?_
        rintro e wv ⟨Av, cv, rfl, hv⟩
        obtain ⟨hvb, hgr⟩ := LogB.step HLj.out.toDisk hv
        obtain ⟨Fv, hFv⟩ : ∃ Fv, Fv = After Fj wr wv := ⟨_, rfl⟩
        rw [← hFv] at hvb hgr
        have HHv : Hid (Held w wv A' j c' al) := HH.out.keep hgr.keep (fun i hi hs => HF.out i hi hs)
        have HFv : Hid (∀ i, blk A' = some i → ¬ Fv i) := fun i hi hs => by
          rcases hgr.sub i hs with hs | hs
          · exact HF.out i hi hs
          · have := (HH.out.blk_lt i hi).2; omega
        obtain ⟨sv, hsv⟩ : ∃ sv, sv = (rows al).length := ⟨_, rfl⟩
        rw [← hsv] at hvb
        have HB := Lib.hid hvb
        have HSV : Hid (sv = (rows (al.take j)).length) := by show _ = _; rw [List.take_of_length_le (by rw [HALL.out]; exact Nat.le_refl _)]; exact hsv
        have HSVL : Hid (sv ≤ (rows al).length) := by show _ ≤ _; rw [hsv]; exact Nat.le_refl _
        have HQJ : Hid (j ≤ j + 0) := Nat.le_refl _
        clear hv hvb hgr hFv hsv HSY HLj HH HF HRL HQ
        have hrl := rows_bound al HT.out
        rw [HALL.out] at hrl
        obtain ⟨en, hse, henl, hcr, hst⟩ := crash_at_ (rows al) sv HSVL.out false 0 x
        have henb : en ≤ 410500 := by omega
        obtain ⟨k, hk1, hk2, hk3, hk4, hk5⟩ := parts_cut al (fun t ht => by have := HT.out t ht; omega) en
        have hqk : j ≤ k := hk5 j (by rw [HALL.out]; have := HQJ.out; omega) (by rw [← HSV.out]; exact hse)
        have hkj : k ≤ j := by rw [HALL.out] at hk1; have := HJN.out; omega
        obtain ⟨ls, hls⟩ : ∃ ls, ls = al.take k := ⟨_, rfl⟩
        have hlsn : ls.length = k := by rw [hls, List.length_take]; omega
        obtain ⟨z, hz⟩ : ∃ z, z = rows ls := ⟨_, rfl⟩
        have hzb : z.length ≤ 410500 := by rw [hz, hls]; omega
        have HZP : Hid (parts z = ([], ls, z.length)) := by
          show parts z = _
          rw [hz]
          exact parts_all ls (fun t ht => by have := HT.out t (List.mem_of_mem_take (by rw [hls] at ht; exact ht)); omega)
        have HLB : Hid (∀ t ∈ ls, t.length ≤ 1000000) := by
          intro t ht
          have := HT.out t (List.mem_of_mem_take (by rw [hls] at ht; exact ht))
          show _ ≤ _
          omega
        have HTK : Hid (ls = al.take k) := hls
        have HOP : Hid (∀ O wy wx A' c', DiskAt O wy wx dg A' c' ⟨(rows al).take en, en, false, false, 0⟩ → Calls Try.prog 11 #[.pointer (some ⟨dg, 0, none⟩)] wx (Logged O wy dg ⟨z, z.length, false, false, 0⟩ [] ls)) := by
          intro O wy wx A' c' hd
          rw [hz, hls]
          exact open_torn hd henl (by omega) hk2 hk3 hk4
        have HCR := Lib.hid (crash_at HB.out.log.a x _ hcr)
        have HST := Lib.hid hst
        have HLN := Lib.hid hlsn
        have hqki : (j : Int) ≤ (k : Int) := by omega
        have hkji : (k : Int) ≤ (j : Int) := by omega
        have hkci : (k : Int) ≤ (c' : Int) := by obtain ⟨_, ho, _, _⟩ := HHv.out; have := ho.le; omega
        have HZB := Lib.hid hzb
        have HKB : Hid (k ≤ 100) := by show _ ≤ _; omega
        clear hrl hse henl hcr hst henb hk1 hk2 hk3 hk4 hk5 hqk hkj hls hlsn hz hzb
        go_wp2_with fail
        refine HCR.out.mono ?_
        intro e w3 hd
        obtain ⟨A3, c3, rfl, h3⟩ := HB.out.log.toDiskAt.did hd
        obtain ⟨h3b, hg3⟩ := DiskB.step HB.out.toDisk h3
        obtain ⟨F3, hF3⟩ : ∃ F3, F3 = After Fv wv w3 := ⟨_, rfl⟩
        rw [← hF3] at h3b hg3
        have HH3 := Lib.hid (HHv.out.keep hg3.keep (fun i hi hs => HFv.out i hi hs))
        have HF3 : Hid (∀ i, blk A' = some i → ¬ F3 i) := fun i hi hs => by
          rcases hg3.sub i hs with hs | hs
          · exact HFv.out i hi hs
          · have := (HHv.out.blk_lt i hi).2; omega
        have HSTA := Lib.hid (start_at h3b.disk.a _ HST.out)
        have H3 := Lib.hid h3b
        clear hd h3 h3b hg3 hF3 HCR HB HHv HFv
        go_wp2_with fail
        refine HSTA.out.mono ?_
        intro e w4 hd
        obtain ⟨A4, c4, rfl, h4⟩ := H3.out.disk.did hd
        obtain ⟨h4b, hg4⟩ := DiskB.step H3.out h4
        obtain ⟨F4, hF4⟩ : ∃ F4, F4 = After F3 w3 w4 := ⟨_, rfl⟩
        rw [← hF4] at h4b hg4
        have HH4 := Lib.hid (HH3.out.keep hg4.keep (fun i hi hs => HF3.out i hi hs))
        have HF4 : Hid (∀ i, blk A' = some i → ¬ F4 i) := fun i hi hs => by
          rcases hg4.sub i hs with hs | hs
          · exact HF3.out i hi hs
          · have := (HH3.out.blk_lt i hi).2; omega
        have HOP4 := Lib.hid (HOP.out _ _ _ _ _ h4b.disk)
        have H4 := Lib.hid h4b
        clear hd h4 h4b hg4 hF4 HSTA H3 HH3 HF3
        go_wp2_with fail
        refine HOP4.out.mono ?_
        rintro e w5 ⟨g5, A5, c5, rfl, h5⟩
        obtain ⟨h5b, hg5⟩ := LogB.step H4.out h5
        obtain ⟨F5, hF5⟩ : ∃ F5, F5 = After F4 w4 w5 := ⟨_, rfl⟩
        rw [← hF5] at h5b hg5
        have HH5 := Lib.hid (HH4.out.keep hg5.keep (fun i hi hs => HF4.out i hi hs))
        have HF5 : Hid (∀ i, blk A' = some i → ¬ F5 i) := fun i hi hs => by
          rcases hg5.sub i hs with hs | hs
          · exact HF4.out i hi hs
          · have := (HH4.out.blk_lt i hi).2; omega
        have HRC := Lib.hid (recs_any h5b.log (by rw [HLN.out]; have := HKB.out; omega) HLB.out)
        have H5 := Lib.hid h5b
        clear h5 h5b hg5 hF5 HOP4 H4 HH4 HF4
        go_wp2_with fail
        refine HRC.out.mono ?_
        rintro e w6 ⟨R6, rc6, rfl, hR6, hw6⟩
        rw [HLN.out] at hR6 ⊢
        have H6 := Lib.hid (H5.out.also hw6)
        have HR6 := Lib.hid hR6
        have HH6 := Lib.hid (HH5.out.new hw6)
        have HRB : Hid (∀ i, w5.heap.size ≤ i → ¬ F5 i) := fun i hi hs => by have := (H5.out.lo i hs).2; omega
        have hro := rows_same R6 A' k rc6 k c' ls w6 HLN.out.symm HLN.out.symm (by have := HKB.out; unfold maxLen; omega) hR6.rr (by rw [HTK.out]; exact (HH6.out.rr H6.out.new).take k)
        have HRO := Lib.hid hro
        clear hR6 hw6 hro HRC HH5
        go_wp2_with fail
        refine HRO.out.mono ?_
        rintro e w7 ⟨rfl, hw7⟩
        have H7 := Lib.hid (H6.out.also hw7)
        have HR7 := Lib.hid (HR6.out.new hw7)
        have HSN := Lib.hid (snap_any H7.out.log (Nat.zero_le _))
        clear hw7 HRO
        go_wp2_with fail
        refine HSN.out.mono ?_
        rintro e w8 ⟨S8, sc8, rfl, ho8, hw8⟩
        have H8 := Lib.hid (H7.out.also hw8)
        have HR8 := Lib.hid (HR7.out.new hw8)
        have HOP8 := Lib.hid (open_log H8.out.toDisk.disk (by have := HZB.out; omega) HZP.out)
        clear ho8 hw8 HSN
        go_wp2_with fail
        refine HOP8.out.mono ?_
        rintro e w9 ⟨g9, A9, c9, rfl, h9⟩
        obtain ⟨h9b, hg9⟩ := LogB.step H8.out.toDisk h9
        have HR9 := Lib.hid (HR8.out.keep hg9.keep (fun i hi => HRB.out i hi))
        have H9 := Lib.hid h9b
        have HRC := Lib.hid (recs_any h9b.log (by rw [HLN.out]; have := HKB.out; omega) HLB.out)
        clear h9 h9b hg9 HOP8
        go_wp2_with fail
        refine HRC.out.mono ?_
        rintro e w10 ⟨R10, rc10, rfl, hR10, hw10⟩
        rw [HLN.out] at hR10 ⊢
        have H10 := Lib.hid (H9.out.also hw10)
        have HRO := Lib.hid (rows_same R10 R6 k rc10 k rc6 ls w10 HLN.out.symm HLN.out.symm (by have := HKB.out; unfold maxLen; omega) hR10.rr (HR9.out.new hw10).rr)
        clear hR10 hw10 HRC
        go_wp2_with fail
        refine HRO.out.mono ?_
        rintro e w11 ⟨rfl, hw11⟩
        have H11 := Lib.hid (H10.out.also hw11)
        clear hw11 HRO
        go_wp2_with fail
        refine (wakes7_any _).mono ?_
        rintro e w12 ⟨rfl, hw12⟩
        have HFI := Lib.hid (New.trans H11.out.new hw12)
        clear hw12
        go_wp2_with fail
        go_ret
        exact ⟨rfl, HFI.out⟩
      · have dm : ((m : Int) == 0) = false := by simp; omega
        have hq := HQ.out
        obtain ⟨_, hqn, hsy⟩ : n < j ∧ q = n ∧ sy = (rows l).length := by
          rcases hq with h | h
          · have : j = n + m := HJN.out; omega
          · exact h
        subst hqn
        obtain ⟨wv, hwv⟩ : ∃ wv, wv = wr := ⟨_, rfl⟩
        obtain ⟨Fv, hFv⟩ : ∃ Fv, Fv = Fj := ⟨_, rfl⟩
        obtain ⟨sv, hsv⟩ : ∃ sv, sv = sy := ⟨_, rfl⟩
        have HB := HLj
        have HHv := HH
        have HFv := HF
        rw [← hwv, ← hFv, ← hsv] at HB
        rw [← hwv] at HHv
        rw [← hFv] at HFv
        have htk : al.take q = l := by rw [HAL.out, HN.out, List.take_left' rfl]
        have HSV : Hid (sv = (rows (al.take q)).length) := by show _ = _; rw [htk, hsv, hsy]
        have HSVL : Hid (sv ≤ (rows al).length) := by show _ ≤ _; rw [HAL.out, rows_append, List.length_append, hsv, hsy]; omega
        have HQJ : Hid (q ≤ q + m) := Nat.le_add_right _ _
        rw [← hwv]
        clear hwv hFv hsv hsy hq HLj HH HF HQ htk
        have hrl := rows_bound al HT.out
        rw [HALL.out] at hrl
        obtain ⟨en, hse, henl, hcr, hst⟩ := crash_at_ (rows al) sv HSVL.out false 0 x
        have henb : en ≤ 410500 := by omega
        obtain ⟨k, hk1, hk2, hk3, hk4, hk5⟩ := parts_cut al (fun t ht => by have := HT.out t ht; omega) en
        have hqk : q ≤ k := hk5 q (by rw [HALL.out]; have := HQJ.out; omega) (by rw [← HSV.out]; exact hse)
        have hkj : k ≤ j := by rw [HALL.out] at hk1; have := HJN.out; omega
        obtain ⟨ls, hls⟩ : ∃ ls, ls = al.take k := ⟨_, rfl⟩
        have hlsn : ls.length = k := by rw [hls, List.length_take]; omega
        obtain ⟨z, hz⟩ : ∃ z, z = rows ls := ⟨_, rfl⟩
        have hzb : z.length ≤ 410500 := by rw [hz, hls]; omega
        have HZP : Hid (parts z = ([], ls, z.length)) := by
          show parts z = _
          rw [hz]
          exact parts_all ls (fun t ht => by have := HT.out t (List.mem_of_mem_take (by rw [hls] at ht; exact ht)); omega)
        have HLB : Hid (∀ t ∈ ls, t.length ≤ 1000000) := by
          intro t ht
          have := HT.out t (List.mem_of_mem_take (by rw [hls] at ht; exact ht))
          show _ ≤ _
          omega
        have HTK : Hid (ls = al.take k) := hls
        have HOP : Hid (∀ O wy wx A' c', DiskAt O wy wx dg A' c' ⟨(rows al).take en, en, false, false, 0⟩ → Calls Try.prog 11 #[.pointer (some ⟨dg, 0, none⟩)] wx (Logged O wy dg ⟨z, z.length, false, false, 0⟩ [] ls)) := by
          intro O wy wx A' c' hd
          rw [hz, hls]
          exact open_torn hd henl (by omega) hk2 hk3 hk4
        have HCR := Lib.hid (crash_at HB.out.log.a x _ hcr)
        have HST := Lib.hid hst
        have HLN := Lib.hid hlsn
        have hqki : (q : Int) ≤ (k : Int) := by omega
        have hkji : (k : Int) ≤ (j : Int) := by omega
        have hkci : (k : Int) ≤ (c' : Int) := by obtain ⟨_, ho, _, _⟩ := HHv.out; have := ho.le; omega
        have HZB := Lib.hid hzb
        have HKB : Hid (k ≤ 100) := by show _ ≤ _; omega
        clear hrl hse henl hcr hst henb hk1 hk2 hk3 hk4 hk5 hqk hkj hls hlsn hz hzb
        go_wp2_with fail
        refine HCR.out.mono ?_
        intro e w3 hd
        obtain ⟨A3, c3, rfl, h3⟩ := HB.out.log.toDiskAt.did hd
        obtain ⟨h3b, hg3⟩ := DiskB.step HB.out.toDisk h3
        obtain ⟨F3, hF3⟩ : ∃ F3, F3 = After Fv wv w3 := ⟨_, rfl⟩
        rw [← hF3] at h3b hg3
        have HH3 := Lib.hid (HHv.out.keep hg3.keep (fun i hi hs => HFv.out i hi hs))
        have HF3 : Hid (∀ i, blk A' = some i → ¬ F3 i) := fun i hi hs => by
          rcases hg3.sub i hs with hs | hs
          · exact HFv.out i hi hs
          · have := (HHv.out.blk_lt i hi).2; omega
        have HSTA := Lib.hid (start_at h3b.disk.a _ HST.out)
        have H3 := Lib.hid h3b
        clear hd h3 h3b hg3 hF3 HCR HB HHv HFv
        go_wp2_with fail
        refine HSTA.out.mono ?_
        intro e w4 hd
        obtain ⟨A4, c4, rfl, h4⟩ := H3.out.disk.did hd
        obtain ⟨h4b, hg4⟩ := DiskB.step H3.out h4
        obtain ⟨F4, hF4⟩ : ∃ F4, F4 = After F3 w3 w4 := ⟨_, rfl⟩
        rw [← hF4] at h4b hg4
        have HH4 := Lib.hid (HH3.out.keep hg4.keep (fun i hi hs => HF3.out i hi hs))
        have HF4 : Hid (∀ i, blk A' = some i → ¬ F4 i) := fun i hi hs => by
          rcases hg4.sub i hs with hs | hs
          · exact HF3.out i hi hs
          · have := (HH3.out.blk_lt i hi).2; omega
        have HOP4 := Lib.hid (HOP.out _ _ _ _ _ h4b.disk)
        have H4 := Lib.hid h4b
        clear hd h4 h4b hg4 hF4 HSTA H3 HH3 HF3
        go_wp2_with fail
        refine HOP4.out.mono ?_
        rintro e w5 ⟨g5, A5, c5, rfl, h5⟩
        obtain ⟨h5b, hg5⟩ := LogB.step H4.out h5
        obtain ⟨F5, hF5⟩ : ∃ F5, F5 = After F4 w4 w5 := ⟨_, rfl⟩
        rw [← hF5] at h5b hg5
        have HH5 := Lib.hid (HH4.out.keep hg5.keep (fun i hi hs => HF4.out i hi hs))
        have HF5 : Hid (∀ i, blk A' = some i → ¬ F5 i) := fun i hi hs => by
          rcases hg5.sub i hs with hs | hs
          · exact HF4.out i hi hs
          · have := (HH4.out.blk_lt i hi).2; omega
        have HRC := Lib.hid (recs_any h5b.log (by rw [HLN.out]; have := HKB.out; omega) HLB.out)
        have H5 := Lib.hid h5b
        clear h5 h5b hg5 hF5 HOP4 H4 HH4 HF4
        go_wp2_with fail
        refine HRC.out.mono ?_
        rintro e w6 ⟨R6, rc6, rfl, hR6, hw6⟩
        rw [HLN.out] at hR6 ⊢
        have H6 := Lib.hid (H5.out.also hw6)
        have HR6 := Lib.hid hR6
        have HH6 := Lib.hid (HH5.out.new hw6)
        have HRB : Hid (∀ i, w5.heap.size ≤ i → ¬ F5 i) := fun i hi hs => by have := (H5.out.lo i hs).2; omega
        have hro := rows_same R6 A' k rc6 k c' ls w6 HLN.out.symm HLN.out.symm (by have := HKB.out; unfold maxLen; omega) hR6.rr (by rw [HTK.out]; exact (HH6.out.rr H6.out.new).take k)
        have HRO := Lib.hid hro
        clear hR6 hw6 hro HRC HH5
        go_wp2_with fail
        refine HRO.out.mono ?_
        rintro e w7 ⟨rfl, hw7⟩
        have H7 := Lib.hid (H6.out.also hw7)
        have HR7 := Lib.hid (HR6.out.new hw7)
        have HSN := Lib.hid (snap_any H7.out.log (Nat.zero_le _))
        clear hw7 HRO
        go_wp2_with fail
        refine HSN.out.mono ?_
        rintro e w8 ⟨S8, sc8, rfl, ho8, hw8⟩
        have H8 := Lib.hid (H7.out.also hw8)
        have HR8 := Lib.hid (HR7.out.new hw8)
        have HOP8 := Lib.hid (open_log H8.out.toDisk.disk (by have := HZB.out; omega) HZP.out)
        clear ho8 hw8 HSN
        go_wp2_with fail
        refine HOP8.out.mono ?_
        rintro e w9 ⟨g9, A9, c9, rfl, h9⟩
        obtain ⟨h9b, hg9⟩ := LogB.step H8.out.toDisk h9
        have HR9 := Lib.hid (HR8.out.keep hg9.keep (fun i hi => HRB.out i hi))
        have H9 := Lib.hid h9b
        have HRC := Lib.hid (recs_any h9b.log (by rw [HLN.out]; have := HKB.out; omega) HLB.out)
        clear h9 h9b hg9 HOP8
        go_wp2_with fail
        refine HRC.out.mono ?_
        rintro e w10 ⟨R10, rc10, rfl, hR10, hw10⟩
        rw [HLN.out] at hR10 ⊢
        have H10 := Lib.hid (H9.out.also hw10)
        have HRO := Lib.hid (rows_same R10 R6 k rc10 k rc6 ls w10 HLN.out.symm HLN.out.symm (by have := HKB.out; unfold maxLen; omega) hR10.rr (HR9.out.new hw10).rr)
        clear hR10 hw10 HRC
        go_wp2_with fail
        refine HRO.out.mono ?_
        rintro e w11 ⟨rfl, hw11⟩
        have H11 := Lib.hid (H10.out.also hw11)
        clear hw11 HRO
        go_wp2_with fail
        refine (wakes7_any _).mono ?_
        rintro e w12 ⟨rfl, hw12⟩
        have HFI := Lib.hid (New.trans H11.out.new hw12)
        clear hw12
        go_wp2_with fail
        go_ret
        exact ⟨rfl, HFI.out⟩
end Go.Proofs.Ytemgiodakoojiaa
