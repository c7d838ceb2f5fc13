/- hanselaw07.LogTwice: the walk. -/
import Derived.Test.YtemgiodakoojiaaLgK
namespace Go.Proofs.Ytemgiodakoojiaa
set_option linter.unusedVariables false
open Go.RowKit
open Go.Proofs.Ytemgiodakoojiaa.Frm
open Go.Proofs.Ytemgiodakoojiaa.Jr
set_option maxRecDepth 20000 in
set_option maxHeartbeats 8000000 in
theorem twice_law (A : Option Addr) (n c : Nat) (l : List (List UInt8)) (B : Option Addr) (m d : Nat) (r : List (List UInt8)) (w : World) (hn : n = l.length) (hnc : n ≤ c) (hmax : c ≤ maxLen) (hr : RR w A l) (hm : m = r.length) (hmd : m ≤ d) (hmax' : d ≤ maxLen) (hr' : RR w B r) :
    Calls Try.prog 3 #[.slice A n c, .slice B m d] w fun e w' => e = .returned (.bool true) ∧ New w w' := by
  have HN := Lib.hid hn
  have HM := Lib.hid hm
  have HR := Lib.hid hr
  have HR' := Lib.hid hr'
  clear hn hr hm hr'
  unfold maxLen at hmax hmax'
  by_cases h1 : (50 : Int) < (n : Int)
  · skip
    go_enter Try.func3, Try.ntmps3
    go_wp2_with fail
    go_ret
    exact ⟨rfl, New.refl _⟩
  have d1 : decide ((50 : Int) < (n : Int)) = false := by simpa using h1
  by_cases h2 : (50 : Int) < (m : Int)
  · skip
    go_enter Try.func3, Try.ntmps3
    go_wp2_with fail
    go_ret
    exact ⟨rfl, New.refl _⟩
  have d2 : decide ((50 : Int) < (m : Int)) = false := by simpa using h2
  obtain ⟨al, hal⟩ : ∃ al, al = l ++ r := ⟨_, rfl⟩
  have hall : al.length = n + m := by rw [hal, List.length_append]; have := HN.out; have := HM.out; omega
  have HALL := Lib.hid hall
  have HAL := Lib.hid hal
  clear hall hal
  obtain ⟨ti, hi, hz0, hz1, hz2⟩ := info_parts i_bytes
  go_enter Try.func3, Try.ntmps3
  go_wp2_with fail
  refine (disk_new w).mono ?_
  rintro e w1 ⟨dg, rfl, hd1⟩
  have hda := DiskB.of_new (New.refl w) hd1
  obtain ⟨Fa, hFa⟩ : ∃ Fa : Nat → Prop, Fa = fun i => w.heap.size ≤ i ∧ i < w1.heap.size := ⟨_, rfl⟩
  rw [← hFa] at hda
  have HDA := Lib.hid hda
  clear hd1 hda hFa
  go_wp2_with fail
  refine (disk_new w1).mono ?_
  rintro e w2 ⟨dg2, rfl, hd2⟩
  have hdb := DiskB.of_new HDA.out.new hd2
  have hda2 := HDA.out.also hd2.fr.since
  have hab : ∀ i, Fa i → ¬ (w1.heap.size ≤ i ∧ i < w2.heap.size) := fun i hi hs => by have := (HDA.out.lo i hi).2; omega
  obtain ⟨Fb, hFb⟩ : ∃ Fb : Nat → Prop, Fb = fun i => w1.heap.size ≤ i ∧ i < w2.heap.size := ⟨_, rfl⟩
  have hab' : ∀ i, Fa i → ¬ Fb i := fun i hi hs => hab i hi (by rw [hFb] at hs; exact hs)
  rw [← hFb] at hdb
  have HOA := Lib.hid (open_log hda2.disk (Nat.zero_le _) parts_nil)
  have HDA := Lib.hid hda2
  have HDB := Lib.hid hdb
  have HAB := Lib.hid hab'
  clear hd2 hdb hda2 hFb hab hab'
  go_wp2_with fail
  refine HOA.out.mono ?_
  rintro e w3 ⟨g, A3, c3, rfl, h3⟩
  obtain ⟨h3b, hg3⟩ := LogB.step HDA.out h3
  obtain ⟨F3, hF3⟩ : ∃ F3, F3 = After Fa w2 w3 := ⟨_, rfl⟩
  rw [← hF3] at h3b hg3
  obtain ⟨hdb3, hab3⟩ := HDB.out.beside HAB.out hg3 h3b.new
  have HOB := Lib.hid (open_log hdb3.disk (Nat.zero_le _) parts_nil)
  have H3 := Lib.hid h3b
  have HDB3 := Lib.hid hdb3
  have HAB3 := Lib.hid hab3
  clear h3 h3b hg3 hF3 hdb3 hab3 HOA HDA HDB HAB
  go_wp2_with fail
  refine HOB.out.mono ?_
  rintro e w4 ⟨g2, A4, c4, rfl, h4⟩
  obtain ⟨h4b, hg4⟩ := LogB.step HDB3.out h4
  obtain ⟨F4, hF4⟩ : ∃ F4, F4 = After Fb w3 w4 := ⟨_, rfl⟩
  rw [← hF4] at h4b hg4
  obtain ⟨h3c, hab4⟩ := H3.out.beside (fun i hi hs => HAB3.out i hs hi) hg4 h4b.new
  have HT : Hid (∃ F1 F2 A1 c1 A2 c2, LogB F1 w w4 g dg A1 c1 ⟨rows (al.take 0), 0, false, false, 0⟩ [] (al.take 0) ∧ LogB F2 w w4 g2 dg2 A2 c2 ⟨rows (al.take 0), 0, false, false, 0⟩ [] (al.take 0) ∧ ∀ i, F1 i → ¬ F2 i) := ⟨F3, F4, A3, c3, A4, c4, h3c, h4b, fun i hi hs => hab4 i hs hi⟩
  clear h4 h4b hg4 hF4 h3c hab4 HOB H3 HDB3 HAB3
  go_wp2_with fail
  go_loopw [7, 8, 11] (fun lp ee i wr => ∃ (j sy gj : Nat), lp = .pointer (some ⟨gj, 0, none⟩) ∧ ee = .int .i64 0 ∧ i = .int .i64 j ∧ j ≤ n + m ∧ Hid (∃ F1 F2 A1 c1 A2 c2, LogB F1 w wr gj dg A1 c1 ⟨rows (al.take j), sy, false, false, 0⟩ [] (al.take j) ∧ LogB F2 w wr g2 dg2 A2 c2 ⟨rows (al.take j), 0, false, false, 0⟩ [] (al.take j) ∧ ∀ i, F1 i → ¬ F2 i) ∧ Hid (∀ t ∈ al.take j, t.length ≤ 4096)) (fun _ _ i _ => n + m - (intOf i).toNat)
  case atStart => exact ⟨0, 0, g, rfl, rfl, rfl, Nat.zero_le _, HT, fun t ht => (by simp at ht)⟩
  case round =>
    obtain ⟨j, sy, gj, rfl, rfl, rfl, hj, HL, HT⟩ := hrel
    have hwr : IntKind.i64.wrap ((n : Int) + (m : Int)) = (n : Int) + (m : Int) := IntWalk.i64_in _ ⟨by omega, by omega⟩
    obtain ⟨F1, F2, A1, c1, A2, c2, hL1, hL2, hL3⟩ := HL.out
    have H1 := Lib.hid hL1
    have H2 := Lib.hid hL2
    have H12 := Lib.hid hL3
    clear hL1 hL2 hL3 HL
    by_cases hlt : j < n + m
    · have hji : (j : Int) < (n : Int) + (m : Int) := by omega
      have hrl := rows_bound (al.take j) HT.out
      rw [List.length_take, HALL.out] at hrl
      have HRL : Hid ((rows (al.take j)).length ≤ 410500) := by show _ ≤ _; omega
      clear hrl
      obtain ⟨t, ht⟩ : ∃ t, al[j]? = some t := ⟨_, List.getElem?_eq_getElem (by rw [HALL.out]; exact hlt)⟩
      have HTK : Hid (al.take (j + 1) = al.take j ++ [t]) := by
        show _ = _
        rw [List.take_add_one, ht]
        rfl
      have HTT := Lib.hid ht
      have hjb : (j : Int) ≤ 100 := by omega
      clear ht
      by_cases hc2 : j = n
      · subst hc2
        obtain ⟨z, hz⟩ : ∃ z, z = rows (al.take j) := ⟨_, rfl⟩
        have HZ := Lib.hid hz
        have HZP : Hid (parts z = ([], al.take j, z.length)) := by
          show parts z = _
          rw [hz]
          exact parts_all _ (fun t ht => by have := HT.out t ht; omega)
        have hs1 := H1.out
        rw [← hz] at hs1
        have HS1 := Lib.hid hs1
        have HSY := Lib.hid (lg_sync hs1.log 0 ⟨z, z.length, false, false, 0⟩ rfl)
        clear hs1 hz
        go_wp2_with fail
        refine HSY.out.mono ?_
        rintro e ws ⟨As, cs, rfl, hs⟩
        obtain ⟨hsb, hgs⟩ := LogB.step HS1.out.toDisk hs
        obtain ⟨Fs, hFs⟩ : ∃ Fs, Fs = After F1 wr ws := ⟨_, rfl⟩
        rw [← hFs] at hsb hgs
        obtain ⟨h2s, h12s⟩ := H2.out.beside H12.out hgs hsb.new
        have HOP := Lib.hid (open_log hsb.toDisk.disk (by rw [HZ.out]; have := HRL.out; omega) HZP.out)
        have HS := Lib.hid hsb
        have H2S := Lib.hid h2s
        have H12S := Lib.hid h12s
        clear hs hsb hgs hFs h2s h12s H1 HS1 H2 H12 HSY
        go_wp2_with fail
        refine HOP.out.mono ?_
        rintro e wv ⟨gv, Av, cv, rfl, hv⟩
        obtain ⟨hvb, hgv⟩ := LogB.step HS.out.toDisk hv
        obtain ⟨Fv, hFv⟩ : ∃ Fv, Fv = After Fs ws wv := ⟨_, rfl⟩
        rw [← hFv] at hvb hgv
        obtain ⟨h2v, h12v⟩ := H2S.out.beside H12S.out hgv hvb.new
        rw [HZ.out] at hvb
        have HB1 := Lib.hid hvb
        have HB2 := Lib.hid h2v
        have HBD := Lib.hid h12v
        clear hv hvb hgv hFv h2v h12v HOP HS H2S H12S
        have hnwv := HB1.out.new
        obtain ⟨xsa, xa1, xa2, xa3, xa4⟩ := HR.out.vals
        obtain ⟨xsb, xb1, xb2, xb3, xb4⟩ := HR'.out.vals
        rw [← HN.out] at xa1
        rw [← HM.out] at xb1
        have halw : New wv (wv.alloc (.cells #[] 30)) := Below.alloc (Below.refl _ _) (Nat.le_refl _) _
        have ho0 : Own (wv.alloc (.cells #[] 30)) wv.heap.size 30 (some ⟨wv.heap.size, 0, none⟩) 0 0 [] := ⟨rfl, .inr ⟨wv.heap.size, 0, #[], rfl, Nat.le_refl _, heap_alloc_new wv _, Nat.le_refl _, Nat.zero_le _, rfl, rfl⟩⟩
        have HVA := Lib.hid (And.intro xa1 (And.intro xa2 (And.intro xa3 xa4)))
        have HVB := Lib.hid (And.intro xb1 (And.intro xb2 (And.intro xb3 xb4)))
        have HO0 := Lib.hid ho0
        have HAW := Lib.hid halw
        have HQV := Lib.hid hnwv
        clear xa1 xa2 xa3 xa4 xb1 xb2 xb3 xb4 ho0 halw hnwv
        go_wp2_with (at_builtin; refine wpList_append_Own _ rfl (.tmp 76) (.tmp 77) _ rfl wv.heap.size _ ti (.slice none 0 0) 24 u_rows hi hz0 hz1 hz2 rfl (some ⟨wv.heap.size, 0, none⟩) 0 0 [] rfl HO0.out A j c xsa rfl HVA.out.1 (fun j u hu => by obtain ⟨ad, e, hc⟩ := HVA.out.2.1 j u hu; exact ⟨ad, e, ((New.trans HQV.out HAW.out).cell (World.block_lt_of_cell? _ _ hc)).trans hc⟩) HVA.out.2.2.1 (by unfold maxLen; omega) (by omega) HAW.out.size ?_; intro X1 k1 w5 ho5 hg5 hat5; refine stop ?_)
        have hn5 : New wv w5 := Below.trans HAW.out (below_blk HO0.out hg5 HAW.out.size)
        rw [List.nil_append, Nat.zero_add] at ho5
        have HO5 := Lib.hid ho5
        have HN5 := Lib.hid hn5
        clear ho5 hg5 hat5 hn5
        refine go ?_
        go_wp2_with (at_builtin; refine wpList_append_Own _ rfl (.tmp 78) (.tmp 79) _ rfl wv.heap.size _ ti (.slice none 0 0) 24 u_rows hi hz0 hz1 hz2 rfl X1 j k1 xsa rfl HO5.out B m d xsb rfl HVB.out.1 (fun j u hu => by obtain ⟨ad, e, hc⟩ := HVB.out.2.1 j u hu; exact ⟨ad, e, ((New.trans HQV.out HN5.out).cell (World.block_lt_of_cell? _ _ hc)).trans hc⟩) HVB.out.2.2.1 (by unfold maxLen; omega) (by omega) HN5.out.size ?_; intro X2 k2 w6 ho6 hg6 hat6; refine stop ?_)
        have hn6 : New wv w6 := Below.trans HN5.out (below_blk HO5.out hg6 HN5.out.size)
        obtain ⟨pg, rfl⟩ : ∃ pg, X2 = some ⟨pg, 0, none⟩ := by
          rcases Own.form ho6 with ⟨_, h0, _⟩ | ⟨pg, h0, _⟩
          · omega
          · exact ⟨pg, h0⟩
        obtain ⟨C, dc, hcC, hCd, hdm, hCW⟩ : ∃ C dc, w6.cell? ⟨pg, j, none⟩ = some (.slice C t.length dc) ∧ t.length ≤ dc ∧ dc ≤ maxLen ∧ RB w C t := by
          have ht := HTT.out
          rw [HAL.out] at ht
          have hxl : xsa.length = j := HVA.out.1
          have hnl : j = l.length := HN.out
          rw [Own.at_ ho6 rfl (by omega)]
          by_cases hjl : j < j
          · rw [List.getElem?_append_left (by omega)] at ht
            obtain ⟨C, dc, g1, g2, g3, g4⟩ := HVA.out.2.2.2 j t ht
            exact ⟨C, dc, by rw [List.getElem?_append_left (by omega)]; exact g1, g2, g3, g4⟩
          · rw [List.getElem?_append_right (by omega)] at ht
            rw [← hnl] at ht
            obtain ⟨C, dc, g1, g2, g3, g4⟩ := HVB.out.2.2.2 (j - j) t ht
            exact ⟨C, dc, by rw [List.getElem?_append_right (by omega), hxl]; exact g1, g2, g3, g4⟩
        obtain ⟨qt, hqt⟩ : ∃ qt, qt = t.length := ⟨_, rfl⟩
        rw [← hqt] at hcC hCd
        have HQT := Lib.hid hqt
        have HCW := Lib.hid hCW
        have HDM := Lib.hid hdm
        have HC1 := Lib.hid (HB1.out.also hn6)
        have HC2 := Lib.hid (HB2.out.also hn6)
        clear ho6 hg6 hat6 hn6 hqt hCW hdm HB1 HB2 HO0 HO5 HVA HVB
        refine go ?_
        by_cases hbig : (4096 : Int) < (qt : Int)
        · go_wp2_with fail
          go_ret
          exact ⟨rfl, HC1.out.new⟩
        · have dbig : decide ((4096 : Int) < (qt : Int)) = false := by simpa using hbig
          have HAP := Lib.hid (lg_append HC1.out.log C qt dc t HQT.out (HCW.out.new HC1.out.new) (by omega) (by have := HRL.out; show _ + 9 + _ ≤ _; omega) (by rw [List.length_take]; omega))
          go_wp2_with fail
          refine HAP.out.mono ?_
          rintro e w7 ⟨A7, c7, rfl, h7⟩
          obtain ⟨h7b, hg7⟩ := LogB.step HC1.out.toDisk h7
          obtain ⟨F7, hF7⟩ : ∃ F7, F7 = After Fv w6 w7 := ⟨_, rfl⟩
          rw [← hF7] at h7b hg7
          obtain ⟨h2c, hd7⟩ := HC2.out.beside HBD.out hg7 h7b.new
          rw [← rows_snoc, ← HTK.out] at h7b
          have HAP2 := Lib.hid (lg_append h2c.log C qt dc t HQT.out (HCW.out.new h2c.new) (by omega) (by have := HRL.out; show _ + 9 + _ ≤ _; omega) (by rw [List.length_take]; omega))
          have HE1 := Lib.hid h7b
          have HE2 := Lib.hid h2c
          have HED := Lib.hid hd7
          clear h7 h7b hg7 hF7 h2c hd7 HAP HC1 HC2 HBD
          go_wp2_with fail
          refine HAP2.out.mono ?_
          rintro e w8 ⟨A8, c8, rfl, h8⟩
          obtain ⟨h8b, hg8⟩ := LogB.step HE2.out.toDisk h8
          obtain ⟨F8, hF8⟩ : ∃ F8, F8 = After F2 w7 w8 := ⟨_, rfl⟩
          rw [← hF8] at h8b hg8
          obtain ⟨h1c, hd8⟩ := HE1.out.beside (fun i hi hs => HED.out i hs hi) hg8 h8b.new
          rw [← rows_snoc, ← HTK.out] at h8b
          have HL8 : Hid (∃ F1 F2 A1 c1 A2 c2, LogB F1 w w8 gv dg A1 c1 ⟨rows (al.take (j + 1)), (rows (al.take j)).length, false, false, 0⟩ [] (al.take (j + 1)) ∧ LogB F2 w w8 g2 dg2 A2 c2 ⟨rows (al.take (j + 1)), 0, false, false, 0⟩ [] (al.take (j + 1)) ∧ ∀ i, F1 i → ¬ F2 i) := ⟨F7, F8, _, _, _, _, h1c, h8b, fun i hi hs => hd8 i hs hi⟩
          have HT5 : Hid (∀ t ∈ al.take (j + 1), t.length ≤ 4096) := by
            intro y hy
            rw [HTK.out] at hy
            rcases List.mem_append.1 hy with hy | hy
            · exact HT.out y hy
            · rw [List.mem_singleton.1 hy, ← HQT.out]; omega
          have HJI := Lib.hid hji
          clear h8 h8b hg8 hF8 h1c hd8 HAP2 HE1 HE2 HED hji hwr
          go_wp2_with fail
          go_roundw
          case rel => exact ⟨j + 1, (rows (al.take j)).length, gv, rfl, rfl, by go_num, (by have := HJI.out; omega), HL8, HT5⟩
          case measure => have := HJI.out; simp [intOf]; omega
      · have dne : ((j : Int) == (n : Int)) = false := by simp; omega
        obtain ⟨wv, hwv⟩ : ∃ wv, wv = wr := ⟨_, rfl⟩
        have HB1 := H1
        have HB2 := H2
        have HBD := H12
        rw [← hwv] at HB1 HB2
        rw [← hwv]
        clear hwv H1 H2 H12 hc2
        have hnwv := HB1.out.new
        obtain ⟨xsa, xa1, xa2, xa3, xa4⟩ := HR.out.vals
        obtain ⟨xsb, xb1, xb2, xb3, xb4⟩ := HR'.out.vals
        rw [← HN.out] at xa1
        rw [← HM.out] at xb1
        have halw : New wv (wv.alloc (.cells #[] 30)) := Below.alloc (Below.refl _ _) (Nat.le_refl _) _
        have ho0 : Own (wv.alloc (.cells #[] 30)) wv.heap.size 30 (some ⟨wv.heap.size, 0, none⟩) 0 0 [] := ⟨rfl, .inr ⟨wv.heap.size, 0, #[], rfl, Nat.le_refl _, heap_alloc_new wv _, Nat.le_refl _, Nat.zero_le _, rfl, rfl⟩⟩
        have HVA := Lib.hid (And.intro xa1 (And.intro xa2 (And.intro xa3 xa4)))
        have HVB := Lib.hid (And.intro xb1 (And.intro xb2 (And.intro xb3 xb4)))
        have HO0 := Lib.hid ho0
        have HAW := Lib.hid halw
        have HQV := Lib.hid hnwv
        clear xa1 xa2 xa3 xa4 xb1 xb2 xb3 xb4 ho0 halw hnwv
        go_wp2_with (at_builtin; refine wpList_append_Own _ rfl (.tmp 76) (.tmp 77) _ rfl wv.heap.size _ ti (.slice none 0 0) 24 u_rows hi hz0 hz1 hz2 rfl (some ⟨wv.heap.size, 0, none⟩) 0 0 [] rfl HO0.out A n c xsa rfl HVA.out.1 (fun j u hu => by obtain ⟨ad, e, hc⟩ := HVA.out.2.1 j u hu; exact ⟨ad, e, ((New.trans HQV.out HAW.out).cell (World.block_lt_of_cell? _ _ hc)).trans hc⟩) HVA.out.2.2.1 (by unfold maxLen; omega) (by omega) HAW.out.size ?_; intro X1 k1 w5 ho5 hg5 hat5; refine stop ?_)
        have hn5 : New wv w5 := Below.trans HAW.out (below_blk HO0.out hg5 HAW.out.size)
        rw [List.nil_append, Nat.zero_add] at ho5
        have HO5 := Lib.hid ho5
        have HN5 := Lib.hid hn5
        clear ho5 hg5 hat5 hn5
        refine go ?_
        go_wp2_with (at_builtin; refine wpList_append_Own _ rfl (.tmp 78) (.tmp 79) _ rfl wv.heap.size _ ti (.slice none 0 0) 24 u_rows hi hz0 hz1 hz2 rfl X1 n k1 xsa rfl HO5.out B m d xsb rfl HVB.out.1 (fun j u hu => by obtain ⟨ad, e, hc⟩ := HVB.out.2.1 j u hu; exact ⟨ad, e, ((New.trans HQV.out HN5.out).cell (World.block_lt_of_cell? _ _ hc)).trans hc⟩) HVB.out.2.2.1 (by unfold maxLen; omega) (by omega) HN5.out.size ?_; intro X2 k2 w6 ho6 hg6 hat6; refine stop ?_)
        have hn6 : New wv w6 := Below.trans HN5.out (below_blk HO5.out hg6 HN5.out.size)
        obtain ⟨pg, rfl⟩ : ∃ pg, X2 = some ⟨pg, 0, none⟩ := by
          rcases Own.form ho6 with ⟨_, h0, _⟩ | ⟨pg, h0, _⟩
          · omega
          · exact ⟨pg, h0⟩
        obtain ⟨C, dc, hcC, hCd, hdm, hCW⟩ : ∃ C dc, w6.cell? ⟨pg, j, none⟩ = some (.slice C t.length dc) ∧ t.length ≤ dc ∧ dc ≤ maxLen ∧ RB w C t := by
          have ht := HTT.out
          rw [HAL.out] at ht
          have hxl : xsa.length = n := HVA.out.1
          have hnl : n = l.length := HN.out
          rw [Own.at_ ho6 rfl (by omega)]
          by_cases hjl : j < n
          · rw [List.getElem?_append_left (by omega)] at ht
            obtain ⟨C, dc, g1, g2, g3, g4⟩ := HVA.out.2.2.2 j t ht
            exact ⟨C, dc, by rw [List.getElem?_append_left (by omega)]; exact g1, g2, g3, g4⟩
          · rw [List.getElem?_append_right (by omega)] at ht
            rw [← hnl] at ht
            obtain ⟨C, dc, g1, g2, g3, g4⟩ := HVB.out.2.2.2 (j - n) t ht
            exact ⟨C, dc, by rw [List.getElem?_append_right (by omega), hxl]; exact g1, g2, g3, g4⟩
        obtain ⟨qt, hqt⟩ : ∃ qt, qt = t.length := ⟨_, rfl⟩
        rw [← hqt] at hcC hCd
        have HQT := Lib.hid hqt
        have HCW := Lib.hid hCW
        have HDM := Lib.hid hdm
        have HC1 := Lib.hid (HB1.out.also hn6)
        have HC2 := Lib.hid (HB2.out.also hn6)
        clear ho6 hg6 hat6 hn6 hqt hCW hdm HB1 HB2 HO0 HO5 HVA HVB
        refine go ?_
        by_cases hbig : (4096 : Int) < (qt : Int)
        · go_wp2_with fail
          go_ret
          exact ⟨rfl, HC1.out.new⟩
        · have dbig : decide ((4096 : Int) < (qt : Int)) = false := by simpa using hbig
          have HAP := Lib.hid (lg_append HC1.out.log C qt dc t HQT.out (HCW.out.new HC1.out.new) (by omega) (by have := HRL.out; show _ + 9 + _ ≤ _; omega) (by rw [List.length_take]; omega))
          go_wp2_with fail
          refine HAP.out.mono ?_
          rintro e w7 ⟨A7, c7, rfl, h7⟩
          obtain ⟨h7b, hg7⟩ := LogB.step HC1.out.toDisk h7
          obtain ⟨F7, hF7⟩ : ∃ F7, F7 = After F1 w6 w7 := ⟨_, rfl⟩
          rw [← hF7] at h7b hg7
          obtain ⟨h2c, hd7⟩ := HC2.out.beside HBD.out hg7 h7b.new
          rw [← rows_snoc, ← HTK.out] at h7b
          have HAP2 := Lib.hid (lg_append h2c.log C qt dc t HQT.out (HCW.out.new h2c.new) (by omega) (by have := HRL.out; show _ + 9 + _ ≤ _; omega) (by rw [List.length_take]; omega))
          have HE1 := Lib.hid h7b
          have HE2 := Lib.hid h2c
          have HED := Lib.hid hd7
          clear h7 h7b hg7 hF7 h2c hd7 HAP HC1 HC2 HBD
          go_wp2_with fail
          refine HAP2.out.mono ?_
          rintro e w8 ⟨A8, c8, rfl, h8⟩
          obtain ⟨h8b, hg8⟩ := LogB.step HE2.out.toDisk h8
          obtain ⟨F8, hF8⟩ : ∃ F8, F8 = After F2 w7 w8 := ⟨_, rfl⟩
          rw [← hF8] at h8b hg8
          obtain ⟨h1c, hd8⟩ := HE1.out.beside (fun i hi hs => HED.out i hs hi) hg8 h8b.new
          rw [← rows_snoc, ← HTK.out] at h8b
          have HL8 : Hid (∃ F1 F2 A1 c1 A2 c2, LogB F1 w w8 gj dg A1 c1 ⟨rows (al.take (j + 1)), sy, false, false, 0⟩ [] (al.take (j + 1)) ∧ LogB F2 w w8 g2 dg2 A2 c2 ⟨rows (al.take (j + 1)), 0, false, false, 0⟩ [] (al.take (j + 1)) ∧ ∀ i, F1 i → ¬ F2 i) := ⟨F7, F8, _, _, _, _, h1c, h8b, fun i hi hs => hd8 i hs hi⟩
          have HT5 : Hid (∀ t ∈ al.take (j + 1), t.length ≤ 4096) := by
            intro y hy
            rw [HTK.out] at hy
            rcases List.mem_append.1 hy with hy | hy
            · exact HT.out y hy
            · rw [List.mem_singleton.1 hy, ← HQT.out]; omega
          have HJI := Lib.hid hji
          clear h8 h8b hg8 hF8 h1c hd8 HAP2 HE1 HE2 HED hji hwr
          go_wp2_with fail
          go_roundw
          case rel => exact ⟨j + 1, sy, gj, rfl, rfl, by go_num, (by have := HJI.out; omega), HL8, HT5⟩
          case measure => have := HJI.out; simp [intOf]; omega
    · have HJN : Hid (j = n + m) := by show _ = _; omega
      have hjx : ¬ (j : Int) < (n : Int) + (m : Int) := by omega
      have hall : al.take j = al := List.take_of_length_le (by rw [HALL.out]; omega)
      have hrl := rows_bound (al.take j) HT.out
      obtain ⟨b, hb⟩ : ∃ b, b = rows (al.take j) := ⟨_, rfl⟩
      have hs1 := H1.out
      have hs2 := H2.out
      rw [← hb] at hs1 hs2 hrl
      rw [hall] at hs1 hs2
      obtain ⟨q, hq⟩ : ∃ q, q = b.length := ⟨_, rfl⟩
      have hqb : q ≤ 410500 := by rw [List.length_take, HALL.out] at hrl; omega
      have HQ := Lib.hid hq
      have HS1 := Lib.hid hs1
      have HS2 := Lib.hid hs2
      have HLB : Hid (∀ t ∈ al, t.length ≤ 1000000) := by
        intro t ht
        have := HT.out t (by rw [hall]; exact ht)
        show _ ≤ _
        omega
      have HR1 := Lib.hid (read_dk hs1.log.a b 0 rfl (by show b.length ≤ _; omega))
      rw [← hq] at HR1
      clear hlt hall hrl hb hs1 hs2 hq H1 H2 H12
      go_wp2_with fail
      refine HR1.out.mono ?_
      rintro e w5 ⟨Y, yc, rfl, hoy, hw5⟩
      have HA5 := Lib.hid (HS1.out.also hw5)
      have HB5 := Lib.hid (HS2.out.also hw5)
      have HY5 := Lib.hid hoy
      have HR2 := Lib.hid (read_dk HB5.out.log.a b 0 rfl (by have : q = b.length := HQ.out; show b.length ≤ _; omega))
      rw [← HQ.out] at HR2
      clear hoy hw5 HR1 HS1 HS2
      go_wp2_with fail
      refine HR2.out.mono ?_
      rintro e w6 ⟨Z, zc, rfl, hoz, hw6⟩
      have HA6 := Lib.hid (HA5.out.also hw6)
      have HB6 := Lib.hid (HB5.out.also hw6)
      have HBY := Lib.hid (bytes_is Y Z q yc q zc b b w6 HQ.out HQ.out (HY5.out.new hw6).rb (OB.rb hoz) true (by rw [beq_self_eq_true]))
      clear hoz hw6 HR2 HA5 HB5 HY5
      go_wp2_with fail
      refine HBY.out.mono ?_
      rintro e w7 ⟨rfl, rfl⟩
      obtain ⟨jj, hjj⟩ : ∃ jj, jj = al.length := ⟨_, rfl⟩
      have hjb : jj ≤ 100 := by rw [hjj, HALL.out]; omega
      have HJJ := Lib.hid hjj
      have HRA := Lib.hid (recs_any HA6.out.log (by rw [← hjj]; omega) HLB.out)
      clear hjj HBY
      go_wp2_with fail
      refine HRA.out.mono ?_
      rintro e w8 ⟨RA, rac, rfl, hra, hw8⟩
      rw [← HJJ.out] at hra ⊢
      have HB8 := Lib.hid (HB6.out.also hw8)
      have HRA8 := Lib.hid hra
      have HRB := Lib.hid (recs_any HB8.out.log (by rw [← HJJ.out]; omega) HLB.out)
      clear hra hw8 HRA HA6 HB6
      go_wp2_with fail
      refine HRB.out.mono ?_
      rintro e w9 ⟨RB_, rbc, rfl, hrb, hw9⟩
      rw [← HJJ.out] at hrb ⊢
      have HB9 := Lib.hid (HB8.out.also hw9)
      have HRO := Lib.hid (rows_same RA RB_ jj rac jj rbc al w9 HJJ.out HJJ.out (by unfold maxLen; omega) (HRA8.out.new hw9).rr hrb.rr)
      clear hrb hw9 HRB HB8 HRA8
      go_wp2_with fail
      refine HRO.out.mono ?_
      rintro e w10 ⟨rfl, hw10⟩
      have HB10 := Lib.hid (HB9.out.also hw10)
      clear hw10 HRO HB9
      go_wp2_with fail
      refine (wakes7_any _).mono ?_
      rintro e w11 ⟨rfl, hw11⟩
      have HFI := Lib.hid (New.trans HB10.out.new hw11)
      clear hw11
      go_wp2_with fail
      go_ret
      exact ⟨rfl, HFI.out⟩
end Go.Proofs.Ytemgiodakoojiaa
