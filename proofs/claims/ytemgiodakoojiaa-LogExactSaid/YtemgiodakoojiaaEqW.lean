/- hanselaw07.LogExact: the walk. -/
import Derived.Test.YtemgiodakoojiaaEqP
import Derived.Deep.RegionHeld3
import Derived.BigQuiet
namespace Go.Proofs.Ytemgiodakoojiaa
set_option linter.unusedVariables false
open Go.RowKit
open Go.Proofs.Ytemgiodakoojiaa.Frm
open Go.Proofs.Ytemgiodakoojiaa.Jr
/-- a new disk and the page's -/
theorem twins_new {w w1 : World} {dg : Nat} (h : DiskAt (Since w) w w1 dg none 0 St.new) :
    Twins (fun i => w.heap.size ≤ i ∧ i < w1.heap.size) (fun i => i = w1.heap.size) w (w1.alloc (.cells (dkc none 0 0 0 false false 0) 53)) dg w1.heap.size false false 0 := by
  have hn : New w1 (w1.alloc (.cells (dkc none 0 0 0 false false 0) 53)) := (Below.refl _ _).alloc (Nat.le_refl _) _
  refine ⟨none, 0, none, 0, [], 0, 0, 0, (DiskB.of_new (New.refl w) h).also hn, ⟨⟨heap_alloc_new w1 _, OB.nil _ _ _, Nat.zero_le _, Nat.le_refl _, by decide⟩, rfl, (fun i hi => by cases hi), ?_, New.trans h.fr.since hn⟩, ?_, (fun h => by cases h), (fun h => by cases h), Nat.le_refl _⟩
  · rintro i rfl
    rw [World.size_alloc]
    exact ⟨h.fr.since.size, Nat.lt_succ_self _⟩
  · rintro i hi rfl
    omega
set_option maxRecDepth 20000 in
set_option maxHeartbeats 16000000 in
theorem jexact_law (A : Option Addr) (n c : Nat) (ls : List Actt) (w : World) (hn : n = ls.length) (_ : n ≤ c) (_ : c ≤ maxLen) (hr : RA w A ls) :
    Calls Try.prog 9 #[.slice A n c] w fun e w' => e = .returned (.bool true) ∧ New w w' := by
  have HN := Lib.hid hn
  have HRA := Lib.hid hr
  have HHV := Lib.hid (heavy_any A n c ls w hn hr)
  clear hn hr
  go_enter Try.func9, Try.ntmps9
  go_wp2_with fail
  refine HHV.out.mono ?_
  rintro e w' ⟨rfl, bb, rfl, hlight⟩
  cases bb with
  | true =>
    go_wp2_with fail
    go_ret
    exact ⟨rfl, New.refl _⟩
  | false =>
    have HTOT := Lib.hid (hlight rfl)
    clear hlight HHV
    go_wp2_with fail
    refine (disk_new w).mono ?_
    rintro e w1 ⟨dg, rfl, hd1⟩
    obtain ⟨k, hk⟩ : ∃ k, k = w1.heap.size := ⟨_, rfl⟩
    have HTW := Lib.hid (twins_new hd1)
    have HK := Lib.hid hk
    clear hd1 hk
    go_wp2_with fail
    refine (opened_any HTW.out (by omega)).mono ?_
    rintro e w3 ⟨g3, rfl, hal⟩
    rw [← HK.out] at hal ⊢
    have HAL : Hid (Alike w w3 g3 dg k (tot ls 0 + 9 * 0)) := hal
    clear hal HTW
    go_wp2_with fail
    go_loopw [5, 6] (fun lp i wr => ∃ (j gj : Nat), lp = .pointer (some ⟨gj, 0, none⟩) ∧ i = .int .i64 j ∧ j ≤ n ∧ j ≤ 50 ∧ Hid (Alike w wr gj dg k (tot ls j + 9 * j))) (fun _ i _ => n - (intOf i).toNat)
    case atStart => exact ⟨0, g3, rfl, rfl, Nat.zero_le _, by omega, HAL⟩
    case round =>
      obtain ⟨j, gj, rfl, rfl, hj, hj50, HA⟩ := hrel
      obtain ⟨F, G, A, c, B, d, b, s, tr, x, y, h1, h2, h3, h4, h5, h6⟩ := HA.out
      have hbb : b.length ≤ 300000 := by have := tot_mono ls hj50; have := HTOT.out; omega
      have HSM := Lib.hid (same_any h1.log h2.a (by show b.length ≤ _; omega))
      have H1 := Lib.hid h1
      have H2 := Lib.hid h2
      have H12 := Lib.hid h3
      have HXY := Lib.hid h4
      have HPE := Lib.hid h5
      have HBL := Lib.hid h6
      have HBB := Lib.hid hbb
      clear h1 h2 h3 h4 h5 h6 hbb HA
      by_cases hlt : j < n ∧ j < 50
      · obtain ⟨hlt, h50⟩ := hlt
        obtain ⟨r, hl⟩ : ∃ r, ls[j]? = some r := ⟨_, List.getElem?_eq_getElem (by rw [← HN.out]; exact hlt)⟩
        obtain ⟨ad, C, e0, rfl, hc0, hc1, hc2, hd, hdm, hb⟩ := HRA.out j r hl
        obtain ⟨a, N, t⟩ := r
        simp only at hc0 hc1 hc2 hd hb
        obtain ⟨m, hm⟩ : ∃ m, m = t.length := ⟨_, rfl⟩
        rw [← hm] at hc2 hd
        have HM := Lib.hid hm
        have HCB := Lib.hid hb
        have HTS : Hid (tot ls (j + 1) = tot ls j + m) := by show _ = _; rw [tot_succ hl]; rw [hm]
        have hmb : m ≤ 262144 := by have := tot_mono ls (show j + 1 ≤ 50 by omega); have := HTOT.out; have := HTS.out; omega
        have HC0 := Lib.hid hc0
        have HC1 := Lib.hid hc1
        have HC2 := Lib.hid hc2
        have hji : (j : Int) < (n : Int) := by omega
        have hj5i : (j : Int) < 50 := by omega
        clear hl hm hb hc0 hc1 hc2
        go_wp2_with fail
        refine HSM.out.mono ?_
        rintro e w4 ⟨rfl, hw4⟩
        have K1 := Lib.hid (H1.out.also hw4)
        have K2 := Lib.hid (H2.out.also hw4)
        have hn4 := K1.out.new
        have hc0 := (hn4.cell (World.block_lt_of_cell? w _ HC0.out)).trans HC0.out
        have hc1 := (hn4.cell (World.block_lt_of_cell? w _ HC1.out)).trans HC1.out
        have hc2 := (hn4.cell (World.block_lt_of_cell? w _ HC2.out)).trans HC2.out
        have HN4 := Lib.hid hn4
        clear hw4 HSM H1 H2 HC0 HC1 HC2 hn4
        -- ARMS
        go_wp2_with fail
        refine (twin_any C m e0 t _ HM.out ((HCB.out.new HN4.out).alloc _) (by omega)).mono ?_
        rintro e w5 ⟨X, cx, rfl, ox, hw5⟩
        have halw : New w4 (w4.alloc (.cells #[.int .i64 a, .int .i64 N, .slice C m e0] 57)) := (Below.refl _ _).alloc (Nat.le_refl _) _
        have hn45 := New.trans halw hw5
        obtain ⟨ga, hga⟩ : ∃ ga, ga = w4.heap.size := ⟨_, rfl⟩
        have hbx5 : w5.heap[ga]? = some (.cells #[.int .i64 a, .int .i64 N, .slice C m e0] 57 (0, 0)) := by
          rw [hga]
          exact (hw5.block _ (by rw [World.size_alloc]; exact Nat.lt_succ_self _)).trans (heap_alloc_new w4 _)
        have ox5 : OBs w5 ga X m cx t := OB.base_le ox (by rw [hga, World.size_alloc]; exact Nat.le_succ _)
        have hxne : ∀ i, blk X = some i → i ≠ ga := fun i hi e => by
          have := (OB.lt ox hi).1
          rw [World.size_alloc] at this
          omega
        obtain ⟨E, hE⟩ : ∃ E : Nat → Prop, E = fun i => i = ga ∨ blk X = some i := ⟨_, rfl⟩
        have hE5 : ∀ i, E i → w4.heap.size ≤ i ∧ i < w5.heap.size := fun i hi => by
          rw [hE] at hi
          rcases hi with rfl | hi
          · exact ⟨by omega, (Array.getElem?_eq_some_iff.1 hbx5).1⟩
          · have := OB.lt ox5 hi; omega
        have hD : Duo E F G w w5 w5 gj dg A c ⟨b, s, false, tr, x⟩ (parts b).1 (parts b).2.1 k B d ⟨b, s, false, tr, y⟩ :=
          ⟨K1.out.also hn45, K2.out.also hn45, H12.out, Keep.refl _ _, ⟨fun i hi => (hE5 i hi).2, fun i hi hf => by have := (hE5 i hi).1; have := (K1.out.lo i hf).2; omega⟩, ⟨fun i hi => (hE5 i hi).2, fun i hi hf => by have := (hE5 i hi).1; have := (K2.out.lo i hf).2; omega⟩⟩
        have HBX : Hid (∀ w', Keep (fun i => ¬ E i) w5 w' → w'.heap[ga]? = some (.cells #[.int .i64 a, .int .i64 N, .slice C m e0] 57 (0, 0)) ∧ OBs w' ga X m cx t) := fun w' hk =>
          ⟨(hk.block ga (Array.getElem?_eq_some_iff.1 hbx5).1 (fun h => h (by rw [hE]; exact .inl rfl))).trans hbx5, OB.keep ox5 hk (fun i hi h => h (by rw [hE]; exact .inr hi))⟩
        have HES : Hid (∀ i, blk X = some i → E i ∧ w.heap.size ≤ i) := fun i hi => ⟨by rw [hE]; exact .inr hi, by have := (OB.lt ox5 hi).1; have := HN4.out.size; omega⟩
        have HXN := Lib.hid hxne
        have b0 : w5.cell? ⟨ga, 0, none⟩ = some (.int .i64 a) := cell_of_row _ _ 0 _ _ _ hbx5
        have b1 : w5.cell? ⟨ga, 1, none⟩ = some (.int .i64 N) := cell_of_row _ _ 1 _ _ _ hbx5
        have b2 : w5.cell? ⟨ga, 2, none⟩ = some (.slice C m e0) := cell_of_row _ _ 2 _ _ _ hbx5
        rw [← hga]
        have D := Lib.hid hD
        have HB2 : Hid (∀ w', Keep (fun i => ¬ E i) w5 w' → w'.cell? ⟨ga, 2, none⟩ = some (.slice C m e0)) := fun w' hk => cell_of_row _ _ 2 _ _ _ (HBX.out w' hk).1
        have HMT : Hid (b.length + 9 + m ≤ tot ls (j + 1) + 9 * (j + 1)) := by show _ ≤ _; have := HBL.out; have := HTS.out; omega
        have HOX := Lib.hid ox5
        have HLIM : Hid (tot ls (j + 1) + 9 * (j + 1) ≤ 300000) := by show _ ≤ _; have := tot_mono ls (show j + 1 ≤ 50 by omega); have := HTOT.out; omega
        clear ox hw5 halw hn45 hga hbx5 ox5 hxne hE hE5 hD K1 K2 hc0 hc1 hc2 HN4 H12
        obtain ⟨q, hq, hq8⟩ := mod8 a
        have hq8' : q < 3 ∨ q = 3 ∨ q = 4 ∨ q = 5 ∨ q = 6 ∨ q = 7 := by omega
        clear hq8
        rcases hq8' with hq3 | rfl | rfl | rfl | rfl | rfl
        · skip
          have dq3 : ((q : Int) == 3) = false := by simp; omega
          have dq4 : ((q : Int) == 4) = false := by simp; omega
          have dq5 : ((q : Int) == 5) = false := by simp; omega
          have dq6 : ((q : Int) == 6) = false := by simp; omega
          have dq7 : ((q : Int) == 7) = false := by simp; omega
          clear hq3
          by_cases hb_ : (131071 : Int) < (m : Int)
          · have hbig : (131071 : Int) < (m : Int) := hb_
            have hbt : 131071 < t.length := by have := HM.out; omega
            have HRS := Lib.hid hbt
            have HBI := Lib.hid hbig
            clear hbig hbt
            go_wp2_with fail
            go_region_held3 (fun v => v.cell? ⟨ga, 2, none⟩ = some (.slice C m e0)) ((first | exact b2 | exact HC6.out | exact HC7.out)) ((first
              | (go_at_call 13; refine (lg_append_no gj X m cx w5.drew HBI.out).mono ?_; rintro e w6 ⟨rfl, rfl⟩; obtain ⟨w6, hw6⟩ : ∃ w6 : World, w6 = w5.drew := ⟨_, rfl⟩; rw [← hw6]; have D6 : Hid (Duo E F G w w5 w6 gj dg A c ⟨b, s, false, tr, x⟩ (parts b).1 (parts b).2.1 k B d ⟨b, s, false, tr, y⟩) := (by rw [hw6]; exact D.out.drew); clear hw6; have HC6 := Lib.hid (HB2.out w6 D6.out.keep))
              | (go_at_call 37; refine (radd D6.out.r.a C m e0 t HM.out (HCB.out.new D6.out.l.new) (by omega) (by have := HBB.out; show b.length ≤ _; omega) 5 ⟨b, s, false, tr, y⟩ (by rw [if_pos HRS.out])).mono ?_; intro e w7 hd; obtain ⟨B7, d7, rfl, hD7⟩ := D6.out.ref hd; have D7 := Lib.hid hD7; clear hd hD7; have HC7 := Lib.hid (HB2.out w7 D7.out.keep))))
            have HGO : Hid (Goes E w w5 w7 gj dg k (tot ls (j + 1) + 9 * (j + 1))) := D7.out.goes HXY.out HPE.out (by have := HMT.out; omega)
            clear D D6 D7 HC6 HC7 hb_ HRS HBI
            have hke : Keep (fun i => ¬ E i) w5 w7 := by obtain ⟨_, _, _, _, _, _, _, _, _, _, _, _, _, _, _, _, _, hk, _, _⟩ := HGO.out; exact hk
            have HSPO := Lib.hid (spoil_any X m cx ga t w7 (HBX.out w7 hke).2)
            have HBX7 := Lib.hid (HBX.out w7 hke).1
            have HOX7 := Lib.hid (HBX.out w7 hke).2
            clear hke
            go_wp2_with fail
            refine HSPO.out.mono ?_
            rintro e w8 ⟨rfl, _, hk8, _⟩
            have hbx8 : w8.heap[ga]? = some (.cells #[.int .i64 a, .int .i64 N, .slice C m e0] 57 (0, 0)) := (hk8.block ga (Array.getElem?_eq_some_iff.1 HBX7.out).1 (fun h => HXN.out ga h rfl)).trans HBX7.out
            have o0 : w8.cell? ⟨ga, 0, none⟩ = some (.int .i64 a) := cell_of_row _ _ 0 _ _ _ hbx8
            obtain ⟨F9, G9, A9, c9, B9, d9, b9, s9, tr9, x9, y9, h1, h2, h3, h4, h5, h6⟩ := HGO.out.spoil hk8 (fun i hi => HES.out i hi)
            have o2 : w8.cell? ⟨k, 2, none⟩ = some (.bool false) := h2.a.c2
            have H1 := Lib.hid h1
            have H2 := Lib.hid h2
            have H3 := Lib.hid h3
            have H4 := Lib.hid h4
            have H5 := Lib.hid h5
            have HB9 := Lib.hid h6
            have HOFF := Lib.hid (fun nn => off_dk (h1.log.a.drewN nn))
            clear hk8 hbx8 h1 h2 h3 h4 h5 h6 HSPO HGO HBX7 HOX7 b0 b1 b2
            go_wp2_with fail
            go_quiet ((go_at_call 39; exact quiet_id (HOFF.out _)))
            go_wp2_with fail
            obtain ⟨w9, hw9⟩ : ∃ w9 : World, w9 = w8.drewN nq := ⟨_, rfl⟩
            have hn89 : New w8 w9 := by rw [hw9]; exact New.drewN (New.refl _) nq
            have h1 := H1.out.also hn89
            have h2 := H2.out.also hn89
            have h3 := H3.out
            have h4 := H4.out
            have h5 := H5.out
            have h6 := HB9.out
            rw [← hw9]
            clear hw9 hn89 o0 o2 H1 H2 H3 H4 H5 HOFF
            have hn9 : New w w9 := h1.new
            have hbb9 : b9.length ≤ 300000 := by have := HLIM.out; omega
            have HRD := Lib.hid (read_dk h1.log.a b9 0 rfl (by show b9.length ≤ _; omega))
            obtain ⟨q9, hq9⟩ : ∃ q9, q9 = b9.length := ⟨_, rfl⟩
            rw [← hq9] at HRD
            have HQ9 := Lib.hid hq9
            have HA9 : Hid (Alike w w9 gj dg k (tot ls (j + 1) + 9 * (j + 1))) := ⟨F9, G9, A9, c9, B9, d9, b9, s9, tr9, x9, y9, h1, h2, h3, h4, h5, h6⟩
            have HR9 := Lib.hid h2
            clear h1 h2 h3 h4 h5 h6 hn9 hbb9 hq9
            go_wp2_with fail
            refine HRD.out.mono ?_
            rintro e w10 ⟨Y1, yc1, rfl, oy1, hw10⟩
            have HR10 := Lib.hid (HR9.out.also hw10)
            have HRD2 := Lib.hid (read_dr HR10.out.a b9 0 rfl (by have := HQ9.out; have := HLIM.out; have := HB9.out; show b9.length ≤ _; omega))
            rw [← HQ9.out] at HRD2
            have HY1 := Lib.hid oy1
            have HW10 := Lib.hid hw10
            clear oy1 hw10 HRD HR9
            go_wp2_with fail
            refine HRD2.out.mono ?_
            rintro e w11 ⟨Y2, yc2, rfl, oy2, hw11⟩
            have HBY := Lib.hid (bytes_is Y1 Y2 q9 yc1 q9 yc2 b9 b9 w11 HQ9.out HQ9.out (HY1.out.new hw11).rb (OB.rb oy2) true (by rw [beq_self_eq_true]))
            have HA11 : Hid (Alike w w11 gj dg k (tot ls (j + 1) + 9 * (j + 1))) := by
              obtain ⟨F, G, A, c, B, d, b, s, tr, x, y, h1, h2, h3, h4, h5, h6⟩ := HA9.out
              have hn := New.trans HW10.out hw11
              exact ⟨F, G, A, c, B, d, b, s, tr, x, y, h1.also hn, h2.also hn, h3, h4, h5, h6⟩
            clear oy2 hw11 HRD2 HA9 HR10
            go_wp2_with fail
            refine HBY.out.mono ?_
            rintro e w12 ⟨rfl, rfl⟩
            go_wp2_with fail
            go_roundw
            case rel => exact ⟨j + 1, gj, rfl, by go_num, by omega, by omega, HA11⟩
            case measure => simp [intOf]; omega
          · have hsm : m ≤ 131071 := by omega
            have hst : ¬ 131071 < t.length := by have := HM.out; omega
            have HST_ : Hid (t.length ≤ 131071) := by show _ ≤ _; omega
            obtain ⟨b', hb'⟩ : ∃ b', b' = b ++ seal_ (82 :: t) := ⟨_, rfl⟩
            have HB' := Lib.hid hb'
            clear hb' hst hb_
            go_wp2_with fail
            go_region_held3 (fun v => v.cell? ⟨ga, 2, none⟩ = some (.slice C m e0)) ((first | exact b2 | exact HC6.out | exact HC7.out)) ((first
              | (go_at_call 13; refine (lg_append D.out.drew.l.log X m cx t HM.out HOX.out.rb hsm (by have := HBB.out; omega) (by have := (parts_small b).2.1; have := HBB.out; omega)).mono ?_; rintro e w6 ⟨A6, c6, rfl, h6⟩; have D6 := Lib.hid (D.out.drew.log h6); clear h6; have HC6 := Lib.hid (HB2.out w6 D6.out.keep))
              | (go_at_call 37; refine (radd D6.out.r.a C m e0 t HM.out (HCB.out.new D6.out.l.new) (by omega) (by have := HBB.out; show b.length ≤ _; omega) 0 ⟨b ++ seal_ (82 :: t), s, false, tr, y⟩ (by rw [if_neg (by have := HST_.out; omega)]; rfl)).mono ?_; intro e w7 hd; obtain ⟨B7, d7, rfl, hD7⟩ := D6.out.ref hd; have D7 := Lib.hid hD7; clear hd hD7; have HC7 := Lib.hid (HB2.out w7 D7.out.keep))))
            have hpa := parts_add b t HPE.out HST_.out
            have hD7 := D7.out
            rw [← HB'.out] at hpa hD7
            rw [show (parts b).1 = (parts b').1 from by rw [hpa], show (parts b).2.1 ++ [t] = (parts b').2.1 from by rw [hpa]] at hD7
            have HGO : Hid (Goes E w w5 w7 gj dg k (tot ls (j + 1) + 9 * (j + 1))) := hD7.goes HXY.out (by rw [hpa]) (by have := HMT.out; rw [HB'.out, List.length_append, seal_length, List.length_cons]; have := HM.out; omega)
            clear D D6 D7 HC6 HC7 hpa hD7 HST_
            have hke : Keep (fun i => ¬ E i) w5 w7 := by obtain ⟨_, _, _, _, _, _, _, _, _, _, _, _, _, _, _, _, _, hk, _, _⟩ := HGO.out; exact hk
            have HSPO := Lib.hid (spoil_any X m cx ga t w7 (HBX.out w7 hke).2)
            have HBX7 := Lib.hid (HBX.out w7 hke).1
            have HOX7 := Lib.hid (HBX.out w7 hke).2
            clear hke
            go_wp2_with fail
            refine HSPO.out.mono ?_
            rintro e w8 ⟨rfl, _, hk8, _⟩
            have hbx8 : w8.heap[ga]? = some (.cells #[.int .i64 a, .int .i64 N, .slice C m e0] 57 (0, 0)) := (hk8.block ga (Array.getElem?_eq_some_iff.1 HBX7.out).1 (fun h => HXN.out ga h rfl)).trans HBX7.out
            have o0 : w8.cell? ⟨ga, 0, none⟩ = some (.int .i64 a) := cell_of_row _ _ 0 _ _ _ hbx8
            obtain ⟨F9, G9, A9, c9, B9, d9, b9, s9, tr9, x9, y9, h1, h2, h3, h4, h5, h6⟩ := HGO.out.spoil hk8 (fun i hi => HES.out i hi)
            have o2 : w8.cell? ⟨k, 2, none⟩ = some (.bool false) := h2.a.c2
            have H1 := Lib.hid h1
            have H2 := Lib.hid h2
            have H3 := Lib.hid h3
            have H4 := Lib.hid h4
            have H5 := Lib.hid h5
            have HB9 := Lib.hid h6
            have HOFF := Lib.hid (fun nn => off_dk (h1.log.a.drewN nn))
            clear hk8 hbx8 h1 h2 h3 h4 h5 h6 HSPO HGO HBX7 HOX7 b0 b1 b2
            go_wp2_with fail
            go_quiet ((go_at_call 39; exact quiet_id (HOFF.out _)))
            go_wp2_with fail
            obtain ⟨w9, hw9⟩ : ∃ w9 : World, w9 = w8.drewN nq := ⟨_, rfl⟩
            have hn89 : New w8 w9 := by rw [hw9]; exact New.drewN (New.refl _) nq
            have h1 := H1.out.also hn89
            have h2 := H2.out.also hn89
            have h3 := H3.out
            have h4 := H4.out
            have h5 := H5.out
            have h6 := HB9.out
            rw [← hw9]
            clear hw9 hn89 o0 o2 H1 H2 H3 H4 H5 HOFF
            have hn9 : New w w9 := h1.new
            have hbb9 : b9.length ≤ 300000 := by have := HLIM.out; omega
            have HRD := Lib.hid (read_dk h1.log.a b9 0 rfl (by show b9.length ≤ _; omega))
            obtain ⟨q9, hq9⟩ : ∃ q9, q9 = b9.length := ⟨_, rfl⟩
            rw [← hq9] at HRD
            have HQ9 := Lib.hid hq9
            have HA9 : Hid (Alike w w9 gj dg k (tot ls (j + 1) + 9 * (j + 1))) := ⟨F9, G9, A9, c9, B9, d9, b9, s9, tr9, x9, y9, h1, h2, h3, h4, h5, h6⟩
            have HR9 := Lib.hid h2
            clear h1 h2 h3 h4 h5 h6 hn9 hbb9 hq9
            go_wp2_with fail
            refine HRD.out.mono ?_
            rintro e w10 ⟨Y1, yc1, rfl, oy1, hw10⟩
            have HR10 := Lib.hid (HR9.out.also hw10)
            have HRD2 := Lib.hid (read_dr HR10.out.a b9 0 rfl (by have := HQ9.out; have := HLIM.out; have := HB9.out; show b9.length ≤ _; omega))
            rw [← HQ9.out] at HRD2
            have HY1 := Lib.hid oy1
            have HW10 := Lib.hid hw10
            clear oy1 hw10 HRD HR9
            go_wp2_with fail
            refine HRD2.out.mono ?_
            rintro e w11 ⟨Y2, yc2, rfl, oy2, hw11⟩
            have HBY := Lib.hid (bytes_is Y1 Y2 q9 yc1 q9 yc2 b9 b9 w11 HQ9.out HQ9.out (HY1.out.new hw11).rb (OB.rb oy2) true (by rw [beq_self_eq_true]))
            have HA11 : Hid (Alike w w11 gj dg k (tot ls (j + 1) + 9 * (j + 1))) := by
              obtain ⟨F, G, A, c, B, d, b, s, tr, x, y, h1, h2, h3, h4, h5, h6⟩ := HA9.out
              have hn := New.trans HW10.out hw11
              exact ⟨F, G, A, c, B, d, b, s, tr, x, y, h1.also hn, h2.also hn, h3, h4, h5, h6⟩
            clear oy2 hw11 HRD2 HA9 HR10
            go_wp2_with fail
            refine HBY.out.mono ?_
            rintro e w12 ⟨rfl, rfl⟩
            go_wp2_with fail
            go_roundw
            case rel => exact ⟨j + 1, gj, rfl, by go_num, by omega, by omega, HA11⟩
            case measure => simp [intOf]; omega
        · skip
          cases tr with
          | false =>
            go_wp2_with fail
            refine (lg_sync D.out.l.log 0 ⟨b, b.length, false, false, x⟩ rfl).mono ?_
            rintro e w6 ⟨A6, c6, rfl, h6⟩
            have D6 := Lib.hid (D.out.log h6)
            clear h6
            go_wp2_with fail
            refine (sync_dr D6.out.r.a 0 ⟨b, b.length, false, false, y⟩ rfl).mono ?_
            intro e w7 hd
            obtain ⟨B7, d7, rfl, hD7⟩ := D6.out.ref hd
            have HGO : Hid (Goes E w w5 w7 gj dg k (tot ls (j + 1) + 9 * (j + 1))) := hD7.goes HXY.out HPE.out (by have := HMT.out; omega)
            clear D D6 hd hD7
            have hke : Keep (fun i => ¬ E i) w5 w7 := by obtain ⟨_, _, _, _, _, _, _, _, _, _, _, _, _, _, _, _, _, hk, _, _⟩ := HGO.out; exact hk
            have HSPO := Lib.hid (spoil_any X m cx ga t w7 (HBX.out w7 hke).2)
            have HBX7 := Lib.hid (HBX.out w7 hke).1
            have HOX7 := Lib.hid (HBX.out w7 hke).2
            clear hke
            go_wp2_with fail
            refine HSPO.out.mono ?_
            rintro e w8 ⟨rfl, _, hk8, _⟩
            have hbx8 : w8.heap[ga]? = some (.cells #[.int .i64 a, .int .i64 N, .slice C m e0] 57 (0, 0)) := (hk8.block ga (Array.getElem?_eq_some_iff.1 HBX7.out).1 (fun h => HXN.out ga h rfl)).trans HBX7.out
            have o0 : w8.cell? ⟨ga, 0, none⟩ = some (.int .i64 a) := cell_of_row _ _ 0 _ _ _ hbx8
            obtain ⟨F9, G9, A9, c9, B9, d9, b9, s9, tr9, x9, y9, h1, h2, h3, h4, h5, h6⟩ := HGO.out.spoil hk8 (fun i hi => HES.out i hi)
            have o2 : w8.cell? ⟨k, 2, none⟩ = some (.bool false) := h2.a.c2
            have H1 := Lib.hid h1
            have H2 := Lib.hid h2
            have H3 := Lib.hid h3
            have H4 := Lib.hid h4
            have H5 := Lib.hid h5
            have HB9 := Lib.hid h6
            have HOFF := Lib.hid (fun nn => off_dk (h1.log.a.drewN nn))
            clear hk8 hbx8 h1 h2 h3 h4 h5 h6 HSPO HGO HBX7 HOX7 b0 b1 b2
            go_wp2_with fail
            go_quiet ((go_at_call 39; exact quiet_id (HOFF.out _)))
            go_wp2_with fail
            obtain ⟨w9, hw9⟩ : ∃ w9 : World, w9 = w8.drewN nq := ⟨_, rfl⟩
            have hn89 : New w8 w9 := by rw [hw9]; exact New.drewN (New.refl _) nq
            have h1 := H1.out.also hn89
            have h2 := H2.out.also hn89
            have h3 := H3.out
            have h4 := H4.out
            have h5 := H5.out
            have h6 := HB9.out
            rw [← hw9]
            clear hw9 hn89 o0 o2 H1 H2 H3 H4 H5 HOFF
            have hn9 : New w w9 := h1.new
            have hbb9 : b9.length ≤ 300000 := by have := HLIM.out; omega
            have HRD := Lib.hid (read_dk h1.log.a b9 0 rfl (by show b9.length ≤ _; omega))
            obtain ⟨q9, hq9⟩ : ∃ q9, q9 = b9.length := ⟨_, rfl⟩
            rw [← hq9] at HRD
            have HQ9 := Lib.hid hq9
            have HA9 : Hid (Alike w w9 gj dg k (tot ls (j + 1) + 9 * (j + 1))) := ⟨F9, G9, A9, c9, B9, d9, b9, s9, tr9, x9, y9, h1, h2, h3, h4, h5, h6⟩
            have HR9 := Lib.hid h2
            clear h1 h2 h3 h4 h5 h6 hn9 hbb9 hq9
            go_wp2_with fail
            refine HRD.out.mono ?_
            rintro e w10 ⟨Y1, yc1, rfl, oy1, hw10⟩
            have HR10 := Lib.hid (HR9.out.also hw10)
            have HRD2 := Lib.hid (read_dr HR10.out.a b9 0 rfl (by have := HQ9.out; have := HLIM.out; have := HB9.out; show b9.length ≤ _; omega))
            rw [← HQ9.out] at HRD2
            have HY1 := Lib.hid oy1
            have HW10 := Lib.hid hw10
            clear oy1 hw10 HRD HR9
            go_wp2_with fail
            refine HRD2.out.mono ?_
            rintro e w11 ⟨Y2, yc2, rfl, oy2, hw11⟩
            have HBY := Lib.hid (bytes_is Y1 Y2 q9 yc1 q9 yc2 b9 b9 w11 HQ9.out HQ9.out (HY1.out.new hw11).rb (OB.rb oy2) true (by rw [beq_self_eq_true]))
            have HA11 : Hid (Alike w w11 gj dg k (tot ls (j + 1) + 9 * (j + 1))) := by
              obtain ⟨F, G, A, c, B, d, b, s, tr, x, y, h1, h2, h3, h4, h5, h6⟩ := HA9.out
              have hn := New.trans HW10.out hw11
              exact ⟨F, G, A, c, B, d, b, s, tr, x, y, h1.also hn, h2.also hn, h3, h4, h5, h6⟩
            clear oy2 hw11 HRD2 HA9 HR10
            go_wp2_with fail
            refine HBY.out.mono ?_
            rintro e w12 ⟨rfl, rfl⟩
            go_wp2_with fail
            go_roundw
            case rel => exact ⟨j + 1, gj, rfl, by go_num, by omega, by omega, HA11⟩
            case measure => simp [intOf]; omega
          | true =>
            have hxy := HXY.out rfl
            subst hxy
            obtain ⟨b', e1, e2, hb'⟩ := crash_both b s true x x x
            have HE1 := Lib.hid e1
            have HE2 := Lib.hid e2
            have HB' := Lib.hid hb'
            clear e1 e2 hb'
            go_wp2_with fail
            refine (lg_sync D.out.l.log 7 ⟨b', s, true, false, 0⟩ (by show ((7 : Int), St.crash _ _) = _; rw [HE1.out])).mono ?_
            rintro e w6 ⟨A6, c6, rfl, h6⟩
            have D6 := Lib.hid (D.out.log h6)
            clear h6
            go_wp2_with fail
            refine (sync_dr D6.out.r.a 7 ⟨b', s, true, false, x⟩ (by show ((7 : Int), St.rcrash _ _) = _; rw [HE2.out])).mono ?_
            intro e w7 hd
            obtain ⟨B7, d7, rfl, hD7⟩ := D6.out.ref hd
            have HST : Hid (Stops E w w5 w7 dg k true (tot ls (j + 1) + 9 * (j + 1))) := hD7.stops (fun h => by cases h) (fun _ => rfl) (by have := HMT.out; have := HB'.out; omega)
            clear D D6 hd hD7
            have hke : Keep (fun i => ¬ E i) w5 w7 := by obtain ⟨_, _, _, _, _, _, _, _, _, _, _, _, _, _, _, _, _, hk, _, _⟩ := HST.out; exact hk
            have HSPO := Lib.hid (spoil_any X m cx ga t w7 (HBX.out w7 hke).2)
            have HBX7 := Lib.hid (HBX.out w7 hke).1
            have HOX7 := Lib.hid (HBX.out w7 hke).2
            clear hke
            go_wp2_with fail
            refine HSPO.out.mono ?_
            rintro e w8 ⟨rfl, _, hk8, _⟩
            have hbx8 : w8.heap[ga]? = some (.cells #[.int .i64 a, .int .i64 N, .slice C m e0] 57 (0, 0)) := (hk8.block ga (Array.getElem?_eq_some_iff.1 HBX7.out).1 (fun h => HXN.out ga h rfl)).trans HBX7.out
            have o0 : w8.cell? ⟨ga, 0, none⟩ = some (.int .i64 a) := cell_of_row _ _ 0 _ _ _ hbx8
            obtain ⟨F8, G8, tr8, hT⟩ := HST.out.spoil hk8 (fun i hi => HES.out i hi)
            have HT8 := Lib.hid hT
            obtain ⟨A8, c8, B8, d8, b8, s8, x8, y8, h1, h2, _, _, _, _⟩ := hT
            have o2 : w8.cell? ⟨k, 2, none⟩ = some (.bool true) := h2.a.c2
            have HOFF := Lib.hid (fun nn => off_dk (h1.disk.a.drewN nn))
            clear hk8 hbx8 h1 h2 HSPO HST HBX7 HOX7 b0 b1 b2
            go_wp2_with fail
            go_quiet ((go_at_call 39; exact quiet_id (HOFF.out _)))
            go_wp2_with fail
            obtain ⟨w8d, hw8d⟩ : ∃ w8d : World, w8d = w8.drewN nq := ⟨_, rfl⟩
            have hT9 : Twins F8 G8 w w8d dg k true tr8 (tot ls (j + 1) + 9 * (j + 1)) := by
              obtain ⟨A8, c8, B8, d8, b8, s8, x8, y8, h1, h2, h3, h4, h5, h6⟩ := HT8.out
              have hn : New w8 w8d := by rw [hw8d]; exact New.drewN (New.refl _) nq
              exact ⟨A8, c8, B8, d8, b8, s8, x8, y8, h1.also hn, h2.also hn, h3, h4, h5, h6⟩
            have HOPN := Lib.hid (opened_any hT9 (by have := HLIM.out; omega))
            rw [← hw8d]
            clear hw8d hT9 o0 o2 HT8 HOFF
            refine HOPN.out.mono ?_
            rintro e w9 ⟨g9, rfl, hal9⟩
            obtain ⟨F9, G9, A9, c9, B9, d9, b9, s9, tr9, x9, y9, h1, h2, h3, h4, h5, h6⟩ := hal9
            have HB9 := Lib.hid h6
            clear HOPN
            have hn9 : New w w9 := h1.new
            have hbb9 : b9.length ≤ 300000 := by have := HLIM.out; omega
            have HRD := Lib.hid (read_dk h1.log.a b9 0 rfl (by show b9.length ≤ _; omega))
            obtain ⟨q9, hq9⟩ : ∃ q9, q9 = b9.length := ⟨_, rfl⟩
            rw [← hq9] at HRD
            have HQ9 := Lib.hid hq9
            have HA9 : Hid (Alike w w9 g9 dg k (tot ls (j + 1) + 9 * (j + 1))) := ⟨F9, G9, A9, c9, B9, d9, b9, s9, tr9, x9, y9, h1, h2, h3, h4, h5, h6⟩
            have HR9 := Lib.hid h2
            clear h1 h2 h3 h4 h5 h6 hn9 hbb9 hq9
            go_wp2_with fail
            refine HRD.out.mono ?_
            rintro e w10 ⟨Y1, yc1, rfl, oy1, hw10⟩
            have HR10 := Lib.hid (HR9.out.also hw10)
            have HRD2 := Lib.hid (read_dr HR10.out.a b9 0 rfl (by have := HQ9.out; have := HLIM.out; have := HB9.out; show b9.length ≤ _; omega))
            rw [← HQ9.out] at HRD2
            have HY1 := Lib.hid oy1
            have HW10 := Lib.hid hw10
            clear oy1 hw10 HRD HR9
            go_wp2_with fail
            refine HRD2.out.mono ?_
            rintro e w11 ⟨Y2, yc2, rfl, oy2, hw11⟩
            have HBY := Lib.hid (bytes_is Y1 Y2 q9 yc1 q9 yc2 b9 b9 w11 HQ9.out HQ9.out (HY1.out.new hw11).rb (OB.rb oy2) true (by rw [beq_self_eq_true]))
            have HA11 : Hid (Alike w w11 g9 dg k (tot ls (j + 1) + 9 * (j + 1))) := by
              obtain ⟨F, G, A, c, B, d, b, s, tr, x, y, h1, h2, h3, h4, h5, h6⟩ := HA9.out
              have hn := New.trans HW10.out hw11
              exact ⟨F, G, A, c, B, d, b, s, tr, x, y, h1.also hn, h2.also hn, h3, h4, h5, h6⟩
            clear oy2 hw11 HRD2 HA9 HR10
            go_wp2_with fail
            refine HBY.out.mono ?_
            rintro e w12 ⟨rfl, rfl⟩
            go_wp2_with fail
            go_roundw
            case rel => exact ⟨j + 1, g9, rfl, by go_num, by omega, by omega, HA11⟩
            case measure => simp [intOf]; omega
        · skip
          by_cases hb_ : (131071 : Int) < (m : Int)
          · have hbig : (131071 : Int) < (m : Int) := hb_
            have hbt : 131071 < t.length := by have := HM.out; omega
            have HRS := Lib.hid hbt
            have HBI := Lib.hid hbig
            clear hbig hbt
            go_wp2_with fail
            go_region_held3 (fun v => v.cell? ⟨ga, 2, none⟩ = some (.slice C m e0)) ((first | exact b2 | exact HC6.out | exact HC7.out)) ((first
              | (go_at_call 26; refine (lg_compact_no gj X m cx w5.drew HBI.out).mono ?_; rintro e w6 ⟨rfl, rfl⟩; obtain ⟨w6, hw6⟩ : ∃ w6 : World, w6 = w5.drew := ⟨_, rfl⟩; rw [← hw6]; have D6 : Hid (Duo E F G w w5 w6 gj dg A c ⟨b, s, false, tr, x⟩ (parts b).1 (parts b).2.1 k B d ⟨b, s, false, tr, y⟩) := (by rw [hw6]; exact D.out.drew); clear hw6; have HC6 := Lib.hid (HB2.out w6 D6.out.keep))
              | (go_at_call 33; refine (rcompact D6.out.r.a C m e0 t HM.out (HCB.out.new D6.out.l.new) (by omega) (by have := HBB.out; show b.length ≤ _; omega) 5 ⟨b, s, false, tr, y⟩ (by rw [if_pos HRS.out])).mono ?_; intro e w7 hd; obtain ⟨B7, d7, rfl, hD7⟩ := D6.out.ref hd; have D7 := Lib.hid hD7; clear hd hD7; have HC7 := Lib.hid (HB2.out w7 D7.out.keep))))
            have HGO : Hid (Goes E w w5 w7 gj dg k (tot ls (j + 1) + 9 * (j + 1))) := D7.out.goes HXY.out HPE.out (by have := HMT.out; omega)
            clear D D6 D7 HC6 HC7 hb_ HRS HBI
            have hke : Keep (fun i => ¬ E i) w5 w7 := by obtain ⟨_, _, _, _, _, _, _, _, _, _, _, _, _, _, _, _, _, hk, _, _⟩ := HGO.out; exact hk
            have HSPO := Lib.hid (spoil_any X m cx ga t w7 (HBX.out w7 hke).2)
            have HBX7 := Lib.hid (HBX.out w7 hke).1
            have HOX7 := Lib.hid (HBX.out w7 hke).2
            clear hke
            go_wp2_with fail
            refine HSPO.out.mono ?_
            rintro e w8 ⟨rfl, _, hk8, _⟩
            have hbx8 : w8.heap[ga]? = some (.cells #[.int .i64 a, .int .i64 N, .slice C m e0] 57 (0, 0)) := (hk8.block ga (Array.getElem?_eq_some_iff.1 HBX7.out).1 (fun h => HXN.out ga h rfl)).trans HBX7.out
            have o0 : w8.cell? ⟨ga, 0, none⟩ = some (.int .i64 a) := cell_of_row _ _ 0 _ _ _ hbx8
            obtain ⟨F9, G9, A9, c9, B9, d9, b9, s9, tr9, x9, y9, h1, h2, h3, h4, h5, h6⟩ := HGO.out.spoil hk8 (fun i hi => HES.out i hi)
            have o2 : w8.cell? ⟨k, 2, none⟩ = some (.bool false) := h2.a.c2
            have H1 := Lib.hid h1
            have H2 := Lib.hid h2
            have H3 := Lib.hid h3
            have H4 := Lib.hid h4
            have H5 := Lib.hid h5
            have HB9 := Lib.hid h6
            have HOFF := Lib.hid (fun nn => off_dk (h1.log.a.drewN nn))
            clear hk8 hbx8 h1 h2 h3 h4 h5 h6 HSPO HGO HBX7 HOX7 b0 b1 b2
            go_wp2_with fail
            go_quiet ((go_at_call 39; exact quiet_id (HOFF.out _)))
            go_wp2_with fail
            obtain ⟨w9, hw9⟩ : ∃ w9 : World, w9 = w8.drewN nq := ⟨_, rfl⟩
            have hn89 : New w8 w9 := by rw [hw9]; exact New.drewN (New.refl _) nq
            have h1 := H1.out.also hn89
            have h2 := H2.out.also hn89
            have h3 := H3.out
            have h4 := H4.out
            have h5 := H5.out
            have h6 := HB9.out
            rw [← hw9]
            clear hw9 hn89 o0 o2 H1 H2 H3 H4 H5 HOFF
            have hn9 : New w w9 := h1.new
            have hbb9 : b9.length ≤ 300000 := by have := HLIM.out; omega
            have HRD := Lib.hid (read_dk h1.log.a b9 0 rfl (by show b9.length ≤ _; omega))
            obtain ⟨q9, hq9⟩ : ∃ q9, q9 = b9.length := ⟨_, rfl⟩
            rw [← hq9] at HRD
            have HQ9 := Lib.hid hq9
            have HA9 : Hid (Alike w w9 gj dg k (tot ls (j + 1) + 9 * (j + 1))) := ⟨F9, G9, A9, c9, B9, d9, b9, s9, tr9, x9, y9, h1, h2, h3, h4, h5, h6⟩
            have HR9 := Lib.hid h2
            clear h1 h2 h3 h4 h5 h6 hn9 hbb9 hq9
            go_wp2_with fail
            refine HRD.out.mono ?_
            rintro e w10 ⟨Y1, yc1, rfl, oy1, hw10⟩
            have HR10 := Lib.hid (HR9.out.also hw10)
            have HRD2 := Lib.hid (read_dr HR10.out.a b9 0 rfl (by have := HQ9.out; have := HLIM.out; have := HB9.out; show b9.length ≤ _; omega))
            rw [← HQ9.out] at HRD2
            have HY1 := Lib.hid oy1
            have HW10 := Lib.hid hw10
            clear oy1 hw10 HRD HR9
            go_wp2_with fail
            refine HRD2.out.mono ?_
            rintro e w11 ⟨Y2, yc2, rfl, oy2, hw11⟩
            have HBY := Lib.hid (bytes_is Y1 Y2 q9 yc1 q9 yc2 b9 b9 w11 HQ9.out HQ9.out (HY1.out.new hw11).rb (OB.rb oy2) true (by rw [beq_self_eq_true]))
            have HA11 : Hid (Alike w w11 gj dg k (tot ls (j + 1) + 9 * (j + 1))) := by
              obtain ⟨F, G, A, c, B, d, b, s, tr, x, y, h1, h2, h3, h4, h5, h6⟩ := HA9.out
              have hn := New.trans HW10.out hw11
              exact ⟨F, G, A, c, B, d, b, s, tr, x, y, h1.also hn, h2.also hn, h3, h4, h5, h6⟩
            clear oy2 hw11 HRD2 HA9 HR10
            go_wp2_with fail
            refine HBY.out.mono ?_
            rintro e w12 ⟨rfl, rfl⟩
            go_wp2_with fail
            go_roundw
            case rel => exact ⟨j + 1, gj, rfl, by go_num, by omega, by omega, HA11⟩
            case measure => simp [intOf]; omega
          · have hsm : m ≤ 131071 := by omega
            have hst : ¬ 131071 < t.length := by have := HM.out; omega
            have HST_ : Hid (t.length ≤ 131071) := by show _ ≤ _; omega
            clear hb_ hst
            cases tr with
            | false =>
              have hfl : 9 + t.length = (seal_ (83 :: t)).length := by rw [seal_length, List.length_cons]; omega
              have HFL := Lib.hid hfl
              clear hfl
              go_wp2_with fail
              go_region_held3 (fun v => v.cell? ⟨ga, 2, none⟩ = some (.slice C m e0)) ((first | exact b2 | exact HC6.out | exact HC7.out)) ((first
                | (go_at_call 26; refine (lg_compact D.out.drew.l.log X m cx t HM.out HOX.out.rb hsm).mono ?_; rintro e w6 ⟨A6, c6, rfl, h6⟩; have D6 := Lib.hid (D.out.drew.log h6); clear h6; have HC6 := Lib.hid (HB2.out w6 D6.out.keep))
                | (go_at_call 33; refine (rcompact D6.out.r.a C m e0 t HM.out (HCB.out.new D6.out.l.new) (by omega) (by have := HBB.out; show b.length ≤ _; omega) 0 ⟨seal_ (83 :: t), 9 + t.length, false, false, y⟩ (by rw [if_neg (by have := HST_.out; omega), HFL.out]; rfl)).mono ?_; intro e w7 hd; obtain ⟨B7, d7, rfl, hD7⟩ := D6.out.ref hd; have D7 := Lib.hid hD7; clear hd hD7; have HC7 := Lib.hid (HB2.out w7 D7.out.keep))))
              have hpa := parts_one t HST_.out
              obtain ⟨b', hb'⟩ : ∃ b', b' = seal_ (83 :: t) := ⟨_, rfl⟩
              have hD7 := D7.out
              have hfl := HFL.out
              rw [← hb'] at hpa hD7 hfl
              have HGO : Hid (Goes E w w5 w7 gj dg k (tot ls (j + 1) + 9 * (j + 1))) := hD7.goes2 (by rw [hpa]) (by rw [hpa]) (fun h => by cases h) (by rw [hpa]) (by rw [← hfl]; have := HMT.out; have := HM.out; omega)
              clear D D6 D7 HC6 HC7 hpa hD7 hfl hb' HST_ HFL
              have hke : Keep (fun i => ¬ E i) w5 w7 := by obtain ⟨_, _, _, _, _, _, _, _, _, _, _, _, _, _, _, _, _, hk, _, _⟩ := HGO.out; exact hk
              have HSPO := Lib.hid (spoil_any X m cx ga t w7 (HBX.out w7 hke).2)
              have HBX7 := Lib.hid (HBX.out w7 hke).1
              have HOX7 := Lib.hid (HBX.out w7 hke).2
              clear hke
              go_wp2_with fail
              refine HSPO.out.mono ?_
              rintro e w8 ⟨rfl, _, hk8, _⟩
              have hbx8 : w8.heap[ga]? = some (.cells #[.int .i64 a, .int .i64 N, .slice C m e0] 57 (0, 0)) := (hk8.block ga (Array.getElem?_eq_some_iff.1 HBX7.out).1 (fun h => HXN.out ga h rfl)).trans HBX7.out
              have o0 : w8.cell? ⟨ga, 0, none⟩ = some (.int .i64 a) := cell_of_row _ _ 0 _ _ _ hbx8
              obtain ⟨F9, G9, A9, c9, B9, d9, b9, s9, tr9, x9, y9, h1, h2, h3, h4, h5, h6⟩ := HGO.out.spoil hk8 (fun i hi => HES.out i hi)
              have o2 : w8.cell? ⟨k, 2, none⟩ = some (.bool false) := h2.a.c2
              have H1 := Lib.hid h1
              have H2 := Lib.hid h2
              have H3 := Lib.hid h3
              have H4 := Lib.hid h4
              have H5 := Lib.hid h5
              have HB9 := Lib.hid h6
              have HOFF := Lib.hid (fun nn => off_dk (h1.log.a.drewN nn))
              clear hk8 hbx8 h1 h2 h3 h4 h5 h6 HSPO HGO HBX7 HOX7 b0 b1 b2
              go_wp2_with fail
              go_quiet ((go_at_call 39; exact quiet_id (HOFF.out _)))
              go_wp2_with fail
              obtain ⟨w9, hw9⟩ : ∃ w9 : World, w9 = w8.drewN nq := ⟨_, rfl⟩
              have hn89 : New w8 w9 := by rw [hw9]; exact New.drewN (New.refl _) nq
              have h1 := H1.out.also hn89
              have h2 := H2.out.also hn89
              have h3 := H3.out
              have h4 := H4.out
              have h5 := H5.out
              have h6 := HB9.out
              rw [← hw9]
              clear hw9 hn89 o0 o2 H1 H2 H3 H4 H5 HOFF
              have hn9 : New w w9 := h1.new
              have hbb9 : b9.length ≤ 300000 := by have := HLIM.out; omega
              have HRD := Lib.hid (read_dk h1.log.a b9 0 rfl (by show b9.length ≤ _; omega))
              obtain ⟨q9, hq9⟩ : ∃ q9, q9 = b9.length := ⟨_, rfl⟩
              rw [← hq9] at HRD
              have HQ9 := Lib.hid hq9
              have HA9 : Hid (Alike w w9 gj dg k (tot ls (j + 1) + 9 * (j + 1))) := ⟨F9, G9, A9, c9, B9, d9, b9, s9, tr9, x9, y9, h1, h2, h3, h4, h5, h6⟩
              have HR9 := Lib.hid h2
              clear h1 h2 h3 h4 h5 h6 hn9 hbb9 hq9
              go_wp2_with fail
              refine HRD.out.mono ?_
              rintro e w10 ⟨Y1, yc1, rfl, oy1, hw10⟩
              have HR10 := Lib.hid (HR9.out.also hw10)
              have HRD2 := Lib.hid (read_dr HR10.out.a b9 0 rfl (by have := HQ9.out; have := HLIM.out; have := HB9.out; show b9.length ≤ _; omega))
              rw [← HQ9.out] at HRD2
              have HY1 := Lib.hid oy1
              have HW10 := Lib.hid hw10
              clear oy1 hw10 HRD HR9
              go_wp2_with fail
              refine HRD2.out.mono ?_
              rintro e w11 ⟨Y2, yc2, rfl, oy2, hw11⟩
              have HBY := Lib.hid (bytes_is Y1 Y2 q9 yc1 q9 yc2 b9 b9 w11 HQ9.out HQ9.out (HY1.out.new hw11).rb (OB.rb oy2) true (by rw [beq_self_eq_true]))
              have HA11 : Hid (Alike w w11 gj dg k (tot ls (j + 1) + 9 * (j + 1))) := by
                obtain ⟨F, G, A, c, B, d, b, s, tr, x, y, h1, h2, h3, h4, h5, h6⟩ := HA9.out
                have hn := New.trans HW10.out hw11
                exact ⟨F, G, A, c, B, d, b, s, tr, x, y, h1.also hn, h2.also hn, h3, h4, h5, h6⟩
              clear oy2 hw11 HRD2 HA9 HR10
              go_wp2_with fail
              refine HBY.out.mono ?_
              rintro e w12 ⟨rfl, rfl⟩
              go_wp2_with fail
              go_roundw
              case rel => exact ⟨j + 1, gj, rfl, by go_num, by omega, by omega, HA11⟩
              case measure => simp [intOf]; omega
            | true =>
              have hxy := HXY.out rfl
              subst hxy
              obtain ⟨b', e1, e2, hb'⟩ := crash_both b s true x x x
              have HE1 := Lib.hid e1
              have HE2 := Lib.hid e2
              have HB' := Lib.hid hb'
              clear e1 e2 hb'
              go_wp2_with fail
              go_region_held3 (fun v => v.cell? ⟨ga, 2, none⟩ = some (.slice C m e0)) ((first | exact b2 | exact HC6.out | exact HC7.out)) ((first
                | (go_at_call 26; refine (lg_compact_off D.out.drew.l.log X m cx t HM.out HOX.out.rb hsm).mono ?_; rintro e w6 ⟨A6, c6, rfl, h6⟩; rw [HE1.out] at h6; have D6 := Lib.hid (D.out.drew.log h6); clear h6; have HC6 := Lib.hid (HB2.out w6 D6.out.keep))
                | (go_at_call 33; refine (rcompact D6.out.r.a C m e0 t HM.out (HCB.out.new D6.out.l.new) (by omega) (by have := HBB.out; show b.length ≤ _; omega) 7 ⟨b', s, true, false, x⟩ (by rw [if_neg (by have := HST_.out; omega)]; show ((7 : Int), St.rcrash _ _) = _; rw [HE2.out])).mono ?_; intro e w7 hd; obtain ⟨B7, d7, rfl, hD7⟩ := D6.out.ref hd; have D7 := Lib.hid hD7; clear hd hD7; have HC7 := Lib.hid (HB2.out w7 D7.out.keep))))
              have HST : Hid (Stops E w w5 w7 dg k true (tot ls (j + 1) + 9 * (j + 1))) := D7.out.stops (fun h => by cases h) (fun _ => rfl) (by have := HMT.out; have := HB'.out; omega)
              clear D D6 D7 HC6 HC7 HST_
              have hke : Keep (fun i => ¬ E i) w5 w7 := by obtain ⟨_, _, _, _, _, _, _, _, _, _, _, _, _, _, _, _, _, hk, _, _⟩ := HST.out; exact hk
              have HSPO := Lib.hid (spoil_any X m cx ga t w7 (HBX.out w7 hke).2)
              have HBX7 := Lib.hid (HBX.out w7 hke).1
              have HOX7 := Lib.hid (HBX.out w7 hke).2
              clear hke
              go_wp2_with fail
              refine HSPO.out.mono ?_
              rintro e w8 ⟨rfl, _, hk8, _⟩
              have hbx8 : w8.heap[ga]? = some (.cells #[.int .i64 a, .int .i64 N, .slice C m e0] 57 (0, 0)) := (hk8.block ga (Array.getElem?_eq_some_iff.1 HBX7.out).1 (fun h => HXN.out ga h rfl)).trans HBX7.out
              have o0 : w8.cell? ⟨ga, 0, none⟩ = some (.int .i64 a) := cell_of_row _ _ 0 _ _ _ hbx8
              obtain ⟨F8, G8, tr8, hT⟩ := HST.out.spoil hk8 (fun i hi => HES.out i hi)
              have HT8 := Lib.hid hT
              obtain ⟨A8, c8, B8, d8, b8, s8, x8, y8, h1, h2, _, _, _, _⟩ := hT
              have o2 : w8.cell? ⟨k, 2, none⟩ = some (.bool true) := h2.a.c2
              have HOFF := Lib.hid (fun nn => off_dk (h1.disk.a.drewN nn))
              clear hk8 hbx8 h1 h2 HSPO HST HBX7 HOX7 b0 b1 b2
              go_wp2_with fail
              go_quiet ((go_at_call 39; exact quiet_id (HOFF.out _)))
              go_wp2_with fail
              obtain ⟨w8d, hw8d⟩ : ∃ w8d : World, w8d = w8.drewN nq := ⟨_, rfl⟩
              have hT9 : Twins F8 G8 w w8d dg k true tr8 (tot ls (j + 1) + 9 * (j + 1)) := by
                obtain ⟨A8, c8, B8, d8, b8, s8, x8, y8, h1, h2, h3, h4, h5, h6⟩ := HT8.out
                have hn : New w8 w8d := by rw [hw8d]; exact New.drewN (New.refl _) nq
                exact ⟨A8, c8, B8, d8, b8, s8, x8, y8, h1.also hn, h2.also hn, h3, h4, h5, h6⟩
              have HOPN := Lib.hid (opened_any hT9 (by have := HLIM.out; omega))
              rw [← hw8d]
              clear hw8d hT9 o0 o2 HT8 HOFF
              refine HOPN.out.mono ?_
              rintro e w9 ⟨g9, rfl, hal9⟩
              obtain ⟨F9, G9, A9, c9, B9, d9, b9, s9, tr9, x9, y9, h1, h2, h3, h4, h5, h6⟩ := hal9
              have HB9 := Lib.hid h6
              clear HOPN
              have hn9 : New w w9 := h1.new
              have hbb9 : b9.length ≤ 300000 := by have := HLIM.out; omega
              have HRD := Lib.hid (read_dk h1.log.a b9 0 rfl (by show b9.length ≤ _; omega))
              obtain ⟨q9, hq9⟩ : ∃ q9, q9 = b9.length := ⟨_, rfl⟩
              rw [← hq9] at HRD
              have HQ9 := Lib.hid hq9
              have HA9 : Hid (Alike w w9 g9 dg k (tot ls (j + 1) + 9 * (j + 1))) := ⟨F9, G9, A9, c9, B9, d9, b9, s9, tr9, x9, y9, h1, h2, h3, h4, h5, h6⟩
              have HR9 := Lib.hid h2
              clear h1 h2 h3 h4 h5 h6 hn9 hbb9 hq9
              go_wp2_with fail
              refine HRD.out.mono ?_
              rintro e w10 ⟨Y1, yc1, rfl, oy1, hw10⟩
              have HR10 := Lib.hid (HR9.out.also hw10)
              have HRD2 := Lib.hid (read_dr HR10.out.a b9 0 rfl (by have := HQ9.out; have := HLIM.out; have := HB9.out; show b9.length ≤ _; omega))
              rw [← HQ9.out] at HRD2
              have HY1 := Lib.hid oy1
              have HW10 := Lib.hid hw10
              clear oy1 hw10 HRD HR9
              go_wp2_with fail
              refine HRD2.out.mono ?_
              rintro e w11 ⟨Y2, yc2, rfl, oy2, hw11⟩
              have HBY := Lib.hid (bytes_is Y1 Y2 q9 yc1 q9 yc2 b9 b9 w11 HQ9.out HQ9.out (HY1.out.new hw11).rb (OB.rb oy2) true (by rw [beq_self_eq_true]))
              have HA11 : Hid (Alike w w11 g9 dg k (tot ls (j + 1) + 9 * (j + 1))) := by
                obtain ⟨F, G, A, c, B, d, b, s, tr, x, y, h1, h2, h3, h4, h5, h6⟩ := HA9.out
                have hn := New.trans HW10.out hw11
                exact ⟨F, G, A, c, B, d, b, s, tr, x, y, h1.also hn, h2.also hn, h3, h4, h5, h6⟩
              clear oy2 hw11 HRD2 HA9 HR10
              go_wp2_with fail
              refine HBY.out.mono ?_
              rintro e w12 ⟨rfl, rfl⟩
              go_wp2_with fail
              go_roundw
              case rel => exact ⟨j + 1, g9, rfl, by go_num, by omega, by omega, HA11⟩
              case measure => simp [intOf]; omega
        · skip
          go_wp2_with fail
          refine (trip_at D.out.l.log.a N ⟨b, s, false, true, N⟩ rfl).mono ?_
          intro e w6 hd
          obtain ⟨A6, c6, rfl, h6⟩ := D.out.l.log.did hd
          have D6 := Lib.hid (D.out.log h6)
          have c1 : w6.cell? ⟨ga, 1, none⟩ = some (.int .i64 N) := cell_of_row _ _ 1 _ _ _ (HBX.out w6 D6.out.keep).1
          clear hd h6
          go_wp2_with fail
          refine (trip_dr D6.out.r.a N).mono ?_
          intro e w7 hd
          obtain ⟨B7, d7, rfl, hD7⟩ := D6.out.ref hd
          have hD8 : Duo E _ _ w w5 w7 gj dg _ _ ⟨b, s, false, true, N⟩ (parts b).1 (parts b).2.1 k B7 d7 ⟨b, s, false, true, N⟩ := hD7
          have HGO : Hid (Goes E w w5 w7 gj dg k (tot ls (j + 1) + 9 * (j + 1))) := hD8.goes (fun _ => rfl) HPE.out (by have := HMT.out; omega)
          clear D D6 hd hD7 hD8 c1
          have hke : Keep (fun i => ¬ E i) w5 w7 := by obtain ⟨_, _, _, _, _, _, _, _, _, _, _, _, _, _, _, _, _, hk, _, _⟩ := HGO.out; exact hk
          have HSPO := Lib.hid (spoil_any X m cx ga t w7 (HBX.out w7 hke).2)
          have HBX7 := Lib.hid (HBX.out w7 hke).1
          have HOX7 := Lib.hid (HBX.out w7 hke).2
          clear hke
          go_wp2_with fail
          refine HSPO.out.mono ?_
          rintro e w8 ⟨rfl, _, hk8, _⟩
          have hbx8 : w8.heap[ga]? = some (.cells #[.int .i64 a, .int .i64 N, .slice C m e0] 57 (0, 0)) := (hk8.block ga (Array.getElem?_eq_some_iff.1 HBX7.out).1 (fun h => HXN.out ga h rfl)).trans HBX7.out
          have o0 : w8.cell? ⟨ga, 0, none⟩ = some (.int .i64 a) := cell_of_row _ _ 0 _ _ _ hbx8
          obtain ⟨F9, G9, A9, c9, B9, d9, b9, s9, tr9, x9, y9, h1, h2, h3, h4, h5, h6⟩ := HGO.out.spoil hk8 (fun i hi => HES.out i hi)
          have o2 : w8.cell? ⟨k, 2, none⟩ = some (.bool false) := h2.a.c2
          have H1 := Lib.hid h1
          have H2 := Lib.hid h2
          have H3 := Lib.hid h3
          have H4 := Lib.hid h4
          have H5 := Lib.hid h5
          have HB9 := Lib.hid h6
          have HOFF := Lib.hid (fun nn => off_dk (h1.log.a.drewN nn))
          clear hk8 hbx8 h1 h2 h3 h4 h5 h6 HSPO HGO HBX7 HOX7 b0 b1 b2
          go_wp2_with fail
          go_quiet ((go_at_call 39; exact quiet_id (HOFF.out _)))
          go_wp2_with fail
          obtain ⟨w9, hw9⟩ : ∃ w9 : World, w9 = w8.drewN nq := ⟨_, rfl⟩
          have hn89 : New w8 w9 := by rw [hw9]; exact New.drewN (New.refl _) nq
          have h1 := H1.out.also hn89
          have h2 := H2.out.also hn89
          have h3 := H3.out
          have h4 := H4.out
          have h5 := H5.out
          have h6 := HB9.out
          rw [← hw9]
          clear hw9 hn89 o0 o2 H1 H2 H3 H4 H5 HOFF
          have hn9 : New w w9 := h1.new
          have hbb9 : b9.length ≤ 300000 := by have := HLIM.out; omega
          have HRD := Lib.hid (read_dk h1.log.a b9 0 rfl (by show b9.length ≤ _; omega))
          obtain ⟨q9, hq9⟩ : ∃ q9, q9 = b9.length := ⟨_, rfl⟩
          rw [← hq9] at HRD
          have HQ9 := Lib.hid hq9
          have HA9 : Hid (Alike w w9 gj dg k (tot ls (j + 1) + 9 * (j + 1))) := ⟨F9, G9, A9, c9, B9, d9, b9, s9, tr9, x9, y9, h1, h2, h3, h4, h5, h6⟩
          have HR9 := Lib.hid h2
          clear h1 h2 h3 h4 h5 h6 hn9 hbb9 hq9
          go_wp2_with fail
          refine HRD.out.mono ?_
          rintro e w10 ⟨Y1, yc1, rfl, oy1, hw10⟩
          have HR10 := Lib.hid (HR9.out.also hw10)
          have HRD2 := Lib.hid (read_dr HR10.out.a b9 0 rfl (by have := HQ9.out; have := HLIM.out; have := HB9.out; show b9.length ≤ _; omega))
          rw [← HQ9.out] at HRD2
          have HY1 := Lib.hid oy1
          have HW10 := Lib.hid hw10
          clear oy1 hw10 HRD HR9
          go_wp2_with fail
          refine HRD2.out.mono ?_
          rintro e w11 ⟨Y2, yc2, rfl, oy2, hw11⟩
          have HBY := Lib.hid (bytes_is Y1 Y2 q9 yc1 q9 yc2 b9 b9 w11 HQ9.out HQ9.out (HY1.out.new hw11).rb (OB.rb oy2) true (by rw [beq_self_eq_true]))
          have HA11 : Hid (Alike w w11 gj dg k (tot ls (j + 1) + 9 * (j + 1))) := by
            obtain ⟨F, G, A, c, B, d, b, s, tr, x, y, h1, h2, h3, h4, h5, h6⟩ := HA9.out
            have hn := New.trans HW10.out hw11
            exact ⟨F, G, A, c, B, d, b, s, tr, x, y, h1.also hn, h2.also hn, h3, h4, h5, h6⟩
          clear oy2 hw11 HRD2 HA9 HR10
          go_wp2_with fail
          refine HBY.out.mono ?_
          rintro e w12 ⟨rfl, rfl⟩
          go_wp2_with fail
          go_roundw
          case rel => exact ⟨j + 1, gj, rfl, by go_num, by omega, by omega, HA11⟩
          case measure => simp [intOf]; omega
        · skip
          obtain ⟨b', e1, e2, hb'⟩ := crash_both b s tr x y N
          have HE1 := Lib.hid e1
          have HE2 := Lib.hid e2
          have HB' := Lib.hid hb'
          clear e1 e2 hb'
          go_wp2_with fail
          refine (crash_at D.out.l.log.a N ⟨b', s, true, false, 0⟩ HE1.out).mono ?_
          intro e w6 hd
          obtain ⟨A6, c6, rfl, h6⟩ := D.out.l.log.did hd
          have D6 := Lib.hid (D.out.log h6)
          have c1 : w6.cell? ⟨ga, 1, none⟩ = some (.int .i64 N) := cell_of_row _ _ 1 _ _ _ (HBX.out w6 D6.out.keep).1
          clear hd h6
          go_wp2_with fail
          refine (crash_dr D6.out.r.a N).mono ?_
          intro e w7 hd
          rw [HE2.out] at hd
          obtain ⟨B7, d7, rfl, hD7⟩ := D6.out.ref hd
          have HST : Hid (Stops E w w5 w7 dg k true (tot ls (j + 1) + 9 * (j + 1))) := hD7.stops (fun h => by cases h) (fun _ => rfl) (by have := HMT.out; have := HB'.out; omega)
          clear D D6 hd hD7 c1
          have hke : Keep (fun i => ¬ E i) w5 w7 := by obtain ⟨_, _, _, _, _, _, _, _, _, _, _, _, _, _, _, _, _, hk, _, _⟩ := HST.out; exact hk
          have HSPO := Lib.hid (spoil_any X m cx ga t w7 (HBX.out w7 hke).2)
          have HBX7 := Lib.hid (HBX.out w7 hke).1
          have HOX7 := Lib.hid (HBX.out w7 hke).2
          clear hke
          go_wp2_with fail
          refine HSPO.out.mono ?_
          rintro e w8 ⟨rfl, _, hk8, _⟩
          have hbx8 : w8.heap[ga]? = some (.cells #[.int .i64 a, .int .i64 N, .slice C m e0] 57 (0, 0)) := (hk8.block ga (Array.getElem?_eq_some_iff.1 HBX7.out).1 (fun h => HXN.out ga h rfl)).trans HBX7.out
          have o0 : w8.cell? ⟨ga, 0, none⟩ = some (.int .i64 a) := cell_of_row _ _ 0 _ _ _ hbx8
          obtain ⟨F8, G8, tr8, hT⟩ := HST.out.spoil hk8 (fun i hi => HES.out i hi)
          have HT8 := Lib.hid hT
          obtain ⟨A8, c8, B8, d8, b8, s8, x8, y8, h1, h2, _, _, _, _⟩ := hT
          have o2 : w8.cell? ⟨k, 2, none⟩ = some (.bool true) := h2.a.c2
          have HOFF := Lib.hid (fun nn => off_dk (h1.disk.a.drewN nn))
          clear hk8 hbx8 h1 h2 HSPO HST HBX7 HOX7 b0 b1 b2
          go_wp2_with fail
          go_quiet ((go_at_call 39; exact quiet_id (HOFF.out _)))
          go_wp2_with fail
          obtain ⟨w8d, hw8d⟩ : ∃ w8d : World, w8d = w8.drewN nq := ⟨_, rfl⟩
          have hT9 : Twins F8 G8 w w8d dg k true tr8 (tot ls (j + 1) + 9 * (j + 1)) := by
            obtain ⟨A8, c8, B8, d8, b8, s8, x8, y8, h1, h2, h3, h4, h5, h6⟩ := HT8.out
            have hn : New w8 w8d := by rw [hw8d]; exact New.drewN (New.refl _) nq
            exact ⟨A8, c8, B8, d8, b8, s8, x8, y8, h1.also hn, h2.also hn, h3, h4, h5, h6⟩
          have HOPN := Lib.hid (opened_any hT9 (by have := HLIM.out; omega))
          rw [← hw8d]
          clear hw8d hT9 o0 o2 HT8 HOFF
          refine HOPN.out.mono ?_
          rintro e w9 ⟨g9, rfl, hal9⟩
          obtain ⟨F9, G9, A9, c9, B9, d9, b9, s9, tr9, x9, y9, h1, h2, h3, h4, h5, h6⟩ := hal9
          have HB9 := Lib.hid h6
          clear HOPN
          have hn9 : New w w9 := h1.new
          have hbb9 : b9.length ≤ 300000 := by have := HLIM.out; omega
          have HRD := Lib.hid (read_dk h1.log.a b9 0 rfl (by show b9.length ≤ _; omega))
          obtain ⟨q9, hq9⟩ : ∃ q9, q9 = b9.length := ⟨_, rfl⟩
          rw [← hq9] at HRD
          have HQ9 := Lib.hid hq9
          have HA9 : Hid (Alike w w9 g9 dg k (tot ls (j + 1) + 9 * (j + 1))) := ⟨F9, G9, A9, c9, B9, d9, b9, s9, tr9, x9, y9, h1, h2, h3, h4, h5, h6⟩
          have HR9 := Lib.hid h2
          clear h1 h2 h3 h4 h5 h6 hn9 hbb9 hq9
          go_wp2_with fail
          refine HRD.out.mono ?_
          rintro e w10 ⟨Y1, yc1, rfl, oy1, hw10⟩
          have HR10 := Lib.hid (HR9.out.also hw10)
          have HRD2 := Lib.hid (read_dr HR10.out.a b9 0 rfl (by have := HQ9.out; have := HLIM.out; have := HB9.out; show b9.length ≤ _; omega))
          rw [← HQ9.out] at HRD2
          have HY1 := Lib.hid oy1
          have HW10 := Lib.hid hw10
          clear oy1 hw10 HRD HR9
          go_wp2_with fail
          refine HRD2.out.mono ?_
          rintro e w11 ⟨Y2, yc2, rfl, oy2, hw11⟩
          have HBY := Lib.hid (bytes_is Y1 Y2 q9 yc1 q9 yc2 b9 b9 w11 HQ9.out HQ9.out (HY1.out.new hw11).rb (OB.rb oy2) true (by rw [beq_self_eq_true]))
          have HA11 : Hid (Alike w w11 g9 dg k (tot ls (j + 1) + 9 * (j + 1))) := by
            obtain ⟨F, G, A, c, B, d, b, s, tr, x, y, h1, h2, h3, h4, h5, h6⟩ := HA9.out
            have hn := New.trans HW10.out hw11
            exact ⟨F, G, A, c, B, d, b, s, tr, x, y, h1.also hn, h2.also hn, h3, h4, h5, h6⟩
          clear oy2 hw11 HRD2 HA9 HR10
          go_wp2_with fail
          refine HBY.out.mono ?_
          rintro e w12 ⟨rfl, rfl⟩
          go_wp2_with fail
          go_roundw
          case rel => exact ⟨j + 1, g9, rfl, by go_num, by omega, by omega, HA11⟩
          case measure => simp [intOf]; omega
        · skip
          go_wp2_with fail
          go_region_held3 (fun v => v.cell? ⟨ga, 2, none⟩ = some (.slice C m e0)) ((first | exact b2 | exact HC6.out | exact HC7.out)) ((first
            | (go_at_call 22; refine (append_dk D.out.drew.l.log.a X m cx t HM.out HOX.out.rb (by have := HBB.out; show b.length + m ≤ _; omega) (Nat.zero_le _) 0 ⟨b ++ t, s, false, tr, x⟩ rfl).mono ?_; intro e w6 hd; obtain ⟨A6, c6, rfl, h6⟩ := D.out.drew.l.log.did hd; have D6 := Lib.hid (D.out.drew.log h6); clear hd h6; have HC6 := Lib.hid (HB2.out w6 D6.out.keep))
            | (go_at_call 36; refine (append_dr D6.out.r.a C m e0 t HM.out (HCB.out.new D6.out.l.new) (by have := HBB.out; show b.length + m ≤ _; omega) (Nat.zero_le _) 0 ⟨b ++ t, s, false, tr, y⟩ rfl).mono ?_; intro e w7 hd; obtain ⟨B7, d7, rfl, hD7⟩ := D6.out.ref hd; have D7 := Lib.hid hD7; clear hd hD7; have HC7 := Lib.hid (HB2.out w7 D7.out.keep))))
          have HST : Hid (Stops E w w5 w7 dg k false (tot ls (j + 1) + 9 * (j + 1))) := D7.out.stops HXY.out (fun h => by cases h) (by have := HMT.out; rw [List.length_append]; have := HM.out; omega)
          clear D D6 D7 HC6 HC7
          have hke : Keep (fun i => ¬ E i) w5 w7 := by obtain ⟨_, _, _, _, _, _, _, _, _, _, _, _, _, _, _, _, _, hk, _, _⟩ := HST.out; exact hk
          have HSPO := Lib.hid (spoil_any X m cx ga t w7 (HBX.out w7 hke).2)
          have HBX7 := Lib.hid (HBX.out w7 hke).1
          have HOX7 := Lib.hid (HBX.out w7 hke).2
          clear hke
          go_wp2_with fail
          refine HSPO.out.mono ?_
          rintro e w8 ⟨rfl, _, hk8, _⟩
          have hbx8 : w8.heap[ga]? = some (.cells #[.int .i64 a, .int .i64 N, .slice C m e0] 57 (0, 0)) := (hk8.block ga (Array.getElem?_eq_some_iff.1 HBX7.out).1 (fun h => HXN.out ga h rfl)).trans HBX7.out
          have o0 : w8.cell? ⟨ga, 0, none⟩ = some (.int .i64 a) := cell_of_row _ _ 0 _ _ _ hbx8
          obtain ⟨F8, G8, tr8, hT⟩ := HST.out.spoil hk8 (fun i hi => HES.out i hi)
          have HT8 := Lib.hid hT
          obtain ⟨A8, c8, B8, d8, b8, s8, x8, y8, h1, h2, _, _, _, _⟩ := hT
          have o2 : w8.cell? ⟨k, 2, none⟩ = some (.bool false) := h2.a.c2
          have HOFF := Lib.hid (fun nn => off_dk (h1.disk.a.drewN nn))
          clear hk8 hbx8 h1 h2 HSPO HST HBX7 HOX7 b0 b1 b2
          go_wp2_with fail
          go_quiet ((go_at_call 39; exact quiet_id (HOFF.out _)))
          go_wp2_with fail
          obtain ⟨w8d, hw8d⟩ : ∃ w8d : World, w8d = w8.drewN nq := ⟨_, rfl⟩
          have hT9 : Twins F8 G8 w w8d dg k false tr8 (tot ls (j + 1) + 9 * (j + 1)) := by
            obtain ⟨A8, c8, B8, d8, b8, s8, x8, y8, h1, h2, h3, h4, h5, h6⟩ := HT8.out
            have hn : New w8 w8d := by rw [hw8d]; exact New.drewN (New.refl _) nq
            exact ⟨A8, c8, B8, d8, b8, s8, x8, y8, h1.also hn, h2.also hn, h3, h4, h5, h6⟩
          have HOPN := Lib.hid (opened_any hT9 (by have := HLIM.out; omega))
          rw [← hw8d]
          clear hw8d hT9 o0 o2 HT8 HOFF
          refine HOPN.out.mono ?_
          rintro e w9 ⟨g9, rfl, hal9⟩
          obtain ⟨F9, G9, A9, c9, B9, d9, b9, s9, tr9, x9, y9, h1, h2, h3, h4, h5, h6⟩ := hal9
          have HB9 := Lib.hid h6
          clear HOPN
          have hn9 : New w w9 := h1.new
          have hbb9 : b9.length ≤ 300000 := by have := HLIM.out; omega
          have HRD := Lib.hid (read_dk h1.log.a b9 0 rfl (by show b9.length ≤ _; omega))
          obtain ⟨q9, hq9⟩ : ∃ q9, q9 = b9.length := ⟨_, rfl⟩
          rw [← hq9] at HRD
          have HQ9 := Lib.hid hq9
          have HA9 : Hid (Alike w w9 g9 dg k (tot ls (j + 1) + 9 * (j + 1))) := ⟨F9, G9, A9, c9, B9, d9, b9, s9, tr9, x9, y9, h1, h2, h3, h4, h5, h6⟩
          have HR9 := Lib.hid h2
          clear h1 h2 h3 h4 h5 h6 hn9 hbb9 hq9
          go_wp2_with fail
          refine HRD.out.mono ?_
          rintro e w10 ⟨Y1, yc1, rfl, oy1, hw10⟩
          have HR10 := Lib.hid (HR9.out.also hw10)
          have HRD2 := Lib.hid (read_dr HR10.out.a b9 0 rfl (by have := HQ9.out; have := HLIM.out; have := HB9.out; show b9.length ≤ _; omega))
          rw [← HQ9.out] at HRD2
          have HY1 := Lib.hid oy1
          have HW10 := Lib.hid hw10
          clear oy1 hw10 HRD HR9
          go_wp2_with fail
          refine HRD2.out.mono ?_
          rintro e w11 ⟨Y2, yc2, rfl, oy2, hw11⟩
          have HBY := Lib.hid (bytes_is Y1 Y2 q9 yc1 q9 yc2 b9 b9 w11 HQ9.out HQ9.out (HY1.out.new hw11).rb (OB.rb oy2) true (by rw [beq_self_eq_true]))
          have HA11 : Hid (Alike w w11 g9 dg k (tot ls (j + 1) + 9 * (j + 1))) := by
            obtain ⟨F, G, A, c, B, d, b, s, tr, x, y, h1, h2, h3, h4, h5, h6⟩ := HA9.out
            have hn := New.trans HW10.out hw11
            exact ⟨F, G, A, c, B, d, b, s, tr, x, y, h1.also hn, h2.also hn, h3, h4, h5, h6⟩
          clear oy2 hw11 HRD2 HA9 HR10
          go_wp2_with fail
          refine HBY.out.mono ?_
          rintro e w12 ⟨rfl, rfl⟩
          go_wp2_with fail
          go_roundw
          case rel => exact ⟨j + 1, g9, rfl, by go_num, by omega, by omega, HA11⟩
          case measure => simp [intOf]; omega
      · have hwk := wakes7_any
        have hsm2 := HSM.out
        by_cases h50 : j < 50
        · have hjn : ¬ (j : Int) < (n : Int) := by omega
          clear hsm2 hwk
          go_wp2_with fail
          refine HSM.out.mono ?_
          rintro e w4 ⟨rfl, hw4⟩
          have HN4 := Lib.hid (New.trans H1.out.new hw4)
          clear hw4
          go_wp2_with fail
          refine (wakes7_any _).mono ?_
          rintro e w5 ⟨rfl, hw5⟩
          have HFI := Lib.hid (New.trans HN4.out hw5)
          clear hw5
          go_wp2_with fail
          go_ret
          exact ⟨rfl, HFI.out⟩
        · have hjn5 : decide ((j : Int) < 50) = false := by simp; omega
          have hj5 : j = 50 := by omega
          by_cases h5n : (j : Int) < (n : Int)
          · skip
            clear hsm2 hwk
            go_wp2_with fail
            refine HSM.out.mono ?_
            rintro e w4 ⟨rfl, hw4⟩
            have HN4 := Lib.hid (New.trans H1.out.new hw4)
            clear hw4
            go_wp2_with fail
            refine (wakes7_any _).mono ?_
            rintro e w5 ⟨rfl, hw5⟩
            have HFI := Lib.hid (New.trans HN4.out hw5)
            clear hw5
            go_wp2_with fail
            go_ret
            exact ⟨rfl, HFI.out⟩
          · skip
            clear hsm2 hwk
            go_wp2_with fail
            refine HSM.out.mono ?_
            rintro e w4 ⟨rfl, hw4⟩
            have HN4 := Lib.hid (New.trans H1.out.new hw4)
            clear hw4
            go_wp2_with fail
            refine (wakes7_any _).mono ?_
            rintro e w5 ⟨rfl, hw5⟩
            have HFI := Lib.hid (New.trans HN4.out hw5)
            clear hw5
            go_wp2_with fail
            go_ret
            exact ⟨rfl, HFI.out⟩
end Go.Proofs.Ytemgiodakoojiaa
