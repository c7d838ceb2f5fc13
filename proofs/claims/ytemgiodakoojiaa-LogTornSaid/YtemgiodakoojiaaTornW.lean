/- hanselaw07.LogTorn: the walk. -/
import Derived.Test.YtemgiodakoojiaaLgI
namespace Go.Proofs.Ytemgiodakoojiaa
open Go.RowKit
open Go.Proofs.Ytemgiodakoojiaa.Frm
open Go.Proofs.Ytemgiodakoojiaa.Jr
set_option maxHeartbeats 4000000 in
theorem torn_law (A : Option Addr) (n c : Nat) (l : List (List UInt8)) (x : Int) (w : World) (hn : n = l.length) (hnc : n ≤ c) (hmax : c ≤ maxLen) (hr : RR w A l) (_ : (Lit.int .i64 x).wf = true) :
    Calls Try.prog 4 #[.slice A n c, .int .i64 x] w fun e w' => e = .returned (.bool true) ∧ New w w' := by
  have HN := Lib.hid hn
  have HR := Lib.hid hr
  clear hn hr
  unfold maxLen at hmax
  by_cases h1 : (50 : Int) < (n : Int)
  · skip
    go_enter Try.func4, Try.ntmps4
    go_wp2_with fail
    go_ret
    exact ⟨rfl, New.refl _⟩
  have d1 : decide ((50 : Int) < (n : Int)) = false := by simpa using h1
  go_enter Try.func4, Try.ntmps4
  go_wp2_with fail
  refine (disk_new w).mono ?_
  rintro e w1 ⟨dg, rfl, hd1⟩
  go_wp2_with fail
  refine (open_log hd1 (Nat.zero_le _) parts_nil).mono ?_
  rintro e w2 ⟨g, A2, c2, rfl, h2⟩
  clear hd1
  have H2 : Hid (∃ A' c', LogAt (Since w) w w2 g dg A' c' ⟨rows (l.take 0), 0, false, false, 0⟩ [] (l.take 0)) := ⟨A2, c2, h2⟩
  clear h2
  go_wp2_with fail
  go_loopw [8] (fun v wr => ∃ j : Nat, v = .int .i64 j ∧ j ≤ n ∧ Hid (∃ A' c', LogAt (Since w) w wr g dg A' c' ⟨rows (l.take j), 0, false, false, 0⟩ [] (l.take j)) ∧ Hid (∀ t ∈ l.take j, t.length ≤ 4096)) (fun v _ => n - (intOf v).toNat)
  case atStart => exact ⟨0, rfl, Nat.zero_le _, H2, fun t ht => by simp at ht⟩
  case round =>
    obtain ⟨j, rfl, hj, HL, HB⟩ := hrel
    obtain ⟨A3, c3, h3⟩ := HL.out
    by_cases hlt : j < n
    · obtain ⟨t, ht⟩ : ∃ t, l[j]? = some t := ⟨_, List.getElem?_eq_getElem (by rw [← HN.out]; exact hlt)⟩
      have hnew := h3.fr.since
      obtain ⟨ad, B, d, rfl, hcB, hBd, hdm, hbB⟩ := (HR.out.new hnew) j t ht
      obtain ⟨q, hq⟩ : ∃ q, q = t.length := ⟨_, rfl⟩
      rw [← hq] at hcB
      have hji : (j : Int) < (n : Int) := by omega
      have HT := Lib.hid ht
      have HQ := Lib.hid hq
      have H3 := Lib.hid h3
      have HNW := Lib.hid hnew
      by_cases hbig : (4096 : Int) < (q : Int)
      · clear hlt ht hq h3 hnew hbB hBd hdm
        go_wp2_with fail
        go_ret
        exact ⟨rfl, HNW.out⟩
      · have htl : t.length ≤ 4096 := by omega
        have hrl := rows_bound (l.take j) HB.out
        rw [List.length_take] at hrl
        have HAP := Lib.hid (lg_append h3 B q d t hq hbB (by omega) (by omega) (by rw [List.length_take]; omega))
        have htk : l.take (j + 1) = l.take j ++ [t] := by rw [List.take_add_one, ht]; rfl
        have HTK := Lib.hid htk
        have HB4 : Hid (∀ t ∈ l.take (j + 1), t.length ≤ 4096) := by
          intro y hy
          rw [htk] at hy
          rcases List.mem_append.1 hy with hy | hy
          · exact HB.out y hy
          · rw [List.mem_singleton.1 hy]; exact htl
        clear hlt ht hq h3 hnew hbB hBd hdm htl hrl htk
        go_wp2_with fail
        refine HAP.out.mono ?_
        rintro e w4 ⟨A4, c4, rfl, h4⟩
        have H4 : Hid (∃ A' c', LogAt (Since w) w w4 g dg A' c' ⟨rows (l.take (j + 1)), 0, false, false, 0⟩ [] (l.take (j + 1))) := ⟨A4, c4, by rw [HTK.out, rows_snoc]; exact h4⟩
        clear h4
        go_wp2_with fail
        go_roundw
        case rel => exact ⟨j + 1, by go_num, by omega, H4, HB4⟩
        case measure => simp [intOf]; omega
    · have hjn : j = n := by omega
      subst hjn
      have hall : l.take j = l := List.take_of_length_le (by rw [← HN.out]; exact Nat.le_refl _)
      rw [hall] at h3 HB
      have hrl := rows_bound l HB.out
      obtain ⟨b, hb⟩ : ∃ b, b = rows l := ⟨_, rfl⟩
      rw [← hb] at h3 hrl
      have HBL : Hid (b.length ≤ 205250) := by show _ ≤ _; have : j = l.length := HN.out; omega
      have HRD := Lib.hid (read_dk h3.a b 0 rfl (by have := HBL.out; show b.length ≤ _; omega))
      have HNL : ¬ (j : Int) < (j : Int) := by omega
      have H3 := Lib.hid h3
      have HBB := Lib.hid hb
      clear hlt h3 hall hrl hb HL
      go_wp2_with fail
      refine HRD.out.mono ?_
      rintro e w4 ⟨B4, d4, rfl, ho4, hw4⟩
      have H4 := Lib.hid (H3.out.also hw4)
      obtain ⟨q, hq⟩ : ∃ q, q = b.length := ⟨_, rfl⟩
      rw [← hq] at ho4 ⊢
      have HQ := Lib.hid hq
      have hqb : q ≤ 205250 := by rw [hq]; exact HBL.out
      clear hw4 ho4 hq
      go_wp2_with fail
      obtain ⟨en, hen, henq⟩ := uint_mod x q (by omega)
      rw [hen]
      have HCT := Lib.hid (cut_to (l := b) (s := 0) (k := 0) (en := en) (by have : q = b.length := HQ.out; omega))
      have HCU := Lib.hid (cut_dk H4.out.a en 0 ⟨b.take en, en, false, false, 0⟩ HCT.out)
      obtain ⟨k, hk1, hk2, hk3, hk4, _⟩ := parts_cut l (fun t ht => by have := HB.out t ht; omega) en
      obtain ⟨ls, hls⟩ : ∃ ls, ls = l.take k := ⟨_, rfl⟩
      have hlsn : ls.length = k := by rw [hls, List.length_take]; omega
      obtain ⟨z, hz⟩ : ∃ z, z = rows ls := ⟨_, rfl⟩
      have hkj : k ≤ j := by have : j = l.length := HN.out; omega
      have hzq : z.length ≤ q := by rw [hz, hls]; omega
      have HZP : Hid (parts z = ([], ls, z.length)) := by
        show parts z = _
        rw [hz]
        exact parts_all ls (fun t ht => by have := HB.out t (List.mem_of_mem_take (by rw [hls] at ht; exact ht)); omega)
      have HOP : Hid (∀ wx A' c', DiskAt (Since w) w wx dg A' c' ⟨b.take en, en, false, false, 0⟩ → Calls Try.prog 11 #[.pointer (some ⟨dg, 0, none⟩)] wx (Logged (Since w) w dg ⟨z, z.length, false, false, 0⟩ [] ls)) := by
        intro wx A' c' hd
        have hb : b = rows l := HBB.out
        rw [hb] at hd
        rw [hz, hls]
        exact open_torn hd (by have : q = b.length := HQ.out; rw [← hb]; omega) (by omega) hk2 hk3 hk4
      have HLB : Hid (∀ t ∈ ls, t.length ≤ 1000000) := by
        intro t ht
        have := HB.out t (List.mem_of_mem_take (by rw [hls] at ht; exact ht))
        show _ ≤ _
        omega
      have HLSR : Hid (∀ w', New w w' → RR w' A ls) := fun w' hw => by
        rw [hls]
        exact (HR.out.new hw).take k
      have HLN := Lib.hid hlsn
      have hkji : (k : Int) ≤ (j : Int) := by omega
      have hkci : (k : Int) ≤ (c : Int) := by omega
      clear hen hk1 hk2 hk3 hk4 hls hz hlsn
      refine HCU.out.mono ?_
      intro e w5 hd
      obtain ⟨A5, c5, rfl, h5⟩ := H4.out.toDiskAt.did hd
      have HO5 := Lib.hid (HOP.out _ _ _ h5)
      clear hd h5 HCU HCT
      go_wp2_with fail
      refine HO5.out.mono ?_
      rintro e w6 ⟨g6, A6, c6, rfl, h6⟩
      have H6 := Lib.hid h6
      have HLT6 := Lib.hid h6.toDiskAt.lt
      have HRC := Lib.hid (recs_any h6 (by rw [HLN.out]; omega) HLB.out)
      clear h6 HO5
      go_wp2_with fail
      refine HRC.out.mono ?_
      rintro e w7 ⟨R7, rc7, rfl, hR7, hw7⟩
      rw [HLN.out] at hR7 ⊢
      have H7 := Lib.hid (H6.out.also hw7)
      have hR7s := hw7.size
      have HR7 := Lib.hid hR7
      have HRD7 := Lib.hid (read_dk H7.out.a z 0 rfl (by show z.length ≤ _; omega))
      clear hw7 hR7 HRC
      go_wp2_with fail
      refine HRD7.out.mono ?_
      rintro e w8 ⟨B8, d8, rfl, ho8, hw8⟩
      have H8 := Lib.hid (H7.out.also hw8)
      have HR8 := Lib.hid (HR7.out.new hw8)
      have HO8 := Lib.hid ho8
      have HOP8 := Lib.hid (open_log H8.out.toDiskAt.rebase (by omega) HZP.out)
      have HS7 : Hid (w6.heap.size ≤ w7.heap.size) := hR7s
      clear hw8 ho8 HRD7
      go_wp2_with fail
      refine HOP8.out.mono ?_
      rintro e w9 ⟨g9, A9, c9, rfl, h9⟩
      have H9 := Lib.hid (LogAt.back H8.out.toDiskAt h9)
      have hk9 := Foot.keep h9.fr HLT6.out.1 HLT6.out.2
      have HR9 := Lib.hid (HR8.out.keep hk9 (fun i hi hs => by have : w6.heap.size ≤ i := hi; have : i < w6.heap.size := hs; omega))
      have HO9 := Lib.hid (HO8.out.keep hk9 (fun i hi hs => by have := (OB.lt HO8.out hi).1; have : w6.heap.size ≤ w7.heap.size := HS7.out; have : i < w6.heap.size := hs; omega))
      have HRD9 := Lib.hid (read_dk H9.out.a z 0 rfl (by show z.length ≤ _; omega))
      clear h9 hk9 HOP8 hR7s HR8 HO8
      go_wp2_with fail
      refine HRD9.out.mono ?_
      rintro e w10 ⟨B10, d10, rfl, ho10, hw10⟩
      have H10 := Lib.hid (H9.out.also hw10)
      have HR10 := Lib.hid (HR9.out.new hw10)
      have HO10 := Lib.hid (HO9.out.new hw10)
      have HP10 := Lib.hid ho10
      have HROW := Lib.hid (rows_same R7 A k rc7 k c ls w10 HLN.out.symm HLN.out.symm (by unfold maxLen; omega) HR10.out.rr (HLSR.out _ H10.out.fr.since))
      clear hw10 ho10 HRD9
      obtain ⟨zl, hzl⟩ : ∃ zl, zl = z.length := ⟨_, rfl⟩
      rw [← hzl] at HO10 HP10 ⊢
      have HZL := Lib.hid hzl
      clear hzl hzq
      go_wp2_with fail
      refine HROW.out.mono ?_
      rintro e w11 ⟨rfl, hw11⟩
      have H11 := Lib.hid (H10.out.also hw11)
      have HR11 := Lib.hid (HR10.out.new hw11)
      have HO11 := Lib.hid (HO10.out.new hw11)
      have HP11 := Lib.hid (HP10.out.new hw11)
      have HRC11 := Lib.hid (recs_any H11.out (by rw [HLN.out]; omega) HLB.out)
      clear hw11 HROW
      go_wp2_with fail
      refine HRC11.out.mono ?_
      rintro e w12 ⟨R12, rc12, rfl, hR12, hw12⟩
      rw [HLN.out] at hR12 ⊢
      have H12 := Lib.hid (H11.out.also hw12)
      have HO12 := Lib.hid (HO11.out.new hw12)
      have HP12 := Lib.hid (HP11.out.new hw12)
      have HROW := Lib.hid (rows_same R12 R7 k rc12 k rc7 ls w12 HLN.out.symm HLN.out.symm (by unfold maxLen; omega) hR12.rr (HR11.out.new hw12).rr)
      clear hw12 hR12 HRC11
      go_wp2_with fail
      refine HROW.out.mono ?_
      rintro e w13 ⟨rfl, hw13⟩
      have H13 := Lib.hid (H12.out.also hw13)
      have HBY := Lib.hid (bytes_is B8 B10 zl d8 zl d10 z z w13 HZL.out HZL.out (HO12.out.new hw13).rb (HP12.out.new hw13).rb true (by rw [beq_self_eq_true]))
      clear hw13 HROW
      go_wp2_with fail
      refine HBY.out.mono ?_
      rintro e w14 ⟨rfl, rfl⟩
      have HSY : Hid (Calls Try.prog 20 #[.pointer (some ⟨dg, 0, none⟩)] w13 fun e w' => e = .returned (.int .i64 zl) ∧ w13 = w') := by
        have := synced_dk H13.out.a
        rw [HZL.out]
        exact this
      go_wp2_with fail
      refine HSY.out.mono ?_
      rintro e w14 ⟨rfl, rfl⟩
      go_wp2_with fail
      refine (wakes7_any _).mono ?_
      rintro e w15 ⟨rfl, hw15⟩
      have HF := Lib.hid (New.trans H13.out.fr.since hw15)
      clear hw15
      go_wp2_with fail
      go_ret
      exact ⟨rfl, HF.out⟩
end Go.Proofs.Ytemgiodakoojiaa
