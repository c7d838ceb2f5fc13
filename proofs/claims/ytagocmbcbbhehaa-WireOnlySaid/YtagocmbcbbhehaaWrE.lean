/- wire.writer on structs: what it does. By a program. -/
import Derived.Test.YtagocmbcbbhehaaWrD
namespace Go.Proofs.Ytagocmbcbbhehaa
set_option linter.unusedVariables false
open Go.RowKit
set_option maxRecDepth 20000 in
set_option maxHeartbeats 4000000 in
theorem wSlot {base g c : Nat} {A : Option Addr} {s : Wst} {w : World} (h : PW w base g A c s.1 s.2) (cl : List Value) (cs : Ch) (hE : ESlot base w cl cs) (hmax : s.1.length + sz cs ≤ MX) (hb : base ≤ w.heap.size) :
    Calls Try.prog 38 #[.pointer (some ⟨g, 0, none⟩), .agg cl.toArray] w (PutC w base g A s cs) := by
  obtain ⟨c1, c2, s1, s2, h1, h2, rfl, rfl⟩ := hE
  obtain ⟨v1_1, v1_2, rfl⟩ := h1.ex
  obtain ⟨z2, i2, rfl, hs2⟩ := h2
  have HE1 := Lib.hid h1
  clear h1
  simp only [sz_append] at hmax
  simp only [List.cons_append, List.nil_append]
  have HC2 := Lib.hid hs2
  clear hs2
  have HMX := Lib.hid hmax
  have HBS := Lib.hid hb
  have H0 := Lib.hid h
  have I2 := Lib.hid i2
  clear i2
  clear hmax hb h
  go_enter Try.func38, Try.ntmps38
  go_wp2_with fail
  obtain ⟨gb, hgb⟩ : ∃ gb, gb = w.heap.size := ⟨_, rfl⟩
  obtain ⟨w1, hw1⟩ : ∃ w1, w1 = w.alloc (.cells #[v1_1, v1_2, .int .i64 z2] 102) := ⟨_, rfl⟩
  have hn1 : New w w1 := by rw [hw1]; exact (Below.refl _ _).alloc (Nat.le_refl _) _
  have hbx : w1.heap[gb]? = some (.cells #[v1_1, v1_2, .int .i64 z2] 102 (0, 0)) := by rw [hw1, hgb]; exact heap_alloc_new w _
  have H1 : Hid (PW w1 base g A c (run [] s).1 (run [] s).2) := H0.out.new hn1
  have HBX := Lib.hid hbx
  have HM1 : Hid (Moved w w1 g A A) := Moved.of_new hn1
  rw [← hgb]
  rw [← hw1]
  clear hgb hw1 hn1 hbx
  have hsz1 : (run ([]) s).1.length + sz s1 ≤ MX := by
    have h1 := run_len ([]) s
    have h2 := HMX.out
    simp only [sz] at h1
    omega
  have p1_0 : w1.cell? ⟨gb, 0, none⟩ = some (v1_1) := cell_of_row _ _ 0 _ _ _ HBX.out
  have p1_1 : w1.cell? ⟨gb, 1, none⟩ = some (v1_2) := cell_of_row _ _ 1 _ _ _ HBX.out
  have hbs1 : base ≤ w1.heap.size := Nat.le_trans HBS.out HM1.out.keep.size
  have HK1 := Lib.hid (wId H1.out _ s1 (HE1.out.below (Moved.belowW HM1.out H0.out (Nat.le_refl _) HBS.out)) hsz1 hbs1)
  clear hsz1 hbs1
  refine HK1.out.mono ?_
  rintro e w2 ⟨A1, e1, rfl, hk1, hm1⟩
  rw [run_nil] at hk1
  have H2 := Lib.hid hk1
  have HM2 := Lib.hid (HM1.out.trans hm1)
  have hbx1 := box_keepW HBX.out H1.out (by decide) (by decide) hm1
  clear HBX
  have HBX := Lib.hid hbx1
  clear hk1 hm1 hbx1 HK1 p1_0 p1_1 H1 HM1
  go_wp2_with fail
  have hsz2 : (run (s1) s).1.length + sz s2 ≤ MX := by
    have h1 := run_len (s1) s
    have h2 := HMX.out
    omega
  have p2_2 : w2.cell? ⟨gb, 2, none⟩ = some (.int .i64 z2) := cell_of_row _ _ 2 _ _ _ HBX.out
  have hbs2 : base ≤ w2.heap.size := Nat.le_trans HBS.out HM2.out.keep.size
  go_still_tail 5, (by kernel_rfl)
  obtain ⟨wr2, hwr2⟩ : ∃ wr : World, wr = w2.drew := ⟨_, rfl⟩
  change wpList _ _ _ _ _ w2.drew
  have HR2 : Hid (PW wr2 base g A1 e1 (run (s1) s).1 (run (s1) s).2) := by rw [hwr2]; exact H2.out.drew
  have HMR2 : Hid (Moved w wr2 g A A1) := by rw [hwr2]; exact HM2.out.drew
  have HBR2 : Hid (wr2.heap[gb]? = some (.cells #[v1_1, v1_2, .int .i64 z2] 102 (0, 0))) := by rw [hwr2]; exact HBX.out
  have hbr2 : base ≤ wr2.heap.size := by rw [hwr2]; exact hbs2
  rw [← hwr2]
  clear hwr2
  have HK2 := Lib.hid (wintC HR2.out z2 I2.out s2 HC2.out hsz2 hbr2)
  clear hsz2 hbs2 hbr2
  go_wp2_with fail
  refine HK2.out.mono ?_
  rintro e w3 ⟨A2, e2, rfl, hk2, hm2⟩
  rw [← run_append] at hk2
  have H3 := Lib.hid hk2
  have HM3 := Lib.hid (HMR2.out.trans hm2)
  have hbx2 := box_keepW HBR2.out HR2.out (by decide) (by decide) hm2
  clear HBX
  have HBX := Lib.hid hbx2
  clear hk2 hm2 hbx2 HK2 p2_2 HR2 HMR2 HBR2 H2 HM2
  go_wp2_with fail
  go_end0
  exact ⟨A2, e2, rfl, H3.out, HM3.out⟩
set_option maxRecDepth 20000 in
set_option maxHeartbeats 4000000 in
theorem wResv {base g c : Nat} {A : Option Addr} {s : Wst} {w : World} (h : PW w base g A c s.1 s.2) (cl : List Value) (cs : Ch) (hE : EResv base w cl cs) (hmax : s.1.length + sz cs ≤ MX) (hb : base ≤ w.heap.size) :
    Calls Try.prog 47 #[.pointer (some ⟨g, 0, none⟩), .agg cl.toArray] w (PutC w base g A s cs) := by
  obtain ⟨c1, c2, c3, c4, c5, s1, s2, s3, s4, s5, h1, h2, h3, h4, h5, rfl, rfl⟩ := hE
  obtain ⟨v1_1, v1_2, rfl⟩ := h1.ex
  obtain ⟨z2, i2, rfl, hs2⟩ := h2
  obtain ⟨v3_1, v3_2, v3_3, rfl⟩ := h3.ex
  obtain ⟨b4, rfl, hs4⟩ := h4
  obtain ⟨z5, i5, rfl, hs5⟩ := h5
  have HE1 := Lib.hid h1
  clear h1
  have HE3 := Lib.hid h3
  clear h3
  simp only [sz_append] at hmax
  simp only [List.cons_append, List.nil_append]
  have HC2 := Lib.hid hs2
  clear hs2
  have HC4 := Lib.hid hs4
  clear hs4
  have HC5 := Lib.hid hs5
  clear hs5
  have HMX := Lib.hid hmax
  have HBS := Lib.hid hb
  have H0 := Lib.hid h
  have I2 := Lib.hid i2
  clear i2
  have I5 := Lib.hid i5
  clear i5
  clear hmax hb h
  go_enter Try.func47, Try.ntmps47
  go_wp2_with fail
  obtain ⟨gb, hgb⟩ : ∃ gb, gb = w.heap.size := ⟨_, rfl⟩
  obtain ⟨w1, hw1⟩ : ∃ w1, w1 = w.alloc (.cells #[v1_1, v1_2, .int .i64 z2, v3_1, v3_2, v3_3, .bool b4, .int .i64 z5] 119) := ⟨_, rfl⟩
  have hn1 : New w w1 := by rw [hw1]; exact (Below.refl _ _).alloc (Nat.le_refl _) _
  have hbx : w1.heap[gb]? = some (.cells #[v1_1, v1_2, .int .i64 z2, v3_1, v3_2, v3_3, .bool b4, .int .i64 z5] 119 (0, 0)) := by rw [hw1, hgb]; exact heap_alloc_new w _
  have H1 : Hid (PW w1 base g A c (run [] s).1 (run [] s).2) := H0.out.new hn1
  have HBX := Lib.hid hbx
  have HM1 : Hid (Moved w w1 g A A) := Moved.of_new hn1
  rw [← hgb]
  rw [← hw1]
  clear hgb hw1 hn1 hbx
  have hsz1 : (run ([]) s).1.length + sz s1 ≤ MX := by
    have h1 := run_len ([]) s
    have h2 := HMX.out
    simp only [sz] at h1
    omega
  have p1_0 : w1.cell? ⟨gb, 0, none⟩ = some (v1_1) := cell_of_row _ _ 0 _ _ _ HBX.out
  have p1_1 : w1.cell? ⟨gb, 1, none⟩ = some (v1_2) := cell_of_row _ _ 1 _ _ _ HBX.out
  have hbs1 : base ≤ w1.heap.size := Nat.le_trans HBS.out HM1.out.keep.size
  have HK1 := Lib.hid (wId H1.out _ s1 (HE1.out.below (Moved.belowW HM1.out H0.out (Nat.le_refl _) HBS.out)) hsz1 hbs1)
  clear hsz1 hbs1
  refine HK1.out.mono ?_
  rintro e w2 ⟨A1, e1, rfl, hk1, hm1⟩
  rw [run_nil] at hk1
  have H2 := Lib.hid hk1
  have HM2 := Lib.hid (HM1.out.trans hm1)
  have hbx1 := box_keepW HBX.out H1.out (by decide) (by decide) hm1
  clear HBX
  have HBX := Lib.hid hbx1
  clear hk1 hm1 hbx1 HK1 p1_0 p1_1 H1 HM1
  go_wp2_with fail
  have hsz2 : (run (s1) s).1.length + sz s2 ≤ MX := by
    have h1 := run_len (s1) s
    have h2 := HMX.out
    omega
  have p2_2 : w2.cell? ⟨gb, 2, none⟩ = some (.int .i64 z2) := cell_of_row _ _ 2 _ _ _ HBX.out
  have hbs2 : base ≤ w2.heap.size := Nat.le_trans HBS.out HM2.out.keep.size
  go_still_tail 5, (by kernel_rfl)
  obtain ⟨wr2, hwr2⟩ : ∃ wr : World, wr = w2.drew := ⟨_, rfl⟩
  change wpList _ _ _ _ _ w2.drew
  have HR2 : Hid (PW wr2 base g A1 e1 (run (s1) s).1 (run (s1) s).2) := by rw [hwr2]; exact H2.out.drew
  have HMR2 : Hid (Moved w wr2 g A A1) := by rw [hwr2]; exact HM2.out.drew
  have HBR2 : Hid (wr2.heap[gb]? = some (.cells #[v1_1, v1_2, .int .i64 z2, v3_1, v3_2, v3_3, .bool b4, .int .i64 z5] 119 (0, 0))) := by rw [hwr2]; exact HBX.out
  have hbr2 : base ≤ wr2.heap.size := by rw [hwr2]; exact hbs2
  rw [← hwr2]
  clear hwr2
  have HK2 := Lib.hid (wintC HR2.out z2 I2.out s2 HC2.out hsz2 hbr2)
  clear hsz2 hbs2 hbr2
  go_wp2_with fail
  refine HK2.out.mono ?_
  rintro e w3 ⟨A2, e2, rfl, hk2, hm2⟩
  rw [← run_append] at hk2
  have H3 := Lib.hid hk2
  have HM3 := Lib.hid (HMR2.out.trans hm2)
  have hbx2 := box_keepW HBR2.out HR2.out (by decide) (by decide) hm2
  clear HBX
  have HBX := Lib.hid hbx2
  clear hk2 hm2 hbx2 HK2 p2_2 HR2 HMR2 HBR2 H2 HM2
  have hsz3 : (run (s1 ++ (s2)) s).1.length + sz s3 ≤ MX := by
    have h1 := run_len (s1 ++ (s2)) s
    have h2 := HMX.out
    simp only [sz_append] at h1
    omega
  have p3_3 : w3.cell? ⟨gb, 3, none⟩ = some (v3_1) := cell_of_row _ _ 3 _ _ _ HBX.out
  have p3_4 : w3.cell? ⟨gb, 4, none⟩ = some (v3_2) := cell_of_row _ _ 4 _ _ _ HBX.out
  have p3_5 : w3.cell? ⟨gb, 5, none⟩ = some (v3_3) := cell_of_row _ _ 5 _ _ _ HBX.out
  have hbs3 : base ≤ w3.heap.size := Nat.le_trans HBS.out HM3.out.keep.size
  have HK3 := Lib.hid (wBusy H3.out _ s3 (HE3.out.below (Moved.belowW HM3.out H0.out (Nat.le_refl _) HBS.out)) hsz3 hbs3)
  clear hsz3 hbs3
  go_wp2_with fail
  refine HK3.out.mono ?_
  rintro e w4 ⟨A3, e3, rfl, hk3, hm3⟩
  rw [← run_append, show (s1 ++ (s2)) ++ s3 = s1 ++ (s2 ++ (s3)) from by simp only [List.append_assoc]] at hk3
  have H4 := Lib.hid hk3
  have HM4 := Lib.hid (HM3.out.trans hm3)
  have hbx3 := box_keepW HBX.out H3.out (by decide) (by decide) hm3
  clear HBX
  have HBX := Lib.hid hbx3
  clear hk3 hm3 hbx3 HK3 p3_3 p3_4 p3_5 H3 HM3
  go_wp2_with fail
  have hsz4 : (run (s1 ++ (s2 ++ (s3))) s).1.length + sz s4 ≤ MX := by
    have h1 := run_len (s1 ++ (s2 ++ (s3))) s
    have h2 := HMX.out
    simp only [sz_append] at h1
    omega
  have p4_6 : w4.cell? ⟨gb, 6, none⟩ = some (.bool b4) := cell_of_row _ _ 6 _ _ _ HBX.out
  have hbs4 : base ≤ w4.heap.size := Nat.le_trans HBS.out HM4.out.keep.size
  go_still_tail 5, (by kernel_rfl)
  obtain ⟨wr4, hwr4⟩ : ∃ wr : World, wr = w4.drew := ⟨_, rfl⟩
  change wpList _ _ _ _ _ w4.drew
  have HR4 : Hid (PW wr4 base g A3 e3 (run (s1 ++ (s2 ++ (s3))) s).1 (run (s1 ++ (s2 ++ (s3))) s).2) := by rw [hwr4]; exact H4.out.drew
  have HMR4 : Hid (Moved w wr4 g A A3) := by rw [hwr4]; exact HM4.out.drew
  have HBR4 : Hid (wr4.heap[gb]? = some (.cells #[v1_1, v1_2, .int .i64 z2, v3_1, v3_2, v3_3, .bool b4, .int .i64 z5] 119 (0, 0))) := by rw [hwr4]; exact HBX.out
  have hbr4 : base ≤ wr4.heap.size := by rw [hwr4]; exact hbs4
  rw [← hwr4]
  clear hwr4
  have HK4 := Lib.hid (wmarkC HR4.out b4 s4 HC4.out hsz4 hbr4)
  clear hsz4 hbs4 hbr4
  go_wp2_with fail
  refine HK4.out.mono ?_
  rintro e w5 ⟨A4, e4, rfl, hk4, hm4⟩
  rw [← run_append, show (s1 ++ (s2 ++ (s3))) ++ s4 = s1 ++ (s2 ++ (s3 ++ (s4))) from by simp only [List.append_assoc]] at hk4
  have H5 := Lib.hid hk4
  have HM5 := Lib.hid (HMR4.out.trans hm4)
  have hbx4 := box_keepW HBR4.out HR4.out (by decide) (by decide) hm4
  clear HBX
  have HBX := Lib.hid hbx4
  clear hk4 hm4 hbx4 HK4 p4_6 HR4 HMR4 HBR4 H4 HM4
  go_wp2_with fail
  have hsz5 : (run (s1 ++ (s2 ++ (s3 ++ (s4)))) s).1.length + sz s5 ≤ MX := by
    have h1 := run_len (s1 ++ (s2 ++ (s3 ++ (s4)))) s
    have h2 := HMX.out
    simp only [sz_append] at h1
    omega
  have p5_7 : w5.cell? ⟨gb, 7, none⟩ = some (.int .i64 z5) := cell_of_row _ _ 7 _ _ _ HBX.out
  have hbs5 : base ≤ w5.heap.size := Nat.le_trans HBS.out HM5.out.keep.size
  go_still_tail 5, (by kernel_rfl)
  obtain ⟨wr5, hwr5⟩ : ∃ wr : World, wr = w5.drew := ⟨_, rfl⟩
  change wpList _ _ _ _ _ w5.drew
  have HR5 : Hid (PW wr5 base g A4 e4 (run (s1 ++ (s2 ++ (s3 ++ (s4)))) s).1 (run (s1 ++ (s2 ++ (s3 ++ (s4)))) s).2) := by rw [hwr5]; exact H5.out.drew
  have HMR5 : Hid (Moved w wr5 g A A4) := by rw [hwr5]; exact HM5.out.drew
  have HBR5 : Hid (wr5.heap[gb]? = some (.cells #[v1_1, v1_2, .int .i64 z2, v3_1, v3_2, v3_3, .bool b4, .int .i64 z5] 119 (0, 0))) := by rw [hwr5]; exact HBX.out
  have hbr5 : base ≤ wr5.heap.size := by rw [hwr5]; exact hbs5
  rw [← hwr5]
  clear hwr5
  have HK5 := Lib.hid (wintC HR5.out z5 I5.out s5 HC5.out hsz5 hbr5)
  clear hsz5 hbs5 hbr5
  go_wp2_with fail
  refine HK5.out.mono ?_
  rintro e w6 ⟨A5, e5, rfl, hk5, hm5⟩
  rw [← run_append, show (s1 ++ (s2 ++ (s3 ++ (s4)))) ++ s5 = s1 ++ (s2 ++ (s3 ++ (s4 ++ (s5)))) from by simp only [List.append_assoc]] at hk5
  have H6 := Lib.hid hk5
  have HM6 := Lib.hid (HMR5.out.trans hm5)
  have hbx5 := box_keepW HBR5.out HR5.out (by decide) (by decide) hm5
  clear HBX
  have HBX := Lib.hid hbx5
  clear hk5 hm5 hbx5 HK5 p5_7 HR5 HMR5 HBR5 H5 HM5
  go_wp2_with fail
  go_end0
  exact ⟨A5, e5, rfl, H6.out, HM6.out⟩
end Go.Proofs.Ytagocmbcbbhehaa
