/- wire.writer on structs: what it does. By a program. -/
import Derived.Test.YtagocmbcbbhehaaWrC
namespace Go.Proofs.Ytagocmbcbbhehaa
set_option linter.unusedVariables false
open Go.RowKit
set_option maxRecDepth 20000 in
set_option maxHeartbeats 4000000 in
theorem wId {base g c : Nat} {A : Option Addr} {s : Wst} {w : World} (h : PW w base g A c s.1 s.2) (cl : List Value) (cs : Ch) (hE : EId base w cl cs) (hmax : s.1.length + sz cs ≤ MX) (hb : base ≤ w.heap.size) :
    Calls Try.prog 31 #[.pointer (some ⟨g, 0, none⟩), .agg cl.toArray] w (PutC w base g A s cs) := by
  obtain ⟨c1, c2, s1, s2, h1, h2, rfl, rfl⟩ := hE
  obtain ⟨z1, i1, rfl, hs1⟩ := h1
  obtain ⟨z2, i2, rfl, hs2⟩ := h2
  simp only [sz_append] at hmax
  simp only [List.cons_append, List.nil_append]
  have HC1 := Lib.hid hs1
  clear hs1
  have HC2 := Lib.hid hs2
  clear hs2
  have HMX := Lib.hid hmax
  have HBS := Lib.hid hb
  have H0 := Lib.hid h
  have I1 := Lib.hid i1
  clear i1
  have I2 := Lib.hid i2
  clear i2
  clear hmax hb h
  go_enter Try.func31, Try.ntmps31
  go_wp2_with fail
  obtain ⟨gb, hgb⟩ : ∃ gb, gb = w.heap.size := ⟨_, rfl⟩
  obtain ⟨w1, hw1⟩ : ∃ w1, w1 = w.alloc (.cells #[.int .i64 z1, .int .i64 z2] 23) := ⟨_, rfl⟩
  have hn1 : New w w1 := by rw [hw1]; exact (Below.refl _ _).alloc (Nat.le_refl _) _
  have hbx : w1.heap[gb]? = some (.cells #[.int .i64 z1, .int .i64 z2] 23 (0, 0)) := by rw [hw1, hgb]; exact heap_alloc_new w _
  have H1 : Hid (PW w1 base g A c (run [] s).1 (run [] s).2) := H0.out.new hn1
  have HBX := Lib.hid hbx
  have HM1 : Hid (Moved w w1 g A A) := Moved.of_new hn1
  rw [← hgb]
  rw [← hw1]
  clear hgb hw1 hn1 hbx
  have hsz1 : (run ([]) s).1.length + sz s1 ≤ MX := by
    have h1 := run_len ([]) s
    have h2 := HMX.out
    simp only [sz] at h1
    omega
  have p1_0 : w1.cell? ⟨gb, 0, none⟩ = some (.int .i64 z1) := cell_of_row _ _ 0 _ _ _ HBX.out
  have hbs1 : base ≤ w1.heap.size := Nat.le_trans HBS.out HM1.out.keep.size
  go_still_tail 5, (by kernel_rfl)
  obtain ⟨wr1, hwr1⟩ : ∃ wr : World, wr = w1.drew := ⟨_, rfl⟩
  change wpList _ _ _ _ _ w1.drew
  have HR1 : Hid (PW wr1 base g A c (run ([]) s).1 (run ([]) s).2) := by rw [hwr1]; exact H1.out.drew
  have HMR1 : Hid (Moved w wr1 g A A) := by rw [hwr1]; exact HM1.out.drew
  have HBR1 : Hid (wr1.heap[gb]? = some (.cells #[.int .i64 z1, .int .i64 z2] 23 (0, 0))) := by rw [hwr1]; exact HBX.out
  have hbr1 : base ≤ wr1.heap.size := by rw [hwr1]; exact hbs1
  rw [← hwr1]
  clear hwr1
  have HK1 := Lib.hid (wintC HR1.out z1 I1.out s1 HC1.out hsz1 hbr1)
  clear hsz1 hbs1 hbr1
  go_wp2_with fail
  refine HK1.out.mono ?_
  rintro e w2 ⟨A1, e1, rfl, hk1, hm1⟩
  rw [run_nil] at hk1
  have H2 := Lib.hid hk1
  have HM2 := Lib.hid (HMR1.out.trans hm1)
  have hbx1 := box_keepW HBR1.out HR1.out (by decide) (by decide) hm1
  clear HBX
  have HBX := Lib.hid hbx1
  clear hk1 hm1 hbx1 HK1 p1_0 HR1 HMR1 HBR1 H1 HM1
  go_wp2_with fail
  have hsz2 : (run (s1) s).1.length + sz s2 ≤ MX := by
    have h1 := run_len (s1) s
    have h2 := HMX.out
    omega
  have p2_1 : w2.cell? ⟨gb, 1, none⟩ = some (.int .i64 z2) := cell_of_row _ _ 1 _ _ _ HBX.out
  have hbs2 : base ≤ w2.heap.size := Nat.le_trans HBS.out HM2.out.keep.size
  go_still_tail 5, (by kernel_rfl)
  obtain ⟨wr2, hwr2⟩ : ∃ wr : World, wr = w2.drew := ⟨_, rfl⟩
  change wpList _ _ _ _ _ w2.drew
  have HR2 : Hid (PW wr2 base g A1 e1 (run (s1) s).1 (run (s1) s).2) := by rw [hwr2]; exact H2.out.drew
  have HMR2 : Hid (Moved w wr2 g A A1) := by rw [hwr2]; exact HM2.out.drew
  have HBR2 : Hid (wr2.heap[gb]? = some (.cells #[.int .i64 z1, .int .i64 z2] 23 (0, 0))) := by rw [hwr2]; exact HBX.out
  have hbr2 : base ≤ wr2.heap.size := by rw [hwr2]; exact hbs2
  rw [← hwr2]
  clear hwr2
  have HK2 := Lib.hid (wintC HR2.out z2 I2.out s2 HC2.out hsz2 hbr2)
  clear hsz2 hbs2 hbr2
  go_wp2_with fail
  refine HK2.out.mono ?_
  rintro e w3 ⟨A2, e2, rfl, hk2, hm2⟩
  rw [← run_append] at hk2
  have H3 := Lib.hid hk2
  have HM3 := Lib.hid (HMR2.out.trans hm2)
  have hbx2 := box_keepW HBR2.out HR2.out (by decide) (by decide) hm2
  clear HBX
  have HBX := Lib.hid hbx2
  clear hk2 hm2 hbx2 HK2 p2_1 HR2 HMR2 HBR2 H2 HM2
  go_wp2_with fail
  go_end0
  exact ⟨A2, e2, rfl, H3.out, HM3.out⟩
set_option maxRecDepth 20000 in
set_option maxHeartbeats 4000000 in
theorem wSpan {base g c : Nat} {A : Option Addr} {s : Wst} {w : World} (h : PW w base g A c s.1 s.2) (cl : List Value) (cs : Ch) (hE : ESpan base w cl cs) (hmax : s.1.length + sz cs ≤ MX) (hb : base ≤ w.heap.size) :
    Calls Try.prog 36 #[.pointer (some ⟨g, 0, none⟩), .agg cl.toArray] w (PutC w base g A s cs) := by
  obtain ⟨c1, c2, s1, s2, h1, h2, rfl, rfl⟩ := hE
  obtain ⟨z1, i1, rfl, hs1⟩ := h1
  obtain ⟨z2, i2, rfl, hs2⟩ := h2
  simp only [sz_append] at hmax
  simp only [List.cons_append, List.nil_append]
  have HC1 := Lib.hid hs1
  clear hs1
  have HC2 := Lib.hid hs2
  clear hs2
  have HMX := Lib.hid hmax
  have HBS := Lib.hid hb
  have H0 := Lib.hid h
  have I1 := Lib.hid i1
  clear i1
  have I2 := Lib.hid i2
  clear i2
  clear hmax hb h
  go_enter Try.func36, Try.ntmps36
  go_wp2_with fail
  obtain ⟨gb, hgb⟩ : ∃ gb, gb = w.heap.size := ⟨_, rfl⟩
  obtain ⟨w1, hw1⟩ : ∃ w1, w1 = w.alloc (.cells #[.int .i64 z1, .int .i64 z2] 98) := ⟨_, rfl⟩
  have hn1 : New w w1 := by rw [hw1]; exact (Below.refl _ _).alloc (Nat.le_refl _) _
  have hbx : w1.heap[gb]? = some (.cells #[.int .i64 z1, .int .i64 z2] 98 (0, 0)) := by rw [hw1, hgb]; exact heap_alloc_new w _
  have H1 : Hid (PW w1 base g A c (run [] s).1 (run [] s).2) := H0.out.new hn1
  have HBX := Lib.hid hbx
  have HM1 : Hid (Moved w w1 g A A) := Moved.of_new hn1
  rw [← hgb]
  rw [← hw1]
  clear hgb hw1 hn1 hbx
  have hsz1 : (run ([]) s).1.length + sz s1 ≤ MX := by
    have h1 := run_len ([]) s
    have h2 := HMX.out
    simp only [sz] at h1
    omega
  have p1_0 : w1.cell? ⟨gb, 0, none⟩ = some (.int .i64 z1) := cell_of_row _ _ 0 _ _ _ HBX.out
  have hbs1 : base ≤ w1.heap.size := Nat.le_trans HBS.out HM1.out.keep.size
  go_still_tail 5, (by kernel_rfl)
  obtain ⟨wr1, hwr1⟩ : ∃ wr : World, wr = w1.drew := ⟨_, rfl⟩
  change wpList _ _ _ _ _ w1.drew
  have HR1 : Hid (PW wr1 base g A c (run ([]) s).1 (run ([]) s).2) := by rw [hwr1]; exact H1.out.drew
  have HMR1 : Hid (Moved w wr1 g A A) := by rw [hwr1]; exact HM1.out.drew
  have HBR1 : Hid (wr1.heap[gb]? = some (.cells #[.int .i64 z1, .int .i64 z2] 98 (0, 0))) := by rw [hwr1]; exact HBX.out
  have hbr1 : base ≤ wr1.heap.size := by rw [hwr1]; exact hbs1
  rw [← hwr1]
  clear hwr1
  have HK1 := Lib.hid (wintC HR1.out z1 I1.out s1 HC1.out hsz1 hbr1)
  clear hsz1 hbs1 hbr1
  go_wp2_with fail
  refine HK1.out.mono ?_
  rintro e w2 ⟨A1, e1, rfl, hk1, hm1⟩
  rw [run_nil] at hk1
  have H2 := Lib.hid hk1
  have HM2 := Lib.hid (HMR1.out.trans hm1)
  have hbx1 := box_keepW HBR1.out HR1.out (by decide) (by decide) hm1
  clear HBX
  have HBX := Lib.hid hbx1
  clear hk1 hm1 hbx1 HK1 p1_0 HR1 HMR1 HBR1 H1 HM1
  go_wp2_with fail
  have hsz2 : (run (s1) s).1.length + sz s2 ≤ MX := by
    have h1 := run_len (s1) s
    have h2 := HMX.out
    omega
  have p2_1 : w2.cell? ⟨gb, 1, none⟩ = some (.int .i64 z2) := cell_of_row _ _ 1 _ _ _ HBX.out
  have hbs2 : base ≤ w2.heap.size := Nat.le_trans HBS.out HM2.out.keep.size
  go_still_tail 5, (by kernel_rfl)
  obtain ⟨wr2, hwr2⟩ : ∃ wr : World, wr = w2.drew := ⟨_, rfl⟩
  change wpList _ _ _ _ _ w2.drew
  have HR2 : Hid (PW wr2 base g A1 e1 (run (s1) s).1 (run (s1) s).2) := by rw [hwr2]; exact H2.out.drew
  have HMR2 : Hid (Moved w wr2 g A A1) := by rw [hwr2]; exact HM2.out.drew
  have HBR2 : Hid (wr2.heap[gb]? = some (.cells #[.int .i64 z1, .int .i64 z2] 98 (0, 0))) := by rw [hwr2]; exact HBX.out
  have hbr2 : base ≤ wr2.heap.size := by rw [hwr2]; exact hbs2
  rw [← hwr2]
  clear hwr2
  have HK2 := Lib.hid (wintC HR2.out z2 I2.out s2 HC2.out hsz2 hbr2)
  clear hsz2 hbs2 hbr2
  go_wp2_with fail
  refine HK2.out.mono ?_
  rintro e w3 ⟨A2, e2, rfl, hk2, hm2⟩
  rw [← run_append] at hk2
  have H3 := Lib.hid hk2
  have HM3 := Lib.hid (HMR2.out.trans hm2)
  have hbx2 := box_keepW HBR2.out HR2.out (by decide) (by decide) hm2
  clear HBX
  have HBX := Lib.hid hbx2
  clear hk2 hm2 hbx2 HK2 p2_1 HR2 HMR2 HBR2 H2 HM2
  go_wp2_with fail
  go_end0
  exact ⟨A2, e2, rfl, H3.out, HM3.out⟩
set_option maxRecDepth 20000 in
set_option maxHeartbeats 4000000 in
theorem wPart {base g c : Nat} {A : Option Addr} {s : Wst} {w : World} (h : PW w base g A c s.1 s.2) (cl : List Value) (cs : Ch) (hE : EPart base w cl cs) (hmax : s.1.length + sz cs ≤ MX) (hb : base ≤ w.heap.size) :
    Calls Try.prog 82 #[.pointer (some ⟨g, 0, none⟩), .agg cl.toArray] w (PutC w base g A s cs) := by
  obtain ⟨c1, c2, c3, s1, s2, s3, h1, h2, h3, rfl, rfl⟩ := hE
  obtain ⟨z1, i1, rfl, hs1⟩ := h1
  obtain ⟨z2, i2, rfl, hs2⟩ := h2
  obtain ⟨z3, i3, rfl, hs3⟩ := h3
  simp only [sz_append] at hmax
  simp only [List.cons_append, List.nil_append]
  have HC1 := Lib.hid hs1
  clear hs1
  have HC2 := Lib.hid hs2
  clear hs2
  have HC3 := Lib.hid hs3
  clear hs3
  have HMX := Lib.hid hmax
  have HBS := Lib.hid hb
  have H0 := Lib.hid h
  have I1 := Lib.hid i1
  clear i1
  have I2 := Lib.hid i2
  clear i2
  have I3 := Lib.hid i3
  clear i3
  clear hmax hb h
  go_enter Try.func82, Try.ntmps82
  go_wp2_with fail
  obtain ⟨gb, hgb⟩ : ∃ gb, gb = w.heap.size := ⟨_, rfl⟩
  obtain ⟨w1, hw1⟩ : ∃ w1, w1 = w.alloc (.cells #[.int .i64 z1, .int .i64 z2, .int .i64 z3] 165) := ⟨_, rfl⟩
  have hn1 : New w w1 := by rw [hw1]; exact (Below.refl _ _).alloc (Nat.le_refl _) _
  have hbx : w1.heap[gb]? = some (.cells #[.int .i64 z1, .int .i64 z2, .int .i64 z3] 165 (0, 0)) := by rw [hw1, hgb]; exact heap_alloc_new w _
  have H1 : Hid (PW w1 base g A c (run [] s).1 (run [] s).2) := H0.out.new hn1
  have HBX := Lib.hid hbx
  have HM1 : Hid (Moved w w1 g A A) := Moved.of_new hn1
  rw [← hgb]
  rw [← hw1]
  clear hgb hw1 hn1 hbx
  have hsz1 : (run ([]) s).1.length + sz s1 ≤ MX := by
    have h1 := run_len ([]) s
    have h2 := HMX.out
    simp only [sz] at h1
    omega
  have p1_0 : w1.cell? ⟨gb, 0, none⟩ = some (.int .i64 z1) := cell_of_row _ _ 0 _ _ _ HBX.out
  have hbs1 : base ≤ w1.heap.size := Nat.le_trans HBS.out HM1.out.keep.size
  go_still_tail 5, (by kernel_rfl)
  obtain ⟨wr1, hwr1⟩ : ∃ wr : World, wr = w1.drew := ⟨_, rfl⟩
  change wpList _ _ _ _ _ w1.drew
  have HR1 : Hid (PW wr1 base g A c (run ([]) s).1 (run ([]) s).2) := by rw [hwr1]; exact H1.out.drew
  have HMR1 : Hid (Moved w wr1 g A A) := by rw [hwr1]; exact HM1.out.drew
  have HBR1 : Hid (wr1.heap[gb]? = some (.cells #[.int .i64 z1, .int .i64 z2, .int .i64 z3] 165 (0, 0))) := by rw [hwr1]; exact HBX.out
  have hbr1 : base ≤ wr1.heap.size := by rw [hwr1]; exact hbs1
  rw [← hwr1]
  clear hwr1
  have HK1 := Lib.hid (wintC HR1.out z1 I1.out s1 HC1.out hsz1 hbr1)
  clear hsz1 hbs1 hbr1
  go_wp2_with fail
  refine HK1.out.mono ?_
  rintro e w2 ⟨A1, e1, rfl, hk1, hm1⟩
  rw [run_nil] at hk1
  have H2 := Lib.hid hk1
  have HM2 := Lib.hid (HMR1.out.trans hm1)
  have hbx1 := box_keepW HBR1.out HR1.out (by decide) (by decide) hm1
  clear HBX
  have HBX := Lib.hid hbx1
  clear hk1 hm1 hbx1 HK1 p1_0 HR1 HMR1 HBR1 H1 HM1
  go_wp2_with fail
  have hsz2 : (run (s1) s).1.length + sz s2 ≤ MX := by
    have h1 := run_len (s1) s
    have h2 := HMX.out
    omega
  have p2_1 : w2.cell? ⟨gb, 1, none⟩ = some (.int .i64 z2) := cell_of_row _ _ 1 _ _ _ HBX.out
  have hbs2 : base ≤ w2.heap.size := Nat.le_trans HBS.out HM2.out.keep.size
  go_still_tail 5, (by kernel_rfl)
  obtain ⟨wr2, hwr2⟩ : ∃ wr : World, wr = w2.drew := ⟨_, rfl⟩
  change wpList _ _ _ _ _ w2.drew
  have HR2 : Hid (PW wr2 base g A1 e1 (run (s1) s).1 (run (s1) s).2) := by rw [hwr2]; exact H2.out.drew
  have HMR2 : Hid (Moved w wr2 g A A1) := by rw [hwr2]; exact HM2.out.drew
  have HBR2 : Hid (wr2.heap[gb]? = some (.cells #[.int .i64 z1, .int .i64 z2, .int .i64 z3] 165 (0, 0))) := by rw [hwr2]; exact HBX.out
  have hbr2 : base ≤ wr2.heap.size := by rw [hwr2]; exact hbs2
  rw [← hwr2]
  clear hwr2
  have HK2 := Lib.hid (wintC HR2.out z2 I2.out s2 HC2.out hsz2 hbr2)
  clear hsz2 hbs2 hbr2
  go_wp2_with fail
  refine HK2.out.mono ?_
  rintro e w3 ⟨A2, e2, rfl, hk2, hm2⟩
  rw [← run_append] at hk2
  have H3 := Lib.hid hk2
  have HM3 := Lib.hid (HMR2.out.trans hm2)
  have hbx2 := box_keepW HBR2.out HR2.out (by decide) (by decide) hm2
  clear HBX
  have HBX := Lib.hid hbx2
  clear hk2 hm2 hbx2 HK2 p2_1 HR2 HMR2 HBR2 H2 HM2
  go_wp2_with fail
  have hsz3 : (run (s1 ++ (s2)) s).1.length + sz s3 ≤ MX := by
    have h1 := run_len (s1 ++ (s2)) s
    have h2 := HMX.out
    simp only [sz_append] at h1
    omega
  have p3_2 : w3.cell? ⟨gb, 2, none⟩ = some (.int .i64 z3) := cell_of_row _ _ 2 _ _ _ HBX.out
  have hbs3 : base ≤ w3.heap.size := Nat.le_trans HBS.out HM3.out.keep.size
  go_still_tail 5, (by kernel_rfl)
  obtain ⟨wr3, hwr3⟩ : ∃ wr : World, wr = w3.drew := ⟨_, rfl⟩
  change wpList _ _ _ _ _ w3.drew
  have HR3 : Hid (PW wr3 base g A2 e2 (run (s1 ++ (s2)) s).1 (run (s1 ++ (s2)) s).2) := by rw [hwr3]; exact H3.out.drew
  have HMR3 : Hid (Moved w wr3 g A A2) := by rw [hwr3]; exact HM3.out.drew
  have HBR3 : Hid (wr3.heap[gb]? = some (.cells #[.int .i64 z1, .int .i64 z2, .int .i64 z3] 165 (0, 0))) := by rw [hwr3]; exact HBX.out
  have hbr3 : base ≤ wr3.heap.size := by rw [hwr3]; exact hbs3
  rw [← hwr3]
  clear hwr3
  have HK3 := Lib.hid (wintC HR3.out z3 I3.out s3 HC3.out hsz3 hbr3)
  clear hsz3 hbs3 hbr3
  go_wp2_with fail
  refine HK3.out.mono ?_
  rintro e w4 ⟨A3, e3, rfl, hk3, hm3⟩
  rw [← run_append, show (s1 ++ (s2)) ++ s3 = s1 ++ (s2 ++ (s3)) from by simp only [List.append_assoc]] at hk3
  have H4 := Lib.hid hk3
  have HM4 := Lib.hid (HMR3.out.trans hm3)
  have hbx3 := box_keepW HBR3.out HR3.out (by decide) (by decide) hm3
  clear HBX
  have HBX := Lib.hid hbx3
  clear hk3 hm3 hbx3 HK3 p3_2 HR3 HMR3 HBR3 H3 HM3
  go_wp2_with fail
  go_end0
  exact ⟨A3, e3, rfl, H4.out, HM4.out⟩
set_option maxRecDepth 20000 in
set_option maxHeartbeats 4000000 in
theorem wUse {base g c : Nat} {A : Option Addr} {s : Wst} {w : World} (h : PW w base g A c s.1 s.2) (cl : List Value) (cs : Ch) (hE : EUse base w cl cs) (hmax : s.1.length + sz cs ≤ MX) (hb : base ≤ w.heap.size) :
    Calls Try.prog 49 #[.pointer (some ⟨g, 0, none⟩), .agg cl.toArray] w (PutC w base g A s cs) := by
  obtain ⟨c1, c2, c3, s1, s2, s3, h1, h2, h3, rfl, rfl⟩ := hE
  obtain ⟨z1, i1, rfl, hs1⟩ := h1
  obtain ⟨z2, i2, rfl, hs2⟩ := h2
  obtain ⟨z3, i3, rfl, hs3⟩ := h3
  simp only [sz_append] at hmax
  simp only [List.cons_append, List.nil_append]
  have HC1 := Lib.hid hs1
  clear hs1
  have HC2 := Lib.hid hs2
  clear hs2
  have HC3 := Lib.hid hs3
  clear hs3
  have HMX := Lib.hid hmax
  have HBS := Lib.hid hb
  have H0 := Lib.hid h
  have I1 := Lib.hid i1
  clear i1
  have I2 := Lib.hid i2
  clear i2
  have I3 := Lib.hid i3
  clear i3
  clear hmax hb h
  go_enter Try.func49, Try.ntmps49
  go_wp2_with fail
  obtain ⟨gb, hgb⟩ : ∃ gb, gb = w.heap.size := ⟨_, rfl⟩
  obtain ⟨w1, hw1⟩ : ∃ w1, w1 = w.alloc (.cells #[.int .i64 z1, .int .i64 z2, .int .i64 z3] 123) := ⟨_, rfl⟩
  have hn1 : New w w1 := by rw [hw1]; exact (Below.refl _ _).alloc (Nat.le_refl _) _
  have hbx : w1.heap[gb]? = some (.cells #[.int .i64 z1, .int .i64 z2, .int .i64 z3] 123 (0, 0)) := by rw [hw1, hgb]; exact heap_alloc_new w _
  have H1 : Hid (PW w1 base g A c (run [] s).1 (run [] s).2) := H0.out.new hn1
  have HBX := Lib.hid hbx
  have HM1 : Hid (Moved w w1 g A A) := Moved.of_new hn1
  rw [← hgb]
  rw [← hw1]
  clear hgb hw1 hn1 hbx
  have hsz1 : (run ([]) s).1.length + sz s1 ≤ MX := by
    have h1 := run_len ([]) s
    have h2 := HMX.out
    simp only [sz] at h1
    omega
  have p1_0 : w1.cell? ⟨gb, 0, none⟩ = some (.int .i64 z1) := cell_of_row _ _ 0 _ _ _ HBX.out
  have hbs1 : base ≤ w1.heap.size := Nat.le_trans HBS.out HM1.out.keep.size
  go_still_tail 5, (by kernel_rfl)
  obtain ⟨wr1, hwr1⟩ : ∃ wr : World, wr = w1.drew := ⟨_, rfl⟩
  change wpList _ _ _ _ _ w1.drew
  have HR1 : Hid (PW wr1 base g A c (run ([]) s).1 (run ([]) s).2) := by rw [hwr1]; exact H1.out.drew
  have HMR1 : Hid (Moved w wr1 g A A) := by rw [hwr1]; exact HM1.out.drew
  have HBR1 : Hid (wr1.heap[gb]? = some (.cells #[.int .i64 z1, .int .i64 z2, .int .i64 z3] 123 (0, 0))) := by rw [hwr1]; exact HBX.out
  have hbr1 : base ≤ wr1.heap.size := by rw [hwr1]; exact hbs1
  rw [← hwr1]
  clear hwr1
  have HK1 := Lib.hid (wintC HR1.out z1 I1.out s1 HC1.out hsz1 hbr1)
  clear hsz1 hbs1 hbr1
  go_wp2_with fail
  refine HK1.out.mono ?_
  rintro e w2 ⟨A1, e1, rfl, hk1, hm1⟩
  rw [run_nil] at hk1
  have H2 := Lib.hid hk1
  have HM2 := Lib.hid (HMR1.out.trans hm1)
  have hbx1 := box_keepW HBR1.out HR1.out (by decide) (by decide) hm1
  clear HBX
  have HBX := Lib.hid hbx1
  clear hk1 hm1 hbx1 HK1 p1_0 HR1 HMR1 HBR1 H1 HM1
  go_wp2_with fail
  have hsz2 : (run (s1) s).1.length + sz s2 ≤ MX := by
    have h1 := run_len (s1) s
    have h2 := HMX.out
    omega
  have p2_1 : w2.cell? ⟨gb, 1, none⟩ = some (.int .i64 z2) := cell_of_row _ _ 1 _ _ _ HBX.out
  have hbs2 : base ≤ w2.heap.size := Nat.le_trans HBS.out HM2.out.keep.size
  go_still_tail 5, (by kernel_rfl)
  obtain ⟨wr2, hwr2⟩ : ∃ wr : World, wr = w2.drew := ⟨_, rfl⟩
  change wpList _ _ _ _ _ w2.drew
  have HR2 : Hid (PW wr2 base g A1 e1 (run (s1) s).1 (run (s1) s).2) := by rw [hwr2]; exact H2.out.drew
  have HMR2 : Hid (Moved w wr2 g A A1) := by rw [hwr2]; exact HM2.out.drew
  have HBR2 : Hid (wr2.heap[gb]? = some (.cells #[.int .i64 z1, .int .i64 z2, .int .i64 z3] 123 (0, 0))) := by rw [hwr2]; exact HBX.out
  have hbr2 : base ≤ wr2.heap.size := by rw [hwr2]; exact hbs2
  rw [← hwr2]
  clear hwr2
  have HK2 := Lib.hid (wintC HR2.out z2 I2.out s2 HC2.out hsz2 hbr2)
  clear hsz2 hbs2 hbr2
  go_wp2_with fail
  refine HK2.out.mono ?_
  rintro e w3 ⟨A2, e2, rfl, hk2, hm2⟩
  rw [← run_append] at hk2
  have H3 := Lib.hid hk2
  have HM3 := Lib.hid (HMR2.out.trans hm2)
  have hbx2 := box_keepW HBR2.out HR2.out (by decide) (by decide) hm2
  clear HBX
  have HBX := Lib.hid hbx2
  clear hk2 hm2 hbx2 HK2 p2_1 HR2 HMR2 HBR2 H2 HM2
  go_wp2_with fail
  have hsz3 : (run (s1 ++ (s2)) s).1.length + sz s3 ≤ MX := by
    have h1 := run_len (s1 ++ (s2)) s
    have h2 := HMX.out
    simp only [sz_append] at h1
    omega
  have p3_2 : w3.cell? ⟨gb, 2, none⟩ = some (.int .i64 z3) := cell_of_row _ _ 2 _ _ _ HBX.out
  have hbs3 : base ≤ w3.heap.size := Nat.le_trans HBS.out HM3.out.keep.size
  go_still_tail 5, (by kernel_rfl)
  obtain ⟨wr3, hwr3⟩ : ∃ wr : World, wr = w3.drew := ⟨_, rfl⟩
  change wpList _ _ _ _ _ w3.drew
  have HR3 : Hid (PW wr3 base g A2 e2 (run (s1 ++ (s2)) s).1 (run (s1 ++ (s2)) s).2) := by rw [hwr3]; exact H3.out.drew
  have HMR3 : Hid (Moved w wr3 g A A2) := by rw [hwr3]; exact HM3.out.drew
  have HBR3 : Hid (wr3.heap[gb]? = some (.cells #[.int .i64 z1, .int .i64 z2, .int .i64 z3] 123 (0, 0))) := by rw [hwr3]; exact HBX.out
  have hbr3 : base ≤ wr3.heap.size := by rw [hwr3]; exact hbs3
  rw [← hwr3]
  clear hwr3
  have HK3 := Lib.hid (wintC HR3.out z3 I3.out s3 HC3.out hsz3 hbr3)
  clear hsz3 hbs3 hbr3
  go_wp2_with fail
  refine HK3.out.mono ?_
  rintro e w4 ⟨A3, e3, rfl, hk3, hm3⟩
  rw [← run_append, show (s1 ++ (s2)) ++ s3 = s1 ++ (s2 ++ (s3)) from by simp only [List.append_assoc]] at hk3
  have H4 := Lib.hid hk3
  have HM4 := Lib.hid (HMR3.out.trans hm3)
  have hbx3 := box_keepW HBR3.out HR3.out (by decide) (by decide) hm3
  clear HBX
  have HBX := Lib.hid hbx3
  clear hk3 hm3 hbx3 HK3 p3_2 HR3 HMR3 HBR3 H3 HM3
  go_wp2_with fail
  go_end0
  exact ⟨A3, e3, rfl, H4.out, HM4.out⟩
set_option maxRecDepth 20000 in
set_option maxHeartbeats 4000000 in
theorem wBusy {base g c : Nat} {A : Option Addr} {s : Wst} {w : World} (h : PW w base g A c s.1 s.2) (cl : List Value) (cs : Ch) (hE : EBusy base w cl cs) (hmax : s.1.length + sz cs ≤ MX) (hb : base ≤ w.heap.size) :
    Calls Try.prog 34 #[.pointer (some ⟨g, 0, none⟩), .agg cl.toArray] w (PutC w base g A s cs) := by
  obtain ⟨c1, c2, c3, s1, s2, s3, h1, h2, h3, rfl, rfl⟩ := hE
  obtain ⟨z1, i1, rfl, hs1⟩ := h1
  obtain ⟨z2, i2, rfl, hs2⟩ := h2
  obtain ⟨n3, k3, i3, j3, rfl, hs3⟩ := h3
  simp only [sz_append] at hmax
  simp only [List.cons_append, List.nil_append]
  have HC1 := Lib.hid hs1
  clear hs1
  have HC2 := Lib.hid hs2
  clear hs2
  have HC3 := Lib.hid hs3
  clear hs3
  have HMX := Lib.hid hmax
  have HBS := Lib.hid hb
  have H0 := Lib.hid h
  have I1 := Lib.hid i1
  clear i1
  have I2 := Lib.hid i2
  clear i2
  have I3 := Lib.hid (And.intro i3 j3)
  clear i3 j3
  clear hmax hb h
  obtain ⟨re3, hre3⟩ : ∃ re, re = fl n3 := ⟨_, rfl⟩
  obtain ⟨im3, him3⟩ : ∃ im, im = fl k3 := ⟨_, rfl⟩
  rw [← hre3, ← him3]
  have HRI3 := Lib.hid (And.intro hre3 him3)
  clear hre3 him3
  go_enter Try.func34, Try.ntmps34
  go_wp2_with fail
  obtain ⟨gb, hgb⟩ : ∃ gb, gb = w.heap.size := ⟨_, rfl⟩
  obtain ⟨w1, hw1⟩ : ∃ w1, w1 = w.alloc (.cells #[.int .i64 z1, .int .i64 z2, .complex .f64 re3 im3] 30) := ⟨_, rfl⟩
  have hn1 : New w w1 := by rw [hw1]; exact (Below.refl _ _).alloc (Nat.le_refl _) _
  have hbx : w1.heap[gb]? = some (.cells #[.int .i64 z1, .int .i64 z2, .complex .f64 re3 im3] 30 (0, 0)) := by rw [hw1, hgb]; exact heap_alloc_new w _
  have H1 : Hid (PW w1 base g A c (run [] s).1 (run [] s).2) := H0.out.new hn1
  have HBX := Lib.hid hbx
  have HM1 : Hid (Moved w w1 g A A) := Moved.of_new hn1
  rw [← hgb]
  rw [← hw1]
  clear hgb hw1 hn1 hbx
  have hsz1 : (run ([]) s).1.length + sz s1 ≤ MX := by
    have h1 := run_len ([]) s
    have h2 := HMX.out
    simp only [sz] at h1
    omega
  have p1_0 : w1.cell? ⟨gb, 0, none⟩ = some (.int .i64 z1) := cell_of_row _ _ 0 _ _ _ HBX.out
  have hbs1 : base ≤ w1.heap.size := Nat.le_trans HBS.out HM1.out.keep.size
  go_still_tail 5, (by kernel_rfl)
  obtain ⟨wr1, hwr1⟩ : ∃ wr : World, wr = w1.drew := ⟨_, rfl⟩
  change wpList _ _ _ _ _ w1.drew
  have HR1 : Hid (PW wr1 base g A c (run ([]) s).1 (run ([]) s).2) := by rw [hwr1]; exact H1.out.drew
  have HMR1 : Hid (Moved w wr1 g A A) := by rw [hwr1]; exact HM1.out.drew
  have HBR1 : Hid (wr1.heap[gb]? = some (.cells #[.int .i64 z1, .int .i64 z2, .complex .f64 re3 im3] 30 (0, 0))) := by rw [hwr1]; exact HBX.out
  have hbr1 : base ≤ wr1.heap.size := by rw [hwr1]; exact hbs1
  rw [← hwr1]
  clear hwr1
  have HK1 := Lib.hid (wintC HR1.out z1 I1.out s1 HC1.out hsz1 hbr1)
  clear hsz1 hbs1 hbr1
  go_wp2_with fail
  refine HK1.out.mono ?_
  rintro e w2 ⟨A1, e1, rfl, hk1, hm1⟩
  rw [run_nil] at hk1
  have H2 := Lib.hid hk1
  have HM2 := Lib.hid (HMR1.out.trans hm1)
  have hbx1 := box_keepW HBR1.out HR1.out (by decide) (by decide) hm1
  clear HBX
  have HBX := Lib.hid hbx1
  clear hk1 hm1 hbx1 HK1 p1_0 HR1 HMR1 HBR1 H1 HM1
  go_wp2_with fail
  have hsz2 : (run (s1) s).1.length + sz s2 ≤ MX := by
    have h1 := run_len (s1) s
    have h2 := HMX.out
    omega
  have p2_1 : w2.cell? ⟨gb, 1, none⟩ = some (.int .i64 z2) := cell_of_row _ _ 1 _ _ _ HBX.out
  have hbs2 : base ≤ w2.heap.size := Nat.le_trans HBS.out HM2.out.keep.size
  go_still_tail 5, (by kernel_rfl)
  obtain ⟨wr2, hwr2⟩ : ∃ wr : World, wr = w2.drew := ⟨_, rfl⟩
  change wpList _ _ _ _ _ w2.drew
  have HR2 : Hid (PW wr2 base g A1 e1 (run (s1) s).1 (run (s1) s).2) := by rw [hwr2]; exact H2.out.drew
  have HMR2 : Hid (Moved w wr2 g A A1) := by rw [hwr2]; exact HM2.out.drew
  have HBR2 : Hid (wr2.heap[gb]? = some (.cells #[.int .i64 z1, .int .i64 z2, .complex .f64 re3 im3] 30 (0, 0))) := by rw [hwr2]; exact HBX.out
  have hbr2 : base ≤ wr2.heap.size := by rw [hwr2]; exact hbs2
  rw [← hwr2]
  clear hwr2
  have HK2 := Lib.hid (wintC HR2.out z2 I2.out s2 HC2.out hsz2 hbr2)
  clear hsz2 hbs2 hbr2
  go_wp2_with fail
  refine HK2.out.mono ?_
  rintro e w3 ⟨A2, e2, rfl, hk2, hm2⟩
  rw [← run_append] at hk2
  have H3 := Lib.hid hk2
  have HM3 := Lib.hid (HMR2.out.trans hm2)
  have hbx2 := box_keepW HBR2.out HR2.out (by decide) (by decide) hm2
  clear HBX
  have HBX := Lib.hid hbx2
  clear hk2 hm2 hbx2 HK2 p2_1 HR2 HMR2 HBR2 H2 HM2
  go_wp2_with fail
  have hsz3 : (run (s1 ++ (s2)) s).1.length + sz s3 ≤ MX := by
    have h1 := run_len (s1 ++ (s2)) s
    have h2 := HMX.out
    simp only [sz_append] at h1
    omega
  have p3_2 : w3.cell? ⟨gb, 2, none⟩ = some (.complex .f64 re3 im3) := cell_of_row _ _ 2 _ _ _ HBX.out
  have hbs3 : base ≤ w3.heap.size := Nat.le_trans HBS.out HM3.out.keep.size
  go_still_tail 5, (by kernel_rfl)
  obtain ⟨wr3, hwr3⟩ : ∃ wr : World, wr = w3.drew := ⟨_, rfl⟩
  change wpList _ _ _ _ _ w3.drew
  have HR3 : Hid (PW wr3 base g A2 e2 (run (s1 ++ (s2)) s).1 (run (s1 ++ (s2)) s).2) := by rw [hwr3]; exact H3.out.drew
  have HMR3 : Hid (Moved w wr3 g A A2) := by rw [hwr3]; exact HM3.out.drew
  have HBR3 : Hid (wr3.heap[gb]? = some (.cells #[.int .i64 z1, .int .i64 z2, .complex .f64 re3 im3] 30 (0, 0))) := by rw [hwr3]; exact HBX.out
  have hbr3 : base ≤ wr3.heap.size := by rw [hwr3]; exact hbs3
  rw [← hwr3]
  clear hwr3
  have HK3 := Lib.hid (wamC HR3.out n3 k3 I3.out.1 I3.out.2 re3 im3 HRI3.out.1 HRI3.out.2 s3 HC3.out hsz3 hbr3)
  clear hsz3 hbs3 hbr3
  go_wp2_with fail
  refine HK3.out.mono ?_
  rintro e w4 ⟨A3, e3, rfl, hk3, hm3⟩
  rw [← run_append, show (s1 ++ (s2)) ++ s3 = s1 ++ (s2 ++ (s3)) from by simp only [List.append_assoc]] at hk3
  have H4 := Lib.hid hk3
  have HM4 := Lib.hid (HMR3.out.trans hm3)
  have hbx3 := box_keepW HBR3.out HR3.out (by decide) (by decide) hm3
  clear HBX
  have HBX := Lib.hid hbx3
  clear hk3 hm3 hbx3 HK3 p3_2 HR3 HMR3 HBR3 H3 HM3
  go_wp2_with fail
  go_end0
  exact ⟨A3, e3, rfl, H4.out, HM4.out⟩
end Go.Proofs.Ytagocmbcbbhehaa
