/- wire.writer on structs: what it does. By a program. -/
import Derived.Test.YtagocmbcbbhehaaWlB
namespace Go.Proofs.Ytagocmbcbbhehaa
set_option linter.unusedVariables false
open Go.RowKit
set_option maxRecDepth 20000 in
set_option maxHeartbeats 4000000 in
theorem wOwn {base g c : Nat} {A : Option Addr} {s : Wst} {w : World} (h : PW w base g A c s.1 s.2) (cl : List Value) (cs : Ch) (hE : EOwn base w cl cs) (hmax : s.1.length + sz cs ≤ MX) (hb : base ≤ w.heap.size) :
    Calls Try.prog 43 #[.pointer (some ⟨g, 0, none⟩), .agg cl.toArray] w (PutC w base g A s cs) := by
  obtain ⟨c1, c2, c3, c4, c5, c6, c7, c8, c9, c10, c11, c12, s1, s2, s3, s4, s5, s6, s7, s8, s9, s10, s11, s12, h1, h2, h3, h4, h5, h6, h7, h8, h9, h10, h11, h12, rfl, rfl⟩ := hE
  obtain ⟨v1_1, v1_2, v1_3, v1_4, v1_5, v1_6, v1_7, v1_8, v1_9, v1_10, rfl⟩ := h1.ex
  obtain ⟨z2, i2, rfl, hs2⟩ := h2
  obtain ⟨z3, i3, rfl, hs3⟩ := h3
  obtain ⟨z4, i4, rfl, hs4⟩ := h4
  obtain ⟨b5, rfl, hs5⟩ := h5
  obtain ⟨z6, i6, rfl, hs6⟩ := h6
  obtain ⟨z7, i7, rfl, hs7⟩ := h7
  obtain ⟨z8, i8, rfl, hs8⟩ := h8
  obtain ⟨z9, i9, rfl, hs9⟩ := h9
  obtain ⟨L10, m10, d10, hv10, _⟩ : ∃ (A : Option Addr) (n d : Nat), c10 = [.slice A n d] ∧ True := by obtain ⟨A, n, d, e, _⟩ := h10; exact ⟨A, n, d, e, trivial⟩
  subst hv10
  obtain ⟨L11, m11, d11, hv11, _⟩ : ∃ (A : Option Addr) (n d : Nat), c11 = [.slice A n d] ∧ True := by obtain ⟨A, n, d, e, _⟩ := h11; exact ⟨A, n, d, e, trivial⟩
  subst hv11
  obtain ⟨L12, m12, d12, hv12, _⟩ : ∃ (A : Option Addr) (n d : Nat), c12 = [.slice A n d] ∧ True := by obtain ⟨A, n, d, e, _⟩ := h12; exact ⟨A, n, d, e, trivial⟩
  subst hv12
  have HE1 := Lib.hid h1
  clear h1
  have HE10 := Lib.hid h10
  clear h10
  have HE11 := Lib.hid h11
  clear h11
  have HE12 := Lib.hid h12
  clear h12
  simp only [sz_append] at hmax
  simp only [List.cons_append, List.nil_append]
  have HC2 := Lib.hid hs2
  clear hs2
  have HC3 := Lib.hid hs3
  clear hs3
  have HC4 := Lib.hid hs4
  clear hs4
  have HC5 := Lib.hid hs5
  clear hs5
  have HC6 := Lib.hid hs6
  clear hs6
  have HC7 := Lib.hid hs7
  clear hs7
  have HC8 := Lib.hid hs8
  clear hs8
  have HC9 := Lib.hid hs9
  clear hs9
  have HMX := Lib.hid hmax
  have HBS := Lib.hid hb
  have H0 := Lib.hid h
  have I2 := Lib.hid i2
  clear i2
  have I3 := Lib.hid i3
  clear i3
  have I4 := Lib.hid i4
  clear i4
  have I6 := Lib.hid i6
  clear i6
  have I7 := Lib.hid i7
  clear i7
  have I8 := Lib.hid i8
  clear i8
  have I9 := Lib.hid i9
  clear i9
  clear hmax hb h
  have hmf : ∀ (fn : Fn) (first cap : Array Value) (w : World), (Instr.makeFunc fn first cap).run Try.prog w = .ok (.func fn first cap) w := fun _ _ _ _ => rfl
  go_enter Try.func43, Try.ntmps43
  go_wp2_with fail
  obtain ⟨gb, hgb⟩ : ∃ gb, gb = w.heap.size := ⟨_, rfl⟩
  obtain ⟨w1, hw1⟩ : ∃ w1, w1 = w.alloc (.cells #[v1_1, v1_2, v1_3, v1_4, v1_5, v1_6, v1_7, v1_8, v1_9, v1_10, .int .i64 z2, .int .i64 z3, .int .i64 z4, .bool b5, .int .i64 z6, .int .i64 z7, .int .i64 z8, .int .i64 z9, .slice L10 m10 d10, .slice L11 m11 d11, .slice L12 m12 d12] 111) := ⟨_, rfl⟩
  have hn1 : New w w1 := by rw [hw1]; exact (Below.refl _ _).alloc (Nat.le_refl _) _
  have hbx : w1.heap[gb]? = some (.cells #[v1_1, v1_2, v1_3, v1_4, v1_5, v1_6, v1_7, v1_8, v1_9, v1_10, .int .i64 z2, .int .i64 z3, .int .i64 z4, .bool b5, .int .i64 z6, .int .i64 z7, .int .i64 z8, .int .i64 z9, .slice L10 m10 d10, .slice L11 m11 d11, .slice L12 m12 d12] 111 (0, 0)) := by rw [hw1, hgb]; exact heap_alloc_new w _
  have H1 : Hid (PW w1 base g A c (run [] s).1 (run [] s).2) := H0.out.new hn1
  have HBX := Lib.hid hbx
  have HM1 : Hid (Moved w w1 g A A) := Moved.of_new hn1
  rw [← hgb]
  rw [← hw1]
  clear hgb hw1 hn1 hbx
  have hsz1 : (run ([]) s).1.length + sz s1 ≤ MX := by
    have h1 := run_len ([]) s
    have h2 := HMX.out
    simp only [sz] at h1
    omega
  have p1_0 : w1.cell? ⟨gb, 0, none⟩ = some (v1_1) := cell_of_row _ _ 0 _ _ _ HBX.out
  have p1_1 : w1.cell? ⟨gb, 1, none⟩ = some (v1_2) := cell_of_row _ _ 1 _ _ _ HBX.out
  have p1_2 : w1.cell? ⟨gb, 2, none⟩ = some (v1_3) := cell_of_row _ _ 2 _ _ _ HBX.out
  have p1_3 : w1.cell? ⟨gb, 3, none⟩ = some (v1_4) := cell_of_row _ _ 3 _ _ _ HBX.out
  have p1_4 : w1.cell? ⟨gb, 4, none⟩ = some (v1_5) := cell_of_row _ _ 4 _ _ _ HBX.out
  have p1_5 : w1.cell? ⟨gb, 5, none⟩ = some (v1_6) := cell_of_row _ _ 5 _ _ _ HBX.out
  have p1_6 : w1.cell? ⟨gb, 6, none⟩ = some (v1_7) := cell_of_row _ _ 6 _ _ _ HBX.out
  have p1_7 : w1.cell? ⟨gb, 7, none⟩ = some (v1_8) := cell_of_row _ _ 7 _ _ _ HBX.out
  have p1_8 : w1.cell? ⟨gb, 8, none⟩ = some (v1_9) := cell_of_row _ _ 8 _ _ _ HBX.out
  have p1_9 : w1.cell? ⟨gb, 9, none⟩ = some (v1_10) := cell_of_row _ _ 9 _ _ _ HBX.out
  have hbs1 : base ≤ w1.heap.size := Nat.le_trans HBS.out HM1.out.keep.size
  have HK1 := Lib.hid (wJob H1.out _ s1 (HE1.out.below (Moved.belowW HM1.out H0.out (Nat.le_refl _) HBS.out)) hsz1 hbs1)
  clear hsz1 hbs1
  refine HK1.out.mono ?_
  rintro e w2 ⟨A1, e1, rfl, hk1, hm1⟩
  rw [run_nil] at hk1
  have H2 := Lib.hid hk1
  have HM2 := Lib.hid (HM1.out.trans hm1)
  have hbx1 := box_keepW HBX.out H1.out (by decide) (by decide) hm1
  clear HBX
  have HBX := Lib.hid hbx1
  clear hk1 hm1 hbx1 HK1 p1_0 p1_1 p1_2 p1_3 p1_4 p1_5 p1_6 p1_7 p1_8 p1_9 H1 HM1
  go_wp2_with fail
  have hsz2 : (run (s1) s).1.length + sz s2 ≤ MX := by
    have h1 := run_len (s1) s
    have h2 := HMX.out
    omega
  have p2_10 : w2.cell? ⟨gb, 10, none⟩ = some (.int .i64 z2) := cell_of_row _ _ 10 _ _ _ HBX.out
  have hbs2 : base ≤ w2.heap.size := Nat.le_trans HBS.out HM2.out.keep.size
  go_still_tail 5, (by kernel_rfl)
  obtain ⟨wr2, hwr2⟩ : ∃ wr : World, wr = w2.drew := ⟨_, rfl⟩
  change wpList _ _ _ _ _ w2.drew
  have HR2 : Hid (PW wr2 base g A1 e1 (run (s1) s).1 (run (s1) s).2) := by rw [hwr2]; exact H2.out.drew
  have HMR2 : Hid (Moved w wr2 g A A1) := by rw [hwr2]; exact HM2.out.drew
  have HBR2 : Hid (wr2.heap[gb]? = some (.cells #[v1_1, v1_2, v1_3, v1_4, v1_5, v1_6, v1_7, v1_8, v1_9, v1_10, .int .i64 z2, .int .i64 z3, .int .i64 z4, .bool b5, .int .i64 z6, .int .i64 z7, .int .i64 z8, .int .i64 z9, .slice L10 m10 d10, .slice L11 m11 d11, .slice L12 m12 d12] 111 (0, 0))) := by rw [hwr2]; exact HBX.out
  have hbr2 : base ≤ wr2.heap.size := by rw [hwr2]; exact hbs2
  rw [← hwr2]
  clear hwr2
  have HK2 := Lib.hid (wintC HR2.out z2 I2.out s2 HC2.out hsz2 hbr2)
  clear hsz2 hbs2 hbr2
  go_wp2_with fail
  refine HK2.out.mono ?_
  rintro e w3 ⟨A2, e2, rfl, hk2, hm2⟩
  rw [← run_append] at hk2
  have H3 := Lib.hid hk2
  have HM3 := Lib.hid (HMR2.out.trans hm2)
  have hbx2 := box_keepW HBR2.out HR2.out (by decide) (by decide) hm2
  clear HBX
  have HBX := Lib.hid hbx2
  clear hk2 hm2 hbx2 HK2 p2_10 HR2 HMR2 HBR2 H2 HM2
  go_wp2_with fail
  have hsz3 : (run (s1 ++ (s2)) s).1.length + sz s3 ≤ MX := by
    have h1 := run_len (s1 ++ (s2)) s
    have h2 := HMX.out
    simp only [sz_append] at h1
    omega
  have p3_11 : w3.cell? ⟨gb, 11, none⟩ = some (.int .i64 z3) := cell_of_row _ _ 11 _ _ _ HBX.out
  have hbs3 : base ≤ w3.heap.size := Nat.le_trans HBS.out HM3.out.keep.size
  go_still_tail 5, (by kernel_rfl)
  obtain ⟨wr3, hwr3⟩ : ∃ wr : World, wr = w3.drew := ⟨_, rfl⟩
  change wpList _ _ _ _ _ w3.drew
  have HR3 : Hid (PW wr3 base g A2 e2 (run (s1 ++ (s2)) s).1 (run (s1 ++ (s2)) s).2) := by rw [hwr3]; exact H3.out.drew
  have HMR3 : Hid (Moved w wr3 g A A2) := by rw [hwr3]; exact HM3.out.drew
  have HBR3 : Hid (wr3.heap[gb]? = some (.cells #[v1_1, v1_2, v1_3, v1_4, v1_5, v1_6, v1_7, v1_8, v1_9, v1_10, .int .i64 z2, .int .i64 z3, .int .i64 z4, .bool b5, .int .i64 z6, .int .i64 z7, .int .i64 z8, .int .i64 z9, .slice L10 m10 d10, .slice L11 m11 d11, .slice L12 m12 d12] 111 (0, 0))) := by rw [hwr3]; exact HBX.out
  have hbr3 : base ≤ wr3.heap.size := by rw [hwr3]; exact hbs3
  rw [← hwr3]
  clear hwr3
  have HK3 := Lib.hid (wintC HR3.out z3 I3.out s3 HC3.out hsz3 hbr3)
  clear hsz3 hbs3 hbr3
  go_wp2_with fail
  refine HK3.out.mono ?_
  rintro e w4 ⟨A3, e3, rfl, hk3, hm3⟩
  rw [← run_append, show (s1 ++ (s2)) ++ s3 = s1 ++ (s2 ++ (s3)) from by simp only [List.append_assoc]] at hk3
  have H4 := Lib.hid hk3
  have HM4 := Lib.hid (HMR3.out.trans hm3)
  have hbx3 := box_keepW HBR3.out HR3.out (by decide) (by decide) hm3
  clear HBX
  have HBX := Lib.hid hbx3
  clear hk3 hm3 hbx3 HK3 p3_11 HR3 HMR3 HBR3 H3 HM3
  go_wp2_with fail
  have hsz4 : (run (s1 ++ (s2 ++ (s3))) s).1.length + sz s4 ≤ MX := by
    have h1 := run_len (s1 ++ (s2 ++ (s3))) s
    have h2 := HMX.out
    simp only [sz_append] at h1
    omega
  have p4_12 : w4.cell? ⟨gb, 12, none⟩ = some (.int .i64 z4) := cell_of_row _ _ 12 _ _ _ HBX.out
  have hbs4 : base ≤ w4.heap.size := Nat.le_trans HBS.out HM4.out.keep.size
  go_still_tail 5, (by kernel_rfl)
  obtain ⟨wr4, hwr4⟩ : ∃ wr : World, wr = w4.drew := ⟨_, rfl⟩
  change wpList _ _ _ _ _ w4.drew
  have HR4 : Hid (PW wr4 base g A3 e3 (run (s1 ++ (s2 ++ (s3))) s).1 (run (s1 ++ (s2 ++ (s3))) s).2) := by rw [hwr4]; exact H4.out.drew
  have HMR4 : Hid (Moved w wr4 g A A3) := by rw [hwr4]; exact HM4.out.drew
  have HBR4 : Hid (wr4.heap[gb]? = some (.cells #[v1_1, v1_2, v1_3, v1_4, v1_5, v1_6, v1_7, v1_8, v1_9, v1_10, .int .i64 z2, .int .i64 z3, .int .i64 z4, .bool b5, .int .i64 z6, .int .i64 z7, .int .i64 z8, .int .i64 z9, .slice L10 m10 d10, .slice L11 m11 d11, .slice L12 m12 d12] 111 (0, 0))) := by rw [hwr4]; exact HBX.out
  have hbr4 : base ≤ wr4.heap.size := by rw [hwr4]; exact hbs4
  rw [← hwr4]
  clear hwr4
  have HK4 := Lib.hid (wintC HR4.out z4 I4.out s4 HC4.out hsz4 hbr4)
  clear hsz4 hbs4 hbr4
  go_wp2_with fail
  refine HK4.out.mono ?_
  rintro e w5 ⟨A4, e4, rfl, hk4, hm4⟩
  rw [← run_append, show (s1 ++ (s2 ++ (s3))) ++ s4 = s1 ++ (s2 ++ (s3 ++ (s4))) from by simp only [List.append_assoc]] at hk4
  have H5 := Lib.hid hk4
  have HM5 := Lib.hid (HMR4.out.trans hm4)
  have hbx4 := box_keepW HBR4.out HR4.out (by decide) (by decide) hm4
  clear HBX
  have HBX := Lib.hid hbx4
  clear hk4 hm4 hbx4 HK4 p4_12 HR4 HMR4 HBR4 H4 HM4
  go_wp2_with fail
  have hsz5 : (run (s1 ++ (s2 ++ (s3 ++ (s4)))) s).1.length + sz s5 ≤ MX := by
    have h1 := run_len (s1 ++ (s2 ++ (s3 ++ (s4)))) s
    have h2 := HMX.out
    simp only [sz_append] at h1
    omega
  have p5_13 : w5.cell? ⟨gb, 13, none⟩ = some (.bool b5) := cell_of_row _ _ 13 _ _ _ HBX.out
  have hbs5 : base ≤ w5.heap.size := Nat.le_trans HBS.out HM5.out.keep.size
  go_still_tail 5, (by kernel_rfl)
  obtain ⟨wr5, hwr5⟩ : ∃ wr : World, wr = w5.drew := ⟨_, rfl⟩
  change wpList _ _ _ _ _ w5.drew
  have HR5 : Hid (PW wr5 base g A4 e4 (run (s1 ++ (s2 ++ (s3 ++ (s4)))) s).1 (run (s1 ++ (s2 ++ (s3 ++ (s4)))) s).2) := by rw [hwr5]; exact H5.out.drew
  have HMR5 : Hid (Moved w wr5 g A A4) := by rw [hwr5]; exact HM5.out.drew
  have HBR5 : Hid (wr5.heap[gb]? = some (.cells #[v1_1, v1_2, v1_3, v1_4, v1_5, v1_6, v1_7, v1_8, v1_9, v1_10, .int .i64 z2, .int .i64 z3, .int .i64 z4, .bool b5, .int .i64 z6, .int .i64 z7, .int .i64 z8, .int .i64 z9, .slice L10 m10 d10, .slice L11 m11 d11, .slice L12 m12 d12] 111 (0, 0))) := by rw [hwr5]; exact HBX.out
  have hbr5 : base ≤ wr5.heap.size := by rw [hwr5]; exact hbs5
  rw [← hwr5]
  clear hwr5
  have HK5 := Lib.hid (wmarkC HR5.out b5 s5 HC5.out hsz5 hbr5)
  clear hsz5 hbs5 hbr5
  go_wp2_with fail
  refine HK5.out.mono ?_
  rintro e w6 ⟨A5, e5, rfl, hk5, hm5⟩
  rw [← run_append, show (s1 ++ (s2 ++ (s3 ++ (s4)))) ++ s5 = s1 ++ (s2 ++ (s3 ++ (s4 ++ (s5)))) from by simp only [List.append_assoc]] at hk5
  have H6 := Lib.hid hk5
  have HM6 := Lib.hid (HMR5.out.trans hm5)
  have hbx5 := box_keepW HBR5.out HR5.out (by decide) (by decide) hm5
  clear HBX
  have HBX := Lib.hid hbx5
  clear hk5 hm5 hbx5 HK5 p5_13 HR5 HMR5 HBR5 H5 HM5
  go_wp2_with fail
  have hsz6 : (run (s1 ++ (s2 ++ (s3 ++ (s4 ++ (s5))))) s).1.length + sz s6 ≤ MX := by
    have h1 := run_len (s1 ++ (s2 ++ (s3 ++ (s4 ++ (s5))))) s
    have h2 := HMX.out
    simp only [sz_append] at h1
    omega
  have p6_14 : w6.cell? ⟨gb, 14, none⟩ = some (.int .i64 z6) := cell_of_row _ _ 14 _ _ _ HBX.out
  have hbs6 : base ≤ w6.heap.size := Nat.le_trans HBS.out HM6.out.keep.size
  go_still_tail 5, (by kernel_rfl)
  obtain ⟨wr6, hwr6⟩ : ∃ wr : World, wr = w6.drew := ⟨_, rfl⟩
  change wpList _ _ _ _ _ w6.drew
  have HR6 : Hid (PW wr6 base g A5 e5 (run (s1 ++ (s2 ++ (s3 ++ (s4 ++ (s5))))) s).1 (run (s1 ++ (s2 ++ (s3 ++ (s4 ++ (s5))))) s).2) := by rw [hwr6]; exact H6.out.drew
  have HMR6 : Hid (Moved w wr6 g A A5) := by rw [hwr6]; exact HM6.out.drew
  have HBR6 : Hid (wr6.heap[gb]? = some (.cells #[v1_1, v1_2, v1_3, v1_4, v1_5, v1_6, v1_7, v1_8, v1_9, v1_10, .int .i64 z2, .int .i64 z3, .int .i64 z4, .bool b5, .int .i64 z6, .int .i64 z7, .int .i64 z8, .int .i64 z9, .slice L10 m10 d10, .slice L11 m11 d11, .slice L12 m12 d12] 111 (0, 0))) := by rw [hwr6]; exact HBX.out
  have hbr6 : base ≤ wr6.heap.size := by rw [hwr6]; exact hbs6
  rw [← hwr6]
  clear hwr6
  have HK6 := Lib.hid (wintC HR6.out z6 I6.out s6 HC6.out hsz6 hbr6)
  clear hsz6 hbs6 hbr6
  go_wp2_with fail
  refine HK6.out.mono ?_
  rintro e w7 ⟨A6, e6, rfl, hk6, hm6⟩
  rw [← run_append, show (s1 ++ (s2 ++ (s3 ++ (s4 ++ (s5))))) ++ s6 = s1 ++ (s2 ++ (s3 ++ (s4 ++ (s5 ++ (s6))))) from by simp only [List.append_assoc]] at hk6
  have H7 := Lib.hid hk6
  have HM7 := Lib.hid (HMR6.out.trans hm6)
  have hbx6 := box_keepW HBR6.out HR6.out (by decide) (by decide) hm6
  clear HBX
  have HBX := Lib.hid hbx6
  clear hk6 hm6 hbx6 HK6 p6_14 HR6 HMR6 HBR6 H6 HM6
  go_wp2_with fail
  have hsz7 : (run (s1 ++ (s2 ++ (s3 ++ (s4 ++ (s5 ++ (s6)))))) s).1.length + sz s7 ≤ MX := by
    have h1 := run_len (s1 ++ (s2 ++ (s3 ++ (s4 ++ (s5 ++ (s6)))))) s
    have h2 := HMX.out
    simp only [sz_append] at h1
    omega
  have p7_15 : w7.cell? ⟨gb, 15, none⟩ = some (.int .i64 z7) := cell_of_row _ _ 15 _ _ _ HBX.out
  have hbs7 : base ≤ w7.heap.size := Nat.le_trans HBS.out HM7.out.keep.size
  go_still_tail 5, (by kernel_rfl)
  obtain ⟨wr7, hwr7⟩ : ∃ wr : World, wr = w7.drew := ⟨_, rfl⟩
  change wpList _ _ _ _ _ w7.drew
  have HR7 : Hid (PW wr7 base g A6 e6 (run (s1 ++ (s2 ++ (s3 ++ (s4 ++ (s5 ++ (s6)))))) s).1 (run (s1 ++ (s2 ++ (s3 ++ (s4 ++ (s5 ++ (s6)))))) s).2) := by rw [hwr7]; exact H7.out.drew
  have HMR7 : Hid (Moved w wr7 g A A6) := by rw [hwr7]; exact HM7.out.drew
  have HBR7 : Hid (wr7.heap[gb]? = some (.cells #[v1_1, v1_2, v1_3, v1_4, v1_5, v1_6, v1_7, v1_8, v1_9, v1_10, .int .i64 z2, .int .i64 z3, .int .i64 z4, .bool b5, .int .i64 z6, .int .i64 z7, .int .i64 z8, .int .i64 z9, .slice L10 m10 d10, .slice L11 m11 d11, .slice L12 m12 d12] 111 (0, 0))) := by rw [hwr7]; exact HBX.out
  have hbr7 : base ≤ wr7.heap.size := by rw [hwr7]; exact hbs7
  rw [← hwr7]
  clear hwr7
  have HK7 := Lib.hid (wintC HR7.out z7 I7.out s7 HC7.out hsz7 hbr7)
  clear hsz7 hbs7 hbr7
  go_wp2_with fail
  refine HK7.out.mono ?_
  rintro e w8 ⟨A7, e7, rfl, hk7, hm7⟩
  rw [← run_append, show (s1 ++ (s2 ++ (s3 ++ (s4 ++ (s5 ++ (s6)))))) ++ s7 = s1 ++ (s2 ++ (s3 ++ (s4 ++ (s5 ++ (s6 ++ (s7)))))) from by simp only [List.append_assoc]] at hk7
  have H8 := Lib.hid hk7
  have HM8 := Lib.hid (HMR7.out.trans hm7)
  have hbx7 := box_keepW HBR7.out HR7.out (by decide) (by decide) hm7
  clear HBX
  have HBX := Lib.hid hbx7
  clear hk7 hm7 hbx7 HK7 p7_15 HR7 HMR7 HBR7 H7 HM7
  go_wp2_with fail
  have hsz8 : (run (s1 ++ (s2 ++ (s3 ++ (s4 ++ (s5 ++ (s6 ++ (s7))))))) s).1.length + sz s8 ≤ MX := by
    have h1 := run_len (s1 ++ (s2 ++ (s3 ++ (s4 ++ (s5 ++ (s6 ++ (s7))))))) s
    have h2 := HMX.out
    simp only [sz_append] at h1
    omega
  have p8_16 : w8.cell? ⟨gb, 16, none⟩ = some (.int .i64 z8) := cell_of_row _ _ 16 _ _ _ HBX.out
  have hbs8 : base ≤ w8.heap.size := Nat.le_trans HBS.out HM8.out.keep.size
  go_still_tail 5, (by kernel_rfl)
  obtain ⟨wr8, hwr8⟩ : ∃ wr : World, wr = w8.drew := ⟨_, rfl⟩
  change wpList _ _ _ _ _ w8.drew
  have HR8 : Hid (PW wr8 base g A7 e7 (run (s1 ++ (s2 ++ (s3 ++ (s4 ++ (s5 ++ (s6 ++ (s7))))))) s).1 (run (s1 ++ (s2 ++ (s3 ++ (s4 ++ (s5 ++ (s6 ++ (s7))))))) s).2) := by rw [hwr8]; exact H8.out.drew
  have HMR8 : Hid (Moved w wr8 g A A7) := by rw [hwr8]; exact HM8.out.drew
  have HBR8 : Hid (wr8.heap[gb]? = some (.cells #[v1_1, v1_2, v1_3, v1_4, v1_5, v1_6, v1_7, v1_8, v1_9, v1_10, .int .i64 z2, .int .i64 z3, .int .i64 z4, .bool b5, .int .i64 z6, .int .i64 z7, .int .i64 z8, .int .i64 z9, .slice L10 m10 d10, .slice L11 m11 d11, .slice L12 m12 d12] 111 (0, 0))) := by rw [hwr8]; exact HBX.out
  have hbr8 : base ≤ wr8.heap.size := by rw [hwr8]; exact hbs8
  rw [← hwr8]
  clear hwr8
  have HK8 := Lib.hid (wintC HR8.out z8 I8.out s8 HC8.out hsz8 hbr8)
  clear hsz8 hbs8 hbr8
  go_wp2_with fail
  refine HK8.out.mono ?_
  rintro e w9 ⟨A8, e8, rfl, hk8, hm8⟩
  rw [← run_append, show (s1 ++ (s2 ++ (s3 ++ (s4 ++ (s5 ++ (s6 ++ (s7))))))) ++ s8 = s1 ++ (s2 ++ (s3 ++ (s4 ++ (s5 ++ (s6 ++ (s7 ++ (s8))))))) from by simp only [List.append_assoc]] at hk8
  have H9 := Lib.hid hk8
  have HM9 := Lib.hid (HMR8.out.trans hm8)
  have hbx8 := box_keepW HBR8.out HR8.out (by decide) (by decide) hm8
  clear HBX
  have HBX := Lib.hid hbx8
  clear hk8 hm8 hbx8 HK8 p8_16 HR8 HMR8 HBR8 H8 HM8
  go_wp2_with fail
  have hsz9 : (run (s1 ++ (s2 ++ (s3 ++ (s4 ++ (s5 ++ (s6 ++ (s7 ++ (s8)))))))) s).1.length + sz s9 ≤ MX := by
    have h1 := run_len (s1 ++ (s2 ++ (s3 ++ (s4 ++ (s5 ++ (s6 ++ (s7 ++ (s8)))))))) s
    have h2 := HMX.out
    simp only [sz_append] at h1
    omega
  have p9_17 : w9.cell? ⟨gb, 17, none⟩ = some (.int .i64 z9) := cell_of_row _ _ 17 _ _ _ HBX.out
  have hbs9 : base ≤ w9.heap.size := Nat.le_trans HBS.out HM9.out.keep.size
  go_still_tail 5, (by kernel_rfl)
  obtain ⟨wr9, hwr9⟩ : ∃ wr : World, wr = w9.drew := ⟨_, rfl⟩
  change wpList _ _ _ _ _ w9.drew
  have HR9 : Hid (PW wr9 base g A8 e8 (run (s1 ++ (s2 ++ (s3 ++ (s4 ++ (s5 ++ (s6 ++ (s7 ++ (s8)))))))) s).1 (run (s1 ++ (s2 ++ (s3 ++ (s4 ++ (s5 ++ (s6 ++ (s7 ++ (s8)))))))) s).2) := by rw [hwr9]; exact H9.out.drew
  have HMR9 : Hid (Moved w wr9 g A A8) := by rw [hwr9]; exact HM9.out.drew
  have HBR9 : Hid (wr9.heap[gb]? = some (.cells #[v1_1, v1_2, v1_3, v1_4, v1_5, v1_6, v1_7, v1_8, v1_9, v1_10, .int .i64 z2, .int .i64 z3, .int .i64 z4, .bool b5, .int .i64 z6, .int .i64 z7, .int .i64 z8, .int .i64 z9, .slice L10 m10 d10, .slice L11 m11 d11, .slice L12 m12 d12] 111 (0, 0))) := by rw [hwr9]; exact HBX.out
  have hbr9 : base ≤ wr9.heap.size := by rw [hwr9]; exact hbs9
  rw [← hwr9]
  clear hwr9
  have HK9 := Lib.hid (wintC HR9.out z9 I9.out s9 HC9.out hsz9 hbr9)
  clear hsz9 hbs9 hbr9
  go_wp2_with fail
  refine HK9.out.mono ?_
  rintro e w10 ⟨A9, e9, rfl, hk9, hm9⟩
  rw [← run_append, show (s1 ++ (s2 ++ (s3 ++ (s4 ++ (s5 ++ (s6 ++ (s7 ++ (s8)))))))) ++ s9 = s1 ++ (s2 ++ (s3 ++ (s4 ++ (s5 ++ (s6 ++ (s7 ++ (s8 ++ (s9)))))))) from by simp only [List.append_assoc]] at hk9
  have H10 := Lib.hid hk9
  have HM10 := Lib.hid (HMR9.out.trans hm9)
  have hbx9 := box_keepW HBR9.out HR9.out (by decide) (by decide) hm9
  clear HBX
  have HBX := Lib.hid hbx9
  clear hk9 hm9 hbx9 HK9 p9_17 HR9 HMR9 HBR9 H9 HM9
  go_wp2_with fail
  have hsz10 : (run (s1 ++ (s2 ++ (s3 ++ (s4 ++ (s5 ++ (s6 ++ (s7 ++ (s8 ++ (s9))))))))) s).1.length + sz s10 ≤ MX := by
    have h1 := run_len (s1 ++ (s2 ++ (s3 ++ (s4 ++ (s5 ++ (s6 ++ (s7 ++ (s8 ++ (s9))))))))) s
    have h2 := HMX.out
    simp only [sz_append] at h1
    omega
  have p10_18 : w10.cell? ⟨gb, 18, none⟩ = some (.slice L10 m10 d10) := cell_of_row _ _ 18 _ _ _ HBX.out
  have hbs10 : base ≤ w10.heap.size := Nat.le_trans HBS.out HM10.out.keep.size
  go_still_tail 7, (by kernel_rfl)
  obtain ⟨wr10, hwr10⟩ : ∃ wr : World, wr = w10.drew := ⟨_, rfl⟩
  change wpList _ _ _ _ _ w10.drew
  have HR10 : Hid (PW wr10 base g A9 e9 (run (s1 ++ (s2 ++ (s3 ++ (s4 ++ (s5 ++ (s6 ++ (s7 ++ (s8 ++ (s9))))))))) s).1 (run (s1 ++ (s2 ++ (s3 ++ (s4 ++ (s5 ++ (s6 ++ (s7 ++ (s8 ++ (s9))))))))) s).2) := by rw [hwr10]; exact H10.out.drew
  have HMR10 : Hid (Moved w wr10 g A A9) := by rw [hwr10]; exact HM10.out.drew
  have HBR10 : Hid (wr10.heap[gb]? = some (.cells #[v1_1, v1_2, v1_3, v1_4, v1_5, v1_6, v1_7, v1_8, v1_9, v1_10, .int .i64 z2, .int .i64 z3, .int .i64 z4, .bool b5, .int .i64 z6, .int .i64 z7, .int .i64 z8, .int .i64 z9, .slice L10 m10 d10, .slice L11 m11 d11, .slice L12 m12 d12] 111 (0, 0))) := by rw [hwr10]; exact HBX.out
  have hbr10 : base ≤ wr10.heap.size := by rw [hwr10]; exact hbs10
  rw [← hwr10]
  clear hwr10
  have HK10 := Lib.hid (wlInt HR10.out L10 m10 d10 8 s10 (FList.below (fun _ _ h => h.below (Moved.belowW HMR10.out H0.out (Nat.le_refl _) HBS.out)) HE10.out (Moved.belowW HMR10.out H0.out (Nat.le_refl _) HBS.out)) hsz10 hbr10)
  clear hsz10 hbs10 hbr10
  go_wp2_with fail
  refine HK10.out.mono ?_
  rintro e w11 ⟨A10, e10, rfl, hk10, hm10⟩
  rw [← run_append, show (s1 ++ (s2 ++ (s3 ++ (s4 ++ (s5 ++ (s6 ++ (s7 ++ (s8 ++ (s9))))))))) ++ s10 = s1 ++ (s2 ++ (s3 ++ (s4 ++ (s5 ++ (s6 ++ (s7 ++ (s8 ++ (s9 ++ (s10))))))))) from by simp only [List.append_assoc]] at hk10
  have H11 := Lib.hid hk10
  have HM11 := Lib.hid (HMR10.out.trans hm10)
  have hbx10 := box_keepW HBR10.out HR10.out (by decide) (by decide) hm10
  clear HBX
  have HBX := Lib.hid hbx10
  clear hk10 hm10 hbx10 HK10 p10_18 HR10 HMR10 HBR10 H10 HM10
  have hsz11 : (run (s1 ++ (s2 ++ (s3 ++ (s4 ++ (s5 ++ (s6 ++ (s7 ++ (s8 ++ (s9 ++ (s10)))))))))) s).1.length + sz s11 ≤ MX := by
    have h1 := run_len (s1 ++ (s2 ++ (s3 ++ (s4 ++ (s5 ++ (s6 ++ (s7 ++ (s8 ++ (s9 ++ (s10)))))))))) s
    have h2 := HMX.out
    simp only [sz_append] at h1
    omega
  have p11_19 : w11.cell? ⟨gb, 19, none⟩ = some (.slice L11 m11 d11) := cell_of_row _ _ 19 _ _ _ HBX.out
  have hbs11 : base ≤ w11.heap.size := Nat.le_trans HBS.out HM11.out.keep.size
  have HK11 := Lib.hid (wlOffer H11.out L11 m11 d11 8 s11 (FList.below (fun _ _ h => h.below (Moved.belowW HM11.out H0.out (Nat.le_refl _) HBS.out)) HE11.out (Moved.belowW HM11.out H0.out (Nat.le_refl _) HBS.out)) hsz11 hbs11)
  clear hsz11 hbs11
  go_wp2_with fail
  refine HK11.out.mono ?_
  rintro e w12 ⟨A11, e11, rfl, hk11, hm11⟩
  rw [← run_append, show (s1 ++ (s2 ++ (s3 ++ (s4 ++ (s5 ++ (s6 ++ (s7 ++ (s8 ++ (s9 ++ (s10)))))))))) ++ s11 = s1 ++ (s2 ++ (s3 ++ (s4 ++ (s5 ++ (s6 ++ (s7 ++ (s8 ++ (s9 ++ (s10 ++ (s11)))))))))) from by simp only [List.append_assoc]] at hk11
  have H12 := Lib.hid hk11
  have HM12 := Lib.hid (HM11.out.trans hm11)
  have hbx11 := box_keepW HBX.out H11.out (by decide) (by decide) hm11
  clear HBX
  have HBX := Lib.hid hbx11
  clear hk11 hm11 hbx11 HK11 p11_19 H11 HM11
  have hsz12 : (run (s1 ++ (s2 ++ (s3 ++ (s4 ++ (s5 ++ (s6 ++ (s7 ++ (s8 ++ (s9 ++ (s10 ++ (s11))))))))))) s).1.length + sz s12 ≤ MX := by
    have h1 := run_len (s1 ++ (s2 ++ (s3 ++ (s4 ++ (s5 ++ (s6 ++ (s7 ++ (s8 ++ (s9 ++ (s10 ++ (s11))))))))))) s
    have h2 := HMX.out
    simp only [sz_append] at h1
    omega
  have p12_20 : w12.cell? ⟨gb, 20, none⟩ = some (.slice L12 m12 d12) := cell_of_row _ _ 20 _ _ _ HBX.out
  have hbs12 : base ≤ w12.heap.size := Nat.le_trans HBS.out HM12.out.keep.size
  have HK12 := Lib.hid (wlPart H12.out L12 m12 d12 8 s12 (FList.below (fun _ _ h => h.below (Moved.belowW HM12.out H0.out (Nat.le_refl _) HBS.out)) HE12.out (Moved.belowW HM12.out H0.out (Nat.le_refl _) HBS.out)) hsz12 hbs12)
  clear hsz12 hbs12
  go_wp2_with fail
  refine HK12.out.mono ?_
  rintro e w13 ⟨A12, e12, rfl, hk12, hm12⟩
  rw [← run_append, show (s1 ++ (s2 ++ (s3 ++ (s4 ++ (s5 ++ (s6 ++ (s7 ++ (s8 ++ (s9 ++ (s10 ++ (s11))))))))))) ++ s12 = s1 ++ (s2 ++ (s3 ++ (s4 ++ (s5 ++ (s6 ++ (s7 ++ (s8 ++ (s9 ++ (s10 ++ (s11 ++ (s12))))))))))) from by simp only [List.append_assoc]] at hk12
  have H13 := Lib.hid hk12
  have HM13 := Lib.hid (HM12.out.trans hm12)
  have hbx12 := box_keepW HBX.out H12.out (by decide) (by decide) hm12
  clear HBX
  have HBX := Lib.hid hbx12
  clear hk12 hm12 hbx12 HK12 p12_20 H12 HM12
  go_wp2_with fail
  go_end0
  exact ⟨A12, e12, rfl, H13.out, HM13.out⟩
set_option maxRecDepth 20000 in
set_option maxHeartbeats 4000000 in
theorem wCopy {base g c : Nat} {A : Option Addr} {s : Wst} {w : World} (h : PW w base g A c s.1 s.2) (cl : List Value) (cs : Ch) (hE : ECopy base w cl cs) (hmax : s.1.length + sz cs ≤ MX) (hb : base ≤ w.heap.size) :
    Calls Try.prog 45 #[.pointer (some ⟨g, 0, none⟩), .agg cl.toArray] w (PutC w base g A s cs) := by
  obtain ⟨c1, c2, c3, c4, c5, c6, c7, c8, s1, s2, s3, s4, s5, s6, s7, s8, h1, h2, h3, h4, h5, h6, h7, h8, rfl, rfl⟩ := hE
  obtain ⟨v1_1, v1_2, v1_3, v1_4, v1_5, v1_6, v1_7, v1_8, v1_9, v1_10, rfl⟩ := h1.ex
  obtain ⟨z2, i2, rfl, hs2⟩ := h2
  obtain ⟨z3, i3, rfl, hs3⟩ := h3
  obtain ⟨z4, i4, rfl, hs4⟩ := h4
  obtain ⟨z5, i5, rfl, hs5⟩ := h5
  obtain ⟨z6, i6, rfl, hs6⟩ := h6
  obtain ⟨z7, i7, rfl, hs7⟩ := h7
  obtain ⟨z8, i8, rfl, hs8⟩ := h8
  have HE1 := Lib.hid h1
  clear h1
  simp only [sz_append] at hmax
  simp only [List.cons_append, List.nil_append]
  have HC2 := Lib.hid hs2
  clear hs2
  have HC3 := Lib.hid hs3
  clear hs3
  have HC4 := Lib.hid hs4
  clear hs4
  have HC5 := Lib.hid hs5
  clear hs5
  have HC6 := Lib.hid hs6
  clear hs6
  have HC7 := Lib.hid hs7
  clear hs7
  have HC8 := Lib.hid hs8
  clear hs8
  have HMX := Lib.hid hmax
  have HBS := Lib.hid hb
  have H0 := Lib.hid h
  have I2 := Lib.hid i2
  clear i2
  have I3 := Lib.hid i3
  clear i3
  have I4 := Lib.hid i4
  clear i4
  have I5 := Lib.hid i5
  clear i5
  have I6 := Lib.hid i6
  clear i6
  have I7 := Lib.hid i7
  clear i7
  have I8 := Lib.hid i8
  clear i8
  clear hmax hb h
  go_enter Try.func45, Try.ntmps45
  go_wp2_with fail
  obtain ⟨gb, hgb⟩ : ∃ gb, gb = w.heap.size := ⟨_, rfl⟩
  obtain ⟨w1, hw1⟩ : ∃ w1, w1 = w.alloc (.cells #[v1_1, v1_2, v1_3, v1_4, v1_5, v1_6, v1_7, v1_8, v1_9, v1_10, .int .i64 z2, .int .i64 z3, .int .i64 z4, .int .i64 z5, .int .i64 z6, .int .i64 z7, .int .i64 z8] 115) := ⟨_, rfl⟩
  have hn1 : New w w1 := by rw [hw1]; exact (Below.refl _ _).alloc (Nat.le_refl _) _
  have hbx : w1.heap[gb]? = some (.cells #[v1_1, v1_2, v1_3, v1_4, v1_5, v1_6, v1_7, v1_8, v1_9, v1_10, .int .i64 z2, .int .i64 z3, .int .i64 z4, .int .i64 z5, .int .i64 z6, .int .i64 z7, .int .i64 z8] 115 (0, 0)) := by rw [hw1, hgb]; exact heap_alloc_new w _
  have H1 : Hid (PW w1 base g A c (run [] s).1 (run [] s).2) := H0.out.new hn1
  have HBX := Lib.hid hbx
  have HM1 : Hid (Moved w w1 g A A) := Moved.of_new hn1
  rw [← hgb]
  rw [← hw1]
  clear hgb hw1 hn1 hbx
  have hsz1 : (run ([]) s).1.length + sz s1 ≤ MX := by
    have h1 := run_len ([]) s
    have h2 := HMX.out
    simp only [sz] at h1
    omega
  have p1_0 : w1.cell? ⟨gb, 0, none⟩ = some (v1_1) := cell_of_row _ _ 0 _ _ _ HBX.out
  have p1_1 : w1.cell? ⟨gb, 1, none⟩ = some (v1_2) := cell_of_row _ _ 1 _ _ _ HBX.out
  have p1_2 : w1.cell? ⟨gb, 2, none⟩ = some (v1_3) := cell_of_row _ _ 2 _ _ _ HBX.out
  have p1_3 : w1.cell? ⟨gb, 3, none⟩ = some (v1_4) := cell_of_row _ _ 3 _ _ _ HBX.out
  have p1_4 : w1.cell? ⟨gb, 4, none⟩ = some (v1_5) := cell_of_row _ _ 4 _ _ _ HBX.out
  have p1_5 : w1.cell? ⟨gb, 5, none⟩ = some (v1_6) := cell_of_row _ _ 5 _ _ _ HBX.out
  have p1_6 : w1.cell? ⟨gb, 6, none⟩ = some (v1_7) := cell_of_row _ _ 6 _ _ _ HBX.out
  have p1_7 : w1.cell? ⟨gb, 7, none⟩ = some (v1_8) := cell_of_row _ _ 7 _ _ _ HBX.out
  have p1_8 : w1.cell? ⟨gb, 8, none⟩ = some (v1_9) := cell_of_row _ _ 8 _ _ _ HBX.out
  have p1_9 : w1.cell? ⟨gb, 9, none⟩ = some (v1_10) := cell_of_row _ _ 9 _ _ _ HBX.out
  have hbs1 : base ≤ w1.heap.size := Nat.le_trans HBS.out HM1.out.keep.size
  have HK1 := Lib.hid (wJob H1.out _ s1 (HE1.out.below (Moved.belowW HM1.out H0.out (Nat.le_refl _) HBS.out)) hsz1 hbs1)
  clear hsz1 hbs1
  refine HK1.out.mono ?_
  rintro e w2 ⟨A1, e1, rfl, hk1, hm1⟩
  rw [run_nil] at hk1
  have H2 := Lib.hid hk1
  have HM2 := Lib.hid (HM1.out.trans hm1)
  have hbx1 := box_keepW HBX.out H1.out (by decide) (by decide) hm1
  clear HBX
  have HBX := Lib.hid hbx1
  clear hk1 hm1 hbx1 HK1 p1_0 p1_1 p1_2 p1_3 p1_4 p1_5 p1_6 p1_7 p1_8 p1_9 H1 HM1
  go_wp2_with fail
  have hsz2 : (run (s1) s).1.length + sz s2 ≤ MX := by
    have h1 := run_len (s1) s
    have h2 := HMX.out
    omega
  have p2_10 : w2.cell? ⟨gb, 10, none⟩ = some (.int .i64 z2) := cell_of_row _ _ 10 _ _ _ HBX.out
  have hbs2 : base ≤ w2.heap.size := Nat.le_trans HBS.out HM2.out.keep.size
  go_still_tail 5, (by kernel_rfl)
  obtain ⟨wr2, hwr2⟩ : ∃ wr : World, wr = w2.drew := ⟨_, rfl⟩
  change wpList _ _ _ _ _ w2.drew
  have HR2 : Hid (PW wr2 base g A1 e1 (run (s1) s).1 (run (s1) s).2) := by rw [hwr2]; exact H2.out.drew
  have HMR2 : Hid (Moved w wr2 g A A1) := by rw [hwr2]; exact HM2.out.drew
  have HBR2 : Hid (wr2.heap[gb]? = some (.cells #[v1_1, v1_2, v1_3, v1_4, v1_5, v1_6, v1_7, v1_8, v1_9, v1_10, .int .i64 z2, .int .i64 z3, .int .i64 z4, .int .i64 z5, .int .i64 z6, .int .i64 z7, .int .i64 z8] 115 (0, 0))) := by rw [hwr2]; exact HBX.out
  have hbr2 : base ≤ wr2.heap.size := by rw [hwr2]; exact hbs2
  rw [← hwr2]
  clear hwr2
  have HK2 := Lib.hid (wintC HR2.out z2 I2.out s2 HC2.out hsz2 hbr2)
  clear hsz2 hbs2 hbr2
  go_wp2_with fail
  refine HK2.out.mono ?_
  rintro e w3 ⟨A2, e2, rfl, hk2, hm2⟩
  rw [← run_append] at hk2
  have H3 := Lib.hid hk2
  have HM3 := Lib.hid (HMR2.out.trans hm2)
  have hbx2 := box_keepW HBR2.out HR2.out (by decide) (by decide) hm2
  clear HBX
  have HBX := Lib.hid hbx2
  clear hk2 hm2 hbx2 HK2 p2_10 HR2 HMR2 HBR2 H2 HM2
  go_wp2_with fail
  have hsz3 : (run (s1 ++ (s2)) s).1.length + sz s3 ≤ MX := by
    have h1 := run_len (s1 ++ (s2)) s
    have h2 := HMX.out
    simp only [sz_append] at h1
    omega
  have p3_11 : w3.cell? ⟨gb, 11, none⟩ = some (.int .i64 z3) := cell_of_row _ _ 11 _ _ _ HBX.out
  have hbs3 : base ≤ w3.heap.size := Nat.le_trans HBS.out HM3.out.keep.size
  go_still_tail 5, (by kernel_rfl)
  obtain ⟨wr3, hwr3⟩ : ∃ wr : World, wr = w3.drew := ⟨_, rfl⟩
  change wpList _ _ _ _ _ w3.drew
  have HR3 : Hid (PW wr3 base g A2 e2 (run (s1 ++ (s2)) s).1 (run (s1 ++ (s2)) s).2) := by rw [hwr3]; exact H3.out.drew
  have HMR3 : Hid (Moved w wr3 g A A2) := by rw [hwr3]; exact HM3.out.drew
  have HBR3 : Hid (wr3.heap[gb]? = some (.cells #[v1_1, v1_2, v1_3, v1_4, v1_5, v1_6, v1_7, v1_8, v1_9, v1_10, .int .i64 z2, .int .i64 z3, .int .i64 z4, .int .i64 z5, .int .i64 z6, .int .i64 z7, .int .i64 z8] 115 (0, 0))) := by rw [hwr3]; exact HBX.out
  have hbr3 : base ≤ wr3.heap.size := by rw [hwr3]; exact hbs3
  rw [← hwr3]
  clear hwr3
  have HK3 := Lib.hid (wintC HR3.out z3 I3.out s3 HC3.out hsz3 hbr3)
  clear hsz3 hbs3 hbr3
  go_wp2_with fail
  refine HK3.out.mono ?_
  rintro e w4 ⟨A3, e3, rfl, hk3, hm3⟩
  rw [← run_append, show (s1 ++ (s2)) ++ s3 = s1 ++ (s2 ++ (s3)) from by simp only [List.append_assoc]] at hk3
  have H4 := Lib.hid hk3
  have HM4 := Lib.hid (HMR3.out.trans hm3)
  have hbx3 := box_keepW HBR3.out HR3.out (by decide) (by decide) hm3
  clear HBX
  have HBX := Lib.hid hbx3
  clear hk3 hm3 hbx3 HK3 p3_11 HR3 HMR3 HBR3 H3 HM3
  go_wp2_with fail
  have hsz4 : (run (s1 ++ (s2 ++ (s3))) s).1.length + sz s4 ≤ MX := by
    have h1 := run_len (s1 ++ (s2 ++ (s3))) s
    have h2 := HMX.out
    simp only [sz_append] at h1
    omega
  have p4_12 : w4.cell? ⟨gb, 12, none⟩ = some (.int .i64 z4) := cell_of_row _ _ 12 _ _ _ HBX.out
  have hbs4 : base ≤ w4.heap.size := Nat.le_trans HBS.out HM4.out.keep.size
  go_still_tail 5, (by kernel_rfl)
  obtain ⟨wr4, hwr4⟩ : ∃ wr : World, wr = w4.drew := ⟨_, rfl⟩
  change wpList _ _ _ _ _ w4.drew
  have HR4 : Hid (PW wr4 base g A3 e3 (run (s1 ++ (s2 ++ (s3))) s).1 (run (s1 ++ (s2 ++ (s3))) s).2) := by rw [hwr4]; exact H4.out.drew
  have HMR4 : Hid (Moved w wr4 g A A3) := by rw [hwr4]; exact HM4.out.drew
  have HBR4 : Hid (wr4.heap[gb]? = some (.cells #[v1_1, v1_2, v1_3, v1_4, v1_5, v1_6, v1_7, v1_8, v1_9, v1_10, .int .i64 z2, .int .i64 z3, .int .i64 z4, .int .i64 z5, .int .i64 z6, .int .i64 z7, .int .i64 z8] 115 (0, 0))) := by rw [hwr4]; exact HBX.out
  have hbr4 : base ≤ wr4.heap.size := by rw [hwr4]; exact hbs4
  rw [← hwr4]
  clear hwr4
  have HK4 := Lib.hid (wintC HR4.out z4 I4.out s4 HC4.out hsz4 hbr4)
  clear hsz4 hbs4 hbr4
  go_wp2_with fail
  refine HK4.out.mono ?_
  rintro e w5 ⟨A4, e4, rfl, hk4, hm4⟩
  rw [← run_append, show (s1 ++ (s2 ++ (s3))) ++ s4 = s1 ++ (s2 ++ (s3 ++ (s4))) from by simp only [List.append_assoc]] at hk4
  have H5 := Lib.hid hk4
  have HM5 := Lib.hid (HMR4.out.trans hm4)
  have hbx4 := box_keepW HBR4.out HR4.out (by decide) (by decide) hm4
  clear HBX
  have HBX := Lib.hid hbx4
  clear hk4 hm4 hbx4 HK4 p4_12 HR4 HMR4 HBR4 H4 HM4
  go_wp2_with fail
  have hsz5 : (run (s1 ++ (s2 ++ (s3 ++ (s4)))) s).1.length + sz s5 ≤ MX := by
    have h1 := run_len (s1 ++ (s2 ++ (s3 ++ (s4)))) s
    have h2 := HMX.out
    simp only [sz_append] at h1
    omega
  have p5_13 : w5.cell? ⟨gb, 13, none⟩ = some (.int .i64 z5) := cell_of_row _ _ 13 _ _ _ HBX.out
  have hbs5 : base ≤ w5.heap.size := Nat.le_trans HBS.out HM5.out.keep.size
  go_still_tail 5, (by kernel_rfl)
  obtain ⟨wr5, hwr5⟩ : ∃ wr : World, wr = w5.drew := ⟨_, rfl⟩
  change wpList _ _ _ _ _ w5.drew
  have HR5 : Hid (PW wr5 base g A4 e4 (run (s1 ++ (s2 ++ (s3 ++ (s4)))) s).1 (run (s1 ++ (s2 ++ (s3 ++ (s4)))) s).2) := by rw [hwr5]; exact H5.out.drew
  have HMR5 : Hid (Moved w wr5 g A A4) := by rw [hwr5]; exact HM5.out.drew
  have HBR5 : Hid (wr5.heap[gb]? = some (.cells #[v1_1, v1_2, v1_3, v1_4, v1_5, v1_6, v1_7, v1_8, v1_9, v1_10, .int .i64 z2, .int .i64 z3, .int .i64 z4, .int .i64 z5, .int .i64 z6, .int .i64 z7, .int .i64 z8] 115 (0, 0))) := by rw [hwr5]; exact HBX.out
  have hbr5 : base ≤ wr5.heap.size := by rw [hwr5]; exact hbs5
  rw [← hwr5]
  clear hwr5
  have HK5 := Lib.hid (wintC HR5.out z5 I5.out s5 HC5.out hsz5 hbr5)
  clear hsz5 hbs5 hbr5
  go_wp2_with fail
  refine HK5.out.mono ?_
  rintro e w6 ⟨A5, e5, rfl, hk5, hm5⟩
  rw [← run_append, show (s1 ++ (s2 ++ (s3 ++ (s4)))) ++ s5 = s1 ++ (s2 ++ (s3 ++ (s4 ++ (s5)))) from by simp only [List.append_assoc]] at hk5
  have H6 := Lib.hid hk5
  have HM6 := Lib.hid (HMR5.out.trans hm5)
  have hbx5 := box_keepW HBR5.out HR5.out (by decide) (by decide) hm5
  clear HBX
  have HBX := Lib.hid hbx5
  clear hk5 hm5 hbx5 HK5 p5_13 HR5 HMR5 HBR5 H5 HM5
  go_wp2_with fail
  have hsz6 : (run (s1 ++ (s2 ++ (s3 ++ (s4 ++ (s5))))) s).1.length + sz s6 ≤ MX := by
    have h1 := run_len (s1 ++ (s2 ++ (s3 ++ (s4 ++ (s5))))) s
    have h2 := HMX.out
    simp only [sz_append] at h1
    omega
  have p6_14 : w6.cell? ⟨gb, 14, none⟩ = some (.int .i64 z6) := cell_of_row _ _ 14 _ _ _ HBX.out
  have hbs6 : base ≤ w6.heap.size := Nat.le_trans HBS.out HM6.out.keep.size
  go_still_tail 5, (by kernel_rfl)
  obtain ⟨wr6, hwr6⟩ : ∃ wr : World, wr = w6.drew := ⟨_, rfl⟩
  change wpList _ _ _ _ _ w6.drew
  have HR6 : Hid (PW wr6 base g A5 e5 (run (s1 ++ (s2 ++ (s3 ++ (s4 ++ (s5))))) s).1 (run (s1 ++ (s2 ++ (s3 ++ (s4 ++ (s5))))) s).2) := by rw [hwr6]; exact H6.out.drew
  have HMR6 : Hid (Moved w wr6 g A A5) := by rw [hwr6]; exact HM6.out.drew
  have HBR6 : Hid (wr6.heap[gb]? = some (.cells #[v1_1, v1_2, v1_3, v1_4, v1_5, v1_6, v1_7, v1_8, v1_9, v1_10, .int .i64 z2, .int .i64 z3, .int .i64 z4, .int .i64 z5, .int .i64 z6, .int .i64 z7, .int .i64 z8] 115 (0, 0))) := by rw [hwr6]; exact HBX.out
  have hbr6 : base ≤ wr6.heap.size := by rw [hwr6]; exact hbs6
  rw [← hwr6]
  clear hwr6
  have HK6 := Lib.hid (wintC HR6.out z6 I6.out s6 HC6.out hsz6 hbr6)
  clear hsz6 hbs6 hbr6
  go_wp2_with fail
  refine HK6.out.mono ?_
  rintro e w7 ⟨A6, e6, rfl, hk6, hm6⟩
  rw [← run_append, show (s1 ++ (s2 ++ (s3 ++ (s4 ++ (s5))))) ++ s6 = s1 ++ (s2 ++ (s3 ++ (s4 ++ (s5 ++ (s6))))) from by simp only [List.append_assoc]] at hk6
  have H7 := Lib.hid hk6
  have HM7 := Lib.hid (HMR6.out.trans hm6)
  have hbx6 := box_keepW HBR6.out HR6.out (by decide) (by decide) hm6
  clear HBX
  have HBX := Lib.hid hbx6
  clear hk6 hm6 hbx6 HK6 p6_14 HR6 HMR6 HBR6 H6 HM6
  go_wp2_with fail
  have hsz7 : (run (s1 ++ (s2 ++ (s3 ++ (s4 ++ (s5 ++ (s6)))))) s).1.length + sz s7 ≤ MX := by
    have h1 := run_len (s1 ++ (s2 ++ (s3 ++ (s4 ++ (s5 ++ (s6)))))) s
    have h2 := HMX.out
    simp only [sz_append] at h1
    omega
  have p7_15 : w7.cell? ⟨gb, 15, none⟩ = some (.int .i64 z7) := cell_of_row _ _ 15 _ _ _ HBX.out
  have hbs7 : base ≤ w7.heap.size := Nat.le_trans HBS.out HM7.out.keep.size
  go_still_tail 5, (by kernel_rfl)
  obtain ⟨wr7, hwr7⟩ : ∃ wr : World, wr = w7.drew := ⟨_, rfl⟩
  change wpList _ _ _ _ _ w7.drew
  have HR7 : Hid (PW wr7 base g A6 e6 (run (s1 ++ (s2 ++ (s3 ++ (s4 ++ (s5 ++ (s6)))))) s).1 (run (s1 ++ (s2 ++ (s3 ++ (s4 ++ (s5 ++ (s6)))))) s).2) := by rw [hwr7]; exact H7.out.drew
  have HMR7 : Hid (Moved w wr7 g A A6) := by rw [hwr7]; exact HM7.out.drew
  have HBR7 : Hid (wr7.heap[gb]? = some (.cells #[v1_1, v1_2, v1_3, v1_4, v1_5, v1_6, v1_7, v1_8, v1_9, v1_10, .int .i64 z2, .int .i64 z3, .int .i64 z4, .int .i64 z5, .int .i64 z6, .int .i64 z7, .int .i64 z8] 115 (0, 0))) := by rw [hwr7]; exact HBX.out
  have hbr7 : base ≤ wr7.heap.size := by rw [hwr7]; exact hbs7
  rw [← hwr7]
  clear hwr7
  have HK7 := Lib.hid (wintC HR7.out z7 I7.out s7 HC7.out hsz7 hbr7)
  clear hsz7 hbs7 hbr7
  go_wp2_with fail
  refine HK7.out.mono ?_
  rintro e w8 ⟨A7, e7, rfl, hk7, hm7⟩
  rw [← run_append, show (s1 ++ (s2 ++ (s3 ++ (s4 ++ (s5 ++ (s6)))))) ++ s7 = s1 ++ (s2 ++ (s3 ++ (s4 ++ (s5 ++ (s6 ++ (s7)))))) from by simp only [List.append_assoc]] at hk7
  have H8 := Lib.hid hk7
  have HM8 := Lib.hid (HMR7.out.trans hm7)
  have hbx7 := box_keepW HBR7.out HR7.out (by decide) (by decide) hm7
  clear HBX
  have HBX := Lib.hid hbx7
  clear hk7 hm7 hbx7 HK7 p7_15 HR7 HMR7 HBR7 H7 HM7
  go_wp2_with fail
  have hsz8 : (run (s1 ++ (s2 ++ (s3 ++ (s4 ++ (s5 ++ (s6 ++ (s7))))))) s).1.length + sz s8 ≤ MX := by
    have h1 := run_len (s1 ++ (s2 ++ (s3 ++ (s4 ++ (s5 ++ (s6 ++ (s7))))))) s
    have h2 := HMX.out
    simp only [sz_append] at h1
    omega
  have p8_16 : w8.cell? ⟨gb, 16, none⟩ = some (.int .i64 z8) := cell_of_row _ _ 16 _ _ _ HBX.out
  have hbs8 : base ≤ w8.heap.size := Nat.le_trans HBS.out HM8.out.keep.size
  go_still_tail 5, (by kernel_rfl)
  obtain ⟨wr8, hwr8⟩ : ∃ wr : World, wr = w8.drew := ⟨_, rfl⟩
  change wpList _ _ _ _ _ w8.drew
  have HR8 : Hid (PW wr8 base g A7 e7 (run (s1 ++ (s2 ++ (s3 ++ (s4 ++ (s5 ++ (s6 ++ (s7))))))) s).1 (run (s1 ++ (s2 ++ (s3 ++ (s4 ++ (s5 ++ (s6 ++ (s7))))))) s).2) := by rw [hwr8]; exact H8.out.drew
  have HMR8 : Hid (Moved w wr8 g A A7) := by rw [hwr8]; exact HM8.out.drew
  have HBR8 : Hid (wr8.heap[gb]? = some (.cells #[v1_1, v1_2, v1_3, v1_4, v1_5, v1_6, v1_7, v1_8, v1_9, v1_10, .int .i64 z2, .int .i64 z3, .int .i64 z4, .int .i64 z5, .int .i64 z6, .int .i64 z7, .int .i64 z8] 115 (0, 0))) := by rw [hwr8]; exact HBX.out
  have hbr8 : base ≤ wr8.heap.size := by rw [hwr8]; exact hbs8
  rw [← hwr8]
  clear hwr8
  have HK8 := Lib.hid (wintC HR8.out z8 I8.out s8 HC8.out hsz8 hbr8)
  clear hsz8 hbs8 hbr8
  go_wp2_with fail
  refine HK8.out.mono ?_
  rintro e w9 ⟨A8, e8, rfl, hk8, hm8⟩
  rw [← run_append, show (s1 ++ (s2 ++ (s3 ++ (s4 ++ (s5 ++ (s6 ++ (s7))))))) ++ s8 = s1 ++ (s2 ++ (s3 ++ (s4 ++ (s5 ++ (s6 ++ (s7 ++ (s8))))))) from by simp only [List.append_assoc]] at hk8
  have H9 := Lib.hid hk8
  have HM9 := Lib.hid (HMR8.out.trans hm8)
  have hbx8 := box_keepW HBR8.out HR8.out (by decide) (by decide) hm8
  clear HBX
  have HBX := Lib.hid hbx8
  clear hk8 hm8 hbx8 HK8 p8_16 HR8 HMR8 HBR8 H8 HM8
  go_wp2_with fail
  go_end0
  exact ⟨A8, e8, rfl, H9.out, HM9.out⟩
set_option maxRecDepth 20000 in
set_option maxHeartbeats 4000000 in
theorem wRec {base g c : Nat} {A : Option Addr} {s : Wst} {w : World} (h : PW w base g A c s.1 s.2) (cl : List Value) (cs : Ch) (hE : ERec base w cl cs) (hmax : s.1.length + sz cs ≤ MX) (hb : base ≤ w.heap.size) :
    Calls Try.prog 15 #[.pointer (some ⟨g, 0, none⟩), .agg cl.toArray] w (PutC w base g A s cs) := by
  obtain ⟨c1, c2, c3, c4, c5, c6, c7, c8, c9, c10, c11, c12, s1, s2, s3, s4, s5, s6, s7, s8, s9, s10, s11, s12, h1, h2, h3, h4, h5, h6, h7, h8, h9, h10, h11, h12, rfl, rfl⟩ := hE
  obtain ⟨z1, i1, rfl, hs1⟩ := h1
  obtain ⟨v2_1, v2_2, rfl⟩ := h2.ex
  obtain ⟨z3, i3, rfl, hs3⟩ := h3
  obtain ⟨z4, i4, rfl, hs4⟩ := h4
  obtain ⟨z5, i5, rfl, hs5⟩ := h5
  obtain ⟨z6, i6, rfl, hs6⟩ := h6
  obtain ⟨z7, i7, rfl, hs7⟩ := h7
  obtain ⟨b8, rfl, hs8⟩ := h8
  obtain ⟨v9_1, v9_2, v9_3, v9_4, v9_5, v9_6, v9_7, v9_8, v9_9, v9_10, rfl⟩ := h9.ex
  obtain ⟨v10_1, v10_2, v10_3, rfl⟩ := h10.ex
  obtain ⟨L11, m11, d11, hv11, _⟩ : ∃ (A : Option Addr) (n d : Nat), c11 = [.slice A n d] ∧ True := by obtain ⟨A, n, d, e, _⟩ := h11; exact ⟨A, n, d, e, trivial⟩
  subst hv11
  obtain ⟨L12, m12, d12, hv12, _⟩ : ∃ (A : Option Addr) (n d : Nat), c12 = [.slice A n d] ∧ True := by obtain ⟨A, n, d, e, _⟩ := h12; exact ⟨A, n, d, e, trivial⟩
  subst hv12
  have HE2 := Lib.hid h2
  clear h2
  have HE9 := Lib.hid h9
  clear h9
  have HE10 := Lib.hid h10
  clear h10
  have HE11 := Lib.hid h11
  clear h11
  have HE12 := Lib.hid h12
  clear h12
  simp only [sz_append] at hmax
  simp only [List.cons_append, List.nil_append]
  have HC1 := Lib.hid hs1
  clear hs1
  have HC3 := Lib.hid hs3
  clear hs3
  have HC4 := Lib.hid hs4
  clear hs4
  have HC5 := Lib.hid hs5
  clear hs5
  have HC6 := Lib.hid hs6
  clear hs6
  have HC7 := Lib.hid hs7
  clear hs7
  have HC8 := Lib.hid hs8
  clear hs8
  have HMX := Lib.hid hmax
  have HBS := Lib.hid hb
  have H0 := Lib.hid h
  have I1 := Lib.hid i1
  clear i1
  have I3 := Lib.hid i3
  clear i3
  have I4 := Lib.hid i4
  clear i4
  have I5 := Lib.hid i5
  clear i5
  have I6 := Lib.hid i6
  clear i6
  have I7 := Lib.hid i7
  clear i7
  clear hmax hb h
  have hmf : ∀ (fn : Fn) (first cap : Array Value) (w : World), (Instr.makeFunc fn first cap).run Try.prog w = .ok (.func fn first cap) w := fun _ _ _ _ => rfl
  go_enter Try.func15, Try.ntmps15
  go_wp2_with fail
  obtain ⟨gb, hgb⟩ : ∃ gb, gb = w.heap.size := ⟨_, rfl⟩
  obtain ⟨w1, hw1⟩ : ∃ w1, w1 = w.alloc (.cells #[.int .i64 z1, v2_1, v2_2, .int .i64 z3, .int .i64 z4, .int .i64 z5, .int .i64 z6, .int .i64 z7, .bool b8, v9_1, v9_2, v9_3, v9_4, v9_5, v9_6, v9_7, v9_8, v9_9, v9_10, v10_1, v10_2, v10_3, .slice L11 m11 d11, .slice L12 m12 d12] 33) := ⟨_, rfl⟩
  have hn1 : New w w1 := by rw [hw1]; exact (Below.refl _ _).alloc (Nat.le_refl _) _
  have hbx : w1.heap[gb]? = some (.cells #[.int .i64 z1, v2_1, v2_2, .int .i64 z3, .int .i64 z4, .int .i64 z5, .int .i64 z6, .int .i64 z7, .bool b8, v9_1, v9_2, v9_3, v9_4, v9_5, v9_6, v9_7, v9_8, v9_9, v9_10, v10_1, v10_2, v10_3, .slice L11 m11 d11, .slice L12 m12 d12] 33 (0, 0)) := by rw [hw1, hgb]; exact heap_alloc_new w _
  have H1 : Hid (PW w1 base g A c (run [] s).1 (run [] s).2) := H0.out.new hn1
  have HBX := Lib.hid hbx
  have HM1 : Hid (Moved w w1 g A A) := Moved.of_new hn1
  rw [← hgb]
  rw [← hw1]
  clear hgb hw1 hn1 hbx
  have hsz1 : (run ([]) s).1.length + sz s1 ≤ MX := by
    have h1 := run_len ([]) s
    have h2 := HMX.out
    simp only [sz] at h1
    omega
  have p1_0 : w1.cell? ⟨gb, 0, none⟩ = some (.int .i64 z1) := cell_of_row _ _ 0 _ _ _ HBX.out
  have hbs1 : base ≤ w1.heap.size := Nat.le_trans HBS.out HM1.out.keep.size
  go_still_tail 5, (by kernel_rfl)
  obtain ⟨wr1, hwr1⟩ : ∃ wr : World, wr = w1.drew := ⟨_, rfl⟩
  change wpList _ _ _ _ _ w1.drew
  have HR1 : Hid (PW wr1 base g A c (run ([]) s).1 (run ([]) s).2) := by rw [hwr1]; exact H1.out.drew
  have HMR1 : Hid (Moved w wr1 g A A) := by rw [hwr1]; exact HM1.out.drew
  have HBR1 : Hid (wr1.heap[gb]? = some (.cells #[.int .i64 z1, v2_1, v2_2, .int .i64 z3, .int .i64 z4, .int .i64 z5, .int .i64 z6, .int .i64 z7, .bool b8, v9_1, v9_2, v9_3, v9_4, v9_5, v9_6, v9_7, v9_8, v9_9, v9_10, v10_1, v10_2, v10_3, .slice L11 m11 d11, .slice L12 m12 d12] 33 (0, 0))) := by rw [hwr1]; exact HBX.out
  have hbr1 : base ≤ wr1.heap.size := by rw [hwr1]; exact hbs1
  rw [← hwr1]
  clear hwr1
  have HK1 := Lib.hid (wintC HR1.out z1 I1.out s1 HC1.out hsz1 hbr1)
  clear hsz1 hbs1 hbr1
  go_wp2_with fail
  refine HK1.out.mono ?_
  rintro e w2 ⟨A1, e1, rfl, hk1, hm1⟩
  rw [run_nil] at hk1
  have H2 := Lib.hid hk1
  have HM2 := Lib.hid (HMR1.out.trans hm1)
  have hbx1 := box_keepW HBR1.out HR1.out (by decide) (by decide) hm1
  clear HBX
  have HBX := Lib.hid hbx1
  clear hk1 hm1 hbx1 HK1 p1_0 HR1 HMR1 HBR1 H1 HM1
  have hsz2 : (run (s1) s).1.length + sz s2 ≤ MX := by
    have h1 := run_len (s1) s
    have h2 := HMX.out
    omega
  have p2_1 : w2.cell? ⟨gb, 1, none⟩ = some (v2_1) := cell_of_row _ _ 1 _ _ _ HBX.out
  have p2_2 : w2.cell? ⟨gb, 2, none⟩ = some (v2_2) := cell_of_row _ _ 2 _ _ _ HBX.out
  have hbs2 : base ≤ w2.heap.size := Nat.le_trans HBS.out HM2.out.keep.size
  have HK2 := Lib.hid (wId H2.out _ s2 (HE2.out.below (Moved.belowW HM2.out H0.out (Nat.le_refl _) HBS.out)) hsz2 hbs2)
  clear hsz2 hbs2
  go_wp2_with fail
  refine HK2.out.mono ?_
  rintro e w3 ⟨A2, e2, rfl, hk2, hm2⟩
  rw [← run_append] at hk2
  have H3 := Lib.hid hk2
  have HM3 := Lib.hid (HM2.out.trans hm2)
  have hbx2 := box_keepW HBX.out H2.out (by decide) (by decide) hm2
  clear HBX
  have HBX := Lib.hid hbx2
  clear hk2 hm2 hbx2 HK2 p2_1 p2_2 H2 HM2
  go_wp2_with fail
  have hsz3 : (run (s1 ++ (s2)) s).1.length + sz s3 ≤ MX := by
    have h1 := run_len (s1 ++ (s2)) s
    have h2 := HMX.out
    simp only [sz_append] at h1
    omega
  have p3_3 : w3.cell? ⟨gb, 3, none⟩ = some (.int .i64 z3) := cell_of_row _ _ 3 _ _ _ HBX.out
  have hbs3 : base ≤ w3.heap.size := Nat.le_trans HBS.out HM3.out.keep.size
  go_still_tail 5, (by kernel_rfl)
  obtain ⟨wr3, hwr3⟩ : ∃ wr : World, wr = w3.drew := ⟨_, rfl⟩
  change wpList _ _ _ _ _ w3.drew
  have HR3 : Hid (PW wr3 base g A2 e2 (run (s1 ++ (s2)) s).1 (run (s1 ++ (s2)) s).2) := by rw [hwr3]; exact H3.out.drew
  have HMR3 : Hid (Moved w wr3 g A A2) := by rw [hwr3]; exact HM3.out.drew
  have HBR3 : Hid (wr3.heap[gb]? = some (.cells #[.int .i64 z1, v2_1, v2_2, .int .i64 z3, .int .i64 z4, .int .i64 z5, .int .i64 z6, .int .i64 z7, .bool b8, v9_1, v9_2, v9_3, v9_4, v9_5, v9_6, v9_7, v9_8, v9_9, v9_10, v10_1, v10_2, v10_3, .slice L11 m11 d11, .slice L12 m12 d12] 33 (0, 0))) := by rw [hwr3]; exact HBX.out
  have hbr3 : base ≤ wr3.heap.size := by rw [hwr3]; exact hbs3
  rw [← hwr3]
  clear hwr3
  have HK3 := Lib.hid (wintC HR3.out z3 I3.out s3 HC3.out hsz3 hbr3)
  clear hsz3 hbs3 hbr3
  go_wp2_with fail
  refine HK3.out.mono ?_
  rintro e w4 ⟨A3, e3, rfl, hk3, hm3⟩
  rw [← run_append, show (s1 ++ (s2)) ++ s3 = s1 ++ (s2 ++ (s3)) from by simp only [List.append_assoc]] at hk3
  have H4 := Lib.hid hk3
  have HM4 := Lib.hid (HMR3.out.trans hm3)
  have hbx3 := box_keepW HBR3.out HR3.out (by decide) (by decide) hm3
  clear HBX
  have HBX := Lib.hid hbx3
  clear hk3 hm3 hbx3 HK3 p3_3 HR3 HMR3 HBR3 H3 HM3
  go_wp2_with fail
  have hsz4 : (run (s1 ++ (s2 ++ (s3))) s).1.length + sz s4 ≤ MX := by
    have h1 := run_len (s1 ++ (s2 ++ (s3))) s
    have h2 := HMX.out
    simp only [sz_append] at h1
    omega
  have p4_4 : w4.cell? ⟨gb, 4, none⟩ = some (.int .i64 z4) := cell_of_row _ _ 4 _ _ _ HBX.out
  have hbs4 : base ≤ w4.heap.size := Nat.le_trans HBS.out HM4.out.keep.size
  go_still_tail 5, (by kernel_rfl)
  obtain ⟨wr4, hwr4⟩ : ∃ wr : World, wr = w4.drew := ⟨_, rfl⟩
  change wpList _ _ _ _ _ w4.drew
  have HR4 : Hid (PW wr4 base g A3 e3 (run (s1 ++ (s2 ++ (s3))) s).1 (run (s1 ++ (s2 ++ (s3))) s).2) := by rw [hwr4]; exact H4.out.drew
  have HMR4 : Hid (Moved w wr4 g A A3) := by rw [hwr4]; exact HM4.out.drew
  have HBR4 : Hid (wr4.heap[gb]? = some (.cells #[.int .i64 z1, v2_1, v2_2, .int .i64 z3, .int .i64 z4, .int .i64 z5, .int .i64 z6, .int .i64 z7, .bool b8, v9_1, v9_2, v9_3, v9_4, v9_5, v9_6, v9_7, v9_8, v9_9, v9_10, v10_1, v10_2, v10_3, .slice L11 m11 d11, .slice L12 m12 d12] 33 (0, 0))) := by rw [hwr4]; exact HBX.out
  have hbr4 : base ≤ wr4.heap.size := by rw [hwr4]; exact hbs4
  rw [← hwr4]
  clear hwr4
  have HK4 := Lib.hid (wintC HR4.out z4 I4.out s4 HC4.out hsz4 hbr4)
  clear hsz4 hbs4 hbr4
  go_wp2_with fail
  refine HK4.out.mono ?_
  rintro e w5 ⟨A4, e4, rfl, hk4, hm4⟩
  rw [← run_append, show (s1 ++ (s2 ++ (s3))) ++ s4 = s1 ++ (s2 ++ (s3 ++ (s4))) from by simp only [List.append_assoc]] at hk4
  have H5 := Lib.hid hk4
  have HM5 := Lib.hid (HMR4.out.trans hm4)
  have hbx4 := box_keepW HBR4.out HR4.out (by decide) (by decide) hm4
  clear HBX
  have HBX := Lib.hid hbx4
  clear hk4 hm4 hbx4 HK4 p4_4 HR4 HMR4 HBR4 H4 HM4
  go_wp2_with fail
  have hsz5 : (run (s1 ++ (s2 ++ (s3 ++ (s4)))) s).1.length + sz s5 ≤ MX := by
    have h1 := run_len (s1 ++ (s2 ++ (s3 ++ (s4)))) s
    have h2 := HMX.out
    simp only [sz_append] at h1
    omega
  have p5_5 : w5.cell? ⟨gb, 5, none⟩ = some (.int .i64 z5) := cell_of_row _ _ 5 _ _ _ HBX.out
  have hbs5 : base ≤ w5.heap.size := Nat.le_trans HBS.out HM5.out.keep.size
  go_still_tail 5, (by kernel_rfl)
  obtain ⟨wr5, hwr5⟩ : ∃ wr : World, wr = w5.drew := ⟨_, rfl⟩
  change wpList _ _ _ _ _ w5.drew
  have HR5 : Hid (PW wr5 base g A4 e4 (run (s1 ++ (s2 ++ (s3 ++ (s4)))) s).1 (run (s1 ++ (s2 ++ (s3 ++ (s4)))) s).2) := by rw [hwr5]; exact H5.out.drew
  have HMR5 : Hid (Moved w wr5 g A A4) := by rw [hwr5]; exact HM5.out.drew
  have HBR5 : Hid (wr5.heap[gb]? = some (.cells #[.int .i64 z1, v2_1, v2_2, .int .i64 z3, .int .i64 z4, .int .i64 z5, .int .i64 z6, .int .i64 z7, .bool b8, v9_1, v9_2, v9_3, v9_4, v9_5, v9_6, v9_7, v9_8, v9_9, v9_10, v10_1, v10_2, v10_3, .slice L11 m11 d11, .slice L12 m12 d12] 33 (0, 0))) := by rw [hwr5]; exact HBX.out
  have hbr5 : base ≤ wr5.heap.size := by rw [hwr5]; exact hbs5
  rw [← hwr5]
  clear hwr5
  have HK5 := Lib.hid (wintC HR5.out z5 I5.out s5 HC5.out hsz5 hbr5)
  clear hsz5 hbs5 hbr5
  go_wp2_with fail
  refine HK5.out.mono ?_
  rintro e w6 ⟨A5, e5, rfl, hk5, hm5⟩
  rw [← run_append, show (s1 ++ (s2 ++ (s3 ++ (s4)))) ++ s5 = s1 ++ (s2 ++ (s3 ++ (s4 ++ (s5)))) from by simp only [List.append_assoc]] at hk5
  have H6 := Lib.hid hk5
  have HM6 := Lib.hid (HMR5.out.trans hm5)
  have hbx5 := box_keepW HBR5.out HR5.out (by decide) (by decide) hm5
  clear HBX
  have HBX := Lib.hid hbx5
  clear hk5 hm5 hbx5 HK5 p5_5 HR5 HMR5 HBR5 H5 HM5
  go_wp2_with fail
  have hsz6 : (run (s1 ++ (s2 ++ (s3 ++ (s4 ++ (s5))))) s).1.length + sz s6 ≤ MX := by
    have h1 := run_len (s1 ++ (s2 ++ (s3 ++ (s4 ++ (s5))))) s
    have h2 := HMX.out
    simp only [sz_append] at h1
    omega
  have p6_6 : w6.cell? ⟨gb, 6, none⟩ = some (.int .i64 z6) := cell_of_row _ _ 6 _ _ _ HBX.out
  have hbs6 : base ≤ w6.heap.size := Nat.le_trans HBS.out HM6.out.keep.size
  go_still_tail 5, (by kernel_rfl)
  obtain ⟨wr6, hwr6⟩ : ∃ wr : World, wr = w6.drew := ⟨_, rfl⟩
  change wpList _ _ _ _ _ w6.drew
  have HR6 : Hid (PW wr6 base g A5 e5 (run (s1 ++ (s2 ++ (s3 ++ (s4 ++ (s5))))) s).1 (run (s1 ++ (s2 ++ (s3 ++ (s4 ++ (s5))))) s).2) := by rw [hwr6]; exact H6.out.drew
  have HMR6 : Hid (Moved w wr6 g A A5) := by rw [hwr6]; exact HM6.out.drew
  have HBR6 : Hid (wr6.heap[gb]? = some (.cells #[.int .i64 z1, v2_1, v2_2, .int .i64 z3, .int .i64 z4, .int .i64 z5, .int .i64 z6, .int .i64 z7, .bool b8, v9_1, v9_2, v9_3, v9_4, v9_5, v9_6, v9_7, v9_8, v9_9, v9_10, v10_1, v10_2, v10_3, .slice L11 m11 d11, .slice L12 m12 d12] 33 (0, 0))) := by rw [hwr6]; exact HBX.out
  have hbr6 : base ≤ wr6.heap.size := by rw [hwr6]; exact hbs6
  rw [← hwr6]
  clear hwr6
  have HK6 := Lib.hid (wintC HR6.out z6 I6.out s6 HC6.out hsz6 hbr6)
  clear hsz6 hbs6 hbr6
  go_wp2_with fail
  refine HK6.out.mono ?_
  rintro e w7 ⟨A6, e6, rfl, hk6, hm6⟩
  rw [← run_append, show (s1 ++ (s2 ++ (s3 ++ (s4 ++ (s5))))) ++ s6 = s1 ++ (s2 ++ (s3 ++ (s4 ++ (s5 ++ (s6))))) from by simp only [List.append_assoc]] at hk6
  have H7 := Lib.hid hk6
  have HM7 := Lib.hid (HMR6.out.trans hm6)
  have hbx6 := box_keepW HBR6.out HR6.out (by decide) (by decide) hm6
  clear HBX
  have HBX := Lib.hid hbx6
  clear hk6 hm6 hbx6 HK6 p6_6 HR6 HMR6 HBR6 H6 HM6
  go_wp2_with fail
  have hsz7 : (run (s1 ++ (s2 ++ (s3 ++ (s4 ++ (s5 ++ (s6)))))) s).1.length + sz s7 ≤ MX := by
    have h1 := run_len (s1 ++ (s2 ++ (s3 ++ (s4 ++ (s5 ++ (s6)))))) s
    have h2 := HMX.out
    simp only [sz_append] at h1
    omega
  have p7_7 : w7.cell? ⟨gb, 7, none⟩ = some (.int .i64 z7) := cell_of_row _ _ 7 _ _ _ HBX.out
  have hbs7 : base ≤ w7.heap.size := Nat.le_trans HBS.out HM7.out.keep.size
  go_still_tail 5, (by kernel_rfl)
  obtain ⟨wr7, hwr7⟩ : ∃ wr : World, wr = w7.drew := ⟨_, rfl⟩
  change wpList _ _ _ _ _ w7.drew
  have HR7 : Hid (PW wr7 base g A6 e6 (run (s1 ++ (s2 ++ (s3 ++ (s4 ++ (s5 ++ (s6)))))) s).1 (run (s1 ++ (s2 ++ (s3 ++ (s4 ++ (s5 ++ (s6)))))) s).2) := by rw [hwr7]; exact H7.out.drew
  have HMR7 : Hid (Moved w wr7 g A A6) := by rw [hwr7]; exact HM7.out.drew
  have HBR7 : Hid (wr7.heap[gb]? = some (.cells #[.int .i64 z1, v2_1, v2_2, .int .i64 z3, .int .i64 z4, .int .i64 z5, .int .i64 z6, .int .i64 z7, .bool b8, v9_1, v9_2, v9_3, v9_4, v9_5, v9_6, v9_7, v9_8, v9_9, v9_10, v10_1, v10_2, v10_3, .slice L11 m11 d11, .slice L12 m12 d12] 33 (0, 0))) := by rw [hwr7]; exact HBX.out
  have hbr7 : base ≤ wr7.heap.size := by rw [hwr7]; exact hbs7
  rw [← hwr7]
  clear hwr7
  have HK7 := Lib.hid (wintC HR7.out z7 I7.out s7 HC7.out hsz7 hbr7)
  clear hsz7 hbs7 hbr7
  go_wp2_with fail
  refine HK7.out.mono ?_
  rintro e w8 ⟨A7, e7, rfl, hk7, hm7⟩
  rw [← run_append, show (s1 ++ (s2 ++ (s3 ++ (s4 ++ (s5 ++ (s6)))))) ++ s7 = s1 ++ (s2 ++ (s3 ++ (s4 ++ (s5 ++ (s6 ++ (s7)))))) from by simp only [List.append_assoc]] at hk7
  have H8 := Lib.hid hk7
  have HM8 := Lib.hid (HMR7.out.trans hm7)
  have hbx7 := box_keepW HBR7.out HR7.out (by decide) (by decide) hm7
  clear HBX
  have HBX := Lib.hid hbx7
  clear hk7 hm7 hbx7 HK7 p7_7 HR7 HMR7 HBR7 H7 HM7
  go_wp2_with fail
  have hsz8 : (run (s1 ++ (s2 ++ (s3 ++ (s4 ++ (s5 ++ (s6 ++ (s7))))))) s).1.length + sz s8 ≤ MX := by
    have h1 := run_len (s1 ++ (s2 ++ (s3 ++ (s4 ++ (s5 ++ (s6 ++ (s7))))))) s
    have h2 := HMX.out
    simp only [sz_append] at h1
    omega
  have p8_8 : w8.cell? ⟨gb, 8, none⟩ = some (.bool b8) := cell_of_row _ _ 8 _ _ _ HBX.out
  have hbs8 : base ≤ w8.heap.size := Nat.le_trans HBS.out HM8.out.keep.size
  go_still_tail 5, (by kernel_rfl)
  obtain ⟨wr8, hwr8⟩ : ∃ wr : World, wr = w8.drew := ⟨_, rfl⟩
  change wpList _ _ _ _ _ w8.drew
  have HR8 : Hid (PW wr8 base g A7 e7 (run (s1 ++ (s2 ++ (s3 ++ (s4 ++ (s5 ++ (s6 ++ (s7))))))) s).1 (run (s1 ++ (s2 ++ (s3 ++ (s4 ++ (s5 ++ (s6 ++ (s7))))))) s).2) := by rw [hwr8]; exact H8.out.drew
  have HMR8 : Hid (Moved w wr8 g A A7) := by rw [hwr8]; exact HM8.out.drew
  have HBR8 : Hid (wr8.heap[gb]? = some (.cells #[.int .i64 z1, v2_1, v2_2, .int .i64 z3, .int .i64 z4, .int .i64 z5, .int .i64 z6, .int .i64 z7, .bool b8, v9_1, v9_2, v9_3, v9_4, v9_5, v9_6, v9_7, v9_8, v9_9, v9_10, v10_1, v10_2, v10_3, .slice L11 m11 d11, .slice L12 m12 d12] 33 (0, 0))) := by rw [hwr8]; exact HBX.out
  have hbr8 : base ≤ wr8.heap.size := by rw [hwr8]; exact hbs8
  rw [← hwr8]
  clear hwr8
  have HK8 := Lib.hid (wmarkC HR8.out b8 s8 HC8.out hsz8 hbr8)
  clear hsz8 hbs8 hbr8
  go_wp2_with fail
  refine HK8.out.mono ?_
  rintro e w9 ⟨A8, e8, rfl, hk8, hm8⟩
  rw [← run_append, show (s1 ++ (s2 ++ (s3 ++ (s4 ++ (s5 ++ (s6 ++ (s7))))))) ++ s8 = s1 ++ (s2 ++ (s3 ++ (s4 ++ (s5 ++ (s6 ++ (s7 ++ (s8))))))) from by simp only [List.append_assoc]] at hk8
  have H9 := Lib.hid hk8
  have HM9 := Lib.hid (HMR8.out.trans hm8)
  have hbx8 := box_keepW HBR8.out HR8.out (by decide) (by decide) hm8
  clear HBX
  have HBX := Lib.hid hbx8
  clear hk8 hm8 hbx8 HK8 p8_8 HR8 HMR8 HBR8 H8 HM8
  have hsz9 : (run (s1 ++ (s2 ++ (s3 ++ (s4 ++ (s5 ++ (s6 ++ (s7 ++ (s8)))))))) s).1.length + sz s9 ≤ MX := by
    have h1 := run_len (s1 ++ (s2 ++ (s3 ++ (s4 ++ (s5 ++ (s6 ++ (s7 ++ (s8)))))))) s
    have h2 := HMX.out
    simp only [sz_append] at h1
    omega
  have p9_9 : w9.cell? ⟨gb, 9, none⟩ = some (v9_1) := cell_of_row _ _ 9 _ _ _ HBX.out
  have p9_10 : w9.cell? ⟨gb, 10, none⟩ = some (v9_2) := cell_of_row _ _ 10 _ _ _ HBX.out
  have p9_11 : w9.cell? ⟨gb, 11, none⟩ = some (v9_3) := cell_of_row _ _ 11 _ _ _ HBX.out
  have p9_12 : w9.cell? ⟨gb, 12, none⟩ = some (v9_4) := cell_of_row _ _ 12 _ _ _ HBX.out
  have p9_13 : w9.cell? ⟨gb, 13, none⟩ = some (v9_5) := cell_of_row _ _ 13 _ _ _ HBX.out
  have p9_14 : w9.cell? ⟨gb, 14, none⟩ = some (v9_6) := cell_of_row _ _ 14 _ _ _ HBX.out
  have p9_15 : w9.cell? ⟨gb, 15, none⟩ = some (v9_7) := cell_of_row _ _ 15 _ _ _ HBX.out
  have p9_16 : w9.cell? ⟨gb, 16, none⟩ = some (v9_8) := cell_of_row _ _ 16 _ _ _ HBX.out
  have p9_17 : w9.cell? ⟨gb, 17, none⟩ = some (v9_9) := cell_of_row _ _ 17 _ _ _ HBX.out
  have p9_18 : w9.cell? ⟨gb, 18, none⟩ = some (v9_10) := cell_of_row _ _ 18 _ _ _ HBX.out
  have hbs9 : base ≤ w9.heap.size := Nat.le_trans HBS.out HM9.out.keep.size
  have HK9 := Lib.hid (wJob H9.out _ s9 (HE9.out.below (Moved.belowW HM9.out H0.out (Nat.le_refl _) HBS.out)) hsz9 hbs9)
  clear hsz9 hbs9
  go_wp2_with fail
  refine HK9.out.mono ?_
  rintro e w10 ⟨A9, e9, rfl, hk9, hm9⟩
  rw [← run_append, show (s1 ++ (s2 ++ (s3 ++ (s4 ++ (s5 ++ (s6 ++ (s7 ++ (s8)))))))) ++ s9 = s1 ++ (s2 ++ (s3 ++ (s4 ++ (s5 ++ (s6 ++ (s7 ++ (s8 ++ (s9)))))))) from by simp only [List.append_assoc]] at hk9
  have H10 := Lib.hid hk9
  have HM10 := Lib.hid (HM9.out.trans hm9)
  have hbx9 := box_keepW HBX.out H9.out (by decide) (by decide) hm9
  clear HBX
  have HBX := Lib.hid hbx9
  clear hk9 hm9 hbx9 HK9 p9_9 p9_10 p9_11 p9_12 p9_13 p9_14 p9_15 p9_16 p9_17 p9_18 H9 HM9
  have hsz10 : (run (s1 ++ (s2 ++ (s3 ++ (s4 ++ (s5 ++ (s6 ++ (s7 ++ (s8 ++ (s9))))))))) s).1.length + sz s10 ≤ MX := by
    have h1 := run_len (s1 ++ (s2 ++ (s3 ++ (s4 ++ (s5 ++ (s6 ++ (s7 ++ (s8 ++ (s9))))))))) s
    have h2 := HMX.out
    simp only [sz_append] at h1
    omega
  have p10_19 : w10.cell? ⟨gb, 19, none⟩ = some (v10_1) := cell_of_row _ _ 19 _ _ _ HBX.out
  have p10_20 : w10.cell? ⟨gb, 20, none⟩ = some (v10_2) := cell_of_row _ _ 20 _ _ _ HBX.out
  have p10_21 : w10.cell? ⟨gb, 21, none⟩ = some (v10_3) := cell_of_row _ _ 21 _ _ _ HBX.out
  have hbs10 : base ≤ w10.heap.size := Nat.le_trans HBS.out HM10.out.keep.size
  have HK10 := Lib.hid (wBusy H10.out _ s10 (HE10.out.below (Moved.belowW HM10.out H0.out (Nat.le_refl _) HBS.out)) hsz10 hbs10)
  clear hsz10 hbs10
  go_wp2_with fail
  refine HK10.out.mono ?_
  rintro e w11 ⟨A10, e10, rfl, hk10, hm10⟩
  rw [← run_append, show (s1 ++ (s2 ++ (s3 ++ (s4 ++ (s5 ++ (s6 ++ (s7 ++ (s8 ++ (s9))))))))) ++ s10 = s1 ++ (s2 ++ (s3 ++ (s4 ++ (s5 ++ (s6 ++ (s7 ++ (s8 ++ (s9 ++ (s10))))))))) from by simp only [List.append_assoc]] at hk10
  have H11 := Lib.hid hk10
  have HM11 := Lib.hid (HM10.out.trans hm10)
  have hbx10 := box_keepW HBX.out H10.out (by decide) (by decide) hm10
  clear HBX
  have HBX := Lib.hid hbx10
  clear hk10 hm10 hbx10 HK10 p10_19 p10_20 p10_21 H10 HM10
  have hsz11 : (run (s1 ++ (s2 ++ (s3 ++ (s4 ++ (s5 ++ (s6 ++ (s7 ++ (s8 ++ (s9 ++ (s10)))))))))) s).1.length + sz s11 ≤ MX := by
    have h1 := run_len (s1 ++ (s2 ++ (s3 ++ (s4 ++ (s5 ++ (s6 ++ (s7 ++ (s8 ++ (s9 ++ (s10)))))))))) s
    have h2 := HMX.out
    simp only [sz_append] at h1
    omega
  have p11_22 : w11.cell? ⟨gb, 22, none⟩ = some (.slice L11 m11 d11) := cell_of_row _ _ 22 _ _ _ HBX.out
  have hbs11 : base ≤ w11.heap.size := Nat.le_trans HBS.out HM11.out.keep.size
  have HK11 := Lib.hid (wlSpan H11.out L11 m11 d11 8 s11 (FList.below (fun _ _ h => h.below (Moved.belowW HM11.out H0.out (Nat.le_refl _) HBS.out)) HE11.out (Moved.belowW HM11.out H0.out (Nat.le_refl _) HBS.out)) hsz11 hbs11)
  clear hsz11 hbs11
  go_wp2_with fail
  refine HK11.out.mono ?_
  rintro e w12 ⟨A11, e11, rfl, hk11, hm11⟩
  rw [← run_append, show (s1 ++ (s2 ++ (s3 ++ (s4 ++ (s5 ++ (s6 ++ (s7 ++ (s8 ++ (s9 ++ (s10)))))))))) ++ s11 = s1 ++ (s2 ++ (s3 ++ (s4 ++ (s5 ++ (s6 ++ (s7 ++ (s8 ++ (s9 ++ (s10 ++ (s11)))))))))) from by simp only [List.append_assoc]] at hk11
  have H12 := Lib.hid hk11
  have HM12 := Lib.hid (HM11.out.trans hm11)
  have hbx11 := box_keepW HBX.out H11.out (by decide) (by decide) hm11
  clear HBX
  have HBX := Lib.hid hbx11
  clear hk11 hm11 hbx11 HK11 p11_22 H11 HM11
  have hsz12 : (run (s1 ++ (s2 ++ (s3 ++ (s4 ++ (s5 ++ (s6 ++ (s7 ++ (s8 ++ (s9 ++ (s10 ++ (s11))))))))))) s).1.length + sz s12 ≤ MX := by
    have h1 := run_len (s1 ++ (s2 ++ (s3 ++ (s4 ++ (s5 ++ (s6 ++ (s7 ++ (s8 ++ (s9 ++ (s10 ++ (s11))))))))))) s
    have h2 := HMX.out
    simp only [sz_append] at h1
    omega
  have p12_23 : w12.cell? ⟨gb, 23, none⟩ = some (.slice L12 m12 d12) := cell_of_row _ _ 23 _ _ _ HBX.out
  have hbs12 : base ≤ w12.heap.size := Nat.le_trans HBS.out HM12.out.keep.size
  have HK12 := Lib.hid (wlSlot H12.out L12 m12 d12 256 s12 (FList.below (fun _ _ h => h.below (Moved.belowW HM12.out H0.out (Nat.le_refl _) HBS.out)) HE12.out (Moved.belowW HM12.out H0.out (Nat.le_refl _) HBS.out)) hsz12 hbs12)
  clear hsz12 hbs12
  go_wp2_with fail
  refine HK12.out.mono ?_
  rintro e w13 ⟨A12, e12, rfl, hk12, hm12⟩
  rw [← run_append, show (s1 ++ (s2 ++ (s3 ++ (s4 ++ (s5 ++ (s6 ++ (s7 ++ (s8 ++ (s9 ++ (s10 ++ (s11))))))))))) ++ s12 = s1 ++ (s2 ++ (s3 ++ (s4 ++ (s5 ++ (s6 ++ (s7 ++ (s8 ++ (s9 ++ (s10 ++ (s11 ++ (s12))))))))))) from by simp only [List.append_assoc]] at hk12
  have H13 := Lib.hid hk12
  have HM13 := Lib.hid (HM12.out.trans hm12)
  have hbx12 := box_keepW HBX.out H12.out (by decide) (by decide) hm12
  clear HBX
  have HBX := Lib.hid hbx12
  clear hk12 hm12 hbx12 HK12 p12_23 H12 HM12
  go_wp2_with fail
  go_end0
  exact ⟨A12, e12, rfl, H13.out, HM13.out⟩
set_option maxRecDepth 20000 in
set_option maxHeartbeats 4000000 in
theorem wMsg {base g c : Nat} {A : Option Addr} {s : Wst} {w : World} (h : PW w base g A c s.1 s.2) (cl : List Value) (cs : Ch) (hE : EMsg base w cl cs) (hmax : s.1.length + sz cs ≤ MX) (hb : base ≤ w.heap.size) :
    Calls Try.prog 18 #[.pointer (some ⟨g, 0, none⟩), .agg cl.toArray] w (PutC w base g A s cs) := by
  obtain ⟨c1, c2, c3, c4, c5, c6, c7, c8, s1, s2, s3, s4, s5, s6, s7, s8, h1, h2, h3, h4, h5, h6, h7, h8, rfl, rfl⟩ := hE
  obtain ⟨z1, i1, rfl, hs1⟩ := h1
  obtain ⟨v2_1, v2_2, rfl⟩ := h2.ex
  obtain ⟨z3, i3, rfl, hs3⟩ := h3
  obtain ⟨z4, i4, rfl, hs4⟩ := h4
  obtain ⟨z5, i5, rfl, hs5⟩ := h5
  obtain ⟨b6, rfl, hs6⟩ := h6
  obtain ⟨v7_1, v7_2, v7_3, v7_4, v7_5, v7_6, v7_7, v7_8, v7_9, v7_10, rfl⟩ := h7.ex
  obtain ⟨L8, m8, d8, hv8, _⟩ : ∃ (A : Option Addr) (n d : Nat), c8 = [.slice A n d] ∧ True := by obtain ⟨A, n, d, e, _⟩ := h8; exact ⟨A, n, d, e, trivial⟩
  subst hv8
  have HE2 := Lib.hid h2
  clear h2
  have HE7 := Lib.hid h7
  clear h7
  have HE8 := Lib.hid h8
  clear h8
  simp only [sz_append] at hmax
  simp only [List.cons_append, List.nil_append]
  have HC1 := Lib.hid hs1
  clear hs1
  have HC3 := Lib.hid hs3
  clear hs3
  have HC4 := Lib.hid hs4
  clear hs4
  have HC5 := Lib.hid hs5
  clear hs5
  have HC6 := Lib.hid hs6
  clear hs6
  have HMX := Lib.hid hmax
  have HBS := Lib.hid hb
  have H0 := Lib.hid h
  have I1 := Lib.hid i1
  clear i1
  have I3 := Lib.hid i3
  clear i3
  have I4 := Lib.hid i4
  clear i4
  have I5 := Lib.hid i5
  clear i5
  clear hmax hb h
  have hmf : ∀ (fn : Fn) (first cap : Array Value) (w : World), (Instr.makeFunc fn first cap).run Try.prog w = .ok (.func fn first cap) w := fun _ _ _ _ => rfl
  go_enter Try.func18, Try.ntmps18
  go_wp2_with fail
  obtain ⟨gb, hgb⟩ : ∃ gb, gb = w.heap.size := ⟨_, rfl⟩
  obtain ⟨w1, hw1⟩ : ∃ w1, w1 = w.alloc (.cells #[.int .i64 z1, v2_1, v2_2, .int .i64 z3, .int .i64 z4, .int .i64 z5, .bool b6, v7_1, v7_2, v7_3, v7_4, v7_5, v7_6, v7_7, v7_8, v7_9, v7_10, .slice L8 m8 d8] 71) := ⟨_, rfl⟩
  have hn1 : New w w1 := by rw [hw1]; exact (Below.refl _ _).alloc (Nat.le_refl _) _
  have hbx : w1.heap[gb]? = some (.cells #[.int .i64 z1, v2_1, v2_2, .int .i64 z3, .int .i64 z4, .int .i64 z5, .bool b6, v7_1, v7_2, v7_3, v7_4, v7_5, v7_6, v7_7, v7_8, v7_9, v7_10, .slice L8 m8 d8] 71 (0, 0)) := by rw [hw1, hgb]; exact heap_alloc_new w _
  have H1 : Hid (PW w1 base g A c (run [] s).1 (run [] s).2) := H0.out.new hn1
  have HBX := Lib.hid hbx
  have HM1 : Hid (Moved w w1 g A A) := Moved.of_new hn1
  rw [← hgb]
  rw [← hw1]
  clear hgb hw1 hn1 hbx
  have hsz1 : (run ([]) s).1.length + sz s1 ≤ MX := by
    have h1 := run_len ([]) s
    have h2 := HMX.out
    simp only [sz] at h1
    omega
  have p1_0 : w1.cell? ⟨gb, 0, none⟩ = some (.int .i64 z1) := cell_of_row _ _ 0 _ _ _ HBX.out
  have hbs1 : base ≤ w1.heap.size := Nat.le_trans HBS.out HM1.out.keep.size
  go_still_tail 5, (by kernel_rfl)
  obtain ⟨wr1, hwr1⟩ : ∃ wr : World, wr = w1.drew := ⟨_, rfl⟩
  change wpList _ _ _ _ _ w1.drew
  have HR1 : Hid (PW wr1 base g A c (run ([]) s).1 (run ([]) s).2) := by rw [hwr1]; exact H1.out.drew
  have HMR1 : Hid (Moved w wr1 g A A) := by rw [hwr1]; exact HM1.out.drew
  have HBR1 : Hid (wr1.heap[gb]? = some (.cells #[.int .i64 z1, v2_1, v2_2, .int .i64 z3, .int .i64 z4, .int .i64 z5, .bool b6, v7_1, v7_2, v7_3, v7_4, v7_5, v7_6, v7_7, v7_8, v7_9, v7_10, .slice L8 m8 d8] 71 (0, 0))) := by rw [hwr1]; exact HBX.out
  have hbr1 : base ≤ wr1.heap.size := by rw [hwr1]; exact hbs1
  rw [← hwr1]
  clear hwr1
  have HK1 := Lib.hid (wintC HR1.out z1 I1.out s1 HC1.out hsz1 hbr1)
  clear hsz1 hbs1 hbr1
  go_wp2_with fail
  refine HK1.out.mono ?_
  rintro e w2 ⟨A1, e1, rfl, hk1, hm1⟩
  rw [run_nil] at hk1
  have H2 := Lib.hid hk1
  have HM2 := Lib.hid (HMR1.out.trans hm1)
  have hbx1 := box_keepW HBR1.out HR1.out (by decide) (by decide) hm1
  clear HBX
  have HBX := Lib.hid hbx1
  clear hk1 hm1 hbx1 HK1 p1_0 HR1 HMR1 HBR1 H1 HM1
  have hsz2 : (run (s1) s).1.length + sz s2 ≤ MX := by
    have h1 := run_len (s1) s
    have h2 := HMX.out
    omega
  have p2_1 : w2.cell? ⟨gb, 1, none⟩ = some (v2_1) := cell_of_row _ _ 1 _ _ _ HBX.out
  have p2_2 : w2.cell? ⟨gb, 2, none⟩ = some (v2_2) := cell_of_row _ _ 2 _ _ _ HBX.out
  have hbs2 : base ≤ w2.heap.size := Nat.le_trans HBS.out HM2.out.keep.size
  have HK2 := Lib.hid (wId H2.out _ s2 (HE2.out.below (Moved.belowW HM2.out H0.out (Nat.le_refl _) HBS.out)) hsz2 hbs2)
  clear hsz2 hbs2
  go_wp2_with fail
  refine HK2.out.mono ?_
  rintro e w3 ⟨A2, e2, rfl, hk2, hm2⟩
  rw [← run_append] at hk2
  have H3 := Lib.hid hk2
  have HM3 := Lib.hid (HM2.out.trans hm2)
  have hbx2 := box_keepW HBX.out H2.out (by decide) (by decide) hm2
  clear HBX
  have HBX := Lib.hid hbx2
  clear hk2 hm2 hbx2 HK2 p2_1 p2_2 H2 HM2
  go_wp2_with fail
  have hsz3 : (run (s1 ++ (s2)) s).1.length + sz s3 ≤ MX := by
    have h1 := run_len (s1 ++ (s2)) s
    have h2 := HMX.out
    simp only [sz_append] at h1
    omega
  have p3_3 : w3.cell? ⟨gb, 3, none⟩ = some (.int .i64 z3) := cell_of_row _ _ 3 _ _ _ HBX.out
  have hbs3 : base ≤ w3.heap.size := Nat.le_trans HBS.out HM3.out.keep.size
  go_still_tail 5, (by kernel_rfl)
  obtain ⟨wr3, hwr3⟩ : ∃ wr : World, wr = w3.drew := ⟨_, rfl⟩
  change wpList _ _ _ _ _ w3.drew
  have HR3 : Hid (PW wr3 base g A2 e2 (run (s1 ++ (s2)) s).1 (run (s1 ++ (s2)) s).2) := by rw [hwr3]; exact H3.out.drew
  have HMR3 : Hid (Moved w wr3 g A A2) := by rw [hwr3]; exact HM3.out.drew
  have HBR3 : Hid (wr3.heap[gb]? = some (.cells #[.int .i64 z1, v2_1, v2_2, .int .i64 z3, .int .i64 z4, .int .i64 z5, .bool b6, v7_1, v7_2, v7_3, v7_4, v7_5, v7_6, v7_7, v7_8, v7_9, v7_10, .slice L8 m8 d8] 71 (0, 0))) := by rw [hwr3]; exact HBX.out
  have hbr3 : base ≤ wr3.heap.size := by rw [hwr3]; exact hbs3
  rw [← hwr3]
  clear hwr3
  have HK3 := Lib.hid (wintC HR3.out z3 I3.out s3 HC3.out hsz3 hbr3)
  clear hsz3 hbs3 hbr3
  go_wp2_with fail
  refine HK3.out.mono ?_
  rintro e w4 ⟨A3, e3, rfl, hk3, hm3⟩
  rw [← run_append, show (s1 ++ (s2)) ++ s3 = s1 ++ (s2 ++ (s3)) from by simp only [List.append_assoc]] at hk3
  have H4 := Lib.hid hk3
  have HM4 := Lib.hid (HMR3.out.trans hm3)
  have hbx3 := box_keepW HBR3.out HR3.out (by decide) (by decide) hm3
  clear HBX
  have HBX := Lib.hid hbx3
  clear hk3 hm3 hbx3 HK3 p3_3 HR3 HMR3 HBR3 H3 HM3
  go_wp2_with fail
  have hsz4 : (run (s1 ++ (s2 ++ (s3))) s).1.length + sz s4 ≤ MX := by
    have h1 := run_len (s1 ++ (s2 ++ (s3))) s
    have h2 := HMX.out
    simp only [sz_append] at h1
    omega
  have p4_4 : w4.cell? ⟨gb, 4, none⟩ = some (.int .i64 z4) := cell_of_row _ _ 4 _ _ _ HBX.out
  have hbs4 : base ≤ w4.heap.size := Nat.le_trans HBS.out HM4.out.keep.size
  go_still_tail 5, (by kernel_rfl)
  obtain ⟨wr4, hwr4⟩ : ∃ wr : World, wr = w4.drew := ⟨_, rfl⟩
  change wpList _ _ _ _ _ w4.drew
  have HR4 : Hid (PW wr4 base g A3 e3 (run (s1 ++ (s2 ++ (s3))) s).1 (run (s1 ++ (s2 ++ (s3))) s).2) := by rw [hwr4]; exact H4.out.drew
  have HMR4 : Hid (Moved w wr4 g A A3) := by rw [hwr4]; exact HM4.out.drew
  have HBR4 : Hid (wr4.heap[gb]? = some (.cells #[.int .i64 z1, v2_1, v2_2, .int .i64 z3, .int .i64 z4, .int .i64 z5, .bool b6, v7_1, v7_2, v7_3, v7_4, v7_5, v7_6, v7_7, v7_8, v7_9, v7_10, .slice L8 m8 d8] 71 (0, 0))) := by rw [hwr4]; exact HBX.out
  have hbr4 : base ≤ wr4.heap.size := by rw [hwr4]; exact hbs4
  rw [← hwr4]
  clear hwr4
  have HK4 := Lib.hid (wintC HR4.out z4 I4.out s4 HC4.out hsz4 hbr4)
  clear hsz4 hbs4 hbr4
  go_wp2_with fail
  refine HK4.out.mono ?_
  rintro e w5 ⟨A4, e4, rfl, hk4, hm4⟩
  rw [← run_append, show (s1 ++ (s2 ++ (s3))) ++ s4 = s1 ++ (s2 ++ (s3 ++ (s4))) from by simp only [List.append_assoc]] at hk4
  have H5 := Lib.hid hk4
  have HM5 := Lib.hid (HMR4.out.trans hm4)
  have hbx4 := box_keepW HBR4.out HR4.out (by decide) (by decide) hm4
  clear HBX
  have HBX := Lib.hid hbx4
  clear hk4 hm4 hbx4 HK4 p4_4 HR4 HMR4 HBR4 H4 HM4
  go_wp2_with fail
  have hsz5 : (run (s1 ++ (s2 ++ (s3 ++ (s4)))) s).1.length + sz s5 ≤ MX := by
    have h1 := run_len (s1 ++ (s2 ++ (s3 ++ (s4)))) s
    have h2 := HMX.out
    simp only [sz_append] at h1
    omega
  have p5_5 : w5.cell? ⟨gb, 5, none⟩ = some (.int .i64 z5) := cell_of_row _ _ 5 _ _ _ HBX.out
  have hbs5 : base ≤ w5.heap.size := Nat.le_trans HBS.out HM5.out.keep.size
  go_still_tail 5, (by kernel_rfl)
  obtain ⟨wr5, hwr5⟩ : ∃ wr : World, wr = w5.drew := ⟨_, rfl⟩
  change wpList _ _ _ _ _ w5.drew
  have HR5 : Hid (PW wr5 base g A4 e4 (run (s1 ++ (s2 ++ (s3 ++ (s4)))) s).1 (run (s1 ++ (s2 ++ (s3 ++ (s4)))) s).2) := by rw [hwr5]; exact H5.out.drew
  have HMR5 : Hid (Moved w wr5 g A A4) := by rw [hwr5]; exact HM5.out.drew
  have HBR5 : Hid (wr5.heap[gb]? = some (.cells #[.int .i64 z1, v2_1, v2_2, .int .i64 z3, .int .i64 z4, .int .i64 z5, .bool b6, v7_1, v7_2, v7_3, v7_4, v7_5, v7_6, v7_7, v7_8, v7_9, v7_10, .slice L8 m8 d8] 71 (0, 0))) := by rw [hwr5]; exact HBX.out
  have hbr5 : base ≤ wr5.heap.size := by rw [hwr5]; exact hbs5
  rw [← hwr5]
  clear hwr5
  have HK5 := Lib.hid (wintC HR5.out z5 I5.out s5 HC5.out hsz5 hbr5)
  clear hsz5 hbs5 hbr5
  go_wp2_with fail
  refine HK5.out.mono ?_
  rintro e w6 ⟨A5, e5, rfl, hk5, hm5⟩
  rw [← run_append, show (s1 ++ (s2 ++ (s3 ++ (s4)))) ++ s5 = s1 ++ (s2 ++ (s3 ++ (s4 ++ (s5)))) from by simp only [List.append_assoc]] at hk5
  have H6 := Lib.hid hk5
  have HM6 := Lib.hid (HMR5.out.trans hm5)
  have hbx5 := box_keepW HBR5.out HR5.out (by decide) (by decide) hm5
  clear HBX
  have HBX := Lib.hid hbx5
  clear hk5 hm5 hbx5 HK5 p5_5 HR5 HMR5 HBR5 H5 HM5
  go_wp2_with fail
  have hsz6 : (run (s1 ++ (s2 ++ (s3 ++ (s4 ++ (s5))))) s).1.length + sz s6 ≤ MX := by
    have h1 := run_len (s1 ++ (s2 ++ (s3 ++ (s4 ++ (s5))))) s
    have h2 := HMX.out
    simp only [sz_append] at h1
    omega
  have p6_6 : w6.cell? ⟨gb, 6, none⟩ = some (.bool b6) := cell_of_row _ _ 6 _ _ _ HBX.out
  have hbs6 : base ≤ w6.heap.size := Nat.le_trans HBS.out HM6.out.keep.size
  go_still_tail 5, (by kernel_rfl)
  obtain ⟨wr6, hwr6⟩ : ∃ wr : World, wr = w6.drew := ⟨_, rfl⟩
  change wpList _ _ _ _ _ w6.drew
  have HR6 : Hid (PW wr6 base g A5 e5 (run (s1 ++ (s2 ++ (s3 ++ (s4 ++ (s5))))) s).1 (run (s1 ++ (s2 ++ (s3 ++ (s4 ++ (s5))))) s).2) := by rw [hwr6]; exact H6.out.drew
  have HMR6 : Hid (Moved w wr6 g A A5) := by rw [hwr6]; exact HM6.out.drew
  have HBR6 : Hid (wr6.heap[gb]? = some (.cells #[.int .i64 z1, v2_1, v2_2, .int .i64 z3, .int .i64 z4, .int .i64 z5, .bool b6, v7_1, v7_2, v7_3, v7_4, v7_5, v7_6, v7_7, v7_8, v7_9, v7_10, .slice L8 m8 d8] 71 (0, 0))) := by rw [hwr6]; exact HBX.out
  have hbr6 : base ≤ wr6.heap.size := by rw [hwr6]; exact hbs6
  rw [← hwr6]
  clear hwr6
  have HK6 := Lib.hid (wmarkC HR6.out b6 s6 HC6.out hsz6 hbr6)
  clear hsz6 hbs6 hbr6
  go_wp2_with fail
  refine HK6.out.mono ?_
  rintro e w7 ⟨A6, e6, rfl, hk6, hm6⟩
  rw [← run_append, show (s1 ++ (s2 ++ (s3 ++ (s4 ++ (s5))))) ++ s6 = s1 ++ (s2 ++ (s3 ++ (s4 ++ (s5 ++ (s6))))) from by simp only [List.append_assoc]] at hk6
  have H7 := Lib.hid hk6
  have HM7 := Lib.hid (HMR6.out.trans hm6)
  have hbx6 := box_keepW HBR6.out HR6.out (by decide) (by decide) hm6
  clear HBX
  have HBX := Lib.hid hbx6
  clear hk6 hm6 hbx6 HK6 p6_6 HR6 HMR6 HBR6 H6 HM6
  have hsz7 : (run (s1 ++ (s2 ++ (s3 ++ (s4 ++ (s5 ++ (s6)))))) s).1.length + sz s7 ≤ MX := by
    have h1 := run_len (s1 ++ (s2 ++ (s3 ++ (s4 ++ (s5 ++ (s6)))))) s
    have h2 := HMX.out
    simp only [sz_append] at h1
    omega
  have p7_7 : w7.cell? ⟨gb, 7, none⟩ = some (v7_1) := cell_of_row _ _ 7 _ _ _ HBX.out
  have p7_8 : w7.cell? ⟨gb, 8, none⟩ = some (v7_2) := cell_of_row _ _ 8 _ _ _ HBX.out
  have p7_9 : w7.cell? ⟨gb, 9, none⟩ = some (v7_3) := cell_of_row _ _ 9 _ _ _ HBX.out
  have p7_10 : w7.cell? ⟨gb, 10, none⟩ = some (v7_4) := cell_of_row _ _ 10 _ _ _ HBX.out
  have p7_11 : w7.cell? ⟨gb, 11, none⟩ = some (v7_5) := cell_of_row _ _ 11 _ _ _ HBX.out
  have p7_12 : w7.cell? ⟨gb, 12, none⟩ = some (v7_6) := cell_of_row _ _ 12 _ _ _ HBX.out
  have p7_13 : w7.cell? ⟨gb, 13, none⟩ = some (v7_7) := cell_of_row _ _ 13 _ _ _ HBX.out
  have p7_14 : w7.cell? ⟨gb, 14, none⟩ = some (v7_8) := cell_of_row _ _ 14 _ _ _ HBX.out
  have p7_15 : w7.cell? ⟨gb, 15, none⟩ = some (v7_9) := cell_of_row _ _ 15 _ _ _ HBX.out
  have p7_16 : w7.cell? ⟨gb, 16, none⟩ = some (v7_10) := cell_of_row _ _ 16 _ _ _ HBX.out
  have hbs7 : base ≤ w7.heap.size := Nat.le_trans HBS.out HM7.out.keep.size
  have HK7 := Lib.hid (wJob H7.out _ s7 (HE7.out.below (Moved.belowW HM7.out H0.out (Nat.le_refl _) HBS.out)) hsz7 hbs7)
  clear hsz7 hbs7
  go_wp2_with fail
  refine HK7.out.mono ?_
  rintro e w8 ⟨A7, e7, rfl, hk7, hm7⟩
  rw [← run_append, show (s1 ++ (s2 ++ (s3 ++ (s4 ++ (s5 ++ (s6)))))) ++ s7 = s1 ++ (s2 ++ (s3 ++ (s4 ++ (s5 ++ (s6 ++ (s7)))))) from by simp only [List.append_assoc]] at hk7
  have H8 := Lib.hid hk7
  have HM8 := Lib.hid (HM7.out.trans hm7)
  have hbx7 := box_keepW HBX.out H7.out (by decide) (by decide) hm7
  clear HBX
  have HBX := Lib.hid hbx7
  clear hk7 hm7 hbx7 HK7 p7_7 p7_8 p7_9 p7_10 p7_11 p7_12 p7_13 p7_14 p7_15 p7_16 H7 HM7
  have hsz8 : (run (s1 ++ (s2 ++ (s3 ++ (s4 ++ (s5 ++ (s6 ++ (s7))))))) s).1.length + sz s8 ≤ MX := by
    have h1 := run_len (s1 ++ (s2 ++ (s3 ++ (s4 ++ (s5 ++ (s6 ++ (s7))))))) s
    have h2 := HMX.out
    simp only [sz_append] at h1
    omega
  have p8_17 : w8.cell? ⟨gb, 17, none⟩ = some (.slice L8 m8 d8) := cell_of_row _ _ 17 _ _ _ HBX.out
  have hbs8 : base ≤ w8.heap.size := Nat.le_trans HBS.out HM8.out.keep.size
  have HK8 := Lib.hid (wlSpan H8.out L8 m8 d8 8 s8 (FList.below (fun _ _ h => h.below (Moved.belowW HM8.out H0.out (Nat.le_refl _) HBS.out)) HE8.out (Moved.belowW HM8.out H0.out (Nat.le_refl _) HBS.out)) hsz8 hbs8)
  clear hsz8 hbs8
  go_wp2_with fail
  refine HK8.out.mono ?_
  rintro e w9 ⟨A8, e8, rfl, hk8, hm8⟩
  rw [← run_append, show (s1 ++ (s2 ++ (s3 ++ (s4 ++ (s5 ++ (s6 ++ (s7))))))) ++ s8 = s1 ++ (s2 ++ (s3 ++ (s4 ++ (s5 ++ (s6 ++ (s7 ++ (s8))))))) from by simp only [List.append_assoc]] at hk8
  have H9 := Lib.hid hk8
  have HM9 := Lib.hid (HM8.out.trans hm8)
  have hbx8 := box_keepW HBX.out H8.out (by decide) (by decide) hm8
  clear HBX
  have HBX := Lib.hid hbx8
  clear hk8 hm8 hbx8 HK8 p8_17 H8 HM8
  go_wp2_with fail
  go_end0
  exact ⟨A8, e8, rfl, H9.out, HM9.out⟩
end Go.Proofs.Ytagocmbcbbhehaa
