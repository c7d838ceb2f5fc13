/- wire.writer on replies: what it does. By a program. -/
import Derived.Test.YtagocmbcbbhehaaWrE
namespace Go.Proofs.Ytagocmbcbbhehaa
set_option linter.unusedVariables false
open Go.RowKit
def EReply (b : Nat) (w : World) (c : List Value) (s : Ch) : Prop := ∃ (c1 c2 c3 c4 c5 c6 : List Value) (s1 s2 s3 s4 s5 s6 : Ch), FInt c1 s1 ∧ EId b w c2 s2 ∧ FInt c3 s3 ∧ FInt c4 s4 ∧ FInt c5 s5 ∧ FInt c6 s6 ∧ c = c1 ++ (c2 ++ (c3 ++ (c4 ++ (c5 ++ (c6))))) ∧ s = s1 ++ (s2 ++ (s3 ++ (s4 ++ (s5 ++ (s6)))))
theorem EReply.below {w w' : World} {b : Nat} {c : List Value} {s : Ch} (h : EReply b w c s) (hk : Below b w w') : EReply b w' c s := by
  obtain ⟨c1, c2, c3, c4, c5, c6, s1, s2, s3, s4, s5, s6, h1, h2, h3, h4, h5, h6, e1, e2⟩ := h
  exact ⟨c1, c2, c3, c4, c5, c6, s1, s2, s3, s4, s5, s6, h1, h2.below hk, h3, h4, h5, h6, e1, e2⟩
theorem EReply.ex {b : Nat} {w : World} {c : List Value} {s : Ch} (h : EReply b w c s) : ∃ v1 v2 v3 v4 v5 v6 v7, c = [v1, v2, v3, v4, v5, v6, v7] := by
  obtain ⟨c1, c2, c3, c4, c5, c6, s1, s2, s3, s4, s5, s6, h1, h2, h3, h4, h5, h6, rfl, rfl⟩ := h
  obtain ⟨v1, rfl⟩ := h1.ex
  obtain ⟨v2, v3, rfl⟩ := h2.ex
  obtain ⟨v4, rfl⟩ := h3.ex
  obtain ⟨v5, rfl⟩ := h4.ex
  obtain ⟨v6, rfl⟩ := h5.ex
  obtain ⟨v7, rfl⟩ := h6.ex
  exact ⟨_, _, _, _, _, _, _, rfl⟩
theorem EReply.one {b : Nat} {w : World} {c : List Value} {s : Ch} (h : EReply b w c s) : ∀ v ∈ c, v.oneCell' = true := by
  obtain ⟨c1, c2, c3, c4, c5, c6, s1, s2, s3, s4, s5, s6, h1, h2, h3, h4, h5, h6, rfl, rfl⟩ := h
  intro v hv
  simp only [List.mem_append] at hv
  rcases hv with hv | hv | hv | hv | hv | hv
  · exact h1.one v hv
  · exact h2.one v hv
  · exact h3.one v hv
  · exact h4.one v hv
  · exact h5.one v hv
  · exact h6.one v hv

set_option maxRecDepth 20000 in
set_option maxHeartbeats 4000000 in
theorem wReply {base g c : Nat} {A : Option Addr} {s : Wst} {w : World} (h : PW w base g A c s.1 s.2) (cl : List Value) (cs : Ch) (hE : EReply base w cl cs) (hmax : s.1.length + sz cs ≤ MX) (hb : base ≤ w.heap.size) :
    Calls Try.prog 50 #[.pointer (some ⟨g, 0, none⟩), .agg cl.toArray] w (PutC w base g A s cs) := by
  obtain ⟨c1, c2, c3, c4, c5, c6, s1, s2, s3, s4, s5, s6, h1, h2, h3, h4, h5, h6, rfl, rfl⟩ := hE
  obtain ⟨z1, i1, rfl, hs1⟩ := h1
  obtain ⟨v2_1, v2_2, rfl⟩ := h2.ex
  obtain ⟨z3, i3, rfl, hs3⟩ := h3
  obtain ⟨z4, i4, rfl, hs4⟩ := h4
  obtain ⟨z5, i5, rfl, hs5⟩ := h5
  obtain ⟨z6, i6, rfl, hs6⟩ := h6
  have HE2 := Lib.hid h2
  clear h2
  simp only [sz_append] at hmax
  simp only [List.cons_append, List.nil_append]
  have HC1 := Lib.hid hs1
  clear hs1
  have HC3 := Lib.hid hs3
  clear hs3
  have HC4 := Lib.hid hs4
  clear hs4
  have HC5 := Lib.hid hs5
  clear hs5
  have HC6 := Lib.hid hs6
  clear hs6
  have HMX := Lib.hid hmax
  have HBS := Lib.hid hb
  have H0 := Lib.hid h
  have I1 := Lib.hid i1
  clear i1
  have I3 := Lib.hid i3
  clear i3
  have I4 := Lib.hid i4
  clear i4
  have I5 := Lib.hid i5
  clear i5
  have I6 := Lib.hid i6
  clear i6
  clear hmax hb h
  go_enter Try.func50, Try.ntmps50
  go_wp2_with fail
  obtain ⟨gb, hgb⟩ : ∃ gb, gb = w.heap.size := ⟨_, rfl⟩
  obtain ⟨w1, hw1⟩ : ∃ w1, w1 = w.alloc (.cells #[.int .i64 z1, v2_1, v2_2, .int .i64 z3, .int .i64 z4, .int .i64 z5, .int .i64 z6] 76) := ⟨_, rfl⟩
  have hn1 : New w w1 := by rw [hw1]; exact (Below.refl _ _).alloc (Nat.le_refl _) _
  have hbx : w1.heap[gb]? = some (.cells #[.int .i64 z1, v2_1, v2_2, .int .i64 z3, .int .i64 z4, .int .i64 z5, .int .i64 z6] 76 (0, 0)) := by rw [hw1, hgb]; exact heap_alloc_new w _
  have H1 : Hid (PW w1 base g A c (run [] s).1 (run [] s).2) := H0.out.new hn1
  have HBX := Lib.hid hbx
  have HM1 : Hid (Moved w w1 g A A) := Moved.of_new hn1
  rw [← hgb]
  rw [← hw1]
  clear hgb hw1 hn1 hbx
  have hsz1 : (run ([]) s).1.length + sz s1 ≤ MX := by
    have h1 := run_len ([]) s
    have h2 := HMX.out
    simp only [sz] at h1
    omega
  have p1_0 : w1.cell? ⟨gb, 0, none⟩ = some (.int .i64 z1) := cell_of_row _ _ 0 _ _ _ HBX.out
  have hbs1 : base ≤ w1.heap.size := Nat.le_trans HBS.out HM1.out.keep.size
  go_still_tail 5, (by kernel_rfl)
  obtain ⟨wr1, hwr1⟩ : ∃ wr : World, wr = w1.drew := ⟨_, rfl⟩
  change wpList _ _ _ _ _ w1.drew
  have HR1 : Hid (PW wr1 base g A c (run ([]) s).1 (run ([]) s).2) := by rw [hwr1]; exact H1.out.drew
  have HMR1 : Hid (Moved w wr1 g A A) := by rw [hwr1]; exact HM1.out.drew
  have HBR1 : Hid (wr1.heap[gb]? = some (.cells #[.int .i64 z1, v2_1, v2_2, .int .i64 z3, .int .i64 z4, .int .i64 z5, .int .i64 z6] 76 (0, 0))) := by rw [hwr1]; exact HBX.out
  have hbr1 : base ≤ wr1.heap.size := by rw [hwr1]; exact hbs1
  rw [← hwr1]
  clear hwr1
  have HK1 := Lib.hid (wintC HR1.out z1 I1.out s1 HC1.out hsz1 hbr1)
  clear hsz1 hbs1 hbr1
  go_wp2_with fail
  refine HK1.out.mono ?_
  rintro e w2 ⟨A1, e1, rfl, hk1, hm1⟩
  rw [run_nil] at hk1
  have H2 := Lib.hid hk1
  have HM2 := Lib.hid (HMR1.out.trans hm1)
  have hbx1 := box_keepW HBR1.out HR1.out (by decide) (by decide) hm1
  clear HBX
  have HBX := Lib.hid hbx1
  clear hk1 hm1 hbx1 HK1 p1_0 HR1 HMR1 HBR1 H1 HM1
  have hsz2 : (run (s1) s).1.length + sz s2 ≤ MX := by
    have h1 := run_len (s1) s
    have h2 := HMX.out
    omega
  have p2_1 : w2.cell? ⟨gb, 1, none⟩ = some (v2_1) := cell_of_row _ _ 1 _ _ _ HBX.out
  have p2_2 : w2.cell? ⟨gb, 2, none⟩ = some (v2_2) := cell_of_row _ _ 2 _ _ _ HBX.out
  have hbs2 : base ≤ w2.heap.size := Nat.le_trans HBS.out HM2.out.keep.size
  have HK2 := Lib.hid (wId H2.out _ s2 (HE2.out.below (Moved.belowW HM2.out H0.out (Nat.le_refl _) HBS.out)) hsz2 hbs2)
  clear hsz2 hbs2
  go_wp2_with fail
  refine HK2.out.mono ?_
  rintro e w3 ⟨A2, e2, rfl, hk2, hm2⟩
  rw [← run_append] at hk2
  have H3 := Lib.hid hk2
  have HM3 := Lib.hid (HM2.out.trans hm2)
  have hbx2 := box_keepW HBX.out H2.out (by decide) (by decide) hm2
  clear HBX
  have HBX := Lib.hid hbx2
  clear hk2 hm2 hbx2 HK2 p2_1 p2_2 H2 HM2
  go_wp2_with fail
  have hsz3 : (run (s1 ++ (s2)) s).1.length + sz s3 ≤ MX := by
    have h1 := run_len (s1 ++ (s2)) s
    have h2 := HMX.out
    simp only [sz_append] at h1
    omega
  have p3_3 : w3.cell? ⟨gb, 3, none⟩ = some (.int .i64 z3) := cell_of_row _ _ 3 _ _ _ HBX.out
  have hbs3 : base ≤ w3.heap.size := Nat.le_trans HBS.out HM3.out.keep.size
  go_still_tail 5, (by kernel_rfl)
  obtain ⟨wr3, hwr3⟩ : ∃ wr : World, wr = w3.drew := ⟨_, rfl⟩
  change wpList _ _ _ _ _ w3.drew
  have HR3 : Hid (PW wr3 base g A2 e2 (run (s1 ++ (s2)) s).1 (run (s1 ++ (s2)) s).2) := by rw [hwr3]; exact H3.out.drew
  have HMR3 : Hid (Moved w wr3 g A A2) := by rw [hwr3]; exact HM3.out.drew
  have HBR3 : Hid (wr3.heap[gb]? = some (.cells #[.int .i64 z1, v2_1, v2_2, .int .i64 z3, .int .i64 z4, .int .i64 z5, .int .i64 z6] 76 (0, 0))) := by rw [hwr3]; exact HBX.out
  have hbr3 : base ≤ wr3.heap.size := by rw [hwr3]; exact hbs3
  rw [← hwr3]
  clear hwr3
  have HK3 := Lib.hid (wintC HR3.out z3 I3.out s3 HC3.out hsz3 hbr3)
  clear hsz3 hbs3 hbr3
  go_wp2_with fail
  refine HK3.out.mono ?_
  rintro e w4 ⟨A3, e3, rfl, hk3, hm3⟩
  rw [← run_append, show (s1 ++ (s2)) ++ s3 = s1 ++ (s2 ++ (s3)) from by simp only [List.append_assoc]] at hk3
  have H4 := Lib.hid hk3
  have HM4 := Lib.hid (HMR3.out.trans hm3)
  have hbx3 := box_keepW HBR3.out HR3.out (by decide) (by decide) hm3
  clear HBX
  have HBX := Lib.hid hbx3
  clear hk3 hm3 hbx3 HK3 p3_3 HR3 HMR3 HBR3 H3 HM3
  go_wp2_with fail
  have hsz4 : (run (s1 ++ (s2 ++ (s3))) s).1.length + sz s4 ≤ MX := by
    have h1 := run_len (s1 ++ (s2 ++ (s3))) s
    have h2 := HMX.out
    simp only [sz_append] at h1
    omega
  have p4_4 : w4.cell? ⟨gb, 4, none⟩ = some (.int .i64 z4) := cell_of_row _ _ 4 _ _ _ HBX.out
  have hbs4 : base ≤ w4.heap.size := Nat.le_trans HBS.out HM4.out.keep.size
  go_still_tail 5, (by kernel_rfl)
  obtain ⟨wr4, hwr4⟩ : ∃ wr : World, wr = w4.drew := ⟨_, rfl⟩
  change wpList _ _ _ _ _ w4.drew
  have HR4 : Hid (PW wr4 base g A3 e3 (run (s1 ++ (s2 ++ (s3))) s).1 (run (s1 ++ (s2 ++ (s3))) s).2) := by rw [hwr4]; exact H4.out.drew
  have HMR4 : Hid (Moved w wr4 g A A3) := by rw [hwr4]; exact HM4.out.drew
  have HBR4 : Hid (wr4.heap[gb]? = some (.cells #[.int .i64 z1, v2_1, v2_2, .int .i64 z3, .int .i64 z4, .int .i64 z5, .int .i64 z6] 76 (0, 0))) := by rw [hwr4]; exact HBX.out
  have hbr4 : base ≤ wr4.heap.size := by rw [hwr4]; exact hbs4
  rw [← hwr4]
  clear hwr4
  have HK4 := Lib.hid (wintC HR4.out z4 I4.out s4 HC4.out hsz4 hbr4)
  clear hsz4 hbs4 hbr4
  go_wp2_with fail
  refine HK4.out.mono ?_
  rintro e w5 ⟨A4, e4, rfl, hk4, hm4⟩
  rw [← run_append, show (s1 ++ (s2 ++ (s3))) ++ s4 = s1 ++ (s2 ++ (s3 ++ (s4))) from by simp only [List.append_assoc]] at hk4
  have H5 := Lib.hid hk4
  have HM5 := Lib.hid (HMR4.out.trans hm4)
  have hbx4 := box_keepW HBR4.out HR4.out (by decide) (by decide) hm4
  clear HBX
  have HBX := Lib.hid hbx4
  clear hk4 hm4 hbx4 HK4 p4_4 HR4 HMR4 HBR4 H4 HM4
  go_wp2_with fail
  have hsz5 : (run (s1 ++ (s2 ++ (s3 ++ (s4)))) s).1.length + sz s5 ≤ MX := by
    have h1 := run_len (s1 ++ (s2 ++ (s3 ++ (s4)))) s
    have h2 := HMX.out
    simp only [sz_append] at h1
    omega
  have p5_5 : w5.cell? ⟨gb, 5, none⟩ = some (.int .i64 z5) := cell_of_row _ _ 5 _ _ _ HBX.out
  have hbs5 : base ≤ w5.heap.size := Nat.le_trans HBS.out HM5.out.keep.size
  go_still_tail 5, (by kernel_rfl)
  obtain ⟨wr5, hwr5⟩ : ∃ wr : World, wr = w5.drew := ⟨_, rfl⟩
  change wpList _ _ _ _ _ w5.drew
  have HR5 : Hid (PW wr5 base g A4 e4 (run (s1 ++ (s2 ++ (s3 ++ (s4)))) s).1 (run (s1 ++ (s2 ++ (s3 ++ (s4)))) s).2) := by rw [hwr5]; exact H5.out.drew
  have HMR5 : Hid (Moved w wr5 g A A4) := by rw [hwr5]; exact HM5.out.drew
  have HBR5 : Hid (wr5.heap[gb]? = some (.cells #[.int .i64 z1, v2_1, v2_2, .int .i64 z3, .int .i64 z4, .int .i64 z5, .int .i64 z6] 76 (0, 0))) := by rw [hwr5]; exact HBX.out
  have hbr5 : base ≤ wr5.heap.size := by rw [hwr5]; exact hbs5
  rw [← hwr5]
  clear hwr5
  have HK5 := Lib.hid (wintC HR5.out z5 I5.out s5 HC5.out hsz5 hbr5)
  clear hsz5 hbs5 hbr5
  go_wp2_with fail
  refine HK5.out.mono ?_
  rintro e w6 ⟨A5, e5, rfl, hk5, hm5⟩
  rw [← run_append, show (s1 ++ (s2 ++ (s3 ++ (s4)))) ++ s5 = s1 ++ (s2 ++ (s3 ++ (s4 ++ (s5)))) from by simp only [List.append_assoc]] at hk5
  have H6 := Lib.hid hk5
  have HM6 := Lib.hid (HMR5.out.trans hm5)
  have hbx5 := box_keepW HBR5.out HR5.out (by decide) (by decide) hm5
  clear HBX
  have HBX := Lib.hid hbx5
  clear hk5 hm5 hbx5 HK5 p5_5 HR5 HMR5 HBR5 H5 HM5
  go_wp2_with fail
  have hsz6 : (run (s1 ++ (s2 ++ (s3 ++ (s4 ++ (s5))))) s).1.length + sz s6 ≤ MX := by
    have h1 := run_len (s1 ++ (s2 ++ (s3 ++ (s4 ++ (s5))))) s
    have h2 := HMX.out
    simp only [sz_append] at h1
    omega
  have p6_6 : w6.cell? ⟨gb, 6, none⟩ = some (.int .i64 z6) := cell_of_row _ _ 6 _ _ _ HBX.out
  have hbs6 : base ≤ w6.heap.size := Nat.le_trans HBS.out HM6.out.keep.size
  go_still_tail 5, (by kernel_rfl)
  obtain ⟨wr6, hwr6⟩ : ∃ wr : World, wr = w6.drew := ⟨_, rfl⟩
  change wpList _ _ _ _ _ w6.drew
  have HR6 : Hid (PW wr6 base g A5 e5 (run (s1 ++ (s2 ++ (s3 ++ (s4 ++ (s5))))) s).1 (run (s1 ++ (s2 ++ (s3 ++ (s4 ++ (s5))))) s).2) := by rw [hwr6]; exact H6.out.drew
  have HMR6 : Hid (Moved w wr6 g A A5) := by rw [hwr6]; exact HM6.out.drew
  have HBR6 : Hid (wr6.heap[gb]? = some (.cells #[.int .i64 z1, v2_1, v2_2, .int .i64 z3, .int .i64 z4, .int .i64 z5, .int .i64 z6] 76 (0, 0))) := by rw [hwr6]; exact HBX.out
  have hbr6 : base ≤ wr6.heap.size := by rw [hwr6]; exact hbs6
  rw [← hwr6]
  clear hwr6
  have HK6 := Lib.hid (wintC HR6.out z6 I6.out s6 HC6.out hsz6 hbr6)
  clear hsz6 hbs6 hbr6
  go_wp2_with fail
  refine HK6.out.mono ?_
  rintro e w7 ⟨A6, e6, rfl, hk6, hm6⟩
  rw [← run_append, show (s1 ++ (s2 ++ (s3 ++ (s4 ++ (s5))))) ++ s6 = s1 ++ (s2 ++ (s3 ++ (s4 ++ (s5 ++ (s6))))) from by simp only [List.append_assoc]] at hk6
  have H7 := Lib.hid hk6
  have HM7 := Lib.hid (HMR6.out.trans hm6)
  have hbx6 := box_keepW HBR6.out HR6.out (by decide) (by decide) hm6
  clear HBX
  have HBX := Lib.hid hbx6
  clear hk6 hm6 hbx6 HK6 p6_6 HR6 HMR6 HBR6 H6 HM6
  go_wp2_with fail
  go_end0
  exact ⟨A6, e6, rfl, H7.out, HM7.out⟩
end Go.Proofs.Ytagocmbcbbhehaa
