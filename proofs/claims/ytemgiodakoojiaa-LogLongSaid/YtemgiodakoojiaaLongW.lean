/- hanselaw07.LogLong: the walk. -/
import Derived.Test.YtemgiodakoojiaaLgJ
namespace Go.Proofs.Ytemgiodakoojiaa
set_option linter.unusedVariables false
open Go.RowKit
open Go.Proofs.Ytemgiodakoojiaa.Frm
open Go.Proofs.Ytemgiodakoojiaa.Jr
set_option maxRecDepth 20000 in
set_option maxHeartbeats 8000000 in
theorem long_law (y x : Int) (w : World) (_ : (Lit.int .i64 y).wf = true) (hx : (Lit.int .u8 x).wf = true) :
    Calls Try.prog 7 #[.int .i64 y, .int .u8 x] w fun e w' => e = .returned (.bool true) ∧ New w w' := by
  have hb : 0 ≤ x ∧ x < 256 := by
    simp [Lit.wf, IntKind.min, IntKind.max, IntKind.signed, IntKind.bits] at hx
    omega
  clear hx
  obtain ⟨ub, rfl⟩ : ∃ ub : UInt8, x = (ub.toNat : Int) := ⟨UInt8.ofNat x.toNat, by simp; omega⟩
  clear hb
  obtain ⟨i, hi, hz0, hz1, hz2⟩ := info_parts i_byte
  by_cases h0 : y < 0
  · go_enter Try.func7, Try.ntmps7
    go_wp2_with fail
    go_ret
    exact ⟨rfl, New.refl _⟩
  have d0 : decide (y < 0) = false := by simpa using h0
  by_cases h1 : 2 < y
  · go_enter Try.func7, Try.ntmps7
    go_wp2_with fail
    go_ret
    exact ⟨rfl, New.refl _⟩
  have d1 : decide (2 < y) = false := by simpa using h1
  obtain ⟨N, hN⟩ : ∃ N : Nat, (N : Int) = 131071 + y := ⟨(131071 + y).toNat, by omega⟩
  have hN1 : 131071 ≤ N := by omega
  have hN2 : N ≤ 131073 := by omega
  have hs : IntKind.i64.wrap (131071 + y) = (N : Int) := by rw [hN]; exact IntWalk.i64_in _ ⟨by omega, by omega⟩
  have HN := Lib.hid hN
  clear hN
  obtain ⟨b1, hb1⟩ : ∃ b1, b1 = seal_ [82, ub] := ⟨_, rfl⟩
  have hb1l : b1.length = 10 := by rw [hb1, seal_length]; rfl
  have HB1 := Lib.hid hb1
  have HB1L := Lib.hid hb1l
  clear hb1 hb1l
  go_enter Try.func7, Try.ntmps7
  go_wp2_with fail
  refine (disk_new w).mono ?_
  rintro e w1 ⟨dg, rfl, hd1⟩
  go_wp2_with fail
  have hdb := DiskB.of_new (New.refl w) hd1
  refine (open_log hdb.disk (Nat.zero_le _) parts_nil).mono ?_
  rintro e w2 ⟨g, A2, c2, rfl, h2⟩
  obtain ⟨hlb, _⟩ := LogB.step hdb h2
  obtain ⟨F2, hF2⟩ : ∃ F2, F2 = After (fun i => w.heap.size ≤ i ∧ i < w1.heap.size) w1 w2 := ⟨_, rfl⟩
  rw [← hF2] at hlb
  have H2 := Lib.hid hlb
  clear hd1 h2 hdb hlb hF2
  have hal : New w2 (w2.alloc (.cells ([ub].map bv).toArray 5)) := (Below.refl _ _).alloc (Nat.le_refl _) _
  have hlit : OBs (w2.alloc (.cells ([ub].map bv).toArray 5)) w2.heap.size (some ⟨w2.heap.size, 0, none⟩) 1 1 [ub] := OBs.lit (heap_alloc_new w2 _) (Nat.le_refl _) (by simp [maxLen])
  have h2' := H2.out.also hal
  have HAP := Lib.hid (lg_append h2'.log (some ⟨w2.heap.size, 0, none⟩) 1 1 [ub] rfl (OB.rb hlit) (by decide) (by decide) (by decide))
  have HLA := Lib.hid h2'
  clear h2' hlit hal
  go_wp2_with fail
  refine HAP.out.mono ?_
  rintro e w3 ⟨A3, c3, rfl, h3⟩
  rw [List.nil_append, List.nil_append, ← HB1.out] at h3
  obtain ⟨h3b, _⟩ := LogB.step HLA.out.toDisk h3
  obtain ⟨F3, hF3⟩ : ∃ F3, F3 = After F2 (w2.alloc (.cells ([ub].map bv).toArray 5)) w3 := ⟨_, rfl⟩
  rw [← hF3] at h3b
  have H3 := Lib.hid h3b
  clear h3 h3b hF3 HAP HLA
  go_wp2_with (at_make; refine wpList_make_full _ rfl _ _ _ rfl w3.heap.size _ i (.int .u8 0) 1 u_bytes hi hz0 hz1 _ _ _ _ N rfl rfl (by omega) (by omega) (by rw [hz2]; omega) (by unfold maxLen; omega) (Nat.le_refl _) ?_)
  intro w4 hown hg
  have hob : OBs w4 w3.heap.size (some ⟨w3.heap.size, 0, none⟩) N N (List.replicate N 0) := by
    show w4.ownsRow _ _ _ _ _ _
    rw [← make_zero]
    exact hown
  obtain ⟨M, hM⟩ : ∃ M, N = M + 1 := ⟨N - 1, by omega⟩
  have hsub : IntKind.i64.wrap ((N : Int) - 1) = (M : Int) := by
    rw [show (N : Int) - 1 = (M : Int) from by omega]
    exact IntWalk.i64_in _ ⟨by omega, by omega⟩
  have hMN : (M : Int) < (N : Int) := by omega
  have hw4 : New w3 w4 := (Below.refl _ _).grown hg (Nat.le_refl _) (by simp)
  have hc : w4.cell? ⟨w3.heap.size, M, none⟩ = some (bv 0) := by
    rw [OB.at_ hob (j := M) (by omega)]
    simp
  have hf : w4.frozen? ⟨w3.heap.size, M, none⟩ = false := OB.frozen hob M
  obtain ⟨t, ht⟩ : ∃ t, t = (List.replicate N (0 : UInt8)).set M ub := ⟨_, rfl⟩
  have hob2 := OB.set_ hob M ub
  rw [← ht] at hob2
  have HTL : Hid (N = t.length) := (OB.len hob2).symm
  have hw5 : New w3 (w4.setCell ⟨w3.heap.size, M, none⟩ (bv ub)) := Below.setCell hw4 (Nat.le_refl _) _
  obtain ⟨w5, hw5e⟩ : ∃ w5, w5 = w4.setCell ⟨w3.heap.size, M, none⟩ (bv ub) := ⟨_, rfl⟩
  obtain ⟨pg, hpg⟩ : ∃ pg, pg = w3.heap.size := ⟨_, rfl⟩
  have HPG : Hid (∀ i, F3 i → i ≠ pg) := fun i hi e => by have := (H3.out.lo i hi).2; omega
  rw [← hw5e] at hob2 hw5
  have H5 := Lib.hid (H3.out.also hw5)
  have HRB := Lib.hid (OB.rb hob2)
  rw [← hpg] at HRB
  have HW5 := Lib.hid hw5e
  have HPE := Lib.hid hpg
  have HMI := Lib.hid hM
  clear ht hob hown hg hw4 hw5 hob2 hw5e hpg hM
  have HPL : Hid (pg < w5.heap.size) := by
    show pg < _
    obtain ⟨ad, e, hcc⟩ := HRB.out.at_ (j := 0) (by have := HTL.out; omega)
    cases e
    have := World.block_lt_of_cell? _ _ hcc
    rwa [add_block] at this
  have hy3 : y = 0 ∨ y = 1 ∨ y = 2 := by omega
  clear hs h0 h1
  rcases hy3 with rfl | rfl | rfl
  · have hN0 : N ≤ 131071 := by have : (N : Int) = 131071 + 0 := HN.out; omega
    go_wp2_with fail
    rw [show w4.setCell ⟨w3.heap.size, M, none⟩ (bv ub) = w5 from HW5.out.symm, show w3.heap.size = pg from HPE.out.symm]
    refine (lg_append H5.out.log (some ⟨pg, 0, none⟩) N N t HTL.out HRB.out hN0 (by have := HB1L.out; omega) (by simp)).mono ?_
    rintro e v1 ⟨A6, c6, rfl, h6⟩
    obtain ⟨h6b, hg6⟩ := LogB.step H5.out.toDisk h6
    obtain ⟨F6, hF6⟩ : ∃ F6, F6 = After F3 w5 v1 := ⟨_, rfl⟩
    rw [← hF6] at h6b hg6
    have HRB6 := Lib.hid (HRB.out.kept hg6.keep (fun ad e hs => by cases e; exact HPG.out _ hs rfl))
    have HPG6 : Hid (∀ i, F6 i → i ≠ pg) := fun i hi e => by
      rcases hg6.sub i hi with h | h
      · exact HPG.out i h e
      · have := HPL.out; omega
    obtain ⟨ls, hls⟩ : ∃ ls, ls = [[ub]] ++ [t] := ⟨_, rfl⟩
    have HLN : Hid (ls.length = 2) := by show _ = _; rw [hls]; rfl
    have HLB : Hid (∀ t ∈ ls, t.length ≤ 1000000) := by
      intro z hz
      rw [hls] at hz
      have := HTL.out
      rcases List.mem_append.1 hz with hz | hz
      · rw [List.mem_singleton.1 hz]; simp
      · rw [List.mem_singleton.1 hz]; show _ ≤ _; omega
    rw [← hls] at h6b
    have H6 := Lib.hid h6b
    have HRC := Lib.hid (recs_any h6b.log (by rw [HLN.out]; decide) HLB.out)
    clear h6 h6b hg6 hF6 hls
    go_wp2_with fail
    refine HRC.out.mono ?_
    rintro e v2 ⟨R2, rc2, rfl, hR2, hw2⟩
    rw [HLN.out] at hR2 ⊢
    have H7 := Lib.hid (H6.out.also hw2)
    have HCO := Lib.hid (lg_compact H7.out.log (some ⟨pg, 0, none⟩) N N t HTL.out (HRB6.out.new hw2) hN0)
    clear hR2 hw2 HRC
    go_wp2_with fail
    refine HCO.out.mono ?_
    rintro e v3 ⟨A8, c8, rfl, h8⟩
    obtain ⟨h8b, _⟩ := LogB.step H7.out.toDisk h8
    have H8 := Lib.hid h8b
    have HRC2 := Lib.hid (recs_any h8b.log (by decide) (by decide))
    clear h8 h8b HCO
    go_wp2_with fail
    refine HRC2.out.mono ?_
    rintro e v4 ⟨R4, rc4, rfl, hR4, hw4⟩
    have HN4 := Lib.hid (New.trans H8.out.new hw4)
    clear hR4 hw4 HRC2
    go_wp2_with fail
    refine (wakes7_any _).mono ?_
    rintro e v5 ⟨rfl, hw5⟩
    have HF := Lib.hid (New.trans HN4.out hw5)
    clear hw5
    go_wp2_with fail
    go_ret
    exact ⟨rfl, HF.out⟩
  · have hbig : (131071 : Int) < (N : Int) := by have : (N : Int) = 131071 + 1 := HN.out; omega
    go_wp2_with fail
    rw [show w4.setCell ⟨w3.heap.size, M, none⟩ (bv ub) = w5 from HW5.out.symm, show w3.heap.size = pg from HPE.out.symm]
    refine (lg_append_no g (some ⟨pg, 0, none⟩) N N w5 hbig).mono ?_
    rintro e v1 ⟨rfl, rfl⟩
    have HRC := Lib.hid (recs_any H5.out.log (by simp) (fun t ht => by rw [List.mem_singleton.1 ht]; simp))
    go_wp2_with fail
    refine HRC.out.mono ?_
    rintro e v2 ⟨R2, rc2, rfl, hR2, hw2⟩
    have H6 := Lib.hid (H5.out.also hw2)
    have HRC2 := Lib.hid (recs_any H6.out.log (by simp) (fun t ht => by rw [List.mem_singleton.1 ht]; simp))
    clear hR2 hw2 HRC
    go_wp2_with fail
    refine (lg_compact_no g (some ⟨pg, 0, none⟩) N N v2 hbig).mono ?_
    rintro e v3 ⟨rfl, rfl⟩
    go_wp2_with fail
    refine HRC2.out.mono ?_
    rintro e v4 ⟨R4, rc4, rfl, hR4, hw4⟩
    have H7 := Lib.hid (H6.out.also hw4)
    clear hR4 hw4 HRC2
    go_wp2_with fail
    refine (wakes7_any _).mono ?_
    rintro e v5 ⟨rfl, hw5⟩
    have HF := Lib.hid (New.trans H7.out.new hw5)
    clear hw5
    go_wp2_with fail
    go_ret
    exact ⟨rfl, HF.out⟩
  · have hbig : (131071 : Int) < (N : Int) := by have : (N : Int) = 131071 + 2 := HN.out; omega
    go_wp2_with fail
    rw [show w4.setCell ⟨w3.heap.size, M, none⟩ (bv ub) = w5 from HW5.out.symm, show w3.heap.size = pg from HPE.out.symm]
    refine (lg_append_no g (some ⟨pg, 0, none⟩) N N w5 hbig).mono ?_
    rintro e v1 ⟨rfl, rfl⟩
    have HRC := Lib.hid (recs_any H5.out.log (by simp) (fun t ht => by rw [List.mem_singleton.1 ht]; simp))
    go_wp2_with fail
    refine HRC.out.mono ?_
    rintro e v2 ⟨R2, rc2, rfl, hR2, hw2⟩
    have H6 := Lib.hid (H5.out.also hw2)
    have HRC2 := Lib.hid (recs_any H6.out.log (by simp) (fun t ht => by rw [List.mem_singleton.1 ht]; simp))
    clear hR2 hw2 HRC
    go_wp2_with fail
    refine (lg_compact_no g (some ⟨pg, 0, none⟩) N N v2 hbig).mono ?_
    rintro e v3 ⟨rfl, rfl⟩
    go_wp2_with fail
    refine HRC2.out.mono ?_
    rintro e v4 ⟨R4, rc4, rfl, hR4, hw4⟩
    have H7 := Lib.hid (H6.out.also hw4)
    clear hR4 hw4 HRC2
    go_wp2_with fail
    refine (wakes7_any _).mono ?_
    rintro e v5 ⟨rfl, hw5⟩
    have HF := Lib.hid (New.trans H7.out.new hw5)
    clear hw5
    go_wp2_with fail
    go_ret
    exact ⟨rfl, HF.out⟩
end Go.Proofs.Ytemgiodakoojiaa
