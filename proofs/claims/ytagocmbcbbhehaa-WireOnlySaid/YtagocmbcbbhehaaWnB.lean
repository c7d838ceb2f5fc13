/- wire.Rec, State, Reply: what they tell. By a program. -/
import Derived.Test.YtagocmbcbbhehaaWnA
import Derived.Test.YtagocmbcbbhehaaWnU
import Derived.Test.YtagocmbcbbhehaaWrH
namespace Go.Proofs.Ytagocmbcbbhehaa
set_option linter.unusedVariables false
open Go.RowKit
set_option maxRecDepth 20000 in
set_option maxHeartbeats 2000000 in
theorem wireRec (w : World) (cl : List Value) (cs : Ch) (hE : ERec w.heap.size w cl cs) (hsz : sz cs ≤ MX) :
    Calls Try.prog 5 #[.agg cl.toArray] w (Wrote w (run cs ([], false))) := by
  obtain ⟨v1, v2, v3, v4, v5, v6, v7, v8, v9, v10, v11, v12, v13, v14, v15, v16, v17, v18, v19, v20, v21, v22, v23, v24, rfl⟩ := hE.ex
  have HE := Lib.hid hE
  have HSZ := Lib.hid hsz
  clear hE hsz
  have HCA : Hid (CellsAt ((w.alloc (.cells #[v1, v2, v3, v4, v5, v6, v7, v8, v9, v10, v11, v12, v13, v14, v15, v16, v17, v18, v19, v20, v21, v22, v23, v24] 33)).alloc (.cells #[.slice none 0 0, .int .i64 0, .bool false] 66)) ⟨w.heap.size, 0, none⟩ [v1, v2, v3, v4, v5, v6, v7, v8, v9, v10, v11, v12, v13, v14, v15, v16, v17, v18, v19, v20, v21, v22, v23, v24]) := fun i v hi => by
    have hb := heap_alloc_new w (.cells #[v1, v2, v3, v4, v5, v6, v7, v8, v9, v10, v11, v12, v13, v14, v15, v16, v17, v18, v19, v20, v21, v22, v23, v24] 33)
    have hn : New (w.alloc (.cells #[v1, v2, v3, v4, v5, v6, v7, v8, v9, v10, v11, v12, v13, v14, v15, v16, v17, v18, v19, v20, v21, v22, v23, v24] 33)) ((w.alloc (.cells #[v1, v2, v3, v4, v5, v6, v7, v8, v9, v10, v11, v12, v13, v14, v15, v16, v17, v18, v19, v20, v21, v22, v23, v24] 33)).alloc (.cells #[.slice none 0 0, .int .i64 0, .bool false] 66)) := (Below.refl _ _).alloc (Nat.le_refl _) _
    rw [addr_at, cell_of_row _ _ i _ _ _ ((hn.block _ (by rw [World.size_alloc]; exact Nat.lt_succ_self _)).trans hb), List.getElem?_toArray]
    exact hi
  go_enter Try.func5, Try.ntmps5
  go_wp2_with (refine wpList_load_ad rfl 33 (.tmp 1) rfl ⟨w.heap.size, 0, none⟩ rfl [v1, v2, v3, v4, v5, v6, v7, v8, v9, v10, v11, v12, v13, v14, v15, v16, v17, v18, v19, v20, v21, v22, v23, v24] HCA.out _ Try.underlying33 rfl 24 (by kernel_rfl) rfl ?_; refine stop ?_)
  obtain ⟨w1, hw1⟩ : ∃ w1, w1 = w.alloc (.cells #[v1, v2, v3, v4, v5, v6, v7, v8, v9, v10, v11, v12, v13, v14, v15, v16, v17, v18, v19, v20, v21, v22, v23, v24] 33) := ⟨_, rfl⟩
  have hn1 : New w w1 := by rw [hw1]; exact (Below.refl _ _).alloc (Nat.le_refl _) _
  obtain ⟨g, hg⟩ : ∃ g, g = w1.heap.size := ⟨_, rfl⟩
  have hg2 : w.heap.size + 1 = g := by rw [hg, hw1, World.size_alloc]
  obtain ⟨w2, hw2⟩ : ∃ w2, w2 = w1.alloc (.cells #[.slice none 0 0, .int .i64 0, .bool false] 66) := ⟨_, rfl⟩
  have H2 : Hid (PW w2 w1.heap.size g none 0 (([], false) : Wst).1 (([], false) : Wst).2) := by rw [hw2, hg]; exact pw_new w1
  have hn2 : New w1 w2 := by rw [hw2]; exact (Below.refl _ _).alloc (Nat.le_refl _) _
  have HN2 := Lib.hid (New.trans hn1 hn2)
  have HN1 := Lib.hid hn1
  have HS2 : Hid (w1.heap.size ≤ w2.heap.size) := hn2.size
  have HEE : Hid (ERec w1.heap.size w2 [v1, v2, v3, v4, v5, v6, v7, v8, v9, v10, v11, v12, v13, v14, v15, v16, v17, v18, v19, v20, v21, v22, v23, v24] cs) := (HE.out.below HN2.out).up hn1.size
  have HCL := Lib.hid (wRec H2.out [v1, v2, v3, v4, v5, v6, v7, v8, v9, v10, v11, v12, v13, v14, v15, v16, v17, v18, v19, v20, v21, v22, v23, v24] cs HEE.out (by rw [List.length_nil, Nat.zero_add]; exact HSZ.out) HS2.out)
  rw [hg2]
  rw [← hw1, ← hw2]
  clear hw1 hn1 hg hg2 hw2 hn2
  refine go ?_
  go_wp2_with fail
  refine HCL.out.mono ?_
  rintro e w3 ⟨A3, c3, rfl, hk3, hm3⟩
  have HN3 : Hid (New w w3) := Below.trans HN2.out ((Moved.belowW hm3 H2.out (Nat.le_refl _) HS2.out).mono HN1.out.size)
  have HEN := Lib.hid (wend hk3 (Nat.le_trans (run_len cs ([], false)) (by rw [List.length_nil, Nat.zero_add]; exact HSZ.out)))
  clear hk3 hm3 HCL
  go_wp2_with fail
  refine HEN.out.mono ?_
  rintro e w4 ⟨hw4, hcase⟩
  have HN4 := Lib.hid (New.trans HN3.out hw4)
  have hs3 := HN3.out.size
  rcases hcase with ⟨hl, rfl⟩ | ⟨hl, B, d, rfl, ho⟩
  · have HL := Lib.hid hl
    clear hl hw4 HEN
    go_wp2_with fail
    go_ret2
    exact ⟨HN4.out, .inl ⟨HL.out, rfl⟩⟩
  · have HL := Lib.hid hl
    have HO := Lib.hid ho
    clear hl hw4 HEN ho
    go_wp2_with fail
    go_ret2
    exact ⟨HN4.out, .inr ⟨HL.out, B, d, rfl, HO.out.base_le hs3⟩⟩
set_option maxRecDepth 20000 in
set_option maxHeartbeats 2000000 in
theorem wireState (w : World) (cl : List Value) (cs : Ch) (hE : EState w.heap.size w cl cs) (hsz : sz cs ≤ MX) :
    Calls Try.prog 7 #[.agg cl.toArray] w (Wrote w (run cs ([], false))) := by
  obtain ⟨v1, v2, v3, v4, v5, v6, v7, v8, v9, v10, v11, v12, rfl⟩ := hE.ex
  have HE := Lib.hid hE
  have HSZ := Lib.hid hsz
  clear hE hsz
  have HCA : Hid (CellsAt ((w.alloc (.cells #[v1, v2, v3, v4, v5, v6, v7, v8, v9, v10, v11, v12] 46)).alloc (.cells #[.slice none 0 0, .int .i64 0, .bool false] 66)) ⟨w.heap.size, 0, none⟩ [v1, v2, v3, v4, v5, v6, v7, v8, v9, v10, v11, v12]) := fun i v hi => by
    have hb := heap_alloc_new w (.cells #[v1, v2, v3, v4, v5, v6, v7, v8, v9, v10, v11, v12] 46)
    have hn : New (w.alloc (.cells #[v1, v2, v3, v4, v5, v6, v7, v8, v9, v10, v11, v12] 46)) ((w.alloc (.cells #[v1, v2, v3, v4, v5, v6, v7, v8, v9, v10, v11, v12] 46)).alloc (.cells #[.slice none 0 0, .int .i64 0, .bool false] 66)) := (Below.refl _ _).alloc (Nat.le_refl _) _
    rw [addr_at, cell_of_row _ _ i _ _ _ ((hn.block _ (by rw [World.size_alloc]; exact Nat.lt_succ_self _)).trans hb), List.getElem?_toArray]
    exact hi
  go_enter Try.func7, Try.ntmps7
  go_wp2_with (refine wpList_load_ad rfl 46 (.tmp 1) rfl ⟨w.heap.size, 0, none⟩ rfl [v1, v2, v3, v4, v5, v6, v7, v8, v9, v10, v11, v12] HCA.out _ Try.underlying46 rfl 12 (by kernel_rfl) rfl ?_; refine stop ?_)
  obtain ⟨w1, hw1⟩ : ∃ w1, w1 = w.alloc (.cells #[v1, v2, v3, v4, v5, v6, v7, v8, v9, v10, v11, v12] 46) := ⟨_, rfl⟩
  have hn1 : New w w1 := by rw [hw1]; exact (Below.refl _ _).alloc (Nat.le_refl _) _
  obtain ⟨g, hg⟩ : ∃ g, g = w1.heap.size := ⟨_, rfl⟩
  have hg2 : w.heap.size + 1 = g := by rw [hg, hw1, World.size_alloc]
  obtain ⟨w2, hw2⟩ : ∃ w2, w2 = w1.alloc (.cells #[.slice none 0 0, .int .i64 0, .bool false] 66) := ⟨_, rfl⟩
  have H2 : Hid (PW w2 w1.heap.size g none 0 (([], false) : Wst).1 (([], false) : Wst).2) := by rw [hw2, hg]; exact pw_new w1
  have hn2 : New w1 w2 := by rw [hw2]; exact (Below.refl _ _).alloc (Nat.le_refl _) _
  have HN2 := Lib.hid (New.trans hn1 hn2)
  have HN1 := Lib.hid hn1
  have HS2 : Hid (w1.heap.size ≤ w2.heap.size) := hn2.size
  have HEE : Hid (EState w1.heap.size w2 [v1, v2, v3, v4, v5, v6, v7, v8, v9, v10, v11, v12] cs) := (HE.out.below HN2.out).up hn1.size
  have HCL := Lib.hid (wState H2.out [v1, v2, v3, v4, v5, v6, v7, v8, v9, v10, v11, v12] cs HEE.out (by rw [List.length_nil, Nat.zero_add]; exact HSZ.out) HS2.out)
  rw [hg2]
  rw [← hw1, ← hw2]
  clear hw1 hn1 hg hg2 hw2 hn2
  refine go ?_
  go_wp2_with fail
  refine HCL.out.mono ?_
  rintro e w3 ⟨A3, c3, rfl, hk3, hm3⟩
  have HN3 : Hid (New w w3) := Below.trans HN2.out ((Moved.belowW hm3 H2.out (Nat.le_refl _) HS2.out).mono HN1.out.size)
  have HEN := Lib.hid (wend hk3 (Nat.le_trans (run_len cs ([], false)) (by rw [List.length_nil, Nat.zero_add]; exact HSZ.out)))
  clear hk3 hm3 HCL
  go_wp2_with fail
  refine HEN.out.mono ?_
  rintro e w4 ⟨hw4, hcase⟩
  have HN4 := Lib.hid (New.trans HN3.out hw4)
  have hs3 := HN3.out.size
  rcases hcase with ⟨hl, rfl⟩ | ⟨hl, B, d, rfl, ho⟩
  · have HL := Lib.hid hl
    clear hl hw4 HEN
    go_wp2_with fail
    go_ret2
    exact ⟨HN4.out, .inl ⟨HL.out, rfl⟩⟩
  · have HL := Lib.hid hl
    have HO := Lib.hid ho
    clear hl hw4 HEN ho
    go_wp2_with fail
    go_ret2
    exact ⟨HN4.out, .inr ⟨HL.out, B, d, rfl, HO.out.base_le hs3⟩⟩
set_option maxRecDepth 20000 in
set_option maxHeartbeats 2000000 in
theorem wireReply (w : World) (cl : List Value) (cs : Ch) (hE : EReply w.heap.size w cl cs) (hsz : sz cs ≤ MX) :
    Calls Try.prog 20 #[.agg cl.toArray] w (Wrote w (run cs ([], false))) := by
  obtain ⟨v1, v2, v3, v4, v5, v6, v7, rfl⟩ := hE.ex
  have HE := Lib.hid hE
  have HSZ := Lib.hid hsz
  clear hE hsz
  have HCA : Hid (CellsAt ((w.alloc (.cells #[v1, v2, v3, v4, v5, v6, v7] 76)).alloc (.cells #[.slice none 0 0, .int .i64 0, .bool false] 66)) ⟨w.heap.size, 0, none⟩ [v1, v2, v3, v4, v5, v6, v7]) := fun i v hi => by
    have hb := heap_alloc_new w (.cells #[v1, v2, v3, v4, v5, v6, v7] 76)
    have hn : New (w.alloc (.cells #[v1, v2, v3, v4, v5, v6, v7] 76)) ((w.alloc (.cells #[v1, v2, v3, v4, v5, v6, v7] 76)).alloc (.cells #[.slice none 0 0, .int .i64 0, .bool false] 66)) := (Below.refl _ _).alloc (Nat.le_refl _) _
    rw [addr_at, cell_of_row _ _ i _ _ _ ((hn.block _ (by rw [World.size_alloc]; exact Nat.lt_succ_self _)).trans hb), List.getElem?_toArray]
    exact hi
  go_enter Try.func20, Try.ntmps20
  go_wp2_with (refine wpList_load_ad rfl 76 (.tmp 1) rfl ⟨w.heap.size, 0, none⟩ rfl [v1, v2, v3, v4, v5, v6, v7] HCA.out _ Try.underlying76 rfl 7 (by kernel_rfl) rfl ?_; refine stop ?_)
  obtain ⟨w1, hw1⟩ : ∃ w1, w1 = w.alloc (.cells #[v1, v2, v3, v4, v5, v6, v7] 76) := ⟨_, rfl⟩
  have hn1 : New w w1 := by rw [hw1]; exact (Below.refl _ _).alloc (Nat.le_refl _) _
  obtain ⟨g, hg⟩ : ∃ g, g = w1.heap.size := ⟨_, rfl⟩
  have hg2 : w.heap.size + 1 = g := by rw [hg, hw1, World.size_alloc]
  obtain ⟨w2, hw2⟩ : ∃ w2, w2 = w1.alloc (.cells #[.slice none 0 0, .int .i64 0, .bool false] 66) := ⟨_, rfl⟩
  have H2 : Hid (PW w2 w1.heap.size g none 0 (([], false) : Wst).1 (([], false) : Wst).2) := by rw [hw2, hg]; exact pw_new w1
  have hn2 : New w1 w2 := by rw [hw2]; exact (Below.refl _ _).alloc (Nat.le_refl _) _
  have HN2 := Lib.hid (New.trans hn1 hn2)
  have HN1 := Lib.hid hn1
  have HS2 : Hid (w1.heap.size ≤ w2.heap.size) := hn2.size
  have HEE : Hid (EReply w1.heap.size w2 [v1, v2, v3, v4, v5, v6, v7] cs) := (HE.out.below HN2.out).up hn1.size
  have HCL := Lib.hid (wReply H2.out [v1, v2, v3, v4, v5, v6, v7] cs HEE.out (by rw [List.length_nil, Nat.zero_add]; exact HSZ.out) HS2.out)
  rw [hg2]
  rw [← hw1, ← hw2]
  clear hw1 hn1 hg hg2 hw2 hn2
  refine go ?_
  go_wp2_with fail
  refine HCL.out.mono ?_
  rintro e w3 ⟨A3, c3, rfl, hk3, hm3⟩
  have HN3 : Hid (New w w3) := Below.trans HN2.out ((Moved.belowW hm3 H2.out (Nat.le_refl _) HS2.out).mono HN1.out.size)
  have HEN := Lib.hid (wend hk3 (Nat.le_trans (run_len cs ([], false)) (by rw [List.length_nil, Nat.zero_add]; exact HSZ.out)))
  clear hk3 hm3 HCL
  go_wp2_with fail
  refine HEN.out.mono ?_
  rintro e w4 ⟨hw4, hcase⟩
  have HN4 := Lib.hid (New.trans HN3.out hw4)
  have hs3 := HN3.out.size
  rcases hcase with ⟨hl, rfl⟩ | ⟨hl, B, d, rfl, ho⟩
  · have HL := Lib.hid hl
    clear hl hw4 HEN
    go_wp2_with fail
    go_ret2
    exact ⟨HN4.out, .inl ⟨HL.out, rfl⟩⟩
  · have HL := Lib.hid hl
    have HO := Lib.hid ho
    clear hl hw4 HEN ho
    go_wp2_with fail
    go_ret2
    exact ⟨HN4.out, .inr ⟨HL.out, B, d, rfl, HO.out.base_le hs3⟩⟩
end Go.Proofs.Ytagocmbcbbhehaa
