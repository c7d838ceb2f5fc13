/- wire.reader's structs: what they tell. By a program. -/
import Derived.Test.YtagocmbcbbhehaaRwE
namespace Go.Proofs.Ytagocmbcbbhehaa
set_option linter.unusedVariables false
open Go.RowKit
set_option maxRecDepth 20000 in
set_option maxHeartbeats 8000000 in
theorem rSlot {w : World} {lo g R c : Nat} {A : Option Addr} {l : List UInt8} {e : Int} {lg : Bool} (h : RW w lo g R A c l e lg) :
    Calls Try.prog 61 #[.pointer (some ⟨R, 0, none⟩)] w (Red ESlot w lo g R l e lg) := by
  have X0 := Lib.hid (BX.new h 102 [.int .i64 0, .int .i64 0, .int .i64 0])
  have q0 := X0.out.rw.c0
  clear h
  go_enter Try.func61, Try.ntmps61
  go_wp2_with fail
  refine (rId X0.out.rw).mono ?_
  rintro en w1 ⟨cl1, rfl, s1, A1, c1, l1, e1, g1, hr1, hk1, hf1, hn1, hj1⟩
  obtain ⟨v1_1, v1_2, rfl⟩ := hf1.now.ex
  have HON1 := Lib.hid (ones_all (hf1.now.one))
  have HJ1 := Lib.hid hj1
  have HN1 := Lib.hid hn1
  have Y1 := Lib.hid (X0.out.got hr1 hk1 hf1)
  have HT1 := Lib.hid (Y1.out.there 0 2 (by simp))
  have X1 := Lib.hid (Y1.out.puts [v1_1, v1_2] 0 (by simp))
  have X1 : Hid (BX _ _ w _ lo g R _ _ _ _ _ _ [v1_1, v1_2, .int .i64 0]) := X1
  clear hr1 hk1 hj1 hf1 hn1 q0
  go_wp2_with (refine wpList_store_mid rfl 23 (.tmp 6) (.tmp 5) rfl (w.heap.size + 1) 0 (List.toArray [v1_1, v1_2]) rfl rfl HT1.out (by kernel_rfl) HON1.out ?_; refine stop ?_)
  obtain ⟨x1, hx1⟩ : ∃ x1, x1 = w1.setCells (w.heap.size + 1) 0 [v1_1, v1_2] := ⟨_, rfl⟩
  rw [← hx1] at X1 ⊢
  have q1 := X1.out.rw.c0
  clear hx1 HT1 HON1
  refine go ?_
  go_wp2_with fail
  refine (int_rw X1.out.rw).mono ?_
  rintro en w2 ⟨z2, rfl, hz2, A2, c2, l2, e2, hr2, hk2, hj2⟩
  have HZ2 := Lib.hid hz2
  have HJ2 := Lib.hid hj2
  have Y2 := Lib.hid (X1.out.red hr2 hk2)
  have f2 := Y2.out.fr 2
  have d2 := Y2.out.cell 2
  have X2 : Hid (BX _ _ w _ lo g R _ _ _ _ _ _ [v1_1, v1_2, .int .i64 z2]) := Lib.hid (Y2.out.put 2 (.int .i64 z2))
  clear hr2 hk2 hj2 hz2 q1
  go_wp2_with (refine wpList_load_ad rfl 102 (.tmp 3) rfl ⟨w.heap.size + 1, 0, none⟩ rfl [v1_1, v1_2, .int .i64 z2] (cells_of X2.out.box) _ Try.underlying102 rfl 3 (by kernel_rfl) rfl ?_; refine stop ?_)
  obtain ⟨w3, hw3⟩ : ∃ w3, w3 = w2.setCell ⟨w.heap.size + 1, 2, none⟩ (.int .i64 z2) := ⟨_, rfl⟩
  rw [← hw3] at X2 ⊢
  clear hw3 f2 d2
  refine go ?_
  have HE : Hid (ESlot w3.heap.size w3 [v1_1, v1_2, .int .i64 z2] (s1 ++ ([some (iv z2)]))) := by obtain ⟨_, F1⟩ := X2.out.ff _ (Keep.refl _ _); exact ⟨_, _, _, _, F1, z_int z2 HZ2.out, rfl, rfl⟩
  go_wp2_with (refine wpList_store_row2 rfl 102 (.tmp 2) (.tmp 13) rfl w.heap.size (List.toArray [v1_1, v1_2, .int .i64 z2]) rfl rfl 102 _ X2.out.res (by kernel_rfl) rfl (ones_all (HE.out.one)) ?_; refine stop ?_)
  have X3 := Lib.hid (X2.out.done [v1_1, v1_2, .int .i64 z2])
  obtain ⟨w4, hw4⟩ : ∃ w4, w4 = w3.setRow w.heap.size (List.toArray [v1_1, v1_2, .int .i64 z2]) := ⟨_, rfl⟩
  rw [← hw4] at X3 ⊢
  clear hw4
  refine go ?_
  go_wp2_with fail
  (try simp only [Exit.inBlock, Exit.then])
  refine bodyPost_ret (results_cell_row rfl _ _ w.heap.size 102 (List.toArray [v1_1, v1_2, .int .i64 z2]) _ _ rfl X3.out.res Try.underlying102 rfl (by kernel_rfl)) rfl ?_
  refine ⟨[v1_1, v1_2, .int .i64 z2], rfl, s1 ++ ([some (iv z2)]), _, _, _, _, _, X3.out.rw, X3.out.keep, fun u hu => by obtain ⟨_, F1⟩ := X3.out.ff _ (hu.mono (T := DD w) (fun i (hi : i < w.heap.size) => by show i < w.heap.size + 2; omega)); exact ⟨_, _, _, _, F1, z_int z2 HZ2.out, rfl, rfl⟩, by simp [HN1.out], fun x1 x2 => ?_⟩
  obtain ⟨a2, t2⟩ := HJ2.out x1
  obtain ⟨a1, b1, t1⟩ := HJ1.out a2 x2
  exact ⟨a1, b1, by rw [t1, t2]; simp [flat, flat_append]⟩
set_option maxRecDepth 20000 in
set_option maxHeartbeats 8000000 in
theorem rResv {w : World} {lo g R c : Nat} {A : Option Addr} {l : List UInt8} {e : Int} {lg : Bool} (h : RW w lo g R A c l e lg) :
    Calls Try.prog 72 #[.pointer (some ⟨R, 0, none⟩)] w (Red EResv w lo g R l e lg) := by
  have X0 := Lib.hid (BX.new h 119 [.int .i64 0, .int .i64 0, .int .i64 0, .int .i64 0, .int .i64 0, .complex .f64 0 0, .bool false, .int .i64 0])
  have q0 := X0.out.rw.c0
  clear h
  go_enter Try.func72, Try.ntmps72
  go_wp2_with fail
  refine (rId X0.out.rw).mono ?_
  rintro en w1 ⟨cl1, rfl, s1, A1, c1, l1, e1, g1, hr1, hk1, hf1, hn1, hj1⟩
  obtain ⟨v1_1, v1_2, rfl⟩ := hf1.now.ex
  have HON1 := Lib.hid (ones_all (hf1.now.one))
  have HJ1 := Lib.hid hj1
  have HN1 := Lib.hid hn1
  have Y1 := Lib.hid (X0.out.got hr1 hk1 hf1)
  have HT1 := Lib.hid (Y1.out.there 0 2 (by simp))
  have X1 := Lib.hid (Y1.out.puts [v1_1, v1_2] 0 (by simp))
  have X1 : Hid (BX _ _ w _ lo g R _ _ _ _ _ _ [v1_1, v1_2, .int .i64 0, .int .i64 0, .int .i64 0, .complex .f64 0 0, .bool false, .int .i64 0]) := X1
  clear hr1 hk1 hj1 hf1 hn1 q0
  go_wp2_with (refine wpList_store_mid rfl 23 (.tmp 6) (.tmp 5) rfl (w.heap.size + 1) 0 (List.toArray [v1_1, v1_2]) rfl rfl HT1.out (by kernel_rfl) HON1.out ?_; refine stop ?_)
  obtain ⟨x1, hx1⟩ : ∃ x1, x1 = w1.setCells (w.heap.size + 1) 0 [v1_1, v1_2] := ⟨_, rfl⟩
  rw [← hx1] at X1 ⊢
  have q1 := X1.out.rw.c0
  clear hx1 HT1 HON1
  refine go ?_
  go_wp2_with fail
  refine (int_rw X1.out.rw).mono ?_
  rintro en w2 ⟨z2, rfl, hz2, A2, c2, l2, e2, hr2, hk2, hj2⟩
  have HZ2 := Lib.hid hz2
  have HJ2 := Lib.hid hj2
  have Y2 := Lib.hid (X1.out.red hr2 hk2)
  have f2 := Y2.out.fr 2
  have d2 := Y2.out.cell 2
  have X2 : Hid (BX _ _ w _ lo g R _ _ _ _ _ _ [v1_1, v1_2, .int .i64 z2, .int .i64 0, .int .i64 0, .complex .f64 0 0, .bool false, .int .i64 0]) := Lib.hid (Y2.out.put 2 (.int .i64 z2))
  have q2 := X2.out.rw.c0
  clear hr2 hk2 hj2 hz2 q1
  go_wp2_with fail
  refine (rBusy X2.out.rw).mono ?_
  rintro en w3 ⟨cl3, rfl, s3, A3, c3, l3, e3, g3, hr3, hk3, hf3, hn3, hj3⟩
  obtain ⟨v3_1, v3_2, v3_3, rfl⟩ := hf3.now.ex
  have HON3 := Lib.hid (ones_all (hf3.now.one))
  have HJ3 := Lib.hid hj3
  have HN3 := Lib.hid hn3
  have Y3 := Lib.hid (X2.out.got hr3 hk3 hf3)
  have HT3 := Lib.hid (Y3.out.there 3 3 (by simp))
  have X3 := Lib.hid (Y3.out.puts [v3_1, v3_2, v3_3] 3 (by simp))
  have X3 : Hid (BX _ _ w _ lo g R _ _ _ _ _ _ [v1_1, v1_2, .int .i64 z2, v3_1, v3_2, v3_3, .bool false, .int .i64 0]) := X3
  clear hr3 hk3 hj3 hf3 hn3 q2 f2 d2
  go_wp2_with (refine wpList_store_mid rfl 30 (.tmp 15) (.tmp 14) rfl (w.heap.size + 1) 3 (List.toArray [v3_1, v3_2, v3_3]) rfl rfl HT3.out (by kernel_rfl) HON3.out ?_; refine stop ?_)
  obtain ⟨x3, hx3⟩ : ∃ x3, x3 = w3.setCells (w.heap.size + 1) 3 [v3_1, v3_2, v3_3] := ⟨_, rfl⟩
  rw [← hx3] at X3 ⊢
  have q3 := X3.out.rw.c0
  clear hx3 HT3 HON3
  refine go ?_
  go_wp2_with fail
  refine (mark_rw X3.out.rw).mono ?_
  rintro en w4 ⟨z4, rfl, A4, c4, l4, e4, hr4, hk4, hj4⟩
  have HJ4 := Lib.hid hj4
  have Y4 := Lib.hid (X3.out.red hr4 hk4)
  have f4 := Y4.out.fr 6
  have d4 := Y4.out.cell 6
  have X4 : Hid (BX _ _ w _ lo g R _ _ _ _ _ _ [v1_1, v1_2, .int .i64 z2, v3_1, v3_2, v3_3, .bool z4, .int .i64 0]) := Lib.hid (Y4.out.put 6 (.bool z4))
  have q4 := X4.out.rw.c0
  clear hr4 hk4 hj4 q3
  go_wp2_with fail
  refine (int_rw X4.out.rw).mono ?_
  rintro en w5 ⟨z5, rfl, hz5, A5, c5, l5, e5, hr5, hk5, hj5⟩
  have HZ5 := Lib.hid hz5
  have HJ5 := Lib.hid hj5
  have Y5 := Lib.hid (X4.out.red hr5 hk5)
  have f5 := Y5.out.fr 7
  have d5 := Y5.out.cell 7
  have X5 : Hid (BX _ _ w _ lo g R _ _ _ _ _ _ [v1_1, v1_2, .int .i64 z2, v3_1, v3_2, v3_3, .bool z4, .int .i64 z5]) := Lib.hid (Y5.out.put 7 (.int .i64 z5))
  clear hr5 hk5 hj5 hz5 q4 f4 d4
  go_wp2_with (refine wpList_load_ad rfl 119 (.tmp 3) rfl ⟨w.heap.size + 1, 0, none⟩ rfl [v1_1, v1_2, .int .i64 z2, v3_1, v3_2, v3_3, .bool z4, .int .i64 z5] (cells_of X5.out.box) _ Try.underlying119 rfl 8 (by kernel_rfl) rfl ?_; refine stop ?_)
  obtain ⟨w6, hw6⟩ : ∃ w6, w6 = w5.setCell ⟨w.heap.size + 1, 7, none⟩ (.int .i64 z5) := ⟨_, rfl⟩
  rw [← hw6] at X5 ⊢
  clear hw6 f5 d5
  refine go ?_
  have HE : Hid (EResv w6.heap.size w6 [v1_1, v1_2, .int .i64 z2, v3_1, v3_2, v3_3, .bool z4, .int .i64 z5] (s1 ++ ([some (iv z2)] ++ (s3 ++ ([some (uv (if z4 then 1 else 0))] ++ ([some (iv z5)])))))) := by obtain ⟨⟨_, F1⟩, F2⟩ := X5.out.ff _ (Keep.refl _ _); exact ⟨_, _, _, _, _, _, _, _, _, _, F1, z_int z2 HZ2.out, F2, ⟨z4, rfl, rfl⟩, z_int z5 HZ5.out, rfl, rfl⟩
  go_wp2_with (refine wpList_store_row2 rfl 119 (.tmp 2) (.tmp 28) rfl w.heap.size (List.toArray [v1_1, v1_2, .int .i64 z2, v3_1, v3_2, v3_3, .bool z4, .int .i64 z5]) rfl rfl 119 _ X5.out.res (by kernel_rfl) rfl (ones_all (HE.out.one)) ?_; refine stop ?_)
  have X6 := Lib.hid (X5.out.done [v1_1, v1_2, .int .i64 z2, v3_1, v3_2, v3_3, .bool z4, .int .i64 z5])
  obtain ⟨w7, hw7⟩ : ∃ w7, w7 = w6.setRow w.heap.size (List.toArray [v1_1, v1_2, .int .i64 z2, v3_1, v3_2, v3_3, .bool z4, .int .i64 z5]) := ⟨_, rfl⟩
  rw [← hw7] at X6 ⊢
  clear hw7
  refine go ?_
  go_wp2_with fail
  (try simp only [Exit.inBlock, Exit.then])
  refine bodyPost_ret (results_cell_row rfl _ _ w.heap.size 119 (List.toArray [v1_1, v1_2, .int .i64 z2, v3_1, v3_2, v3_3, .bool z4, .int .i64 z5]) _ _ rfl X6.out.res Try.underlying119 rfl (by kernel_rfl)) rfl ?_
  refine ⟨[v1_1, v1_2, .int .i64 z2, v3_1, v3_2, v3_3, .bool z4, .int .i64 z5], rfl, s1 ++ ([some (iv z2)] ++ (s3 ++ ([some (uv (if z4 then 1 else 0))] ++ ([some (iv z5)])))), _, _, _, _, _, X6.out.rw, X6.out.keep, fun u hu => by obtain ⟨⟨_, F1⟩, F2⟩ := X6.out.ff _ (hu.mono (T := DD w) (fun i (hi : i < w.heap.size) => by show i < w.heap.size + 2; omega)); exact ⟨_, _, _, _, _, _, _, _, _, _, F1, z_int z2 HZ2.out, F2, ⟨z4, rfl, rfl⟩, z_int z5 HZ5.out, rfl, rfl⟩, by simp [HN1.out, HN3.out], fun x1 x2 => ?_⟩
  obtain ⟨a5, t5⟩ := HJ5.out x1
  obtain ⟨a4, t4⟩ := HJ4.out a5
  obtain ⟨a3, b3, t3⟩ := HJ3.out a4 x2
  obtain ⟨a2, t2⟩ := HJ2.out a3
  obtain ⟨a1, b1, t1⟩ := HJ1.out a2 b3
  exact ⟨a1, b1, by rw [t1, t2, t3, t4, t5]; simp [flat, flat_append]⟩
end Go.Proofs.Ytagocmbcbbhehaa
