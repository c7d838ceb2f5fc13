/- wire.reader's structs: what they tell. By a program. -/
import Derived.Test.YtagocmbcbbhehaaRwG
namespace Go.Proofs.Ytagocmbcbbhehaa
set_option linter.unusedVariables false
open Go.RowKit
set_option maxRecDepth 20000 in
set_option maxHeartbeats 8000000 in
theorem rFrame {w : World} {lo g R c : Nat} {A : Option Addr} {l : List UInt8} {e : Int} {lg : Bool} (h : RW w lo g R A c l e lg) :
    Calls Try.prog 26 #[.pointer (some ⟨R, 0, none⟩)] w (Red EFrame w lo g R l e lg) := by
  have X0 := Lib.hid (BX.new h 55 [.int .i64 0, .int .i64 0, .int .i64 0, .int .i64 0, .int .i64 0, .int .i64 0, .slice none 0 0])
  have q0 := X0.out.rw.c0
  clear h
  go_enter Try.func26, Try.ntmps26
  go_wp2_with fail
  refine (int_rw X0.out.rw).mono ?_
  rintro en w1 ⟨z1, rfl, hz1, A1, c1, l1, e1, hr1, hk1, hj1⟩
  have HZ1 := Lib.hid hz1
  have HJ1 := Lib.hid hj1
  have Y1 := Lib.hid (X0.out.red hr1 hk1)
  have f1 := Y1.out.fr 0
  have d1 := Y1.out.cell 0
  have X1 : Hid (BX _ _ w _ lo g R _ _ _ _ _ _ [.int .i64 z1, .int .i64 0, .int .i64 0, .int .i64 0, .int .i64 0, .int .i64 0, .slice none 0 0]) := Lib.hid (Y1.out.put 0 (.int .i64 z1))
  have q1 := X1.out.rw.c0
  clear hr1 hk1 hj1 hz1 q0
  go_wp2_with fail
  refine (int_rw X1.out.rw).mono ?_
  rintro en w2 ⟨z2, rfl, hz2, A2, c2, l2, e2, hr2, hk2, hj2⟩
  have HZ2 := Lib.hid hz2
  have HJ2 := Lib.hid hj2
  have Y2 := Lib.hid (X1.out.red hr2 hk2)
  have f2 := Y2.out.fr 1
  have d2 := Y2.out.cell 1
  have X2 : Hid (BX _ _ w _ lo g R _ _ _ _ _ _ [.int .i64 z1, .int .i64 z2, .int .i64 0, .int .i64 0, .int .i64 0, .int .i64 0, .slice none 0 0]) := Lib.hid (Y2.out.put 1 (.int .i64 z2))
  have q2 := X2.out.rw.c0
  clear hr2 hk2 hj2 hz2 q1 f1 d1
  go_wp2_with fail
  refine (int_rw X2.out.rw).mono ?_
  rintro en w3 ⟨z3, rfl, hz3, A3, c3, l3, e3, hr3, hk3, hj3⟩
  have HZ3 := Lib.hid hz3
  have HJ3 := Lib.hid hj3
  have Y3 := Lib.hid (X2.out.red hr3 hk3)
  have f3 := Y3.out.fr 2
  have d3 := Y3.out.cell 2
  have X3 : Hid (BX _ _ w _ lo g R _ _ _ _ _ _ [.int .i64 z1, .int .i64 z2, .int .i64 z3, .int .i64 0, .int .i64 0, .int .i64 0, .slice none 0 0]) := Lib.hid (Y3.out.put 2 (.int .i64 z3))
  have q3 := X3.out.rw.c0
  clear hr3 hk3 hj3 hz3 q2 f2 d2
  go_wp2_with fail
  refine (int_rw X3.out.rw).mono ?_
  rintro en w4 ⟨z4, rfl, hz4, A4, c4, l4, e4, hr4, hk4, hj4⟩
  have HZ4 := Lib.hid hz4
  have HJ4 := Lib.hid hj4
  have Y4 := Lib.hid (X3.out.red hr4 hk4)
  have f4 := Y4.out.fr 3
  have d4 := Y4.out.cell 3
  have X4 : Hid (BX _ _ w _ lo g R _ _ _ _ _ _ [.int .i64 z1, .int .i64 z2, .int .i64 z3, .int .i64 z4, .int .i64 0, .int .i64 0, .slice none 0 0]) := Lib.hid (Y4.out.put 3 (.int .i64 z4))
  have q4 := X4.out.rw.c0
  clear hr4 hk4 hj4 hz4 q3 f3 d3
  go_wp2_with fail
  refine (int_rw X4.out.rw).mono ?_
  rintro en w5 ⟨z5, rfl, hz5, A5, c5, l5, e5, hr5, hk5, hj5⟩
  have HZ5 := Lib.hid hz5
  have HJ5 := Lib.hid hj5
  have Y5 := Lib.hid (X4.out.red hr5 hk5)
  have f5 := Y5.out.fr 4
  have d5 := Y5.out.cell 4
  have X5 : Hid (BX _ _ w _ lo g R _ _ _ _ _ _ [.int .i64 z1, .int .i64 z2, .int .i64 z3, .int .i64 z4, .int .i64 z5, .int .i64 0, .slice none 0 0]) := Lib.hid (Y5.out.put 4 (.int .i64 z5))
  have q5 := X5.out.rw.c0
  clear hr5 hk5 hj5 hz5 q4 f4 d4
  go_wp2_with fail
  refine (int_rw X5.out.rw).mono ?_
  rintro en w6 ⟨z6, rfl, hz6, A6, c6, l6, e6, hr6, hk6, hj6⟩
  have HZ6 := Lib.hid hz6
  have HJ6 := Lib.hid hj6
  have Y6 := Lib.hid (X5.out.red hr6 hk6)
  have f6 := Y6.out.fr 5
  have d6 := Y6.out.cell 5
  have X6 : Hid (BX _ _ w _ lo g R _ _ _ _ _ _ [.int .i64 z1, .int .i64 z2, .int .i64 z3, .int .i64 z4, .int .i64 z5, .int .i64 z6, .slice none 0 0]) := Lib.hid (Y6.out.put 5 (.int .i64 z6))
  have q6 := X6.out.rw.c0
  clear hr6 hk6 hj6 hz6 q5 f5 d5
  go_wp2_with fail
  refine (text_rw X6.out.rw).mono ?_
  rintro en w7 ⟨v7, rfl, s7, A7, c7, l7, e7, g7, hr7, hk7, hf7, hn7, hj7⟩
  obtain ⟨L7, M7, K7, rfl⟩ := FText.sl hf7.now
  have HJ7 := Lib.hid hj7
  have HN7 := Lib.hid hn7
  have Y7 := Lib.hid (X6.out.got hr7 hk7 hf7)
  have f7 := Y7.out.fr 6
  have d7 := Y7.out.cell 6
  have X7 : Hid (BX _ _ w _ lo g R _ _ _ _ _ _ [.int .i64 z1, .int .i64 z2, .int .i64 z3, .int .i64 z4, .int .i64 z5, .int .i64 z6, .slice L7 M7 K7]) := Lib.hid (Y7.out.put 6 (.slice L7 M7 K7))
  clear hr7 hk7 hj7 hf7 hn7 q6 f6 d6
  go_wp2_with (refine wpList_load_ad rfl 55 (.tmp 3) rfl ⟨w.heap.size + 1, 0, none⟩ rfl [.int .i64 z1, .int .i64 z2, .int .i64 z3, .int .i64 z4, .int .i64 z5, .int .i64 z6, .slice L7 M7 K7] (cells_of X7.out.box) _ Try.underlying55 rfl 7 (by kernel_rfl) rfl ?_; refine stop ?_)
  obtain ⟨w8, hw8⟩ : ∃ w8, w8 = w7.setCell ⟨w.heap.size + 1, 6, none⟩ (.slice L7 M7 K7) := ⟨_, rfl⟩
  rw [← hw8] at X7 ⊢
  clear hw8 f7 d7
  refine go ?_
  have HE : Hid (EFrame w8.heap.size w8 [.int .i64 z1, .int .i64 z2, .int .i64 z3, .int .i64 z4, .int .i64 z5, .int .i64 z6, .slice L7 M7 K7] ([some (iv z1)] ++ ([some (iv z2)] ++ ([some (iv z3)] ++ ([some (iv z4)] ++ ([some (iv z5)] ++ ([some (iv z6)] ++ (s7)))))))) := by obtain ⟨_, F1⟩ := X7.out.ff _ (Keep.refl _ _); exact ⟨_, _, _, _, _, _, _, _, _, _, _, _, _, _, z_int z1 HZ1.out, z_int z2 HZ2.out, z_int z3 HZ3.out, z_int z4 HZ4.out, z_int z5 HZ5.out, z_int z6 HZ6.out, F1, rfl, rfl⟩
  go_wp2_with (refine wpList_store_row2 rfl 55 (.tmp 2) (.tmp 46) rfl w.heap.size (List.toArray [.int .i64 z1, .int .i64 z2, .int .i64 z3, .int .i64 z4, .int .i64 z5, .int .i64 z6, .slice L7 M7 K7]) rfl rfl 55 _ X7.out.res (by kernel_rfl) rfl (ones_all (HE.out.one)) ?_; refine stop ?_)
  have X8 := Lib.hid (X7.out.done [.int .i64 z1, .int .i64 z2, .int .i64 z3, .int .i64 z4, .int .i64 z5, .int .i64 z6, .slice L7 M7 K7])
  obtain ⟨w9, hw9⟩ : ∃ w9, w9 = w8.setRow w.heap.size (List.toArray [.int .i64 z1, .int .i64 z2, .int .i64 z3, .int .i64 z4, .int .i64 z5, .int .i64 z6, .slice L7 M7 K7]) := ⟨_, rfl⟩
  rw [← hw9] at X8 ⊢
  clear hw9
  refine go ?_
  go_wp2_with fail
  (try simp only [Exit.inBlock, Exit.then])
  refine bodyPost_ret (results_cell_row rfl _ _ w.heap.size 55 (List.toArray [.int .i64 z1, .int .i64 z2, .int .i64 z3, .int .i64 z4, .int .i64 z5, .int .i64 z6, .slice L7 M7 K7]) _ _ rfl X8.out.res Try.underlying55 rfl (by kernel_rfl)) rfl ?_
  refine ⟨[.int .i64 z1, .int .i64 z2, .int .i64 z3, .int .i64 z4, .int .i64 z5, .int .i64 z6, .slice L7 M7 K7], rfl, [some (iv z1)] ++ ([some (iv z2)] ++ ([some (iv z3)] ++ ([some (iv z4)] ++ ([some (iv z5)] ++ ([some (iv z6)] ++ (s7)))))), _, _, _, _, _, X8.out.rw, X8.out.keep, fun u hu => by obtain ⟨_, F1⟩ := X8.out.ff _ (hu.mono (T := DD w) (fun i (hi : i < w.heap.size) => by show i < w.heap.size + 2; omega)); exact ⟨_, _, _, _, _, _, _, _, _, _, _, _, _, _, z_int z1 HZ1.out, z_int z2 HZ2.out, z_int z3 HZ3.out, z_int z4 HZ4.out, z_int z5 HZ5.out, z_int z6 HZ6.out, F1, rfl, rfl⟩, by simp [HN7.out], fun x1 x2 => ?_⟩
  obtain ⟨a7, b7, t7⟩ := HJ7.out x1 x2
  obtain ⟨a6, t6⟩ := HJ6.out a7
  obtain ⟨a5, t5⟩ := HJ5.out a6
  obtain ⟨a4, t4⟩ := HJ4.out a5
  obtain ⟨a3, t3⟩ := HJ3.out a4
  obtain ⟨a2, t2⟩ := HJ2.out a3
  obtain ⟨a1, t1⟩ := HJ1.out a2
  exact ⟨a1, b7, by rw [t1, t2, t3, t4, t5, t6, t7]; simp [flat]⟩
set_option maxRecDepth 20000 in
set_option maxHeartbeats 8000000 in
theorem rCopy {w : World} {lo g R c : Nat} {A : Option Addr} {l : List UInt8} {e : Int} {lg : Bool} (h : RW w lo g R A c l e lg) :
    Calls Try.prog 70 #[.pointer (some ⟨R, 0, none⟩)] w (Red ECopy w lo g R l e lg) := by
  have X0 := Lib.hid (BX.new h 115 [.int .i64 0, .int .i64 0, .int .i64 0, .complex .f64 0 0, .int .i64 0, .int .i64 0, .int .i64 0, .int .i64 0, .slice none 0 0, .bool false, .int .i64 0, .int .i64 0, .int .i64 0, .int .i64 0, .int .i64 0, .int .i64 0, .int .i64 0])
  have q0 := X0.out.rw.c0
  clear h
  go_enter Try.func70, Try.ntmps70
  go_wp2_with fail
  refine (rJob X0.out.rw).mono ?_
  rintro en w1 ⟨cl1, rfl, s1, A1, c1, l1, e1, g1, hr1, hk1, hf1, hn1, hj1⟩
  obtain ⟨v1_1, v1_2, v1_3, v1_4, v1_5, v1_6, v1_7, v1_8, v1_9, v1_10, rfl⟩ := hf1.now.ex
  have HON1 := Lib.hid (ones_all (hf1.now.one))
  have HJ1 := Lib.hid hj1
  have HN1 := Lib.hid hn1
  have Y1 := Lib.hid (X0.out.got hr1 hk1 hf1)
  have HT1 := Lib.hid (Y1.out.there 0 10 (by simp))
  have X1 := Lib.hid (Y1.out.puts [v1_1, v1_2, v1_3, v1_4, v1_5, v1_6, v1_7, v1_8, v1_9, v1_10] 0 (by simp))
  have X1 : Hid (BX _ _ w _ lo g R _ _ _ _ _ _ [v1_1, v1_2, v1_3, v1_4, v1_5, v1_6, v1_7, v1_8, v1_9, v1_10, .int .i64 0, .int .i64 0, .int .i64 0, .int .i64 0, .int .i64 0, .int .i64 0, .int .i64 0]) := X1
  clear hr1 hk1 hj1 hf1 hn1 q0
  go_wp2_with (refine wpList_store_mid rfl 28 (.tmp 6) (.tmp 5) rfl (w.heap.size + 1) 0 (List.toArray [v1_1, v1_2, v1_3, v1_4, v1_5, v1_6, v1_7, v1_8, v1_9, v1_10]) rfl rfl HT1.out (by kernel_rfl) HON1.out ?_; refine stop ?_)
  obtain ⟨x1, hx1⟩ : ∃ x1, x1 = w1.setCells (w.heap.size + 1) 0 [v1_1, v1_2, v1_3, v1_4, v1_5, v1_6, v1_7, v1_8, v1_9, v1_10] := ⟨_, rfl⟩
  rw [← hx1] at X1 ⊢
  have q1 := X1.out.rw.c0
  clear hx1 HT1 HON1
  refine go ?_
  go_wp2_with fail
  refine (int_rw X1.out.rw).mono ?_
  rintro en w2 ⟨z2, rfl, hz2, A2, c2, l2, e2, hr2, hk2, hj2⟩
  have HZ2 := Lib.hid hz2
  have HJ2 := Lib.hid hj2
  have Y2 := Lib.hid (X1.out.red hr2 hk2)
  have f2 := Y2.out.fr 10
  have d2 := Y2.out.cell 10
  have X2 : Hid (BX _ _ w _ lo g R _ _ _ _ _ _ [v1_1, v1_2, v1_3, v1_4, v1_5, v1_6, v1_7, v1_8, v1_9, v1_10, .int .i64 z2, .int .i64 0, .int .i64 0, .int .i64 0, .int .i64 0, .int .i64 0, .int .i64 0]) := Lib.hid (Y2.out.put 10 (.int .i64 z2))
  have q2 := X2.out.rw.c0
  clear hr2 hk2 hj2 hz2 q1
  go_wp2_with fail
  refine (int_rw X2.out.rw).mono ?_
  rintro en w3 ⟨z3, rfl, hz3, A3, c3, l3, e3, hr3, hk3, hj3⟩
  have HZ3 := Lib.hid hz3
  have HJ3 := Lib.hid hj3
  have Y3 := Lib.hid (X2.out.red hr3 hk3)
  have f3 := Y3.out.fr 11
  have d3 := Y3.out.cell 11
  have X3 : Hid (BX _ _ w _ lo g R _ _ _ _ _ _ [v1_1, v1_2, v1_3, v1_4, v1_5, v1_6, v1_7, v1_8, v1_9, v1_10, .int .i64 z2, .int .i64 z3, .int .i64 0, .int .i64 0, .int .i64 0, .int .i64 0, .int .i64 0]) := Lib.hid (Y3.out.put 11 (.int .i64 z3))
  have q3 := X3.out.rw.c0
  clear hr3 hk3 hj3 hz3 q2 f2 d2
  go_wp2_with fail
  refine (int_rw X3.out.rw).mono ?_
  rintro en w4 ⟨z4, rfl, hz4, A4, c4, l4, e4, hr4, hk4, hj4⟩
  have HZ4 := Lib.hid hz4
  have HJ4 := Lib.hid hj4
  have Y4 := Lib.hid (X3.out.red hr4 hk4)
  have f4 := Y4.out.fr 12
  have d4 := Y4.out.cell 12
  have X4 : Hid (BX _ _ w _ lo g R _ _ _ _ _ _ [v1_1, v1_2, v1_3, v1_4, v1_5, v1_6, v1_7, v1_8, v1_9, v1_10, .int .i64 z2, .int .i64 z3, .int .i64 z4, .int .i64 0, .int .i64 0, .int .i64 0, .int .i64 0]) := Lib.hid (Y4.out.put 12 (.int .i64 z4))
  have q4 := X4.out.rw.c0
  clear hr4 hk4 hj4 hz4 q3 f3 d3
  go_wp2_with fail
  refine (int_rw X4.out.rw).mono ?_
  rintro en w5 ⟨z5, rfl, hz5, A5, c5, l5, e5, hr5, hk5, hj5⟩
  have HZ5 := Lib.hid hz5
  have HJ5 := Lib.hid hj5
  have Y5 := Lib.hid (X4.out.red hr5 hk5)
  have f5 := Y5.out.fr 13
  have d5 := Y5.out.cell 13
  have X5 : Hid (BX _ _ w _ lo g R _ _ _ _ _ _ [v1_1, v1_2, v1_3, v1_4, v1_5, v1_6, v1_7, v1_8, v1_9, v1_10, .int .i64 z2, .int .i64 z3, .int .i64 z4, .int .i64 z5, .int .i64 0, .int .i64 0, .int .i64 0]) := Lib.hid (Y5.out.put 13 (.int .i64 z5))
  have q5 := X5.out.rw.c0
  clear hr5 hk5 hj5 hz5 q4 f4 d4
  go_wp2_with fail
  refine (int_rw X5.out.rw).mono ?_
  rintro en w6 ⟨z6, rfl, hz6, A6, c6, l6, e6, hr6, hk6, hj6⟩
  have HZ6 := Lib.hid hz6
  have HJ6 := Lib.hid hj6
  have Y6 := Lib.hid (X5.out.red hr6 hk6)
  have f6 := Y6.out.fr 14
  have d6 := Y6.out.cell 14
  have X6 : Hid (BX _ _ w _ lo g R _ _ _ _ _ _ [v1_1, v1_2, v1_3, v1_4, v1_5, v1_6, v1_7, v1_8, v1_9, v1_10, .int .i64 z2, .int .i64 z3, .int .i64 z4, .int .i64 z5, .int .i64 z6, .int .i64 0, .int .i64 0]) := Lib.hid (Y6.out.put 14 (.int .i64 z6))
  have q6 := X6.out.rw.c0
  clear hr6 hk6 hj6 hz6 q5 f5 d5
  go_wp2_with fail
  refine (int_rw X6.out.rw).mono ?_
  rintro en w7 ⟨z7, rfl, hz7, A7, c7, l7, e7, hr7, hk7, hj7⟩
  have HZ7 := Lib.hid hz7
  have HJ7 := Lib.hid hj7
  have Y7 := Lib.hid (X6.out.red hr7 hk7)
  have f7 := Y7.out.fr 15
  have d7 := Y7.out.cell 15
  have X7 : Hid (BX _ _ w _ lo g R _ _ _ _ _ _ [v1_1, v1_2, v1_3, v1_4, v1_5, v1_6, v1_7, v1_8, v1_9, v1_10, .int .i64 z2, .int .i64 z3, .int .i64 z4, .int .i64 z5, .int .i64 z6, .int .i64 z7, .int .i64 0]) := Lib.hid (Y7.out.put 15 (.int .i64 z7))
  have q7 := X7.out.rw.c0
  clear hr7 hk7 hj7 hz7 q6 f6 d6
  go_wp2_with fail
  refine (int_rw X7.out.rw).mono ?_
  rintro en w8 ⟨z8, rfl, hz8, A8, c8, l8, e8, hr8, hk8, hj8⟩
  have HZ8 := Lib.hid hz8
  have HJ8 := Lib.hid hj8
  have Y8 := Lib.hid (X7.out.red hr8 hk8)
  have f8 := Y8.out.fr 16
  have d8 := Y8.out.cell 16
  have X8 : Hid (BX _ _ w _ lo g R _ _ _ _ _ _ [v1_1, v1_2, v1_3, v1_4, v1_5, v1_6, v1_7, v1_8, v1_9, v1_10, .int .i64 z2, .int .i64 z3, .int .i64 z4, .int .i64 z5, .int .i64 z6, .int .i64 z7, .int .i64 z8]) := Lib.hid (Y8.out.put 16 (.int .i64 z8))
  clear hr8 hk8 hj8 hz8 q7 f7 d7
  go_wp2_with (refine wpList_load_ad rfl 115 (.tmp 3) rfl ⟨w.heap.size + 1, 0, none⟩ rfl [v1_1, v1_2, v1_3, v1_4, v1_5, v1_6, v1_7, v1_8, v1_9, v1_10, .int .i64 z2, .int .i64 z3, .int .i64 z4, .int .i64 z5, .int .i64 z6, .int .i64 z7, .int .i64 z8] (cells_of X8.out.box) _ Try.underlying115 rfl 17 (by kernel_rfl) rfl ?_; refine stop ?_)
  obtain ⟨w9, hw9⟩ : ∃ w9, w9 = w8.setCell ⟨w.heap.size + 1, 16, none⟩ (.int .i64 z8) := ⟨_, rfl⟩
  rw [← hw9] at X8 ⊢
  clear hw9 f8 d8
  refine go ?_
  have HE : Hid (ECopy w9.heap.size w9 [v1_1, v1_2, v1_3, v1_4, v1_5, v1_6, v1_7, v1_8, v1_9, v1_10, .int .i64 z2, .int .i64 z3, .int .i64 z4, .int .i64 z5, .int .i64 z6, .int .i64 z7, .int .i64 z8] (s1 ++ ([some (iv z2)] ++ ([some (iv z3)] ++ ([some (iv z4)] ++ ([some (iv z5)] ++ ([some (iv z6)] ++ ([some (iv z7)] ++ ([some (iv z8)]))))))))) := by obtain ⟨_, F1⟩ := X8.out.ff _ (Keep.refl _ _); exact ⟨_, _, _, _, _, _, _, _, _, _, _, _, _, _, _, _, F1, z_int z2 HZ2.out, z_int z3 HZ3.out, z_int z4 HZ4.out, z_int z5 HZ5.out, z_int z6 HZ6.out, z_int z7 HZ7.out, z_int z8 HZ8.out, rfl, rfl⟩
  go_wp2_with (refine wpList_store_row2 rfl 115 (.tmp 2) (.tmp 49) rfl w.heap.size (List.toArray [v1_1, v1_2, v1_3, v1_4, v1_5, v1_6, v1_7, v1_8, v1_9, v1_10, .int .i64 z2, .int .i64 z3, .int .i64 z4, .int .i64 z5, .int .i64 z6, .int .i64 z7, .int .i64 z8]) rfl rfl 115 _ X8.out.res (by kernel_rfl) rfl (ones_all (HE.out.one)) ?_; refine stop ?_)
  have X9 := Lib.hid (X8.out.done [v1_1, v1_2, v1_3, v1_4, v1_5, v1_6, v1_7, v1_8, v1_9, v1_10, .int .i64 z2, .int .i64 z3, .int .i64 z4, .int .i64 z5, .int .i64 z6, .int .i64 z7, .int .i64 z8])
  obtain ⟨w10, hw10⟩ : ∃ w10, w10 = w9.setRow w.heap.size (List.toArray [v1_1, v1_2, v1_3, v1_4, v1_5, v1_6, v1_7, v1_8, v1_9, v1_10, .int .i64 z2, .int .i64 z3, .int .i64 z4, .int .i64 z5, .int .i64 z6, .int .i64 z7, .int .i64 z8]) := ⟨_, rfl⟩
  rw [← hw10] at X9 ⊢
  clear hw10
  refine go ?_
  go_wp2_with fail
  (try simp only [Exit.inBlock, Exit.then])
  refine bodyPost_ret (results_cell_row rfl _ _ w.heap.size 115 (List.toArray [v1_1, v1_2, v1_3, v1_4, v1_5, v1_6, v1_7, v1_8, v1_9, v1_10, .int .i64 z2, .int .i64 z3, .int .i64 z4, .int .i64 z5, .int .i64 z6, .int .i64 z7, .int .i64 z8]) _ _ rfl X9.out.res Try.underlying115 rfl (by kernel_rfl)) rfl ?_
  refine ⟨[v1_1, v1_2, v1_3, v1_4, v1_5, v1_6, v1_7, v1_8, v1_9, v1_10, .int .i64 z2, .int .i64 z3, .int .i64 z4, .int .i64 z5, .int .i64 z6, .int .i64 z7, .int .i64 z8], rfl, s1 ++ ([some (iv z2)] ++ ([some (iv z3)] ++ ([some (iv z4)] ++ ([some (iv z5)] ++ ([some (iv z6)] ++ ([some (iv z7)] ++ ([some (iv z8)]))))))), _, _, _, _, _, X9.out.rw, X9.out.keep, fun u hu => by obtain ⟨_, F1⟩ := X9.out.ff _ (hu.mono (T := DD w) (fun i (hi : i < w.heap.size) => by show i < w.heap.size + 2; omega)); exact ⟨_, _, _, _, _, _, _, _, _, _, _, _, _, _, _, _, F1, z_int z2 HZ2.out, z_int z3 HZ3.out, z_int z4 HZ4.out, z_int z5 HZ5.out, z_int z6 HZ6.out, z_int z7 HZ7.out, z_int z8 HZ8.out, rfl, rfl⟩, by simp [HN1.out], fun x1 x2 => ?_⟩
  obtain ⟨a8, t8⟩ := HJ8.out x1
  obtain ⟨a7, t7⟩ := HJ7.out a8
  obtain ⟨a6, t6⟩ := HJ6.out a7
  obtain ⟨a5, t5⟩ := HJ5.out a6
  obtain ⟨a4, t4⟩ := HJ4.out a5
  obtain ⟨a3, t3⟩ := HJ3.out a4
  obtain ⟨a2, t2⟩ := HJ2.out a3
  obtain ⟨a1, b1, t1⟩ := HJ1.out a2 x2
  exact ⟨a1, b1, by rw [t1, t2, t3, t4, t5, t6, t7, t8]; simp [flat, flat_append]⟩
set_option maxRecDepth 20000 in
set_option maxHeartbeats 8000000 in
theorem rMsg {w : World} {lo g R c : Nat} {A : Option Addr} {l : List UInt8} {e : Int} {lg : Bool} (h : RW w lo g R A c l e lg) :
    Calls Try.prog 63 #[.pointer (some ⟨R, 0, none⟩)] w (Red EMsg w lo g R l e lg) := by
  have X0 := Lib.hid (BX.new h 71 [.int .i64 0, .int .i64 0, .int .i64 0, .int .i64 0, .int .i64 0, .int .i64 0, .bool false, .int .i64 0, .int .i64 0, .int .i64 0, .complex .f64 0 0, .int .i64 0, .int .i64 0, .int .i64 0, .int .i64 0, .slice none 0 0, .bool false, .slice none 0 0])
  have q0 := X0.out.rw.c0
  clear h
  go_enter Try.func63, Try.ntmps63
  go_wp2_with fail
  refine (int_rw X0.out.rw).mono ?_
  rintro en w1 ⟨z1, rfl, hz1, A1, c1, l1, e1, hr1, hk1, hj1⟩
  have HZ1 := Lib.hid hz1
  have HJ1 := Lib.hid hj1
  have Y1 := Lib.hid (X0.out.red hr1 hk1)
  have f1 := Y1.out.fr 0
  have d1 := Y1.out.cell 0
  have X1 : Hid (BX _ _ w _ lo g R _ _ _ _ _ _ [.int .i64 z1, .int .i64 0, .int .i64 0, .int .i64 0, .int .i64 0, .int .i64 0, .bool false, .int .i64 0, .int .i64 0, .int .i64 0, .complex .f64 0 0, .int .i64 0, .int .i64 0, .int .i64 0, .int .i64 0, .slice none 0 0, .bool false, .slice none 0 0]) := Lib.hid (Y1.out.put 0 (.int .i64 z1))
  have q1 := X1.out.rw.c0
  clear hr1 hk1 hj1 hz1 q0
  go_wp2_with fail
  refine (rId X1.out.rw).mono ?_
  rintro en w2 ⟨cl2, rfl, s2, A2, c2, l2, e2, g2, hr2, hk2, hf2, hn2, hj2⟩
  obtain ⟨v2_1, v2_2, rfl⟩ := hf2.now.ex
  have HON2 := Lib.hid (ones_all (hf2.now.one))
  have HJ2 := Lib.hid hj2
  have HN2 := Lib.hid hn2
  have Y2 := Lib.hid (X1.out.got hr2 hk2 hf2)
  have HT2 := Lib.hid (Y2.out.there 1 2 (by simp))
  have X2 := Lib.hid (Y2.out.puts [v2_1, v2_2] 1 (by simp))
  have X2 : Hid (BX _ _ w _ lo g R _ _ _ _ _ _ [.int .i64 z1, v2_1, v2_2, .int .i64 0, .int .i64 0, .int .i64 0, .bool false, .int .i64 0, .int .i64 0, .int .i64 0, .complex .f64 0 0, .int .i64 0, .int .i64 0, .int .i64 0, .int .i64 0, .slice none 0 0, .bool false, .slice none 0 0]) := X2
  clear hr2 hk2 hj2 hf2 hn2 q1 f1 d1
  go_wp2_with (refine wpList_store_mid rfl 23 (.tmp 12) (.tmp 11) rfl (w.heap.size + 1) 1 (List.toArray [v2_1, v2_2]) rfl rfl HT2.out (by kernel_rfl) HON2.out ?_; refine stop ?_)
  obtain ⟨x2, hx2⟩ : ∃ x2, x2 = w2.setCells (w.heap.size + 1) 1 [v2_1, v2_2] := ⟨_, rfl⟩
  rw [← hx2] at X2 ⊢
  have q2 := X2.out.rw.c0
  clear hx2 HT2 HON2
  refine go ?_
  go_wp2_with fail
  refine (int_rw X2.out.rw).mono ?_
  rintro en w3 ⟨z3, rfl, hz3, A3, c3, l3, e3, hr3, hk3, hj3⟩
  have HZ3 := Lib.hid hz3
  have HJ3 := Lib.hid hj3
  have Y3 := Lib.hid (X2.out.red hr3 hk3)
  have f3 := Y3.out.fr 3
  have d3 := Y3.out.cell 3
  have X3 : Hid (BX _ _ w _ lo g R _ _ _ _ _ _ [.int .i64 z1, v2_1, v2_2, .int .i64 z3, .int .i64 0, .int .i64 0, .bool false, .int .i64 0, .int .i64 0, .int .i64 0, .complex .f64 0 0, .int .i64 0, .int .i64 0, .int .i64 0, .int .i64 0, .slice none 0 0, .bool false, .slice none 0 0]) := Lib.hid (Y3.out.put 3 (.int .i64 z3))
  have q3 := X3.out.rw.c0
  clear hr3 hk3 hj3 hz3 q2
  go_wp2_with fail
  refine (int_rw X3.out.rw).mono ?_
  rintro en w4 ⟨z4, rfl, hz4, A4, c4, l4, e4, hr4, hk4, hj4⟩
  have HZ4 := Lib.hid hz4
  have HJ4 := Lib.hid hj4
  have Y4 := Lib.hid (X3.out.red hr4 hk4)
  have f4 := Y4.out.fr 4
  have d4 := Y4.out.cell 4
  have X4 : Hid (BX _ _ w _ lo g R _ _ _ _ _ _ [.int .i64 z1, v2_1, v2_2, .int .i64 z3, .int .i64 z4, .int .i64 0, .bool false, .int .i64 0, .int .i64 0, .int .i64 0, .complex .f64 0 0, .int .i64 0, .int .i64 0, .int .i64 0, .int .i64 0, .slice none 0 0, .bool false, .slice none 0 0]) := Lib.hid (Y4.out.put 4 (.int .i64 z4))
  have q4 := X4.out.rw.c0
  clear hr4 hk4 hj4 hz4 q3 f3 d3
  go_wp2_with fail
  refine (int_rw X4.out.rw).mono ?_
  rintro en w5 ⟨z5, rfl, hz5, A5, c5, l5, e5, hr5, hk5, hj5⟩
  have HZ5 := Lib.hid hz5
  have HJ5 := Lib.hid hj5
  have Y5 := Lib.hid (X4.out.red hr5 hk5)
  have f5 := Y5.out.fr 5
  have d5 := Y5.out.cell 5
  have X5 : Hid (BX _ _ w _ lo g R _ _ _ _ _ _ [.int .i64 z1, v2_1, v2_2, .int .i64 z3, .int .i64 z4, .int .i64 z5, .bool false, .int .i64 0, .int .i64 0, .int .i64 0, .complex .f64 0 0, .int .i64 0, .int .i64 0, .int .i64 0, .int .i64 0, .slice none 0 0, .bool false, .slice none 0 0]) := Lib.hid (Y5.out.put 5 (.int .i64 z5))
  have q5 := X5.out.rw.c0
  clear hr5 hk5 hj5 hz5 q4 f4 d4
  go_wp2_with fail
  refine (mark_rw X5.out.rw).mono ?_
  rintro en w6 ⟨z6, rfl, A6, c6, l6, e6, hr6, hk6, hj6⟩
  have HJ6 := Lib.hid hj6
  have Y6 := Lib.hid (X5.out.red hr6 hk6)
  have f6 := Y6.out.fr 6
  have d6 := Y6.out.cell 6
  have X6 : Hid (BX _ _ w _ lo g R _ _ _ _ _ _ [.int .i64 z1, v2_1, v2_2, .int .i64 z3, .int .i64 z4, .int .i64 z5, .bool z6, .int .i64 0, .int .i64 0, .int .i64 0, .complex .f64 0 0, .int .i64 0, .int .i64 0, .int .i64 0, .int .i64 0, .slice none 0 0, .bool false, .slice none 0 0]) := Lib.hid (Y6.out.put 6 (.bool z6))
  have q6 := X6.out.rw.c0
  clear hr6 hk6 hj6 q5 f5 d5
  go_wp2_with fail
  refine (rJob X6.out.rw).mono ?_
  rintro en w7 ⟨cl7, rfl, s7, A7, c7, l7, e7, g7, hr7, hk7, hf7, hn7, hj7⟩
  obtain ⟨v7_1, v7_2, v7_3, v7_4, v7_5, v7_6, v7_7, v7_8, v7_9, v7_10, rfl⟩ := hf7.now.ex
  have HON7 := Lib.hid (ones_all (hf7.now.one))
  have HJ7 := Lib.hid hj7
  have HN7 := Lib.hid hn7
  have Y7 := Lib.hid (X6.out.got hr7 hk7 hf7)
  have HT7 := Lib.hid (Y7.out.there 7 10 (by simp))
  have X7 := Lib.hid (Y7.out.puts [v7_1, v7_2, v7_3, v7_4, v7_5, v7_6, v7_7, v7_8, v7_9, v7_10] 7 (by simp))
  have X7 : Hid (BX _ _ w _ lo g R _ _ _ _ _ _ [.int .i64 z1, v2_1, v2_2, .int .i64 z3, .int .i64 z4, .int .i64 z5, .bool z6, v7_1, v7_2, v7_3, v7_4, v7_5, v7_6, v7_7, v7_8, v7_9, v7_10, .slice none 0 0]) := X7
  clear hr7 hk7 hj7 hf7 hn7 q6 f6 d6
  go_wp2_with (refine wpList_store_mid rfl 28 (.tmp 39) (.tmp 38) rfl (w.heap.size + 1) 7 (List.toArray [v7_1, v7_2, v7_3, v7_4, v7_5, v7_6, v7_7, v7_8, v7_9, v7_10]) rfl rfl HT7.out (by kernel_rfl) HON7.out ?_; refine stop ?_)
  obtain ⟨x7, hx7⟩ : ∃ x7, x7 = w7.setCells (w.heap.size + 1) 7 [v7_1, v7_2, v7_3, v7_4, v7_5, v7_6, v7_7, v7_8, v7_9, v7_10] := ⟨_, rfl⟩
  rw [← hx7] at X7 ⊢
  have q7 := X7.out.rw.c0
  clear hx7 HT7 HON7
  refine go ?_
  go_wp2_with fail
  refine (mSpan X7.out.rw 8 (by decide)).mono ?_
  rintro en w8 ⟨v8, rfl, s8, A8, c8, l8, e8, g8, hr8, hk8, hf8, hn8, hj8⟩
  obtain ⟨L8, M8, K8, rfl⟩ := FList.sl hf8.now
  have HJ8 := Lib.hid hj8
  have HN8 := Lib.hid hn8
  have Y8 := Lib.hid (X7.out.got hr8 hk8 hf8)
  have f8 := Y8.out.fr 17
  have d8 := Y8.out.cell 17
  have X8 : Hid (BX _ _ w _ lo g R _ _ _ _ _ _ [.int .i64 z1, v2_1, v2_2, .int .i64 z3, .int .i64 z4, .int .i64 z5, .bool z6, v7_1, v7_2, v7_3, v7_4, v7_5, v7_6, v7_7, v7_8, v7_9, v7_10, .slice L8 M8 K8]) := Lib.hid (Y8.out.put 17 (.slice L8 M8 K8))
  clear hr8 hk8 hj8 hf8 hn8 q7
  go_wp2_with (refine wpList_load_ad rfl 71 (.tmp 3) rfl ⟨w.heap.size + 1, 0, none⟩ rfl [.int .i64 z1, v2_1, v2_2, .int .i64 z3, .int .i64 z4, .int .i64 z5, .bool z6, v7_1, v7_2, v7_3, v7_4, v7_5, v7_6, v7_7, v7_8, v7_9, v7_10, .slice L8 M8 K8] (cells_of X8.out.box) _ Try.underlying71 rfl 18 (by kernel_rfl) rfl ?_; refine stop ?_)
  obtain ⟨w9, hw9⟩ : ∃ w9, w9 = w8.setCell ⟨w.heap.size + 1, 17, none⟩ (.slice L8 M8 K8) := ⟨_, rfl⟩
  rw [← hw9] at X8 ⊢
  clear hw9 f8 d8
  refine go ?_
  have HE : Hid (EMsg w9.heap.size w9 [.int .i64 z1, v2_1, v2_2, .int .i64 z3, .int .i64 z4, .int .i64 z5, .bool z6, v7_1, v7_2, v7_3, v7_4, v7_5, v7_6, v7_7, v7_8, v7_9, v7_10, .slice L8 M8 K8] ([some (iv z1)] ++ (s2 ++ ([some (iv z3)] ++ ([some (iv z4)] ++ ([some (iv z5)] ++ ([some (uv (if z6 then 1 else 0))] ++ (s7 ++ (s8))))))))) := by obtain ⟨⟨⟨_, F1⟩, F2⟩, F3⟩ := X8.out.ff _ (Keep.refl _ _); exact ⟨_, _, _, _, _, _, _, _, _, _, _, _, _, _, _, _, z_int z1 HZ1.out, F1, z_int z3 HZ3.out, z_int z4 HZ4.out, z_int z5 HZ5.out, ⟨z6, rfl, rfl⟩, F2, F3, rfl, rfl⟩
  go_wp2_with (refine wpList_store_row2 rfl 71 (.tmp 2) (.tmp 45) rfl w.heap.size (List.toArray [.int .i64 z1, v2_1, v2_2, .int .i64 z3, .int .i64 z4, .int .i64 z5, .bool z6, v7_1, v7_2, v7_3, v7_4, v7_5, v7_6, v7_7, v7_8, v7_9, v7_10, .slice L8 M8 K8]) rfl rfl 71 _ X8.out.res (by kernel_rfl) rfl (ones_all (HE.out.one)) ?_; refine stop ?_)
  have X9 := Lib.hid (X8.out.done [.int .i64 z1, v2_1, v2_2, .int .i64 z3, .int .i64 z4, .int .i64 z5, .bool z6, v7_1, v7_2, v7_3, v7_4, v7_5, v7_6, v7_7, v7_8, v7_9, v7_10, .slice L8 M8 K8])
  obtain ⟨w10, hw10⟩ : ∃ w10, w10 = w9.setRow w.heap.size (List.toArray [.int .i64 z1, v2_1, v2_2, .int .i64 z3, .int .i64 z4, .int .i64 z5, .bool z6, v7_1, v7_2, v7_3, v7_4, v7_5, v7_6, v7_7, v7_8, v7_9, v7_10, .slice L8 M8 K8]) := ⟨_, rfl⟩
  rw [← hw10] at X9 ⊢
  clear hw10
  refine go ?_
  go_wp2_with fail
  (try simp only [Exit.inBlock, Exit.then])
  refine bodyPost_ret (results_cell_row rfl _ _ w.heap.size 71 (List.toArray [.int .i64 z1, v2_1, v2_2, .int .i64 z3, .int .i64 z4, .int .i64 z5, .bool z6, v7_1, v7_2, v7_3, v7_4, v7_5, v7_6, v7_7, v7_8, v7_9, v7_10, .slice L8 M8 K8]) _ _ rfl X9.out.res Try.underlying71 rfl (by kernel_rfl)) rfl ?_
  refine ⟨[.int .i64 z1, v2_1, v2_2, .int .i64 z3, .int .i64 z4, .int .i64 z5, .bool z6, v7_1, v7_2, v7_3, v7_4, v7_5, v7_6, v7_7, v7_8, v7_9, v7_10, .slice L8 M8 K8], rfl, [some (iv z1)] ++ (s2 ++ ([some (iv z3)] ++ ([some (iv z4)] ++ ([some (iv z5)] ++ ([some (uv (if z6 then 1 else 0))] ++ (s7 ++ (s8))))))), _, _, _, _, _, X9.out.rw, X9.out.keep, fun u hu => by obtain ⟨⟨⟨_, F1⟩, F2⟩, F3⟩ := X9.out.ff _ (hu.mono (T := DD w) (fun i (hi : i < w.heap.size) => by show i < w.heap.size + 2; omega)); exact ⟨_, _, _, _, _, _, _, _, _, _, _, _, _, _, _, _, z_int z1 HZ1.out, F1, z_int z3 HZ3.out, z_int z4 HZ4.out, z_int z5 HZ5.out, ⟨z6, rfl, rfl⟩, F2, F3, rfl, rfl⟩, by simp [HN2.out, HN7.out, HN8.out], fun x1 x2 => ?_⟩
  obtain ⟨a8, b8, t8⟩ := HJ8.out x1 x2
  obtain ⟨a7, b7, t7⟩ := HJ7.out a8 b8
  obtain ⟨a6, t6⟩ := HJ6.out a7
  obtain ⟨a5, t5⟩ := HJ5.out a6
  obtain ⟨a4, t4⟩ := HJ4.out a5
  obtain ⟨a3, t3⟩ := HJ3.out a4
  obtain ⟨a2, b2, t2⟩ := HJ2.out a3 b7
  obtain ⟨a1, t1⟩ := HJ1.out a2
  exact ⟨a1, b2, by rw [t1, t2, t3, t4, t5, t6, t7, t8]; simp [flat, flat_append]⟩
set_option maxRecDepth 20000 in
set_option maxHeartbeats 8000000 in
theorem rRec {w : World} {lo g R c : Nat} {A : Option Addr} {l : List UInt8} {e : Int} {lg : Bool} (h : RW w lo g R A c l e lg) :
    Calls Try.prog 22 #[.pointer (some ⟨R, 0, none⟩)] w (Red ERec w lo g R l e lg) := by
  have X0 := Lib.hid (BX.new h 33 [.int .i64 0, .int .i64 0, .int .i64 0, .int .i64 0, .int .i64 0, .int .i64 0, .int .i64 0, .int .i64 0, .bool false, .int .i64 0, .int .i64 0, .int .i64 0, .complex .f64 0 0, .int .i64 0, .int .i64 0, .int .i64 0, .int .i64 0, .slice none 0 0, .bool false, .int .i64 0, .int .i64 0, .complex .f64 0 0, .slice none 0 0, .slice none 0 0])
  have q0 := X0.out.rw.c0
  clear h
  go_enter Try.func22, Try.ntmps22
  go_wp2_with fail
  refine (int_rw X0.out.rw).mono ?_
  rintro en w1 ⟨z1, rfl, hz1, A1, c1, l1, e1, hr1, hk1, hj1⟩
  have HZ1 := Lib.hid hz1
  have HJ1 := Lib.hid hj1
  have Y1 := Lib.hid (X0.out.red hr1 hk1)
  have f1 := Y1.out.fr 0
  have d1 := Y1.out.cell 0
  have X1 : Hid (BX _ _ w _ lo g R _ _ _ _ _ _ [.int .i64 z1, .int .i64 0, .int .i64 0, .int .i64 0, .int .i64 0, .int .i64 0, .int .i64 0, .int .i64 0, .bool false, .int .i64 0, .int .i64 0, .int .i64 0, .complex .f64 0 0, .int .i64 0, .int .i64 0, .int .i64 0, .int .i64 0, .slice none 0 0, .bool false, .int .i64 0, .int .i64 0, .complex .f64 0 0, .slice none 0 0, .slice none 0 0]) := Lib.hid (Y1.out.put 0 (.int .i64 z1))
  have q1 := X1.out.rw.c0
  clear hr1 hk1 hj1 hz1 q0
  go_wp2_with fail
  refine (rId X1.out.rw).mono ?_
  rintro en w2 ⟨cl2, rfl, s2, A2, c2, l2, e2, g2, hr2, hk2, hf2, hn2, hj2⟩
  obtain ⟨v2_1, v2_2, rfl⟩ := hf2.now.ex
  have HON2 := Lib.hid (ones_all (hf2.now.one))
  have HJ2 := Lib.hid hj2
  have HN2 := Lib.hid hn2
  have Y2 := Lib.hid (X1.out.got hr2 hk2 hf2)
  have HT2 := Lib.hid (Y2.out.there 1 2 (by simp))
  have X2 := Lib.hid (Y2.out.puts [v2_1, v2_2] 1 (by simp))
  have X2 : Hid (BX _ _ w _ lo g R _ _ _ _ _ _ [.int .i64 z1, v2_1, v2_2, .int .i64 0, .int .i64 0, .int .i64 0, .int .i64 0, .int .i64 0, .bool false, .int .i64 0, .int .i64 0, .int .i64 0, .complex .f64 0 0, .int .i64 0, .int .i64 0, .int .i64 0, .int .i64 0, .slice none 0 0, .bool false, .int .i64 0, .int .i64 0, .complex .f64 0 0, .slice none 0 0, .slice none 0 0]) := X2
  clear hr2 hk2 hj2 hf2 hn2 q1 f1 d1
  go_wp2_with (refine wpList_store_mid rfl 23 (.tmp 12) (.tmp 11) rfl (w.heap.size + 1) 1 (List.toArray [v2_1, v2_2]) rfl rfl HT2.out (by kernel_rfl) HON2.out ?_; refine stop ?_)
  obtain ⟨x2, hx2⟩ : ∃ x2, x2 = w2.setCells (w.heap.size + 1) 1 [v2_1, v2_2] := ⟨_, rfl⟩
  rw [← hx2] at X2 ⊢
  have q2 := X2.out.rw.c0
  clear hx2 HT2 HON2
  refine go ?_
  go_wp2_with fail
  refine (int_rw X2.out.rw).mono ?_
  rintro en w3 ⟨z3, rfl, hz3, A3, c3, l3, e3, hr3, hk3, hj3⟩
  have HZ3 := Lib.hid hz3
  have HJ3 := Lib.hid hj3
  have Y3 := Lib.hid (X2.out.red hr3 hk3)
  have f3 := Y3.out.fr 3
  have d3 := Y3.out.cell 3
  have X3 : Hid (BX _ _ w _ lo g R _ _ _ _ _ _ [.int .i64 z1, v2_1, v2_2, .int .i64 z3, .int .i64 0, .int .i64 0, .int .i64 0, .int .i64 0, .bool false, .int .i64 0, .int .i64 0, .int .i64 0, .complex .f64 0 0, .int .i64 0, .int .i64 0, .int .i64 0, .int .i64 0, .slice none 0 0, .bool false, .int .i64 0, .int .i64 0, .complex .f64 0 0, .slice none 0 0, .slice none 0 0]) := Lib.hid (Y3.out.put 3 (.int .i64 z3))
  have q3 := X3.out.rw.c0
  clear hr3 hk3 hj3 hz3 q2
  go_wp2_with fail
  refine (int_rw X3.out.rw).mono ?_
  rintro en w4 ⟨z4, rfl, hz4, A4, c4, l4, e4, hr4, hk4, hj4⟩
  have HZ4 := Lib.hid hz4
  have HJ4 := Lib.hid hj4
  have Y4 := Lib.hid (X3.out.red hr4 hk4)
  have f4 := Y4.out.fr 4
  have d4 := Y4.out.cell 4
  have X4 : Hid (BX _ _ w _ lo g R _ _ _ _ _ _ [.int .i64 z1, v2_1, v2_2, .int .i64 z3, .int .i64 z4, .int .i64 0, .int .i64 0, .int .i64 0, .bool false, .int .i64 0, .int .i64 0, .int .i64 0, .complex .f64 0 0, .int .i64 0, .int .i64 0, .int .i64 0, .int .i64 0, .slice none 0 0, .bool false, .int .i64 0, .int .i64 0, .complex .f64 0 0, .slice none 0 0, .slice none 0 0]) := Lib.hid (Y4.out.put 4 (.int .i64 z4))
  have q4 := X4.out.rw.c0
  clear hr4 hk4 hj4 hz4 q3 f3 d3
  go_wp2_with fail
  refine (int_rw X4.out.rw).mono ?_
  rintro en w5 ⟨z5, rfl, hz5, A5, c5, l5, e5, hr5, hk5, hj5⟩
  have HZ5 := Lib.hid hz5
  have HJ5 := Lib.hid hj5
  have Y5 := Lib.hid (X4.out.red hr5 hk5)
  have f5 := Y5.out.fr 5
  have d5 := Y5.out.cell 5
  have X5 : Hid (BX _ _ w _ lo g R _ _ _ _ _ _ [.int .i64 z1, v2_1, v2_2, .int .i64 z3, .int .i64 z4, .int .i64 z5, .int .i64 0, .int .i64 0, .bool false, .int .i64 0, .int .i64 0, .int .i64 0, .complex .f64 0 0, .int .i64 0, .int .i64 0, .int .i64 0, .int .i64 0, .slice none 0 0, .bool false, .int .i64 0, .int .i64 0, .complex .f64 0 0, .slice none 0 0, .slice none 0 0]) := Lib.hid (Y5.out.put 5 (.int .i64 z5))
  have q5 := X5.out.rw.c0
  clear hr5 hk5 hj5 hz5 q4 f4 d4
  go_wp2_with fail
  refine (int_rw X5.out.rw).mono ?_
  rintro en w6 ⟨z6, rfl, hz6, A6, c6, l6, e6, hr6, hk6, hj6⟩
  have HZ6 := Lib.hid hz6
  have HJ6 := Lib.hid hj6
  have Y6 := Lib.hid (X5.out.red hr6 hk6)
  have f6 := Y6.out.fr 6
  have d6 := Y6.out.cell 6
  have X6 : Hid (BX _ _ w _ lo g R _ _ _ _ _ _ [.int .i64 z1, v2_1, v2_2, .int .i64 z3, .int .i64 z4, .int .i64 z5, .int .i64 z6, .int .i64 0, .bool false, .int .i64 0, .int .i64 0, .int .i64 0, .complex .f64 0 0, .int .i64 0, .int .i64 0, .int .i64 0, .int .i64 0, .slice none 0 0, .bool false, .int .i64 0, .int .i64 0, .complex .f64 0 0, .slice none 0 0, .slice none 0 0]) := Lib.hid (Y6.out.put 6 (.int .i64 z6))
  have q6 := X6.out.rw.c0
  clear hr6 hk6 hj6 hz6 q5 f5 d5
  go_wp2_with fail
  refine (int_rw X6.out.rw).mono ?_
  rintro en w7 ⟨z7, rfl, hz7, A7, c7, l7, e7, hr7, hk7, hj7⟩
  have HZ7 := Lib.hid hz7
  have HJ7 := Lib.hid hj7
  have Y7 := Lib.hid (X6.out.red hr7 hk7)
  have f7 := Y7.out.fr 7
  have d7 := Y7.out.cell 7
  have X7 : Hid (BX _ _ w _ lo g R _ _ _ _ _ _ [.int .i64 z1, v2_1, v2_2, .int .i64 z3, .int .i64 z4, .int .i64 z5, .int .i64 z6, .int .i64 z7, .bool false, .int .i64 0, .int .i64 0, .int .i64 0, .complex .f64 0 0, .int .i64 0, .int .i64 0, .int .i64 0, .int .i64 0, .slice none 0 0, .bool false, .int .i64 0, .int .i64 0, .complex .f64 0 0, .slice none 0 0, .slice none 0 0]) := Lib.hid (Y7.out.put 7 (.int .i64 z7))
  have q7 := X7.out.rw.c0
  clear hr7 hk7 hj7 hz7 q6 f6 d6
  go_wp2_with fail
  refine (mark_rw X7.out.rw).mono ?_
  rintro en w8 ⟨z8, rfl, A8, c8, l8, e8, hr8, hk8, hj8⟩
  have HJ8 := Lib.hid hj8
  have Y8 := Lib.hid (X7.out.red hr8 hk8)
  have f8 := Y8.out.fr 8
  have d8 := Y8.out.cell 8
  have X8 : Hid (BX _ _ w _ lo g R _ _ _ _ _ _ [.int .i64 z1, v2_1, v2_2, .int .i64 z3, .int .i64 z4, .int .i64 z5, .int .i64 z6, .int .i64 z7, .bool z8, .int .i64 0, .int .i64 0, .int .i64 0, .complex .f64 0 0, .int .i64 0, .int .i64 0, .int .i64 0, .int .i64 0, .slice none 0 0, .bool false, .int .i64 0, .int .i64 0, .complex .f64 0 0, .slice none 0 0, .slice none 0 0]) := Lib.hid (Y8.out.put 8 (.bool z8))
  have q8 := X8.out.rw.c0
  clear hr8 hk8 hj8 q7 f7 d7
  go_wp2_with fail
  refine (rJob X8.out.rw).mono ?_
  rintro en w9 ⟨cl9, rfl, s9, A9, c9, l9, e9, g9, hr9, hk9, hf9, hn9, hj9⟩
  obtain ⟨v9_1, v9_2, v9_3, v9_4, v9_5, v9_6, v9_7, v9_8, v9_9, v9_10, rfl⟩ := hf9.now.ex
  have HON9 := Lib.hid (ones_all (hf9.now.one))
  have HJ9 := Lib.hid hj9
  have HN9 := Lib.hid hn9
  have Y9 := Lib.hid (X8.out.got hr9 hk9 hf9)
  have HT9 := Lib.hid (Y9.out.there 9 10 (by simp))
  have X9 := Lib.hid (Y9.out.puts [v9_1, v9_2, v9_3, v9_4, v9_5, v9_6, v9_7, v9_8, v9_9, v9_10] 9 (by simp))
  have X9 : Hid (BX _ _ w _ lo g R _ _ _ _ _ _ [.int .i64 z1, v2_1, v2_2, .int .i64 z3, .int .i64 z4, .int .i64 z5, .int .i64 z6, .int .i64 z7, .bool z8, v9_1, v9_2, v9_3, v9_4, v9_5, v9_6, v9_7, v9_8, v9_9, v9_10, .int .i64 0, .int .i64 0, .complex .f64 0 0, .slice none 0 0, .slice none 0 0]) := X9
  clear hr9 hk9 hj9 hf9 hn9 q8 f8 d8
  go_wp2_with (refine wpList_store_mid rfl 28 (.tmp 51) (.tmp 50) rfl (w.heap.size + 1) 9 (List.toArray [v9_1, v9_2, v9_3, v9_4, v9_5, v9_6, v9_7, v9_8, v9_9, v9_10]) rfl rfl HT9.out (by kernel_rfl) HON9.out ?_; refine stop ?_)
  obtain ⟨x9, hx9⟩ : ∃ x9, x9 = w9.setCells (w.heap.size + 1) 9 [v9_1, v9_2, v9_3, v9_4, v9_5, v9_6, v9_7, v9_8, v9_9, v9_10] := ⟨_, rfl⟩
  rw [← hx9] at X9 ⊢
  have q9 := X9.out.rw.c0
  clear hx9 HT9 HON9
  refine go ?_
  go_wp2_with fail
  refine (rBusy X9.out.rw).mono ?_
  rintro en w10 ⟨cl10, rfl, s10, A10, c10, l10, e10, g10, hr10, hk10, hf10, hn10, hj10⟩
  obtain ⟨v10_1, v10_2, v10_3, rfl⟩ := hf10.now.ex
  have HON10 := Lib.hid (ones_all (hf10.now.one))
  have HJ10 := Lib.hid hj10
  have HN10 := Lib.hid hn10
  have Y10 := Lib.hid (X9.out.got hr10 hk10 hf10)
  have HT10 := Lib.hid (Y10.out.there 19 3 (by simp))
  have X10 := Lib.hid (Y10.out.puts [v10_1, v10_2, v10_3] 19 (by simp))
  have X10 : Hid (BX _ _ w _ lo g R _ _ _ _ _ _ [.int .i64 z1, v2_1, v2_2, .int .i64 z3, .int .i64 z4, .int .i64 z5, .int .i64 z6, .int .i64 z7, .bool z8, v9_1, v9_2, v9_3, v9_4, v9_5, v9_6, v9_7, v9_8, v9_9, v9_10, v10_1, v10_2, v10_3, .slice none 0 0, .slice none 0 0]) := X10
  clear hr10 hk10 hj10 hf10 hn10 q9
  go_wp2_with (refine wpList_store_mid rfl 30 (.tmp 54) (.tmp 53) rfl (w.heap.size + 1) 19 (List.toArray [v10_1, v10_2, v10_3]) rfl rfl HT10.out (by kernel_rfl) HON10.out ?_; refine stop ?_)
  obtain ⟨x10, hx10⟩ : ∃ x10, x10 = w10.setCells (w.heap.size + 1) 19 [v10_1, v10_2, v10_3] := ⟨_, rfl⟩
  rw [← hx10] at X10 ⊢
  have q10 := X10.out.rw.c0
  clear hx10 HT10 HON10
  refine go ?_
  go_wp2_with fail
  refine (mSpan X10.out.rw 8 (by decide)).mono ?_
  rintro en w11 ⟨v11, rfl, s11, A11, c11, l11, e11, g11, hr11, hk11, hf11, hn11, hj11⟩
  obtain ⟨L11, M11, K11, rfl⟩ := FList.sl hf11.now
  have HJ11 := Lib.hid hj11
  have HN11 := Lib.hid hn11
  have Y11 := Lib.hid (X10.out.got hr11 hk11 hf11)
  have f11 := Y11.out.fr 22
  have d11 := Y11.out.cell 22
  have X11 : Hid (BX _ _ w _ lo g R _ _ _ _ _ _ [.int .i64 z1, v2_1, v2_2, .int .i64 z3, .int .i64 z4, .int .i64 z5, .int .i64 z6, .int .i64 z7, .bool z8, v9_1, v9_2, v9_3, v9_4, v9_5, v9_6, v9_7, v9_8, v9_9, v9_10, v10_1, v10_2, v10_3, .slice L11 M11 K11, .slice none 0 0]) := Lib.hid (Y11.out.put 22 (.slice L11 M11 K11))
  have q11 := X11.out.rw.c0
  clear hr11 hk11 hj11 hf11 hn11 q10
  go_wp2_with fail
  refine (mSlot X11.out.rw 256 (by decide)).mono ?_
  rintro en w12 ⟨v12, rfl, s12, A12, c12, l12, e12, g12, hr12, hk12, hf12, hn12, hj12⟩
  obtain ⟨L12, M12, K12, rfl⟩ := FList.sl hf12.now
  have HJ12 := Lib.hid hj12
  have HN12 := Lib.hid hn12
  have Y12 := Lib.hid (X11.out.got hr12 hk12 hf12)
  have f12 := Y12.out.fr 23
  have d12 := Y12.out.cell 23
  have X12 : Hid (BX _ _ w _ lo g R _ _ _ _ _ _ [.int .i64 z1, v2_1, v2_2, .int .i64 z3, .int .i64 z4, .int .i64 z5, .int .i64 z6, .int .i64 z7, .bool z8, v9_1, v9_2, v9_3, v9_4, v9_5, v9_6, v9_7, v9_8, v9_9, v9_10, v10_1, v10_2, v10_3, .slice L11 M11 K11, .slice L12 M12 K12]) := Lib.hid (Y12.out.put 23 (.slice L12 M12 K12))
  clear hr12 hk12 hj12 hf12 hn12 q11 f11 d11
  go_wp2_with (refine wpList_load_ad rfl 33 (.tmp 3) rfl ⟨w.heap.size + 1, 0, none⟩ rfl [.int .i64 z1, v2_1, v2_2, .int .i64 z3, .int .i64 z4, .int .i64 z5, .int .i64 z6, .int .i64 z7, .bool z8, v9_1, v9_2, v9_3, v9_4, v9_5, v9_6, v9_7, v9_8, v9_9, v9_10, v10_1, v10_2, v10_3, .slice L11 M11 K11, .slice L12 M12 K12] (cells_of X12.out.box) _ Try.underlying33 rfl 24 (by kernel_rfl) rfl ?_; refine stop ?_)
  obtain ⟨w13, hw13⟩ : ∃ w13, w13 = w12.setCell ⟨w.heap.size + 1, 23, none⟩ (.slice L12 M12 K12) := ⟨_, rfl⟩
  rw [← hw13] at X12 ⊢
  clear hw13 f12 d12
  refine go ?_
  have HE : Hid (ERec w13.heap.size w13 [.int .i64 z1, v2_1, v2_2, .int .i64 z3, .int .i64 z4, .int .i64 z5, .int .i64 z6, .int .i64 z7, .bool z8, v9_1, v9_2, v9_3, v9_4, v9_5, v9_6, v9_7, v9_8, v9_9, v9_10, v10_1, v10_2, v10_3, .slice L11 M11 K11, .slice L12 M12 K12] ([some (iv z1)] ++ (s2 ++ ([some (iv z3)] ++ ([some (iv z4)] ++ ([some (iv z5)] ++ ([some (iv z6)] ++ ([some (iv z7)] ++ ([some (uv (if z8 then 1 else 0))] ++ (s9 ++ (s10 ++ (s11 ++ (s12))))))))))))) := by obtain ⟨⟨⟨⟨⟨_, F1⟩, F2⟩, F3⟩, F4⟩, F5⟩ := X12.out.ff _ (Keep.refl _ _); exact ⟨_, _, _, _, _, _, _, _, _, _, _, _, _, _, _, _, _, _, _, _, _, _, _, _, z_int z1 HZ1.out, F1, z_int z3 HZ3.out, z_int z4 HZ4.out, z_int z5 HZ5.out, z_int z6 HZ6.out, z_int z7 HZ7.out, ⟨z8, rfl, rfl⟩, F2, F3, F4, F5, rfl, rfl⟩
  go_wp2_with (refine wpList_store_row2 rfl 33 (.tmp 2) (.tmp 65) rfl w.heap.size (List.toArray [.int .i64 z1, v2_1, v2_2, .int .i64 z3, .int .i64 z4, .int .i64 z5, .int .i64 z6, .int .i64 z7, .bool z8, v9_1, v9_2, v9_3, v9_4, v9_5, v9_6, v9_7, v9_8, v9_9, v9_10, v10_1, v10_2, v10_3, .slice L11 M11 K11, .slice L12 M12 K12]) rfl rfl 33 _ X12.out.res (by kernel_rfl) rfl (ones_all (HE.out.one)) ?_; refine stop ?_)
  have X13 := Lib.hid (X12.out.done [.int .i64 z1, v2_1, v2_2, .int .i64 z3, .int .i64 z4, .int .i64 z5, .int .i64 z6, .int .i64 z7, .bool z8, v9_1, v9_2, v9_3, v9_4, v9_5, v9_6, v9_7, v9_8, v9_9, v9_10, v10_1, v10_2, v10_3, .slice L11 M11 K11, .slice L12 M12 K12])
  obtain ⟨w14, hw14⟩ : ∃ w14, w14 = w13.setRow w.heap.size (List.toArray [.int .i64 z1, v2_1, v2_2, .int .i64 z3, .int .i64 z4, .int .i64 z5, .int .i64 z6, .int .i64 z7, .bool z8, v9_1, v9_2, v9_3, v9_4, v9_5, v9_6, v9_7, v9_8, v9_9, v9_10, v10_1, v10_2, v10_3, .slice L11 M11 K11, .slice L12 M12 K12]) := ⟨_, rfl⟩
  rw [← hw14] at X13 ⊢
  clear hw14
  refine go ?_
  go_wp2_with fail
  (try simp only [Exit.inBlock, Exit.then])
  refine bodyPost_ret (results_cell_row rfl _ _ w.heap.size 33 (List.toArray [.int .i64 z1, v2_1, v2_2, .int .i64 z3, .int .i64 z4, .int .i64 z5, .int .i64 z6, .int .i64 z7, .bool z8, v9_1, v9_2, v9_3, v9_4, v9_5, v9_6, v9_7, v9_8, v9_9, v9_10, v10_1, v10_2, v10_3, .slice L11 M11 K11, .slice L12 M12 K12]) _ _ rfl X13.out.res Try.underlying33 rfl (by kernel_rfl)) rfl ?_
  refine ⟨[.int .i64 z1, v2_1, v2_2, .int .i64 z3, .int .i64 z4, .int .i64 z5, .int .i64 z6, .int .i64 z7, .bool z8, v9_1, v9_2, v9_3, v9_4, v9_5, v9_6, v9_7, v9_8, v9_9, v9_10, v10_1, v10_2, v10_3, .slice L11 M11 K11, .slice L12 M12 K12], rfl, [some (iv z1)] ++ (s2 ++ ([some (iv z3)] ++ ([some (iv z4)] ++ ([some (iv z5)] ++ ([some (iv z6)] ++ ([some (iv z7)] ++ ([some (uv (if z8 then 1 else 0))] ++ (s9 ++ (s10 ++ (s11 ++ (s12))))))))))), _, _, _, _, _, X13.out.rw, X13.out.keep, fun u hu => by obtain ⟨⟨⟨⟨⟨_, F1⟩, F2⟩, F3⟩, F4⟩, F5⟩ := X13.out.ff _ (hu.mono (T := DD w) (fun i (hi : i < w.heap.size) => by show i < w.heap.size + 2; omega)); exact ⟨_, _, _, _, _, _, _, _, _, _, _, _, _, _, _, _, _, _, _, _, _, _, _, _, z_int z1 HZ1.out, F1, z_int z3 HZ3.out, z_int z4 HZ4.out, z_int z5 HZ5.out, z_int z6 HZ6.out, z_int z7 HZ7.out, ⟨z8, rfl, rfl⟩, F2, F3, F4, F5, rfl, rfl⟩, by simp [HN2.out, HN9.out, HN10.out, HN11.out, HN12.out], fun x1 x2 => ?_⟩
  obtain ⟨a12, b12, t12⟩ := HJ12.out x1 x2
  obtain ⟨a11, b11, t11⟩ := HJ11.out a12 b12
  obtain ⟨a10, b10, t10⟩ := HJ10.out a11 b11
  obtain ⟨a9, b9, t9⟩ := HJ9.out a10 b10
  obtain ⟨a8, t8⟩ := HJ8.out a9
  obtain ⟨a7, t7⟩ := HJ7.out a8
  obtain ⟨a6, t6⟩ := HJ6.out a7
  obtain ⟨a5, t5⟩ := HJ5.out a6
  obtain ⟨a4, t4⟩ := HJ4.out a5
  obtain ⟨a3, t3⟩ := HJ3.out a4
  obtain ⟨a2, b2, t2⟩ := HJ2.out a3 b9
  obtain ⟨a1, t1⟩ := HJ1.out a2
  exact ⟨a1, b2, by rw [t1, t2, t3, t4, t5, t6, t7, t8, t9, t10, t11, t12]; simp [flat, flat_append]⟩
end Go.Proofs.Ytagocmbcbbhehaa
