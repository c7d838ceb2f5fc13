/- wire.reader's structs: what they tell. By a program. -/
import Derived.Test.YtagocmbcbbhehaaRwH
namespace Go.Proofs.Ytagocmbcbbhehaa
set_option linter.unusedVariables false
open Go.RowKit
set_option maxRecDepth 20000 in
set_option maxHeartbeats 8000000 in
theorem rJob {w : World} {lo g R c : Nat} {A : Option Addr} {l : List UInt8} {e : Int} {lg : Bool} (h : RW w lo g R A c l e lg) :
    Calls Try.prog 56 #[.pointer (some ⟨R, 0, none⟩)] w (Red EJob w lo g R l e lg) := by
  have X0 := Lib.hid (BX.new h 28 [.int .i64 0, .int .i64 0, .int .i64 0, .complex .f64 0 0, .int .i64 0, .int .i64 0, .int .i64 0, .int .i64 0, .slice none 0 0, .bool false])
  have q0 := X0.out.rw.c0
  clear h
  go_enter Try.func56, Try.ntmps56
  go_wp2_with fail
  refine (rId X0.out.rw).mono ?_
  rintro en w1 ⟨cl1, rfl, s1, A1, c1, l1, e1, g1, hr1, hk1, hf1, hn1, hj1⟩
  obtain ⟨v1_1, v1_2, rfl⟩ := hf1.now.ex
  have HON1 := Lib.hid (ones_all (hf1.now.one))
  have HJ1 := Lib.hid hj1
  have HN1 := Lib.hid hn1
  have Y1 := Lib.hid (X0.out.got hr1 hk1 hf1)
  have HT1 := Lib.hid (Y1.out.there 0 2 (by simp))
  have X1 := Lib.hid (Y1.out.puts [v1_1, v1_2] 0 (by simp))
  have X1 : Hid (BX _ _ w _ lo g R _ _ _ _ _ _ [v1_1, v1_2, .int .i64 0, .complex .f64 0 0, .int .i64 0, .int .i64 0, .int .i64 0, .int .i64 0, .slice none 0 0, .bool false]) := X1
  clear hr1 hk1 hj1 hf1 hn1 q0
  go_wp2_with (refine wpList_store_mid rfl 23 (.tmp 6) (.tmp 5) rfl (w.heap.size + 1) 0 (List.toArray [v1_1, v1_2]) rfl rfl HT1.out (by kernel_rfl) HON1.out ?_; refine stop ?_)
  obtain ⟨x1, hx1⟩ : ∃ x1, x1 = w1.setCells (w.heap.size + 1) 0 [v1_1, v1_2] := ⟨_, rfl⟩
  rw [← hx1] at X1 ⊢
  have q1 := X1.out.rw.c0
  clear hx1 HT1 HON1
  refine go ?_
  go_wp2_with fail
  refine (int_rw X1.out.rw).mono ?_
  rintro en w2 ⟨z2, rfl, hz2, A2, c2, l2, e2, hr2, hk2, hj2⟩
  have HZ2 := Lib.hid hz2
  have HJ2 := Lib.hid hj2
  have Y2 := Lib.hid (X1.out.red hr2 hk2)
  have f2 := Y2.out.fr 2
  have d2 := Y2.out.cell 2
  have X2 : Hid (BX _ _ w _ lo g R _ _ _ _ _ _ [v1_1, v1_2, .int .i64 z2, .complex .f64 0 0, .int .i64 0, .int .i64 0, .int .i64 0, .int .i64 0, .slice none 0 0, .bool false]) := Lib.hid (Y2.out.put 2 (.int .i64 z2))
  have q2 := X2.out.rw.c0
  clear hr2 hk2 hj2 hz2 q1
  go_wp2_with fail
  refine (amount_rw X2.out.rw).mono ?_
  rintro en w3 ⟨z3, y3, rfl, hz3, hy3, A3, c3, l3, e3, hr3, hk3, hj3⟩
  have HZ3 := Lib.hid hz3
  have HY3 := Lib.hid hy3
  have HJ3 := Lib.hid hj3
  have Y3 := Lib.hid (X2.out.red hr3 hk3)
  have f3 := Y3.out.fr 3
  have d3 := Y3.out.cell 3
  have X3 : Hid (BX _ _ w _ lo g R _ _ _ _ _ _ [v1_1, v1_2, .int .i64 z2, .complex .f64 (fl z3) (fl y3), .int .i64 0, .int .i64 0, .int .i64 0, .int .i64 0, .slice none 0 0, .bool false]) := Lib.hid (Y3.out.put 3 (.complex .f64 (fl z3) (fl y3)))
  have st3 := run_store Try.prog w3 ⟨w.heap.size + 1, 3, none⟩ (.complex .f64 (fl z3) (fl y3)) .plain rfl
  have q3 := X3.out.rw.c0
  clear hr3 hk3 hj3 hz3 hy3 q2 f2 d2
  go_wp2_with fail
  refine (int_rw X3.out.rw).mono ?_
  rintro en w4 ⟨z4, rfl, hz4, A4, c4, l4, e4, hr4, hk4, hj4⟩
  have HZ4 := Lib.hid hz4
  have HJ4 := Lib.hid hj4
  have Y4 := Lib.hid (X3.out.red hr4 hk4)
  have f4 := Y4.out.fr 4
  have d4 := Y4.out.cell 4
  have X4 : Hid (BX _ _ w _ lo g R _ _ _ _ _ _ [v1_1, v1_2, .int .i64 z2, .complex .f64 (fl z3) (fl y3), .int .i64 z4, .int .i64 0, .int .i64 0, .int .i64 0, .slice none 0 0, .bool false]) := Lib.hid (Y4.out.put 4 (.int .i64 z4))
  have q4 := X4.out.rw.c0
  clear hr4 hk4 hj4 hz4 q3 f3 d3 st3
  go_wp2_with fail
  refine (int_rw X4.out.rw).mono ?_
  rintro en w5 ⟨z5, rfl, hz5, A5, c5, l5, e5, hr5, hk5, hj5⟩
  have HZ5 := Lib.hid hz5
  have HJ5 := Lib.hid hj5
  have Y5 := Lib.hid (X4.out.red hr5 hk5)
  have f5 := Y5.out.fr 5
  have d5 := Y5.out.cell 5
  have X5 : Hid (BX _ _ w _ lo g R _ _ _ _ _ _ [v1_1, v1_2, .int .i64 z2, .complex .f64 (fl z3) (fl y3), .int .i64 z4, .int .i64 z5, .int .i64 0, .int .i64 0, .slice none 0 0, .bool false]) := Lib.hid (Y5.out.put 5 (.int .i64 z5))
  have q5 := X5.out.rw.c0
  clear hr5 hk5 hj5 hz5 q4 f4 d4
  go_wp2_with fail
  refine (int_rw X5.out.rw).mono ?_
  rintro en w6 ⟨z6, rfl, hz6, A6, c6, l6, e6, hr6, hk6, hj6⟩
  have HZ6 := Lib.hid hz6
  have HJ6 := Lib.hid hj6
  have Y6 := Lib.hid (X5.out.red hr6 hk6)
  have f6 := Y6.out.fr 6
  have d6 := Y6.out.cell 6
  have X6 : Hid (BX _ _ w _ lo g R _ _ _ _ _ _ [v1_1, v1_2, .int .i64 z2, .complex .f64 (fl z3) (fl y3), .int .i64 z4, .int .i64 z5, .int .i64 z6, .int .i64 0, .slice none 0 0, .bool false]) := Lib.hid (Y6.out.put 6 (.int .i64 z6))
  have q6 := X6.out.rw.c0
  clear hr6 hk6 hj6 hz6 q5 f5 d5
  go_wp2_with fail
  refine (int_rw X6.out.rw).mono ?_
  rintro en w7 ⟨z7, rfl, hz7, A7, c7, l7, e7, hr7, hk7, hj7⟩
  have HZ7 := Lib.hid hz7
  have HJ7 := Lib.hid hj7
  have Y7 := Lib.hid (X6.out.red hr7 hk7)
  have f7 := Y7.out.fr 7
  have d7 := Y7.out.cell 7
  have X7 : Hid (BX _ _ w _ lo g R _ _ _ _ _ _ [v1_1, v1_2, .int .i64 z2, .complex .f64 (fl z3) (fl y3), .int .i64 z4, .int .i64 z5, .int .i64 z6, .int .i64 z7, .slice none 0 0, .bool false]) := Lib.hid (Y7.out.put 7 (.int .i64 z7))
  have q7 := X7.out.rw.c0
  clear hr7 hk7 hj7 hz7 q6 f6 d6
  go_wp2_with fail
  refine (mInt X7.out.rw 8 (by decide)).mono ?_
  rintro en w8 ⟨v8, rfl, s8, A8, c8, l8, e8, g8, hr8, hk8, hf8, hn8, hj8⟩
  obtain ⟨L8, M8, K8, rfl⟩ := FList.sl hf8.now
  have HJ8 := Lib.hid hj8
  have HN8 := Lib.hid hn8
  have Y8 := Lib.hid (X7.out.got hr8 hk8 hf8)
  have f8 := Y8.out.fr 8
  have d8 := Y8.out.cell 8
  have X8 : Hid (BX _ _ w _ lo g R _ _ _ _ _ _ [v1_1, v1_2, .int .i64 z2, .complex .f64 (fl z3) (fl y3), .int .i64 z4, .int .i64 z5, .int .i64 z6, .int .i64 z7, .slice L8 M8 K8, .bool false]) := Lib.hid (Y8.out.put 8 (.slice L8 M8 K8))
  have q8 := X8.out.rw.c0
  clear hr8 hk8 hj8 hf8 hn8 q7 f7 d7
  go_wp2_with fail
  refine (mark_rw X8.out.rw).mono ?_
  rintro en w9 ⟨z9, rfl, A9, c9, l9, e9, hr9, hk9, hj9⟩
  have HJ9 := Lib.hid hj9
  have Y9 := Lib.hid (X8.out.red hr9 hk9)
  have f9 := Y9.out.fr 9
  have d9 := Y9.out.cell 9
  have X9 : Hid (BX _ _ w _ lo g R _ _ _ _ _ _ [v1_1, v1_2, .int .i64 z2, .complex .f64 (fl z3) (fl y3), .int .i64 z4, .int .i64 z5, .int .i64 z6, .int .i64 z7, .slice L8 M8 K8, .bool z9]) := Lib.hid (Y9.out.put 9 (.bool z9))
  clear hr9 hk9 hj9 q8 f8 d8
  go_wp2_with (refine wpList_load_ad rfl 28 (.tmp 3) rfl ⟨w.heap.size + 1, 0, none⟩ rfl [v1_1, v1_2, .int .i64 z2, .complex .f64 (fl z3) (fl y3), .int .i64 z4, .int .i64 z5, .int .i64 z6, .int .i64 z7, .slice L8 M8 K8, .bool z9] (cells_of X9.out.box) _ Try.underlying28 rfl 10 (by kernel_rfl) rfl ?_; refine stop ?_)
  obtain ⟨w10, hw10⟩ : ∃ w10, w10 = w9.setCell ⟨w.heap.size + 1, 9, none⟩ (.bool z9) := ⟨_, rfl⟩
  rw [← hw10] at X9 ⊢
  clear hw10 f9 d9
  refine go ?_
  have HE : Hid (EJob w10.heap.size w10 [v1_1, v1_2, .int .i64 z2, .complex .f64 (fl z3) (fl y3), .int .i64 z4, .int .i64 z5, .int .i64 z6, .int .i64 z7, .slice L8 M8 K8, .bool z9] (s1 ++ ([some (iv z2)] ++ ([some (uv z3 ++ uv y3)] ++ ([some (iv z4)] ++ ([some (iv z5)] ++ ([some (iv z6)] ++ ([some (iv z7)] ++ (s8 ++ ([some (uv (if z9 then 1 else 0))])))))))))) := by obtain ⟨⟨_, F1⟩, F2⟩ := X9.out.ff _ (Keep.refl _ _); exact ⟨_, _, _, _, _, _, _, _, _, _, _, _, _, _, _, _, _, _, F1, z_int z2 HZ2.out, ⟨z3, y3, HZ3.out, HY3.out, rfl, rfl⟩, z_int z4 HZ4.out, z_int z5 HZ5.out, z_int z6 HZ6.out, z_int z7 HZ7.out, F2, ⟨z9, rfl, rfl⟩, rfl, rfl⟩
  go_wp2_with (refine wpList_store_row2 rfl 28 (.tmp 2) (.tmp 57) rfl w.heap.size (List.toArray [v1_1, v1_2, .int .i64 z2, .complex .f64 (fl z3) (fl y3), .int .i64 z4, .int .i64 z5, .int .i64 z6, .int .i64 z7, .slice L8 M8 K8, .bool z9]) rfl rfl 28 _ X9.out.res (by kernel_rfl) rfl (ones_all (HE.out.one)) ?_; refine stop ?_)
  have X10 := Lib.hid (X9.out.done [v1_1, v1_2, .int .i64 z2, .complex .f64 (fl z3) (fl y3), .int .i64 z4, .int .i64 z5, .int .i64 z6, .int .i64 z7, .slice L8 M8 K8, .bool z9])
  obtain ⟨w11, hw11⟩ : ∃ w11, w11 = w10.setRow w.heap.size (List.toArray [v1_1, v1_2, .int .i64 z2, .complex .f64 (fl z3) (fl y3), .int .i64 z4, .int .i64 z5, .int .i64 z6, .int .i64 z7, .slice L8 M8 K8, .bool z9]) := ⟨_, rfl⟩
  rw [← hw11] at X10 ⊢
  clear hw11
  refine go ?_
  go_wp2_with fail
  (try simp only [Exit.inBlock, Exit.then])
  refine bodyPost_ret (results_cell_row rfl _ _ w.heap.size 28 (List.toArray [v1_1, v1_2, .int .i64 z2, .complex .f64 (fl z3) (fl y3), .int .i64 z4, .int .i64 z5, .int .i64 z6, .int .i64 z7, .slice L8 M8 K8, .bool z9]) _ _ rfl X10.out.res Try.underlying28 rfl (by kernel_rfl)) rfl ?_
  refine ⟨[v1_1, v1_2, .int .i64 z2, .complex .f64 (fl z3) (fl y3), .int .i64 z4, .int .i64 z5, .int .i64 z6, .int .i64 z7, .slice L8 M8 K8, .bool z9], rfl, s1 ++ ([some (iv z2)] ++ ([some (uv z3 ++ uv y3)] ++ ([some (iv z4)] ++ ([some (iv z5)] ++ ([some (iv z6)] ++ ([some (iv z7)] ++ (s8 ++ ([some (uv (if z9 then 1 else 0))])))))))), _, _, _, _, _, X10.out.rw, X10.out.keep, fun u hu => by obtain ⟨⟨_, F1⟩, F2⟩ := X10.out.ff _ (hu.mono (T := DD w) (fun i (hi : i < w.heap.size) => by show i < w.heap.size + 2; omega)); exact ⟨_, _, _, _, _, _, _, _, _, _, _, _, _, _, _, _, _, _, F1, z_int z2 HZ2.out, ⟨z3, y3, HZ3.out, HY3.out, rfl, rfl⟩, z_int z4 HZ4.out, z_int z5 HZ5.out, z_int z6 HZ6.out, z_int z7 HZ7.out, F2, ⟨z9, rfl, rfl⟩, rfl, rfl⟩, by simp [HN1.out, HN8.out], fun x1 x2 => ?_⟩
  obtain ⟨a9, t9⟩ := HJ9.out x1
  obtain ⟨a8, b8, t8⟩ := HJ8.out a9 x2
  obtain ⟨a7, t7⟩ := HJ7.out a8
  obtain ⟨a6, t6⟩ := HJ6.out a7
  obtain ⟨a5, t5⟩ := HJ5.out a6
  obtain ⟨a4, t4⟩ := HJ4.out a5
  obtain ⟨a3, t3⟩ := HJ3.out a4
  obtain ⟨a2, t2⟩ := HJ2.out a3
  obtain ⟨a1, b1, t1⟩ := HJ1.out a2 b8
  exact ⟨a1, b1, by rw [t1, t2, t3, t4, t5, t6, t7, t8, t9]; simp [flat, flat_append]⟩
set_option maxRecDepth 20000 in
set_option maxHeartbeats 8000000 in
theorem rOffer {w : World} {lo g R c : Nat} {A : Option Addr} {l : List UInt8} {e : Int} {lg : Bool} (h : RW w lo g R A c l e lg) :
    Calls Try.prog 87 #[.pointer (some ⟨R, 0, none⟩)] w (Red EOffer w lo g R l e lg) := by
  have X0 := Lib.hid (BX.new h 161 [.int .i64 0, .slice none 0 0])
  have q0 := X0.out.rw.c0
  clear h
  go_enter Try.func87, Try.ntmps87
  go_wp2_with fail
  refine (int_rw X0.out.rw).mono ?_
  rintro en w1 ⟨z1, rfl, hz1, A1, c1, l1, e1, hr1, hk1, hj1⟩
  have HZ1 := Lib.hid hz1
  have HJ1 := Lib.hid hj1
  have Y1 := Lib.hid (X0.out.red hr1 hk1)
  have f1 := Y1.out.fr 0
  have d1 := Y1.out.cell 0
  have X1 : Hid (BX _ _ w _ lo g R _ _ _ _ _ _ [.int .i64 z1, .slice none 0 0]) := Lib.hid (Y1.out.put 0 (.int .i64 z1))
  have q1 := X1.out.rw.c0
  clear hr1 hk1 hj1 hz1 q0
  go_wp2_with fail
  refine (mSpan X1.out.rw 8 (by decide)).mono ?_
  rintro en w2 ⟨v2, rfl, s2, A2, c2, l2, e2, g2, hr2, hk2, hf2, hn2, hj2⟩
  obtain ⟨L2, M2, K2, rfl⟩ := FList.sl hf2.now
  have HJ2 := Lib.hid hj2
  have HN2 := Lib.hid hn2
  have Y2 := Lib.hid (X1.out.got hr2 hk2 hf2)
  have f2 := Y2.out.fr 1
  have d2 := Y2.out.cell 1
  have X2 : Hid (BX _ _ w _ lo g R _ _ _ _ _ _ [.int .i64 z1, .slice L2 M2 K2]) := Lib.hid (Y2.out.put 1 (.slice L2 M2 K2))
  clear hr2 hk2 hj2 hf2 hn2 q1 f1 d1
  go_wp2_with (refine wpList_load_ad rfl 161 (.tmp 3) rfl ⟨w.heap.size + 1, 0, none⟩ rfl [.int .i64 z1, .slice L2 M2 K2] (cells_of X2.out.box) _ Try.underlying161 rfl 2 (by kernel_rfl) rfl ?_; refine stop ?_)
  obtain ⟨w3, hw3⟩ : ∃ w3, w3 = w2.setCell ⟨w.heap.size + 1, 1, none⟩ (.slice L2 M2 K2) := ⟨_, rfl⟩
  rw [← hw3] at X2 ⊢
  clear hw3 f2 d2
  refine go ?_
  have HE : Hid (EOffer w3.heap.size w3 [.int .i64 z1, .slice L2 M2 K2] ([some (iv z1)] ++ (s2))) := by obtain ⟨_, F1⟩ := X2.out.ff _ (Keep.refl _ _); exact ⟨_, _, _, _, z_int z1 HZ1.out, F1, rfl, rfl⟩
  go_wp2_with (refine wpList_store_row2 rfl 161 (.tmp 2) (.tmp 15) rfl w.heap.size (List.toArray [.int .i64 z1, .slice L2 M2 K2]) rfl rfl 161 _ X2.out.res (by kernel_rfl) rfl (ones_all (HE.out.one)) ?_; refine stop ?_)
  have X3 := Lib.hid (X2.out.done [.int .i64 z1, .slice L2 M2 K2])
  obtain ⟨w4, hw4⟩ : ∃ w4, w4 = w3.setRow w.heap.size (List.toArray [.int .i64 z1, .slice L2 M2 K2]) := ⟨_, rfl⟩
  rw [← hw4] at X3 ⊢
  clear hw4
  refine go ?_
  go_wp2_with fail
  (try simp only [Exit.inBlock, Exit.then])
  refine bodyPost_ret (results_cell_row rfl _ _ w.heap.size 161 (List.toArray [.int .i64 z1, .slice L2 M2 K2]) _ _ rfl X3.out.res Try.underlying161 rfl (by kernel_rfl)) rfl ?_
  refine ⟨[.int .i64 z1, .slice L2 M2 K2], rfl, [some (iv z1)] ++ (s2), _, _, _, _, _, X3.out.rw, X3.out.keep, fun u hu => by obtain ⟨_, F1⟩ := X3.out.ff _ (hu.mono (T := DD w) (fun i (hi : i < w.heap.size) => by show i < w.heap.size + 2; omega)); exact ⟨_, _, _, _, z_int z1 HZ1.out, F1, rfl, rfl⟩, by simp [HN2.out], fun x1 x2 => ?_⟩
  obtain ⟨a2, b2, t2⟩ := HJ2.out x1 x2
  obtain ⟨a1, t1⟩ := HJ1.out a2
  exact ⟨a1, b2, by rw [t1, t2]; simp [flat]⟩
end Go.Proofs.Ytagocmbcbbhehaa
