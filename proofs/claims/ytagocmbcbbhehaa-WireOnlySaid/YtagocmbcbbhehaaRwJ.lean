/- wire.reader's structs: what they tell. By a program. -/
import Derived.Test.YtagocmbcbbhehaaRwN
namespace Go.Proofs.Ytagocmbcbbhehaa
set_option linter.unusedVariables false
open Go.RowKit
set_option maxRecDepth 20000 in
set_option maxHeartbeats 8000000 in
theorem rOwn {w : World} {lo g R c : Nat} {A : Option Addr} {l : List UInt8} {e : Int} {lg : Bool} (h : RW w lo g R A c l e lg) :
    Calls Try.prog 68 #[.pointer (some ⟨R, 0, none⟩)] w (Red EOwn w lo g R l e lg) := by
  have X0 := Lib.hid (BX.new h 111 [.int .i64 0, .int .i64 0, .int .i64 0, .complex .f64 0 0, .int .i64 0, .int .i64 0, .int .i64 0, .int .i64 0, .slice none 0 0, .bool false, .int .i64 0, .int .i64 0, .int .i64 0, .bool false, .int .i64 0, .int .i64 0, .int .i64 0, .int .i64 0, .slice none 0 0, .slice none 0 0, .slice none 0 0])
  have q0 := X0.out.rw.c0
  clear h
  go_enter Try.func68, Try.ntmps68
  go_wp2_with fail
  refine (rJob X0.out.rw).mono ?_
  rintro en w1 ⟨cl1, rfl, s1, A1, c1, l1, e1, g1, hr1, hk1, hf1, hn1, hj1⟩
  obtain ⟨v1_1, v1_2, v1_3, v1_4, v1_5, v1_6, v1_7, v1_8, v1_9, v1_10, rfl⟩ := hf1.now.ex
  have HON1 := Lib.hid (ones_all (hf1.now.one))
  have HJ1 := Lib.hid hj1
  have HN1 := Lib.hid hn1
  have Y1 := Lib.hid (X0.out.got hr1 hk1 hf1)
  have HT1 := Lib.hid (Y1.out.there 0 10 (by simp))
  have X1 := Lib.hid (Y1.out.puts [v1_1, v1_2, v1_3, v1_4, v1_5, v1_6, v1_7, v1_8, v1_9, v1_10] 0 (by simp))
  have X1 : Hid (BX _ _ w _ lo g R _ _ _ _ _ _ [v1_1, v1_2, v1_3, v1_4, v1_5, v1_6, v1_7, v1_8, v1_9, v1_10, .int .i64 0, .int .i64 0, .int .i64 0, .bool false, .int .i64 0, .int .i64 0, .int .i64 0, .int .i64 0, .slice none 0 0, .slice none 0 0, .slice none 0 0]) := X1
  clear hr1 hk1 hj1 hf1 hn1 q0
  go_wp2_with (refine wpList_store_mid rfl 28 (.tmp 6) (.tmp 5) rfl (w.heap.size + 1) 0 (List.toArray [v1_1, v1_2, v1_3, v1_4, v1_5, v1_6, v1_7, v1_8, v1_9, v1_10]) rfl rfl HT1.out (by kernel_rfl) HON1.out ?_; refine stop ?_)
  obtain ⟨x1, hx1⟩ : ∃ x1, x1 = w1.setCells (w.heap.size + 1) 0 [v1_1, v1_2, v1_3, v1_4, v1_5, v1_6, v1_7, v1_8, v1_9, v1_10] := ⟨_, rfl⟩
  rw [← hx1] at X1 ⊢
  have q1 := X1.out.rw.c0
  clear hx1 HT1 HON1
  refine go ?_
  go_wp2_with fail
  refine (int_rw X1.out.rw).mono ?_
  rintro en w2 ⟨z2, rfl, hz2, A2, c2, l2, e2, hr2, hk2, hj2⟩
  have HZ2 := Lib.hid hz2
  have HJ2 := Lib.hid hj2
  have Y2 := Lib.hid (X1.out.red hr2 hk2)
  have f2 := Y2.out.fr 10
  have d2 := Y2.out.cell 10
  have X2 : Hid (BX _ _ w _ lo g R _ _ _ _ _ _ [v1_1, v1_2, v1_3, v1_4, v1_5, v1_6, v1_7, v1_8, v1_9, v1_10, .int .i64 z2, .int .i64 0, .int .i64 0, .bool false, .int .i64 0, .int .i64 0, .int .i64 0, .int .i64 0, .slice none 0 0, .slice none 0 0, .slice none 0 0]) := Lib.hid (Y2.out.put 10 (.int .i64 z2))
  have q2 := X2.out.rw.c0
  clear hr2 hk2 hj2 hz2 q1
  go_wp2_with fail
  refine (int_rw X2.out.rw).mono ?_
  rintro en w3 ⟨z3, rfl, hz3, A3, c3, l3, e3, hr3, hk3, hj3⟩
  have HZ3 := Lib.hid hz3
  have HJ3 := Lib.hid hj3
  have Y3 := Lib.hid (X2.out.red hr3 hk3)
  have f3 := Y3.out.fr 11
  have d3 := Y3.out.cell 11
  have X3 : Hid (BX _ _ w _ lo g R _ _ _ _ _ _ [v1_1, v1_2, v1_3, v1_4, v1_5, v1_6, v1_7, v1_8, v1_9, v1_10, .int .i64 z2, .int .i64 z3, .int .i64 0, .bool false, .int .i64 0, .int .i64 0, .int .i64 0, .int .i64 0, .slice none 0 0, .slice none 0 0, .slice none 0 0]) := Lib.hid (Y3.out.put 11 (.int .i64 z3))
  have q3 := X3.out.rw.c0
  clear hr3 hk3 hj3 hz3 q2 f2 d2
  go_wp2_with fail
  refine (int_rw X3.out.rw).mono ?_
  rintro en w4 ⟨z4, rfl, hz4, A4, c4, l4, e4, hr4, hk4, hj4⟩
  have HZ4 := Lib.hid hz4
  have HJ4 := Lib.hid hj4
  have Y4 := Lib.hid (X3.out.red hr4 hk4)
  have f4 := Y4.out.fr 12
  have d4 := Y4.out.cell 12
  have X4 : Hid (BX _ _ w _ lo g R _ _ _ _ _ _ [v1_1, v1_2, v1_3, v1_4, v1_5, v1_6, v1_7, v1_8, v1_9, v1_10, .int .i64 z2, .int .i64 z3, .int .i64 z4, .bool false, .int .i64 0, .int .i64 0, .int .i64 0, .int .i64 0, .slice none 0 0, .slice none 0 0, .slice none 0 0]) := Lib.hid (Y4.out.put 12 (.int .i64 z4))
  have q4 := X4.out.rw.c0
  clear hr4 hk4 hj4 hz4 q3 f3 d3
  go_wp2_with fail
  refine (mark_rw X4.out.rw).mono ?_
  rintro en w5 ⟨z5, rfl, A5, c5, l5, e5, hr5, hk5, hj5⟩
  have HJ5 := Lib.hid hj5
  have Y5 := Lib.hid (X4.out.red hr5 hk5)
  have f5 := Y5.out.fr 13
  have d5 := Y5.out.cell 13
  have X5 : Hid (BX _ _ w _ lo g R _ _ _ _ _ _ [v1_1, v1_2, v1_3, v1_4, v1_5, v1_6, v1_7, v1_8, v1_9, v1_10, .int .i64 z2, .int .i64 z3, .int .i64 z4, .bool z5, .int .i64 0, .int .i64 0, .int .i64 0, .int .i64 0, .slice none 0 0, .slice none 0 0, .slice none 0 0]) := Lib.hid (Y5.out.put 13 (.bool z5))
  have q5 := X5.out.rw.c0
  clear hr5 hk5 hj5 q4 f4 d4
  go_wp2_with fail
  refine (int_rw X5.out.rw).mono ?_
  rintro en w6 ⟨z6, rfl, hz6, A6, c6, l6, e6, hr6, hk6, hj6⟩
  have HZ6 := Lib.hid hz6
  have HJ6 := Lib.hid hj6
  have Y6 := Lib.hid (X5.out.red hr6 hk6)
  have f6 := Y6.out.fr 14
  have d6 := Y6.out.cell 14
  have X6 : Hid (BX _ _ w _ lo g R _ _ _ _ _ _ [v1_1, v1_2, v1_3, v1_4, v1_5, v1_6, v1_7, v1_8, v1_9, v1_10, .int .i64 z2, .int .i64 z3, .int .i64 z4, .bool z5, .int .i64 z6, .int .i64 0, .int .i64 0, .int .i64 0, .slice none 0 0, .slice none 0 0, .slice none 0 0]) := Lib.hid (Y6.out.put 14 (.int .i64 z6))
  have q6 := X6.out.rw.c0
  clear hr6 hk6 hj6 hz6 q5 f5 d5
  go_wp2_with fail
  refine (int_rw X6.out.rw).mono ?_
  rintro en w7 ⟨z7, rfl, hz7, A7, c7, l7, e7, hr7, hk7, hj7⟩
  have HZ7 := Lib.hid hz7
  have HJ7 := Lib.hid hj7
  have Y7 := Lib.hid (X6.out.red hr7 hk7)
  have f7 := Y7.out.fr 15
  have d7 := Y7.out.cell 15
  have X7 : Hid (BX _ _ w _ lo g R _ _ _ _ _ _ [v1_1, v1_2, v1_3, v1_4, v1_5, v1_6, v1_7, v1_8, v1_9, v1_10, .int .i64 z2, .int .i64 z3, .int .i64 z4, .bool z5, .int .i64 z6, .int .i64 z7, .int .i64 0, .int .i64 0, .slice none 0 0, .slice none 0 0, .slice none 0 0]) := Lib.hid (Y7.out.put 15 (.int .i64 z7))
  have q7 := X7.out.rw.c0
  clear hr7 hk7 hj7 hz7 q6 f6 d6
  go_wp2_with fail
  refine (int_rw X7.out.rw).mono ?_
  rintro en w8 ⟨z8, rfl, hz8, A8, c8, l8, e8, hr8, hk8, hj8⟩
  have HZ8 := Lib.hid hz8
  have HJ8 := Lib.hid hj8
  have Y8 := Lib.hid (X7.out.red hr8 hk8)
  have f8 := Y8.out.fr 16
  have d8 := Y8.out.cell 16
  have X8 : Hid (BX _ _ w _ lo g R _ _ _ _ _ _ [v1_1, v1_2, v1_3, v1_4, v1_5, v1_6, v1_7, v1_8, v1_9, v1_10, .int .i64 z2, .int .i64 z3, .int .i64 z4, .bool z5, .int .i64 z6, .int .i64 z7, .int .i64 z8, .int .i64 0, .slice none 0 0, .slice none 0 0, .slice none 0 0]) := Lib.hid (Y8.out.put 16 (.int .i64 z8))
  have q8 := X8.out.rw.c0
  clear hr8 hk8 hj8 hz8 q7 f7 d7
  go_wp2_with fail
  refine (int_rw X8.out.rw).mono ?_
  rintro en w9 ⟨z9, rfl, hz9, A9, c9, l9, e9, hr9, hk9, hj9⟩
  have HZ9 := Lib.hid hz9
  have HJ9 := Lib.hid hj9
  have Y9 := Lib.hid (X8.out.red hr9 hk9)
  have f9 := Y9.out.fr 17
  have d9 := Y9.out.cell 17
  have X9 : Hid (BX _ _ w _ lo g R _ _ _ _ _ _ [v1_1, v1_2, v1_3, v1_4, v1_5, v1_6, v1_7, v1_8, v1_9, v1_10, .int .i64 z2, .int .i64 z3, .int .i64 z4, .bool z5, .int .i64 z6, .int .i64 z7, .int .i64 z8, .int .i64 z9, .slice none 0 0, .slice none 0 0, .slice none 0 0]) := Lib.hid (Y9.out.put 17 (.int .i64 z9))
  have q9 := X9.out.rw.c0
  clear hr9 hk9 hj9 hz9 q8 f8 d8
  go_wp2_with fail
  refine (mInt X9.out.rw 8 (by decide)).mono ?_
  rintro en w10 ⟨v10, rfl, s10, A10, c10, l10, e10, g10, hr10, hk10, hf10, hn10, hj10⟩
  obtain ⟨L10, M10, K10, rfl⟩ := FList.sl hf10.now
  have HJ10 := Lib.hid hj10
  have HN10 := Lib.hid hn10
  have Y10 := Lib.hid (X9.out.got hr10 hk10 hf10)
  have f10 := Y10.out.fr 18
  have d10 := Y10.out.cell 18
  have X10 : Hid (BX _ _ w _ lo g R _ _ _ _ _ _ [v1_1, v1_2, v1_3, v1_4, v1_5, v1_6, v1_7, v1_8, v1_9, v1_10, .int .i64 z2, .int .i64 z3, .int .i64 z4, .bool z5, .int .i64 z6, .int .i64 z7, .int .i64 z8, .int .i64 z9, .slice L10 M10 K10, .slice none 0 0, .slice none 0 0]) := Lib.hid (Y10.out.put 18 (.slice L10 M10 K10))
  have q10 := X10.out.rw.c0
  clear hr10 hk10 hj10 hf10 hn10 q9 f9 d9
  go_wp2_with fail
  refine (mOffer X10.out.rw 8 (by decide)).mono ?_
  rintro en w11 ⟨v11, rfl, s11, A11, c11, l11, e11, g11, hr11, hk11, hf11, hn11, hj11⟩
  obtain ⟨L11, M11, K11, rfl⟩ := FList.sl hf11.now
  have HJ11 := Lib.hid hj11
  have HN11 := Lib.hid hn11
  have Y11 := Lib.hid (X10.out.got hr11 hk11 hf11)
  have f11 := Y11.out.fr 19
  have d11 := Y11.out.cell 19
  have X11 : Hid (BX _ _ w _ lo g R _ _ _ _ _ _ [v1_1, v1_2, v1_3, v1_4, v1_5, v1_6, v1_7, v1_8, v1_9, v1_10, .int .i64 z2, .int .i64 z3, .int .i64 z4, .bool z5, .int .i64 z6, .int .i64 z7, .int .i64 z8, .int .i64 z9, .slice L10 M10 K10, .slice L11 M11 K11, .slice none 0 0]) := Lib.hid (Y11.out.put 19 (.slice L11 M11 K11))
  have q11 := X11.out.rw.c0
  clear hr11 hk11 hj11 hf11 hn11 q10 f10 d10
  go_wp2_with fail
  refine (mPart X11.out.rw 8 (by decide)).mono ?_
  rintro en w12 ⟨v12, rfl, s12, A12, c12, l12, e12, g12, hr12, hk12, hf12, hn12, hj12⟩
  obtain ⟨L12, M12, K12, rfl⟩ := FList.sl hf12.now
  have HJ12 := Lib.hid hj12
  have HN12 := Lib.hid hn12
  have Y12 := Lib.hid (X11.out.got hr12 hk12 hf12)
  have f12 := Y12.out.fr 20
  have d12 := Y12.out.cell 20
  have X12 : Hid (BX _ _ w _ lo g R _ _ _ _ _ _ [v1_1, v1_2, v1_3, v1_4, v1_5, v1_6, v1_7, v1_8, v1_9, v1_10, .int .i64 z2, .int .i64 z3, .int .i64 z4, .bool z5, .int .i64 z6, .int .i64 z7, .int .i64 z8, .int .i64 z9, .slice L10 M10 K10, .slice L11 M11 K11, .slice L12 M12 K12]) := Lib.hid (Y12.out.put 20 (.slice L12 M12 K12))
  clear hr12 hk12 hj12 hf12 hn12 q11 f11 d11
  go_wp2_with (refine wpList_load_ad rfl 111 (.tmp 3) rfl ⟨w.heap.size + 1, 0, none⟩ rfl [v1_1, v1_2, v1_3, v1_4, v1_5, v1_6, v1_7, v1_8, v1_9, v1_10, .int .i64 z2, .int .i64 z3, .int .i64 z4, .bool z5, .int .i64 z6, .int .i64 z7, .int .i64 z8, .int .i64 z9, .slice L10 M10 K10, .slice L11 M11 K11, .slice L12 M12 K12] (cells_of X12.out.box) _ Try.underlying111 rfl 21 (by kernel_rfl) rfl ?_; refine stop ?_)
  obtain ⟨w13, hw13⟩ : ∃ w13, w13 = w12.setCell ⟨w.heap.size + 1, 20, none⟩ (.slice L12 M12 K12) := ⟨_, rfl⟩
  rw [← hw13] at X12 ⊢
  clear hw13 f12 d12
  refine go ?_
  have HE : Hid (EOwn w13.heap.size w13 [v1_1, v1_2, v1_3, v1_4, v1_5, v1_6, v1_7, v1_8, v1_9, v1_10, .int .i64 z2, .int .i64 z3, .int .i64 z4, .bool z5, .int .i64 z6, .int .i64 z7, .int .i64 z8, .int .i64 z9, .slice L10 M10 K10, .slice L11 M11 K11, .slice L12 M12 K12] (s1 ++ ([some (iv z2)] ++ ([some (iv z3)] ++ ([some (iv z4)] ++ ([some (uv (if z5 then 1 else 0))] ++ ([some (iv z6)] ++ ([some (iv z7)] ++ ([some (iv z8)] ++ ([some (iv z9)] ++ (s10 ++ (s11 ++ (s12))))))))))))) := by obtain ⟨⟨⟨⟨_, F1⟩, F2⟩, F3⟩, F4⟩ := X12.out.ff _ (Keep.refl _ _); exact ⟨_, _, _, _, _, _, _, _, _, _, _, _, _, _, _, _, _, _, _, _, _, _, _, _, F1, z_int z2 HZ2.out, z_int z3 HZ3.out, z_int z4 HZ4.out, ⟨z5, rfl, rfl⟩, z_int z6 HZ6.out, z_int z7 HZ7.out, z_int z8 HZ8.out, z_int z9 HZ9.out, F2, F3, F4, rfl, rfl⟩
  go_wp2_with (refine wpList_store_row2 rfl 111 (.tmp 2) (.tmp 73) rfl w.heap.size (List.toArray [v1_1, v1_2, v1_3, v1_4, v1_5, v1_6, v1_7, v1_8, v1_9, v1_10, .int .i64 z2, .int .i64 z3, .int .i64 z4, .bool z5, .int .i64 z6, .int .i64 z7, .int .i64 z8, .int .i64 z9, .slice L10 M10 K10, .slice L11 M11 K11, .slice L12 M12 K12]) rfl rfl 111 _ X12.out.res (by kernel_rfl) rfl (ones_all (HE.out.one)) ?_; refine stop ?_)
  have X13 := Lib.hid (X12.out.done [v1_1, v1_2, v1_3, v1_4, v1_5, v1_6, v1_7, v1_8, v1_9, v1_10, .int .i64 z2, .int .i64 z3, .int .i64 z4, .bool z5, .int .i64 z6, .int .i64 z7, .int .i64 z8, .int .i64 z9, .slice L10 M10 K10, .slice L11 M11 K11, .slice L12 M12 K12])
  obtain ⟨w14, hw14⟩ : ∃ w14, w14 = w13.setRow w.heap.size (List.toArray [v1_1, v1_2, v1_3, v1_4, v1_5, v1_6, v1_7, v1_8, v1_9, v1_10, .int .i64 z2, .int .i64 z3, .int .i64 z4, .bool z5, .int .i64 z6, .int .i64 z7, .int .i64 z8, .int .i64 z9, .slice L10 M10 K10, .slice L11 M11 K11, .slice L12 M12 K12]) := ⟨_, rfl⟩
  rw [← hw14] at X13 ⊢
  clear hw14
  refine go ?_
  go_wp2_with fail
  (try simp only [Exit.inBlock, Exit.then])
  refine bodyPost_ret (results_cell_row rfl _ _ w.heap.size 111 (List.toArray [v1_1, v1_2, v1_3, v1_4, v1_5, v1_6, v1_7, v1_8, v1_9, v1_10, .int .i64 z2, .int .i64 z3, .int .i64 z4, .bool z5, .int .i64 z6, .int .i64 z7, .int .i64 z8, .int .i64 z9, .slice L10 M10 K10, .slice L11 M11 K11, .slice L12 M12 K12]) _ _ rfl X13.out.res Try.underlying111 rfl (by kernel_rfl)) rfl ?_
  refine ⟨[v1_1, v1_2, v1_3, v1_4, v1_5, v1_6, v1_7, v1_8, v1_9, v1_10, .int .i64 z2, .int .i64 z3, .int .i64 z4, .bool z5, .int .i64 z6, .int .i64 z7, .int .i64 z8, .int .i64 z9, .slice L10 M10 K10, .slice L11 M11 K11, .slice L12 M12 K12], rfl, s1 ++ ([some (iv z2)] ++ ([some (iv z3)] ++ ([some (iv z4)] ++ ([some (uv (if z5 then 1 else 0))] ++ ([some (iv z6)] ++ ([some (iv z7)] ++ ([some (iv z8)] ++ ([some (iv z9)] ++ (s10 ++ (s11 ++ (s12))))))))))), _, _, _, _, _, X13.out.rw, X13.out.keep, fun u hu => by obtain ⟨⟨⟨⟨_, F1⟩, F2⟩, F3⟩, F4⟩ := X13.out.ff _ (hu.mono (T := DD w) (fun i (hi : i < w.heap.size) => by show i < w.heap.size + 2; omega)); exact ⟨_, _, _, _, _, _, _, _, _, _, _, _, _, _, _, _, _, _, _, _, _, _, _, _, F1, z_int z2 HZ2.out, z_int z3 HZ3.out, z_int z4 HZ4.out, ⟨z5, rfl, rfl⟩, z_int z6 HZ6.out, z_int z7 HZ7.out, z_int z8 HZ8.out, z_int z9 HZ9.out, F2, F3, F4, rfl, rfl⟩, by simp [HN1.out, HN10.out, HN11.out, HN12.out], fun x1 x2 => ?_⟩
  obtain ⟨a12, b12, t12⟩ := HJ12.out x1 x2
  obtain ⟨a11, b11, t11⟩ := HJ11.out a12 b12
  obtain ⟨a10, b10, t10⟩ := HJ10.out a11 b11
  obtain ⟨a9, t9⟩ := HJ9.out a10
  obtain ⟨a8, t8⟩ := HJ8.out a9
  obtain ⟨a7, t7⟩ := HJ7.out a8
  obtain ⟨a6, t6⟩ := HJ6.out a7
  obtain ⟨a5, t5⟩ := HJ5.out a6
  obtain ⟨a4, t4⟩ := HJ4.out a5
  obtain ⟨a3, t3⟩ := HJ3.out a4
  obtain ⟨a2, t2⟩ := HJ2.out a3
  obtain ⟨a1, b1, t1⟩ := HJ1.out a2 b10
  exact ⟨a1, b1, by rw [t1, t2, t3, t4, t5, t6, t7, t8, t9, t10, t11, t12]; simp [flat, flat_append]⟩
end Go.Proofs.Ytagocmbcbbhehaa
