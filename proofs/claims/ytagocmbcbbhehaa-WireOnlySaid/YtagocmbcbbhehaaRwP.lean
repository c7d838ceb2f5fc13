/- wire.reader's structs: what they tell. By a program. -/
import Derived.Test.YtagocmbcbbhehaaRwL
namespace Go.Proofs.Ytagocmbcbbhehaa
set_option linter.unusedVariables false
open Go.RowKit
set_option maxRecDepth 20000 in
set_option maxHeartbeats 8000000 in
theorem rState {w : World} {lo g R c : Nat} {A : Option Addr} {l : List UInt8} {e : Int} {lg : Bool} (h : RW w lo g R A c l e lg) :
    Calls Try.prog 29 #[.pointer (some ⟨R, 0, none⟩)] w (Red EState w lo g R l e lg) := by
  have X0 := Lib.hid (BX.new h 46 [.int .i64 0, .complex .f64 0 0, .int .i64 0, .bool false, .int .i64 0, .int .i64 0, .slice none 0 0, .slice none 0 0, .slice none 0 0, .slice none 0 0, .slice none 0 0, .int .i64 0])
  have q0 := X0.out.rw.c0
  clear h
  go_enter Try.func29, Try.ntmps29
  go_wp2_with fail
  refine (int_rw X0.out.rw).mono ?_
  rintro en w1 ⟨z1, rfl, hz1, A1, c1, l1, e1, hr1, hk1, hj1⟩
  have HZ1 := Lib.hid hz1
  have HJ1 := Lib.hid hj1
  have Y1 := Lib.hid (X0.out.red hr1 hk1)
  have f1 := Y1.out.fr 0
  have d1 := Y1.out.cell 0
  have X1 : Hid (BX _ _ w _ lo g R _ _ _ _ _ _ [.int .i64 z1, .complex .f64 0 0, .int .i64 0, .bool false, .int .i64 0, .int .i64 0, .slice none 0 0, .slice none 0 0, .slice none 0 0, .slice none 0 0, .slice none 0 0, .int .i64 0]) := Lib.hid (Y1.out.put 0 (.int .i64 z1))
  have q1 := X1.out.rw.c0
  clear hr1 hk1 hj1 hz1 q0
  go_wp2_with fail
  refine (amount_rw X1.out.rw).mono ?_
  rintro en w2 ⟨z2, y2, rfl, hz2, hy2, A2, c2, l2, e2, hr2, hk2, hj2⟩
  have HZ2 := Lib.hid hz2
  have HY2 := Lib.hid hy2
  have HJ2 := Lib.hid hj2
  have Y2 := Lib.hid (X1.out.red hr2 hk2)
  have f2 := Y2.out.fr 1
  have d2 := Y2.out.cell 1
  have X2 : Hid (BX _ _ w _ lo g R _ _ _ _ _ _ [.int .i64 z1, .complex .f64 (fl z2) (fl y2), .int .i64 0, .bool false, .int .i64 0, .int .i64 0, .slice none 0 0, .slice none 0 0, .slice none 0 0, .slice none 0 0, .slice none 0 0, .int .i64 0]) := Lib.hid (Y2.out.put 1 (.complex .f64 (fl z2) (fl y2)))
  have st2 := run_store Try.prog w2 ⟨w.heap.size + 1, 1, none⟩ (.complex .f64 (fl z2) (fl y2)) .plain rfl
  have q2 := X2.out.rw.c0
  clear hr2 hk2 hj2 hz2 hy2 q1 f1 d1
  go_wp2_with fail
  refine (int_rw X2.out.rw).mono ?_
  rintro en w3 ⟨z3, rfl, hz3, A3, c3, l3, e3, hr3, hk3, hj3⟩
  have HZ3 := Lib.hid hz3
  have HJ3 := Lib.hid hj3
  have Y3 := Lib.hid (X2.out.red hr3 hk3)
  have f3 := Y3.out.fr 2
  have d3 := Y3.out.cell 2
  have X3 : Hid (BX _ _ w _ lo g R _ _ _ _ _ _ [.int .i64 z1, .complex .f64 (fl z2) (fl y2), .int .i64 z3, .bool false, .int .i64 0, .int .i64 0, .slice none 0 0, .slice none 0 0, .slice none 0 0, .slice none 0 0, .slice none 0 0, .int .i64 0]) := Lib.hid (Y3.out.put 2 (.int .i64 z3))
  have q3 := X3.out.rw.c0
  clear hr3 hk3 hj3 hz3 q2 f2 d2 st2
  go_wp2_with fail
  refine (mark_rw X3.out.rw).mono ?_
  rintro en w4 ⟨z4, rfl, A4, c4, l4, e4, hr4, hk4, hj4⟩
  have HJ4 := Lib.hid hj4
  have Y4 := Lib.hid (X3.out.red hr4 hk4)
  have f4 := Y4.out.fr 3
  have d4 := Y4.out.cell 3
  have X4 : Hid (BX _ _ w _ lo g R _ _ _ _ _ _ [.int .i64 z1, .complex .f64 (fl z2) (fl y2), .int .i64 z3, .bool z4, .int .i64 0, .int .i64 0, .slice none 0 0, .slice none 0 0, .slice none 0 0, .slice none 0 0, .slice none 0 0, .int .i64 0]) := Lib.hid (Y4.out.put 3 (.bool z4))
  have q4 := X4.out.rw.c0
  clear hr4 hk4 hj4 q3 f3 d3
  go_wp2_with fail
  refine (int_rw X4.out.rw).mono ?_
  rintro en w5 ⟨z5, rfl, hz5, A5, c5, l5, e5, hr5, hk5, hj5⟩
  have HZ5 := Lib.hid hz5
  have HJ5 := Lib.hid hj5
  have Y5 := Lib.hid (X4.out.red hr5 hk5)
  have f5 := Y5.out.fr 4
  have d5 := Y5.out.cell 4
  have X5 : Hid (BX _ _ w _ lo g R _ _ _ _ _ _ [.int .i64 z1, .complex .f64 (fl z2) (fl y2), .int .i64 z3, .bool z4, .int .i64 z5, .int .i64 0, .slice none 0 0, .slice none 0 0, .slice none 0 0, .slice none 0 0, .slice none 0 0, .int .i64 0]) := Lib.hid (Y5.out.put 4 (.int .i64 z5))
  have q5 := X5.out.rw.c0
  clear hr5 hk5 hj5 hz5 q4 f4 d4
  go_wp2_with fail
  refine (int_rw X5.out.rw).mono ?_
  rintro en w6 ⟨z6, rfl, hz6, A6, c6, l6, e6, hr6, hk6, hj6⟩
  have HZ6 := Lib.hid hz6
  have HJ6 := Lib.hid hj6
  have Y6 := Lib.hid (X5.out.red hr6 hk6)
  have f6 := Y6.out.fr 5
  have d6 := Y6.out.cell 5
  have X6 : Hid (BX _ _ w _ lo g R _ _ _ _ _ _ [.int .i64 z1, .complex .f64 (fl z2) (fl y2), .int .i64 z3, .bool z4, .int .i64 z5, .int .i64 z6, .slice none 0 0, .slice none 0 0, .slice none 0 0, .slice none 0 0, .slice none 0 0, .int .i64 0]) := Lib.hid (Y6.out.put 5 (.int .i64 z6))
  have q6 := X6.out.rw.c0
  clear hr6 hk6 hj6 hz6 q5 f5 d5
  go_wp2_with fail
  refine (mOwn X6.out.rw 1024 (by decide)).mono ?_
  rintro en w7 ⟨v7, rfl, s7, A7, c7, l7, e7, g7, hr7, hk7, hf7, hn7, hj7⟩
  obtain ⟨L7, M7, K7, rfl⟩ := FList.sl hf7.now
  have HJ7 := Lib.hid hj7
  have HN7 := Lib.hid hn7
  have Y7 := Lib.hid (X6.out.got hr7 hk7 hf7)
  have f7 := Y7.out.fr 6
  have d7 := Y7.out.cell 6
  have X7 : Hid (BX _ _ w _ lo g R _ _ _ _ _ _ [.int .i64 z1, .complex .f64 (fl z2) (fl y2), .int .i64 z3, .bool z4, .int .i64 z5, .int .i64 z6, .slice L7 M7 K7, .slice none 0 0, .slice none 0 0, .slice none 0 0, .slice none 0 0, .int .i64 0]) := Lib.hid (Y7.out.put 6 (.slice L7 M7 K7))
  have q7 := X7.out.rw.c0
  clear hr7 hk7 hj7 hf7 hn7 q6 f6 d6
  go_wp2_with fail
  refine (mCopy X7.out.rw 1024 (by decide)).mono ?_
  rintro en w8 ⟨v8, rfl, s8, A8, c8, l8, e8, g8, hr8, hk8, hf8, hn8, hj8⟩
  obtain ⟨L8, M8, K8, rfl⟩ := FList.sl hf8.now
  have HJ8 := Lib.hid hj8
  have HN8 := Lib.hid hn8
  have Y8 := Lib.hid (X7.out.got hr8 hk8 hf8)
  have f8 := Y8.out.fr 7
  have d8 := Y8.out.cell 7
  have X8 : Hid (BX _ _ w _ lo g R _ _ _ _ _ _ [.int .i64 z1, .complex .f64 (fl z2) (fl y2), .int .i64 z3, .bool z4, .int .i64 z5, .int .i64 z6, .slice L7 M7 K7, .slice L8 M8 K8, .slice none 0 0, .slice none 0 0, .slice none 0 0, .int .i64 0]) := Lib.hid (Y8.out.put 7 (.slice L8 M8 K8))
  have q8 := X8.out.rw.c0
  clear hr8 hk8 hj8 hf8 hn8 q7 f7 d7
  go_wp2_with fail
  refine (mResv X8.out.rw 1024 (by decide)).mono ?_
  rintro en w9 ⟨v9, rfl, s9, A9, c9, l9, e9, g9, hr9, hk9, hf9, hn9, hj9⟩
  obtain ⟨L9, M9, K9, rfl⟩ := FList.sl hf9.now
  have HJ9 := Lib.hid hj9
  have HN9 := Lib.hid hn9
  have Y9 := Lib.hid (X8.out.got hr9 hk9 hf9)
  have f9 := Y9.out.fr 8
  have d9 := Y9.out.cell 8
  have X9 : Hid (BX _ _ w _ lo g R _ _ _ _ _ _ [.int .i64 z1, .complex .f64 (fl z2) (fl y2), .int .i64 z3, .bool z4, .int .i64 z5, .int .i64 z6, .slice L7 M7 K7, .slice L8 M8 K8, .slice L9 M9 K9, .slice none 0 0, .slice none 0 0, .int .i64 0]) := Lib.hid (Y9.out.put 8 (.slice L9 M9 K9))
  have q9 := X9.out.rw.c0
  clear hr9 hk9 hj9 hf9 hn9 q8 f8 d8
  go_wp2_with fail
  refine (mSlot X9.out.rw 1024 (by decide)).mono ?_
  rintro en w10 ⟨v10, rfl, s10, A10, c10, l10, e10, g10, hr10, hk10, hf10, hn10, hj10⟩
  obtain ⟨L10, M10, K10, rfl⟩ := FList.sl hf10.now
  have HJ10 := Lib.hid hj10
  have HN10 := Lib.hid hn10
  have Y10 := Lib.hid (X9.out.got hr10 hk10 hf10)
  have f10 := Y10.out.fr 9
  have d10 := Y10.out.cell 9
  have X10 : Hid (BX _ _ w _ lo g R _ _ _ _ _ _ [.int .i64 z1, .complex .f64 (fl z2) (fl y2), .int .i64 z3, .bool z4, .int .i64 z5, .int .i64 z6, .slice L7 M7 K7, .slice L8 M8 K8, .slice L9 M9 K9, .slice L10 M10 K10, .slice none 0 0, .int .i64 0]) := Lib.hid (Y10.out.put 9 (.slice L10 M10 K10))
  have q10 := X10.out.rw.c0
  clear hr10 hk10 hj10 hf10 hn10 q9 f9 d9
  go_wp2_with fail
  refine (mUse X10.out.rw 1024 (by decide)).mono ?_
  rintro en w11 ⟨v11, rfl, s11, A11, c11, l11, e11, g11, hr11, hk11, hf11, hn11, hj11⟩
  obtain ⟨L11, M11, K11, rfl⟩ := FList.sl hf11.now
  have HJ11 := Lib.hid hj11
  have HN11 := Lib.hid hn11
  have Y11 := Lib.hid (X10.out.got hr11 hk11 hf11)
  have f11 := Y11.out.fr 10
  have d11 := Y11.out.cell 10
  have X11 : Hid (BX _ _ w _ lo g R _ _ _ _ _ _ [.int .i64 z1, .complex .f64 (fl z2) (fl y2), .int .i64 z3, .bool z4, .int .i64 z5, .int .i64 z6, .slice L7 M7 K7, .slice L8 M8 K8, .slice L9 M9 K9, .slice L10 M10 K10, .slice L11 M11 K11, .int .i64 0]) := Lib.hid (Y11.out.put 10 (.slice L11 M11 K11))
  have q11 := X11.out.rw.c0
  clear hr11 hk11 hj11 hf11 hn11 q10 f10 d10
  go_wp2_with fail
  refine (int_rw X11.out.rw).mono ?_
  rintro en w12 ⟨z12, rfl, hz12, A12, c12, l12, e12, hr12, hk12, hj12⟩
  have HZ12 := Lib.hid hz12
  have HJ12 := Lib.hid hj12
  have Y12 := Lib.hid (X11.out.red hr12 hk12)
  have f12 := Y12.out.fr 11
  have d12 := Y12.out.cell 11
  have X12 : Hid (BX _ _ w _ lo g R _ _ _ _ _ _ [.int .i64 z1, .complex .f64 (fl z2) (fl y2), .int .i64 z3, .bool z4, .int .i64 z5, .int .i64 z6, .slice L7 M7 K7, .slice L8 M8 K8, .slice L9 M9 K9, .slice L10 M10 K10, .slice L11 M11 K11, .int .i64 z12]) := Lib.hid (Y12.out.put 11 (.int .i64 z12))
  clear hr12 hk12 hj12 hz12 q11 f11 d11
  go_wp2_with (refine wpList_load_ad rfl 46 (.tmp 3) rfl ⟨w.heap.size + 1, 0, none⟩ rfl [.int .i64 z1, .complex .f64 (fl z2) (fl y2), .int .i64 z3, .bool z4, .int .i64 z5, .int .i64 z6, .slice L7 M7 K7, .slice L8 M8 K8, .slice L9 M9 K9, .slice L10 M10 K10, .slice L11 M11 K11, .int .i64 z12] (cells_of X12.out.box) _ Try.underlying46 rfl 12 (by kernel_rfl) rfl ?_; refine stop ?_)
  obtain ⟨w13, hw13⟩ : ∃ w13, w13 = w12.setCell ⟨w.heap.size + 1, 11, none⟩ (.int .i64 z12) := ⟨_, rfl⟩
  rw [← hw13] at X12 ⊢
  clear hw13 f12 d12
  refine go ?_
  have HE : Hid (EState w13.heap.size w13 [.int .i64 z1, .complex .f64 (fl z2) (fl y2), .int .i64 z3, .bool z4, .int .i64 z5, .int .i64 z6, .slice L7 M7 K7, .slice L8 M8 K8, .slice L9 M9 K9, .slice L10 M10 K10, .slice L11 M11 K11, .int .i64 z12] ([some (iv z1)] ++ ([some (uv z2 ++ uv y2)] ++ ([some (iv z3)] ++ ([some (uv (if z4 then 1 else 0))] ++ ([some (iv z5)] ++ ([some (iv z6)] ++ (s7 ++ (s8 ++ (s9 ++ (s10 ++ (s11 ++ ([some (iv z12)]))))))))))))) := by obtain ⟨⟨⟨⟨⟨_, F1⟩, F2⟩, F3⟩, F4⟩, F5⟩ := X12.out.ff _ (Keep.refl _ _); exact ⟨_, _, _, _, _, _, _, _, _, _, _, _, _, _, _, _, _, _, _, _, _, _, _, _, z_int z1 HZ1.out, ⟨z2, y2, HZ2.out, HY2.out, rfl, rfl⟩, z_int z3 HZ3.out, ⟨z4, rfl, rfl⟩, z_int z5 HZ5.out, z_int z6 HZ6.out, F1, F2, F3, F4, F5, z_int z12 HZ12.out, rfl, rfl⟩
  go_wp2_with (refine wpList_store_row2 rfl 46 (.tmp 2) (.tmp 71) rfl w.heap.size (List.toArray [.int .i64 z1, .complex .f64 (fl z2) (fl y2), .int .i64 z3, .bool z4, .int .i64 z5, .int .i64 z6, .slice L7 M7 K7, .slice L8 M8 K8, .slice L9 M9 K9, .slice L10 M10 K10, .slice L11 M11 K11, .int .i64 z12]) rfl rfl 46 _ X12.out.res (by kernel_rfl) rfl (ones_all (HE.out.one)) ?_; refine stop ?_)
  have X13 := Lib.hid (X12.out.done [.int .i64 z1, .complex .f64 (fl z2) (fl y2), .int .i64 z3, .bool z4, .int .i64 z5, .int .i64 z6, .slice L7 M7 K7, .slice L8 M8 K8, .slice L9 M9 K9, .slice L10 M10 K10, .slice L11 M11 K11, .int .i64 z12])
  obtain ⟨w14, hw14⟩ : ∃ w14, w14 = w13.setRow w.heap.size (List.toArray [.int .i64 z1, .complex .f64 (fl z2) (fl y2), .int .i64 z3, .bool z4, .int .i64 z5, .int .i64 z6, .slice L7 M7 K7, .slice L8 M8 K8, .slice L9 M9 K9, .slice L10 M10 K10, .slice L11 M11 K11, .int .i64 z12]) := ⟨_, rfl⟩
  rw [← hw14] at X13 ⊢
  clear hw14
  refine go ?_
  go_wp2_with fail
  (try simp only [Exit.inBlock, Exit.then])
  refine bodyPost_ret (results_cell_row rfl _ _ w.heap.size 46 (List.toArray [.int .i64 z1, .complex .f64 (fl z2) (fl y2), .int .i64 z3, .bool z4, .int .i64 z5, .int .i64 z6, .slice L7 M7 K7, .slice L8 M8 K8, .slice L9 M9 K9, .slice L10 M10 K10, .slice L11 M11 K11, .int .i64 z12]) _ _ rfl X13.out.res Try.underlying46 rfl (by kernel_rfl)) rfl ?_
  refine ⟨[.int .i64 z1, .complex .f64 (fl z2) (fl y2), .int .i64 z3, .bool z4, .int .i64 z5, .int .i64 z6, .slice L7 M7 K7, .slice L8 M8 K8, .slice L9 M9 K9, .slice L10 M10 K10, .slice L11 M11 K11, .int .i64 z12], rfl, [some (iv z1)] ++ ([some (uv z2 ++ uv y2)] ++ ([some (iv z3)] ++ ([some (uv (if z4 then 1 else 0))] ++ ([some (iv z5)] ++ ([some (iv z6)] ++ (s7 ++ (s8 ++ (s9 ++ (s10 ++ (s11 ++ ([some (iv z12)]))))))))))), _, _, _, _, _, X13.out.rw, X13.out.keep, fun u hu => by obtain ⟨⟨⟨⟨⟨_, F1⟩, F2⟩, F3⟩, F4⟩, F5⟩ := X13.out.ff _ (hu.mono (T := DD w) (fun i (hi : i < w.heap.size) => by show i < w.heap.size + 2; omega)); exact ⟨_, _, _, _, _, _, _, _, _, _, _, _, _, _, _, _, _, _, _, _, _, _, _, _, z_int z1 HZ1.out, ⟨z2, y2, HZ2.out, HY2.out, rfl, rfl⟩, z_int z3 HZ3.out, ⟨z4, rfl, rfl⟩, z_int z5 HZ5.out, z_int z6 HZ6.out, F1, F2, F3, F4, F5, z_int z12 HZ12.out, rfl, rfl⟩, by simp [HN7.out, HN8.out, HN9.out, HN10.out, HN11.out], fun x1 x2 => ?_⟩
  obtain ⟨a12, t12⟩ := HJ12.out x1
  obtain ⟨a11, b11, t11⟩ := HJ11.out a12 x2
  obtain ⟨a10, b10, t10⟩ := HJ10.out a11 b11
  obtain ⟨a9, b9, t9⟩ := HJ9.out a10 b10
  obtain ⟨a8, b8, t8⟩ := HJ8.out a9 b9
  obtain ⟨a7, b7, t7⟩ := HJ7.out a8 b8
  obtain ⟨a6, t6⟩ := HJ6.out a7
  obtain ⟨a5, t5⟩ := HJ5.out a6
  obtain ⟨a4, t4⟩ := HJ4.out a5
  obtain ⟨a3, t3⟩ := HJ3.out a4
  obtain ⟨a2, t2⟩ := HJ2.out a3
  obtain ⟨a1, t1⟩ := HJ1.out a2
  exact ⟨a1, b7, by rw [t1, t2, t3, t4, t5, t6, t7, t8, t9, t10, t11, t12]; simp [flat, flat_append]⟩
end Go.Proofs.Ytagocmbcbbhehaa
