/- wire.reader's structs: what they tell. By a program. -/
import Derived.Test.YtagocmbcbbhehaaRwD
namespace Go.Proofs.Ytagocmbcbbhehaa
set_option linter.unusedVariables false
open Go.RowKit
set_option maxRecDepth 20000 in
set_option maxHeartbeats 8000000 in
theorem rId {w : World} {lo g R c : Nat} {A : Option Addr} {l : List UInt8} {e : Int} {lg : Bool} (h : RW w lo g R A c l e lg) :
    Calls Try.prog 54 #[.pointer (some ⟨R, 0, none⟩)] w (Red EId w lo g R l e lg) := by
  have X0 := Lib.hid (BX.new h 23 [.int .i64 0, .int .i64 0])
  have q0 := X0.out.rw.c0
  clear h
  go_enter Try.func54, Try.ntmps54
  go_wp2_with fail
  refine (int_rw X0.out.rw).mono ?_
  rintro en w1 ⟨z1, rfl, hz1, A1, c1, l1, e1, hr1, hk1, hj1⟩
  have HZ1 := Lib.hid hz1
  have HJ1 := Lib.hid hj1
  have Y1 := Lib.hid (X0.out.red hr1 hk1)
  have f1 := Y1.out.fr 0
  have d1 := Y1.out.cell 0
  have X1 : Hid (BX _ _ w _ lo g R _ _ _ _ _ _ [.int .i64 z1, .int .i64 0]) := Lib.hid (Y1.out.put 0 (.int .i64 z1))
  have q1 := X1.out.rw.c0
  clear hr1 hk1 hj1 hz1 q0
  go_wp2_with fail
  refine (int_rw X1.out.rw).mono ?_
  rintro en w2 ⟨z2, rfl, hz2, A2, c2, l2, e2, hr2, hk2, hj2⟩
  have HZ2 := Lib.hid hz2
  have HJ2 := Lib.hid hj2
  have Y2 := Lib.hid (X1.out.red hr2 hk2)
  have f2 := Y2.out.fr 1
  have d2 := Y2.out.cell 1
  have X2 : Hid (BX _ _ w _ lo g R _ _ _ _ _ _ [.int .i64 z1, .int .i64 z2]) := Lib.hid (Y2.out.put 1 (.int .i64 z2))
  clear hr2 hk2 hj2 hz2 q1 f1 d1
  go_wp2_with (refine wpList_load_ad rfl 23 (.tmp 3) rfl ⟨w.heap.size + 1, 0, none⟩ rfl [.int .i64 z1, .int .i64 z2] (cells_of X2.out.box) _ Try.underlying23 rfl 2 (by kernel_rfl) rfl ?_; refine stop ?_)
  obtain ⟨w3, hw3⟩ : ∃ w3, w3 = w2.setCell ⟨w.heap.size + 1, 1, none⟩ (.int .i64 z2) := ⟨_, rfl⟩
  rw [← hw3] at X2 ⊢
  clear hw3 f2 d2
  refine go ?_
  have HE : Hid (EId w3.heap.size w3 [.int .i64 z1, .int .i64 z2] ([some (iv z1)] ++ ([some (iv z2)]))) := by exact ⟨_, _, _, _, z_int z1 HZ1.out, z_int z2 HZ2.out, rfl, rfl⟩
  go_wp2_with (refine wpList_store_row2 rfl 23 (.tmp 2) (.tmp 16) rfl w.heap.size (List.toArray [.int .i64 z1, .int .i64 z2]) rfl rfl 23 _ X2.out.res (by kernel_rfl) rfl (ones_all (HE.out.one)) ?_; refine stop ?_)
  have X3 := Lib.hid (X2.out.done [.int .i64 z1, .int .i64 z2])
  obtain ⟨w4, hw4⟩ : ∃ w4, w4 = w3.setRow w.heap.size (List.toArray [.int .i64 z1, .int .i64 z2]) := ⟨_, rfl⟩
  rw [← hw4] at X3 ⊢
  clear hw4
  refine go ?_
  go_wp2_with fail
  (try simp only [Exit.inBlock, Exit.then])
  refine bodyPost_ret (results_cell_row rfl _ _ w.heap.size 23 (List.toArray [.int .i64 z1, .int .i64 z2]) _ _ rfl X3.out.res Try.underlying23 rfl (by kernel_rfl)) rfl ?_
  refine ⟨[.int .i64 z1, .int .i64 z2], rfl, [some (iv z1)] ++ ([some (iv z2)]), _, _, _, _, _, X3.out.rw, X3.out.keep, fun u hu => by exact ⟨_, _, _, _, z_int z1 HZ1.out, z_int z2 HZ2.out, rfl, rfl⟩, by simp, fun x1 x2 => ?_⟩
  obtain ⟨a2, t2⟩ := HJ2.out x1
  obtain ⟨a1, t1⟩ := HJ1.out a2
  exact ⟨a1, x2, by rw [t1, t2]; simp [flat]⟩
set_option maxRecDepth 20000 in
set_option maxHeartbeats 8000000 in
theorem rSpan {w : World} {lo g R c : Nat} {A : Option Addr} {l : List UInt8} {e : Int} {lg : Bool} (h : RW w lo g R A c l e lg) :
    Calls Try.prog 59 #[.pointer (some ⟨R, 0, none⟩)] w (Red ESpan w lo g R l e lg) := by
  have X0 := Lib.hid (BX.new h 98 [.int .i64 0, .int .i64 0])
  have q0 := X0.out.rw.c0
  clear h
  go_enter Try.func59, Try.ntmps59
  go_wp2_with fail
  refine (int_rw X0.out.rw).mono ?_
  rintro en w1 ⟨z1, rfl, hz1, A1, c1, l1, e1, hr1, hk1, hj1⟩
  have HZ1 := Lib.hid hz1
  have HJ1 := Lib.hid hj1
  have Y1 := Lib.hid (X0.out.red hr1 hk1)
  have f1 := Y1.out.fr 0
  have d1 := Y1.out.cell 0
  have X1 : Hid (BX _ _ w _ lo g R _ _ _ _ _ _ [.int .i64 z1, .int .i64 0]) := Lib.hid (Y1.out.put 0 (.int .i64 z1))
  have q1 := X1.out.rw.c0
  clear hr1 hk1 hj1 hz1 q0
  go_wp2_with fail
  refine (int_rw X1.out.rw).mono ?_
  rintro en w2 ⟨z2, rfl, hz2, A2, c2, l2, e2, hr2, hk2, hj2⟩
  have HZ2 := Lib.hid hz2
  have HJ2 := Lib.hid hj2
  have Y2 := Lib.hid (X1.out.red hr2 hk2)
  have f2 := Y2.out.fr 1
  have d2 := Y2.out.cell 1
  have X2 : Hid (BX _ _ w _ lo g R _ _ _ _ _ _ [.int .i64 z1, .int .i64 z2]) := Lib.hid (Y2.out.put 1 (.int .i64 z2))
  clear hr2 hk2 hj2 hz2 q1 f1 d1
  go_wp2_with (refine wpList_load_ad rfl 98 (.tmp 3) rfl ⟨w.heap.size + 1, 0, none⟩ rfl [.int .i64 z1, .int .i64 z2] (cells_of X2.out.box) _ Try.underlying98 rfl 2 (by kernel_rfl) rfl ?_; refine stop ?_)
  obtain ⟨w3, hw3⟩ : ∃ w3, w3 = w2.setCell ⟨w.heap.size + 1, 1, none⟩ (.int .i64 z2) := ⟨_, rfl⟩
  rw [← hw3] at X2 ⊢
  clear hw3 f2 d2
  refine go ?_
  have HE : Hid (ESpan w3.heap.size w3 [.int .i64 z1, .int .i64 z2] ([some (iv z1)] ++ ([some (iv z2)]))) := by exact ⟨_, _, _, _, z_int z1 HZ1.out, z_int z2 HZ2.out, rfl, rfl⟩
  go_wp2_with (refine wpList_store_row2 rfl 98 (.tmp 2) (.tmp 16) rfl w.heap.size (List.toArray [.int .i64 z1, .int .i64 z2]) rfl rfl 98 _ X2.out.res (by kernel_rfl) rfl (ones_all (HE.out.one)) ?_; refine stop ?_)
  have X3 := Lib.hid (X2.out.done [.int .i64 z1, .int .i64 z2])
  obtain ⟨w4, hw4⟩ : ∃ w4, w4 = w3.setRow w.heap.size (List.toArray [.int .i64 z1, .int .i64 z2]) := ⟨_, rfl⟩
  rw [← hw4] at X3 ⊢
  clear hw4
  refine go ?_
  go_wp2_with fail
  (try simp only [Exit.inBlock, Exit.then])
  refine bodyPost_ret (results_cell_row rfl _ _ w.heap.size 98 (List.toArray [.int .i64 z1, .int .i64 z2]) _ _ rfl X3.out.res Try.underlying98 rfl (by kernel_rfl)) rfl ?_
  refine ⟨[.int .i64 z1, .int .i64 z2], rfl, [some (iv z1)] ++ ([some (iv z2)]), _, _, _, _, _, X3.out.rw, X3.out.keep, fun u hu => by exact ⟨_, _, _, _, z_int z1 HZ1.out, z_int z2 HZ2.out, rfl, rfl⟩, by simp, fun x1 x2 => ?_⟩
  obtain ⟨a2, t2⟩ := HJ2.out x1
  obtain ⟨a1, t1⟩ := HJ1.out a2
  exact ⟨a1, x2, by rw [t1, t2]; simp [flat]⟩
set_option maxRecDepth 20000 in
set_option maxHeartbeats 8000000 in
theorem rPart {w : World} {lo g R c : Nat} {A : Option Addr} {l : List UInt8} {e : Int} {lg : Bool} (h : RW w lo g R A c l e lg) :
    Calls Try.prog 89 #[.pointer (some ⟨R, 0, none⟩)] w (Red EPart w lo g R l e lg) := by
  have X0 := Lib.hid (BX.new h 165 [.int .i64 0, .int .i64 0, .int .i64 0])
  have q0 := X0.out.rw.c0
  clear h
  go_enter Try.func89, Try.ntmps89
  go_wp2_with fail
  refine (int_rw X0.out.rw).mono ?_
  rintro en w1 ⟨z1, rfl, hz1, A1, c1, l1, e1, hr1, hk1, hj1⟩
  have HZ1 := Lib.hid hz1
  have HJ1 := Lib.hid hj1
  have Y1 := Lib.hid (X0.out.red hr1 hk1)
  have f1 := Y1.out.fr 0
  have d1 := Y1.out.cell 0
  have X1 : Hid (BX _ _ w _ lo g R _ _ _ _ _ _ [.int .i64 z1, .int .i64 0, .int .i64 0]) := Lib.hid (Y1.out.put 0 (.int .i64 z1))
  have q1 := X1.out.rw.c0
  clear hr1 hk1 hj1 hz1 q0
  go_wp2_with fail
  refine (int_rw X1.out.rw).mono ?_
  rintro en w2 ⟨z2, rfl, hz2, A2, c2, l2, e2, hr2, hk2, hj2⟩
  have HZ2 := Lib.hid hz2
  have HJ2 := Lib.hid hj2
  have Y2 := Lib.hid (X1.out.red hr2 hk2)
  have f2 := Y2.out.fr 1
  have d2 := Y2.out.cell 1
  have X2 : Hid (BX _ _ w _ lo g R _ _ _ _ _ _ [.int .i64 z1, .int .i64 z2, .int .i64 0]) := Lib.hid (Y2.out.put 1 (.int .i64 z2))
  have q2 := X2.out.rw.c0
  clear hr2 hk2 hj2 hz2 q1 f1 d1
  go_wp2_with fail
  refine (int_rw X2.out.rw).mono ?_
  rintro en w3 ⟨z3, rfl, hz3, A3, c3, l3, e3, hr3, hk3, hj3⟩
  have HZ3 := Lib.hid hz3
  have HJ3 := Lib.hid hj3
  have Y3 := Lib.hid (X2.out.red hr3 hk3)
  have f3 := Y3.out.fr 2
  have d3 := Y3.out.cell 2
  have X3 : Hid (BX _ _ w _ lo g R _ _ _ _ _ _ [.int .i64 z1, .int .i64 z2, .int .i64 z3]) := Lib.hid (Y3.out.put 2 (.int .i64 z3))
  clear hr3 hk3 hj3 hz3 q2 f2 d2
  go_wp2_with (refine wpList_load_ad rfl 165 (.tmp 3) rfl ⟨w.heap.size + 1, 0, none⟩ rfl [.int .i64 z1, .int .i64 z2, .int .i64 z3] (cells_of X3.out.box) _ Try.underlying165 rfl 3 (by kernel_rfl) rfl ?_; refine stop ?_)
  obtain ⟨w4, hw4⟩ : ∃ w4, w4 = w3.setCell ⟨w.heap.size + 1, 2, none⟩ (.int .i64 z3) := ⟨_, rfl⟩
  rw [← hw4] at X3 ⊢
  clear hw4 f3 d3
  refine go ?_
  have HE : Hid (EPart w4.heap.size w4 [.int .i64 z1, .int .i64 z2, .int .i64 z3] ([some (iv z1)] ++ ([some (iv z2)] ++ ([some (iv z3)])))) := by exact ⟨_, _, _, _, _, _, z_int z1 HZ1.out, z_int z2 HZ2.out, z_int z3 HZ3.out, rfl, rfl⟩
  go_wp2_with (refine wpList_store_row2 rfl 165 (.tmp 2) (.tmp 22) rfl w.heap.size (List.toArray [.int .i64 z1, .int .i64 z2, .int .i64 z3]) rfl rfl 165 _ X3.out.res (by kernel_rfl) rfl (ones_all (HE.out.one)) ?_; refine stop ?_)
  have X4 := Lib.hid (X3.out.done [.int .i64 z1, .int .i64 z2, .int .i64 z3])
  obtain ⟨w5, hw5⟩ : ∃ w5, w5 = w4.setRow w.heap.size (List.toArray [.int .i64 z1, .int .i64 z2, .int .i64 z3]) := ⟨_, rfl⟩
  rw [← hw5] at X4 ⊢
  clear hw5
  refine go ?_
  go_wp2_with fail
  (try simp only [Exit.inBlock, Exit.then])
  refine bodyPost_ret (results_cell_row rfl _ _ w.heap.size 165 (List.toArray [.int .i64 z1, .int .i64 z2, .int .i64 z3]) _ _ rfl X4.out.res Try.underlying165 rfl (by kernel_rfl)) rfl ?_
  refine ⟨[.int .i64 z1, .int .i64 z2, .int .i64 z3], rfl, [some (iv z1)] ++ ([some (iv z2)] ++ ([some (iv z3)])), _, _, _, _, _, X4.out.rw, X4.out.keep, fun u hu => by exact ⟨_, _, _, _, _, _, z_int z1 HZ1.out, z_int z2 HZ2.out, z_int z3 HZ3.out, rfl, rfl⟩, by simp, fun x1 x2 => ?_⟩
  obtain ⟨a3, t3⟩ := HJ3.out x1
  obtain ⟨a2, t2⟩ := HJ2.out a3
  obtain ⟨a1, t1⟩ := HJ1.out a2
  exact ⟨a1, x2, by rw [t1, t2, t3]; simp [flat]⟩
set_option maxRecDepth 20000 in
set_option maxHeartbeats 8000000 in
theorem rUse {w : World} {lo g R c : Nat} {A : Option Addr} {l : List UInt8} {e : Int} {lg : Bool} (h : RW w lo g R A c l e lg) :
    Calls Try.prog 74 #[.pointer (some ⟨R, 0, none⟩)] w (Red EUse w lo g R l e lg) := by
  have X0 := Lib.hid (BX.new h 123 [.int .i64 0, .int .i64 0, .int .i64 0])
  have q0 := X0.out.rw.c0
  clear h
  go_enter Try.func74, Try.ntmps74
  go_wp2_with fail
  refine (int_rw X0.out.rw).mono ?_
  rintro en w1 ⟨z1, rfl, hz1, A1, c1, l1, e1, hr1, hk1, hj1⟩
  have HZ1 := Lib.hid hz1
  have HJ1 := Lib.hid hj1
  have Y1 := Lib.hid (X0.out.red hr1 hk1)
  have f1 := Y1.out.fr 0
  have d1 := Y1.out.cell 0
  have X1 : Hid (BX _ _ w _ lo g R _ _ _ _ _ _ [.int .i64 z1, .int .i64 0, .int .i64 0]) := Lib.hid (Y1.out.put 0 (.int .i64 z1))
  have q1 := X1.out.rw.c0
  clear hr1 hk1 hj1 hz1 q0
  go_wp2_with fail
  refine (int_rw X1.out.rw).mono ?_
  rintro en w2 ⟨z2, rfl, hz2, A2, c2, l2, e2, hr2, hk2, hj2⟩
  have HZ2 := Lib.hid hz2
  have HJ2 := Lib.hid hj2
  have Y2 := Lib.hid (X1.out.red hr2 hk2)
  have f2 := Y2.out.fr 1
  have d2 := Y2.out.cell 1
  have X2 : Hid (BX _ _ w _ lo g R _ _ _ _ _ _ [.int .i64 z1, .int .i64 z2, .int .i64 0]) := Lib.hid (Y2.out.put 1 (.int .i64 z2))
  have q2 := X2.out.rw.c0
  clear hr2 hk2 hj2 hz2 q1 f1 d1
  go_wp2_with fail
  refine (int_rw X2.out.rw).mono ?_
  rintro en w3 ⟨z3, rfl, hz3, A3, c3, l3, e3, hr3, hk3, hj3⟩
  have HZ3 := Lib.hid hz3
  have HJ3 := Lib.hid hj3
  have Y3 := Lib.hid (X2.out.red hr3 hk3)
  have f3 := Y3.out.fr 2
  have d3 := Y3.out.cell 2
  have X3 : Hid (BX _ _ w _ lo g R _ _ _ _ _ _ [.int .i64 z1, .int .i64 z2, .int .i64 z3]) := Lib.hid (Y3.out.put 2 (.int .i64 z3))
  clear hr3 hk3 hj3 hz3 q2 f2 d2
  go_wp2_with (refine wpList_load_ad rfl 123 (.tmp 3) rfl ⟨w.heap.size + 1, 0, none⟩ rfl [.int .i64 z1, .int .i64 z2, .int .i64 z3] (cells_of X3.out.box) _ Try.underlying123 rfl 3 (by kernel_rfl) rfl ?_; refine stop ?_)
  obtain ⟨w4, hw4⟩ : ∃ w4, w4 = w3.setCell ⟨w.heap.size + 1, 2, none⟩ (.int .i64 z3) := ⟨_, rfl⟩
  rw [← hw4] at X3 ⊢
  clear hw4 f3 d3
  refine go ?_
  have HE : Hid (EUse w4.heap.size w4 [.int .i64 z1, .int .i64 z2, .int .i64 z3] ([some (iv z1)] ++ ([some (iv z2)] ++ ([some (iv z3)])))) := by exact ⟨_, _, _, _, _, _, z_int z1 HZ1.out, z_int z2 HZ2.out, z_int z3 HZ3.out, rfl, rfl⟩
  go_wp2_with (refine wpList_store_row2 rfl 123 (.tmp 2) (.tmp 22) rfl w.heap.size (List.toArray [.int .i64 z1, .int .i64 z2, .int .i64 z3]) rfl rfl 123 _ X3.out.res (by kernel_rfl) rfl (ones_all (HE.out.one)) ?_; refine stop ?_)
  have X4 := Lib.hid (X3.out.done [.int .i64 z1, .int .i64 z2, .int .i64 z3])
  obtain ⟨w5, hw5⟩ : ∃ w5, w5 = w4.setRow w.heap.size (List.toArray [.int .i64 z1, .int .i64 z2, .int .i64 z3]) := ⟨_, rfl⟩
  rw [← hw5] at X4 ⊢
  clear hw5
  refine go ?_
  go_wp2_with fail
  (try simp only [Exit.inBlock, Exit.then])
  refine bodyPost_ret (results_cell_row rfl _ _ w.heap.size 123 (List.toArray [.int .i64 z1, .int .i64 z2, .int .i64 z3]) _ _ rfl X4.out.res Try.underlying123 rfl (by kernel_rfl)) rfl ?_
  refine ⟨[.int .i64 z1, .int .i64 z2, .int .i64 z3], rfl, [some (iv z1)] ++ ([some (iv z2)] ++ ([some (iv z3)])), _, _, _, _, _, X4.out.rw, X4.out.keep, fun u hu => by exact ⟨_, _, _, _, _, _, z_int z1 HZ1.out, z_int z2 HZ2.out, z_int z3 HZ3.out, rfl, rfl⟩, by simp, fun x1 x2 => ?_⟩
  obtain ⟨a3, t3⟩ := HJ3.out x1
  obtain ⟨a2, t2⟩ := HJ2.out a3
  obtain ⟨a1, t1⟩ := HJ1.out a2
  exact ⟨a1, x2, by rw [t1, t2, t3]; simp [flat]⟩
set_option maxRecDepth 20000 in
set_option maxHeartbeats 8000000 in
theorem rBusy {w : World} {lo g R c : Nat} {A : Option Addr} {l : List UInt8} {e : Int} {lg : Bool} (h : RW w lo g R A c l e lg) :
    Calls Try.prog 57 #[.pointer (some ⟨R, 0, none⟩)] w (Red EBusy w lo g R l e lg) := by
  have X0 := Lib.hid (BX.new h 30 [.int .i64 0, .int .i64 0, .complex .f64 0 0])
  have q0 := X0.out.rw.c0
  clear h
  go_enter Try.func57, Try.ntmps57
  go_wp2_with fail
  refine (int_rw X0.out.rw).mono ?_
  rintro en w1 ⟨z1, rfl, hz1, A1, c1, l1, e1, hr1, hk1, hj1⟩
  have HZ1 := Lib.hid hz1
  have HJ1 := Lib.hid hj1
  have Y1 := Lib.hid (X0.out.red hr1 hk1)
  have f1 := Y1.out.fr 0
  have d1 := Y1.out.cell 0
  have X1 : Hid (BX _ _ w _ lo g R _ _ _ _ _ _ [.int .i64 z1, .int .i64 0, .complex .f64 0 0]) := Lib.hid (Y1.out.put 0 (.int .i64 z1))
  have q1 := X1.out.rw.c0
  clear hr1 hk1 hj1 hz1 q0
  go_wp2_with fail
  refine (int_rw X1.out.rw).mono ?_
  rintro en w2 ⟨z2, rfl, hz2, A2, c2, l2, e2, hr2, hk2, hj2⟩
  have HZ2 := Lib.hid hz2
  have HJ2 := Lib.hid hj2
  have Y2 := Lib.hid (X1.out.red hr2 hk2)
  have f2 := Y2.out.fr 1
  have d2 := Y2.out.cell 1
  have X2 : Hid (BX _ _ w _ lo g R _ _ _ _ _ _ [.int .i64 z1, .int .i64 z2, .complex .f64 0 0]) := Lib.hid (Y2.out.put 1 (.int .i64 z2))
  have q2 := X2.out.rw.c0
  clear hr2 hk2 hj2 hz2 q1 f1 d1
  go_wp2_with fail
  refine (amount_rw X2.out.rw).mono ?_
  rintro en w3 ⟨z3, y3, rfl, hz3, hy3, A3, c3, l3, e3, hr3, hk3, hj3⟩
  have HZ3 := Lib.hid hz3
  have HY3 := Lib.hid hy3
  have HJ3 := Lib.hid hj3
  have Y3 := Lib.hid (X2.out.red hr3 hk3)
  have f3 := Y3.out.fr 2
  have d3 := Y3.out.cell 2
  have X3 : Hid (BX _ _ w _ lo g R _ _ _ _ _ _ [.int .i64 z1, .int .i64 z2, .complex .f64 (fl z3) (fl y3)]) := Lib.hid (Y3.out.put 2 (.complex .f64 (fl z3) (fl y3)))
  have st3 := run_store Try.prog w3 ⟨w.heap.size + 1, 2, none⟩ (.complex .f64 (fl z3) (fl y3)) .plain rfl
  clear hr3 hk3 hj3 hz3 hy3 q2 f2 d2
  go_wp2_with (refine wpList_load_ad rfl 30 (.tmp 3) rfl ⟨w.heap.size + 1, 0, none⟩ rfl [.int .i64 z1, .int .i64 z2, .complex .f64 (fl z3) (fl y3)] (cells_of X3.out.box) _ Try.underlying30 rfl 3 (by kernel_rfl) rfl ?_; refine stop ?_)
  obtain ⟨w4, hw4⟩ : ∃ w4, w4 = w3.setCell ⟨w.heap.size + 1, 2, none⟩ (.complex .f64 (fl z3) (fl y3)) := ⟨_, rfl⟩
  rw [← hw4] at X3 ⊢
  clear hw4 f3 d3 st3
  refine go ?_
  have HE : Hid (EBusy w4.heap.size w4 [.int .i64 z1, .int .i64 z2, .complex .f64 (fl z3) (fl y3)] ([some (iv z1)] ++ ([some (iv z2)] ++ ([some (uv z3 ++ uv y3)])))) := by exact ⟨_, _, _, _, _, _, z_int z1 HZ1.out, z_int z2 HZ2.out, ⟨z3, y3, HZ3.out, HY3.out, rfl, rfl⟩, rfl, rfl⟩
  go_wp2_with (refine wpList_store_row2 rfl 30 (.tmp 2) (.tmp 22) rfl w.heap.size (List.toArray [.int .i64 z1, .int .i64 z2, .complex .f64 (fl z3) (fl y3)]) rfl rfl 30 _ X3.out.res (by kernel_rfl) rfl (ones_all (HE.out.one)) ?_; refine stop ?_)
  have X4 := Lib.hid (X3.out.done [.int .i64 z1, .int .i64 z2, .complex .f64 (fl z3) (fl y3)])
  obtain ⟨w5, hw5⟩ : ∃ w5, w5 = w4.setRow w.heap.size (List.toArray [.int .i64 z1, .int .i64 z2, .complex .f64 (fl z3) (fl y3)]) := ⟨_, rfl⟩
  rw [← hw5] at X4 ⊢
  clear hw5
  refine go ?_
  go_wp2_with fail
  (try simp only [Exit.inBlock, Exit.then])
  refine bodyPost_ret (results_cell_row rfl _ _ w.heap.size 30 (List.toArray [.int .i64 z1, .int .i64 z2, .complex .f64 (fl z3) (fl y3)]) _ _ rfl X4.out.res Try.underlying30 rfl (by kernel_rfl)) rfl ?_
  refine ⟨[.int .i64 z1, .int .i64 z2, .complex .f64 (fl z3) (fl y3)], rfl, [some (iv z1)] ++ ([some (iv z2)] ++ ([some (uv z3 ++ uv y3)])), _, _, _, _, _, X4.out.rw, X4.out.keep, fun u hu => by exact ⟨_, _, _, _, _, _, z_int z1 HZ1.out, z_int z2 HZ2.out, ⟨z3, y3, HZ3.out, HY3.out, rfl, rfl⟩, rfl, rfl⟩, by simp, fun x1 x2 => ?_⟩
  obtain ⟨a3, t3⟩ := HJ3.out x1
  obtain ⟨a2, t2⟩ := HJ2.out a3
  obtain ⟨a1, t1⟩ := HJ1.out a2
  exact ⟨a1, x2, by rw [t1, t2, t3]; simp [flat]⟩
end Go.Proofs.Ytagocmbcbbhehaa
