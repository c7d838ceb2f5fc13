/- wire.whole and wire.Read.. of a record, a frame, a state: what they tell. By a program. -/
import Derived.Test.YtagocmbcbbhehaaRwP
import Derived.Test.YtagocmbcbbhehaaRwO
namespace Go.Proofs.Ytagocmbcbbhehaa
set_option linter.unusedVariables false
open Go.RowKit
set_option maxRecDepth 20000 in
set_option maxHeartbeats 4000000 in
theorem wholeRec (B : Option Addr) (m d : Nat) (k : List UInt8) (w : World) (hm : m = k.length) (hk : RB w B k) (hb : m ≤ 65536) :
    Calls Try.prog 21 #[.slice B m d, .func (Fn.func 22) #[] #[]] w (Whole ERec 24 k w) := by
  have HN := Lib.hid (newr_rk B m d k (w.alloc (.cells (List.toArray [.int .i64 0, .int .i64 0, .int .i64 0, .int .i64 0, .int .i64 0, .int .i64 0, .int .i64 0, .int .i64 0, .bool false, .int .i64 0, .int .i64 0, .int .i64 0, .complex .f64 0 0, .int .i64 0, .int .i64 0, .int .i64 0, .int .i64 0, .slice none 0 0, .bool false, .int .i64 0, .int .i64 0, .complex .f64 0 0, .slice none 0 0, .slice none 0 0]) 33)) hm (hk.alloc _) (by omega))
  clear hm hk hb
  go_enter Try.func21, Try.ntmps21
  go_wp2_with fail
  refine HN.out.mono ?_
  rintro en w1 ⟨g, A, c, rfl, hr, hn⟩
  have HR1 := Lib.hid (rw_new hr)
  have hle := hr.le
  have hlt := hr.lt
  rw [World.size_alloc] at hle
  have HG : Hid (w.heap.size < g ∧ g < w1.heap.size) := ⟨hle, hlt⟩
  have HB1 := Lib.hid ((hn.block w.heap.size (by rw [World.size_alloc]; omega)).trans (heap_alloc_new w _))
  have HK1 : Hid (Keep (fun i => w.heap.size ≤ i) w (w1.alloc (.cells #[.pointer (some ⟨g, 0, none⟩), .bool false] 129))) := Keep.of_new (New.trans (New.trans ((Below.refl _ _).alloc (Nat.le_refl _) _) hn) ((Below.refl _ _).alloc (Nat.le_refl _) _))
  clear hr hn hle hlt HN
  go_wp2_with fail
  refine (rRec HR1.out).mono ?_
  rintro en w3 ⟨cl, rfl, cs, A3, c3, l3, e3, g3, hr3, hk3, hf3, hnn, hj3⟩
  have hz : cl.length = 24 := by obtain ⟨v1, v2, v3, v4, v5, v6, v7, v8, v9, v10, v11, v12, v13, v14, v15, v16, v17, v18, v19, v20, v21, v22, v23, v24, rfl⟩ := hf3.now.ex; rfl
  have HZ := Lib.hid hz
  have HON := Lib.hid hf3.now.one
  have HF3 := Lib.hid hf3
  have HNN := Lib.hid hnn
  have HJ3 := Lib.hid hj3
  have HK3 := Lib.hid (Keep.trans_new HK1.out hk3 (fun i hi _ => by have := HG.out; show w.heap.size ≤ i; rcases hi with hi | hi <;> omega))
  have HB3 := Lib.hid ((hk3.block w.heap.size (by have := HG.out; rw [World.size_alloc]; omega) (by have := HG.out; rintro (hi | hi) <;> omega)).trans (((Below.refl _ _).alloc (Nat.le_refl _) _ : New w1 _).block w.heap.size (by have := HG.out; omega) |>.trans HB1.out))
  have HR3 := Lib.hid hr3
  clear hz hf3 hnn hj3 hk3 hr3
  go_wp2_with (refine wpList_store_new w3 rfl 33 (.tmp 7) (.tmp 15) rfl rfl _ cl rfl 24 (by kernel_rfl) HZ.out rfl HON.out ?_; refine stop ?_)
  obtain ⟨gs, hgs⟩ : ∃ gs, gs = w3.heap.size := ⟨_, rfl⟩
  obtain ⟨w4, hw4⟩ : ∃ w4, w4 = w3.alloc (.cells cl.toArray 33) := ⟨_, rfl⟩
  have hn4 : New w3 w4 := by rw [hw4]; exact (Below.refl _ _).alloc (Nat.le_refl _) _
  have HS4 : Hid (w4.heap[gs]? = some (.cells cl.toArray 33 (0, 0))) := by rw [hw4, hgs]; exact heap_alloc_new w3 _
  have HR4 := Lib.hid (HR3.out.new hn4)
  have HB4 := Lib.hid ((hn4.block _ (Array.getElem?_eq_some_iff.1 HB3.out).1).trans HB3.out)
  have HK4 := Lib.hid (Keep.trans_new HK3.out (Keep.of_new (S := fun _ => False) hn4) (fun i hi _ => hi.elim))
  have HX4 := Lib.hid (HF3.out.on (Keep.of_new hn4))
  rw [← hw4, ← hgs]
  clear hw4 hgs hn4
  have q0 := HR4.out.c0
  have q1 := HR4.out.c1
  refine go ?_
  cases g3 with
  | true =>
    go_wp2_with (refine wpList_load_ad rfl 33 (.tmp 8) rfl ⟨w4.heap.size, 0, none⟩ rfl [.int .i64 0, .int .i64 0, .int .i64 0, .int .i64 0, .int .i64 0, .int .i64 0, .int .i64 0, .int .i64 0, .bool false, .int .i64 0, .int .i64 0, .int .i64 0, .complex .f64 0 0, .int .i64 0, .int .i64 0, .int .i64 0, .int .i64 0, .slice none 0 0, .bool false, .int .i64 0, .int .i64 0, .complex .f64 0 0, .slice none 0 0, .slice none 0 0] (cells_of (heap_alloc_new w4 _)) _ Try.underlying33 rfl 24 (by kernel_rfl) rfl ?_; refine stop ?_)
    obtain ⟨w5, hw5⟩ : ∃ w5, w5 = w4.alloc (.cells (List.toArray [.int .i64 0, .int .i64 0, .int .i64 0, .int .i64 0, .int .i64 0, .int .i64 0, .int .i64 0, .int .i64 0, .bool false, .int .i64 0, .int .i64 0, .int .i64 0, .complex .f64 0 0, .int .i64 0, .int .i64 0, .int .i64 0, .int .i64 0, .slice none 0 0, .bool false, .int .i64 0, .int .i64 0, .complex .f64 0 0, .slice none 0 0, .slice none 0 0]) 33) := ⟨_, rfl⟩
    have hn5 : New w4 w5 := by rw [hw5]; exact (Below.refl _ _).alloc (Nat.le_refl _) _
    have HB5 := Lib.hid ((hn5.block _ (Array.getElem?_eq_some_iff.1 HB4.out).1).trans HB4.out)
    have HK5 := Lib.hid (Keep.trans_new HK4.out (Keep.of_new (S := fun _ => False) hn5) (fun i hi _ => hi.elim))
    rw [← hw5]
    clear hw5 hn5
    refine go ?_
    go_wp2_with (refine wpList_store_row2 rfl 33 (.tmp 4) (.tmp 28) rfl w.heap.size (List.toArray [.int .i64 0, .int .i64 0, .int .i64 0, .int .i64 0, .int .i64 0, .int .i64 0, .int .i64 0, .int .i64 0, .bool false, .int .i64 0, .int .i64 0, .int .i64 0, .complex .f64 0 0, .int .i64 0, .int .i64 0, .int .i64 0, .int .i64 0, .slice none 0 0, .bool false, .int .i64 0, .int .i64 0, .complex .f64 0 0, .slice none 0 0, .slice none 0 0]) rfl rfl 33 _ HB5.out (by kernel_rfl) rfl (ones_all (List.all_eq_true.1 rfl)) ?_; refine stop ?_)
    have HB6 : Hid ((w5.setRow w.heap.size (List.toArray [.int .i64 0, .int .i64 0, .int .i64 0, .int .i64 0, .int .i64 0, .int .i64 0, .int .i64 0, .int .i64 0, .bool false, .int .i64 0, .int .i64 0, .int .i64 0, .complex .f64 0 0, .int .i64 0, .int .i64 0, .int .i64 0, .int .i64 0, .slice none 0 0, .bool false, .int .i64 0, .int .i64 0, .complex .f64 0 0, .slice none 0 0, .slice none 0 0])).heap[w.heap.size]? = some (.cells (List.toArray [.int .i64 0, .int .i64 0, .int .i64 0, .int .i64 0, .int .i64 0, .int .i64 0, .int .i64 0, .int .i64 0, .bool false, .int .i64 0, .int .i64 0, .int .i64 0, .complex .f64 0 0, .int .i64 0, .int .i64 0, .int .i64 0, .int .i64 0, .slice none 0 0, .bool false, .int .i64 0, .int .i64 0, .complex .f64 0 0, .slice none 0 0, .slice none 0 0]) 33 (0, 0))) := Lib.hid (setRow_heap _ _ _ _ _ _ HB5.out)
    have HK6 := Lib.hid (Keep.trans_new HK5.out (Keep.of_grown (grownBy_setRow w5 w.heap.size (List.toArray [.int .i64 0, .int .i64 0, .int .i64 0, .int .i64 0, .int .i64 0, .int .i64 0, .int .i64 0, .int .i64 0, .bool false, .int .i64 0, .int .i64 0, .int .i64 0, .complex .f64 0 0, .int .i64 0, .int .i64 0, .int .i64 0, .int .i64 0, .slice none 0 0, .bool false, .int .i64 0, .int .i64 0, .complex .f64 0 0, .slice none 0 0, .slice none 0 0]))) (fun i hi _ => by injection hi with hi; omega))
    obtain ⟨w6, hw6⟩ : ∃ w6, w6 = w5.setRow w.heap.size (List.toArray [.int .i64 0, .int .i64 0, .int .i64 0, .int .i64 0, .int .i64 0, .int .i64 0, .int .i64 0, .int .i64 0, .bool false, .int .i64 0, .int .i64 0, .int .i64 0, .complex .f64 0 0, .int .i64 0, .int .i64 0, .int .i64 0, .int .i64 0, .slice none 0 0, .bool false, .int .i64 0, .int .i64 0, .complex .f64 0 0, .slice none 0 0, .slice none 0 0]) := ⟨_, rfl⟩
    rw [← hw6] at HB6 HK6 ⊢
    clear hw6
    refine go ?_
    go_wp2_with fail
    (try simp only [Exit.inBlock, Exit.then])
    refine bodyPost_ret (results_cell_row_tmp rfl _ _ w.heap.size 33 (List.toArray [.int .i64 0, .int .i64 0, .int .i64 0, .int .i64 0, .int .i64 0, .int .i64 0, .int .i64 0, .int .i64 0, .bool false, .int .i64 0, .int .i64 0, .int .i64 0, .complex .f64 0 0, .int .i64 0, .int .i64 0, .int .i64 0, .int .i64 0, .slice none 0 0, .bool false, .int .i64 0, .int .i64 0, .complex .f64 0 0, .slice none 0 0, .slice none 0 0]) _ _ (.int .i64 6) rfl rfl HB6.out Try.underlying33 rfl (by kernel_rfl)) rfl ?_
    exact ⟨HK6.out.new (fun i hi => hi), _, 6, rfl, rfl, List.all_eq_true.1 rfl, fun h => absurd h (by decide)⟩
  | false =>
    obtain ⟨x, hx⟩ : ∃ x, (if e3 = 0 ∧ 0 < l3.length then (4 : Int) else e3) = x := ⟨_, rfl⟩
    have HD := Lib.hid (done_rk HR4.out.rk x hx)
    have HX := Lib.hid hx
    clear hx
    go_wp2_with fail
    refine HD.out.mono ?_
    rintro en w4' ⟨rfl, rfl⟩
    clear HD
    by_cases hx0 : x = 0
    · subst hx0
      go_wp2_with (refine wpList_load_ad rfl 33 (.tmp 7) rfl ⟨gs, 0, none⟩ rfl cl (cells_of HS4.out) _ Try.underlying33 rfl 24 (by kernel_rfl) HZ.out ?_; refine stop ?_)
      refine go ?_
      go_wp2_with (refine wpList_store_row2 rfl 33 (.tmp 4) (.tmp 29) rfl w.heap.size cl.toArray rfl rfl 33 _ HB4.out (by rw [show cl.toArray.size = 24 from HZ.out]; kernel_rfl) (by rw [show cl.toArray.size = 24 from HZ.out]; rfl) (ones_all HON.out) ?_; refine stop ?_)
      have HB6 : Hid ((w4.setRow w.heap.size cl.toArray).heap[w.heap.size]? = some (.cells cl.toArray 33 (0, 0))) := Lib.hid (setRow_heap _ _ _ _ _ _ HB4.out)
      have hk6 := Keep.of_grown (grownBy_setRow w4 w.heap.size cl.toArray)
      have HK6 := Lib.hid (Keep.trans_new HK4.out hk6 (fun i hi _ => by injection hi with hi; omega))
      have HX6 := Lib.hid (HX4.out.on (hk6.mono (fun i hi => by injection hi with hi; have := HG.out; rw [World.size_alloc]; omega)))
      obtain ⟨w6, hw6⟩ : ∃ w6, w6 = w4.setRow w.heap.size cl.toArray := ⟨_, rfl⟩
      rw [← hw6] at HB6 HK6 HX6 ⊢
      clear hw6 hk6
      refine go ?_
      go_wp2_with fail
      (try simp only [Exit.inBlock, Exit.then])
      refine bodyPost_ret (results_cell_row_tmp rfl _ _ w.heap.size 33 cl.toArray _ _ (.int .i64 0) rfl rfl HB6.out Try.underlying33 rfl (by rw [show cl.toArray.size = 24 from HZ.out]; kernel_rfl)) rfl ?_
      refine ⟨HK6.out.new (fun i hi => hi), cl, 0, rfl, HZ.out, HON.out, fun _ => ⟨cs, HX6.out.le (by have := HG.out; rw [World.size_alloc]; omega), HNN.out, ?_⟩⟩
      obtain ⟨h1, h2⟩ := done_code HX.out
      obtain ⟨_, _, h3⟩ := HJ3.out h1 (by trivial)
      rw [h3, List.eq_nil_of_length_eq_zero h2, List.append_nil]
    · have hx0' : (x == 0) = false := by simpa using hx0
      go_wp2_with (refine wpList_load_ad rfl 33 (.tmp 8) rfl ⟨w4.heap.size, 0, none⟩ rfl [.int .i64 0, .int .i64 0, .int .i64 0, .int .i64 0, .int .i64 0, .int .i64 0, .int .i64 0, .int .i64 0, .bool false, .int .i64 0, .int .i64 0, .int .i64 0, .complex .f64 0 0, .int .i64 0, .int .i64 0, .int .i64 0, .int .i64 0, .slice none 0 0, .bool false, .int .i64 0, .int .i64 0, .complex .f64 0 0, .slice none 0 0, .slice none 0 0] (cells_of (heap_alloc_new w4 _)) _ Try.underlying33 rfl 24 (by kernel_rfl) rfl ?_; refine stop ?_)
      obtain ⟨w5, hw5⟩ : ∃ w5, w5 = w4.alloc (.cells (List.toArray [.int .i64 0, .int .i64 0, .int .i64 0, .int .i64 0, .int .i64 0, .int .i64 0, .int .i64 0, .int .i64 0, .bool false, .int .i64 0, .int .i64 0, .int .i64 0, .complex .f64 0 0, .int .i64 0, .int .i64 0, .int .i64 0, .int .i64 0, .slice none 0 0, .bool false, .int .i64 0, .int .i64 0, .complex .f64 0 0, .slice none 0 0, .slice none 0 0]) 33) := ⟨_, rfl⟩
      have hn5 : New w4 w5 := by rw [hw5]; exact (Below.refl _ _).alloc (Nat.le_refl _) _
      have HB5 := Lib.hid ((hn5.block _ (Array.getElem?_eq_some_iff.1 HB4.out).1).trans HB4.out)
      have HK5 := Lib.hid (Keep.trans_new HK4.out (Keep.of_new (S := fun _ => False) hn5) (fun i hi _ => hi.elim))
      rw [← hw5]
      clear hw5 hn5
      refine go ?_
      go_wp2_with (refine wpList_store_row2 rfl 33 (.tmp 4) (.tmp 28) rfl w.heap.size (List.toArray [.int .i64 0, .int .i64 0, .int .i64 0, .int .i64 0, .int .i64 0, .int .i64 0, .int .i64 0, .int .i64 0, .bool false, .int .i64 0, .int .i64 0, .int .i64 0, .complex .f64 0 0, .int .i64 0, .int .i64 0, .int .i64 0, .int .i64 0, .slice none 0 0, .bool false, .int .i64 0, .int .i64 0, .complex .f64 0 0, .slice none 0 0, .slice none 0 0]) rfl rfl 33 _ HB5.out (by kernel_rfl) rfl (ones_all (List.all_eq_true.1 rfl)) ?_; refine stop ?_)
      have HB6 : Hid ((w5.setRow w.heap.size (List.toArray [.int .i64 0, .int .i64 0, .int .i64 0, .int .i64 0, .int .i64 0, .int .i64 0, .int .i64 0, .int .i64 0, .bool false, .int .i64 0, .int .i64 0, .int .i64 0, .complex .f64 0 0, .int .i64 0, .int .i64 0, .int .i64 0, .int .i64 0, .slice none 0 0, .bool false, .int .i64 0, .int .i64 0, .complex .f64 0 0, .slice none 0 0, .slice none 0 0])).heap[w.heap.size]? = some (.cells (List.toArray [.int .i64 0, .int .i64 0, .int .i64 0, .int .i64 0, .int .i64 0, .int .i64 0, .int .i64 0, .int .i64 0, .bool false, .int .i64 0, .int .i64 0, .int .i64 0, .complex .f64 0 0, .int .i64 0, .int .i64 0, .int .i64 0, .int .i64 0, .slice none 0 0, .bool false, .int .i64 0, .int .i64 0, .complex .f64 0 0, .slice none 0 0, .slice none 0 0]) 33 (0, 0))) := Lib.hid (setRow_heap _ _ _ _ _ _ HB5.out)
      have HK6 := Lib.hid (Keep.trans_new HK5.out (Keep.of_grown (grownBy_setRow w5 w.heap.size (List.toArray [.int .i64 0, .int .i64 0, .int .i64 0, .int .i64 0, .int .i64 0, .int .i64 0, .int .i64 0, .int .i64 0, .bool false, .int .i64 0, .int .i64 0, .int .i64 0, .complex .f64 0 0, .int .i64 0, .int .i64 0, .int .i64 0, .int .i64 0, .slice none 0 0, .bool false, .int .i64 0, .int .i64 0, .complex .f64 0 0, .slice none 0 0, .slice none 0 0]))) (fun i hi _ => by injection hi with hi; omega))
      obtain ⟨w6, hw6⟩ : ∃ w6, w6 = w5.setRow w.heap.size (List.toArray [.int .i64 0, .int .i64 0, .int .i64 0, .int .i64 0, .int .i64 0, .int .i64 0, .int .i64 0, .int .i64 0, .bool false, .int .i64 0, .int .i64 0, .int .i64 0, .complex .f64 0 0, .int .i64 0, .int .i64 0, .int .i64 0, .int .i64 0, .slice none 0 0, .bool false, .int .i64 0, .int .i64 0, .complex .f64 0 0, .slice none 0 0, .slice none 0 0]) := ⟨_, rfl⟩
      rw [← hw6] at HB6 HK6 ⊢
      clear hw6
      refine go ?_
      go_wp2_with fail
      (try simp only [Exit.inBlock, Exit.then])
      refine bodyPost_ret (results_cell_row_tmp rfl _ _ w.heap.size 33 (List.toArray [.int .i64 0, .int .i64 0, .int .i64 0, .int .i64 0, .int .i64 0, .int .i64 0, .int .i64 0, .int .i64 0, .bool false, .int .i64 0, .int .i64 0, .int .i64 0, .complex .f64 0 0, .int .i64 0, .int .i64 0, .int .i64 0, .int .i64 0, .slice none 0 0, .bool false, .int .i64 0, .int .i64 0, .complex .f64 0 0, .slice none 0 0, .slice none 0 0]) _ _ (.int .i64 6) rfl rfl HB6.out Try.underlying33 rfl (by kernel_rfl)) rfl ?_
      exact ⟨HK6.out.new (fun i hi => hi), _, 6, rfl, rfl, List.all_eq_true.1 rfl, fun h => absurd h (by decide)⟩
set_option maxRecDepth 20000 in
set_option maxHeartbeats 4000000 in
theorem readRec (B : Option Addr) (m d : Nat) (k : List UInt8) (w : World) (hm : m = k.length) (hk : RB w B k) (hb : m ≤ 65536) :
    Calls Try.prog 9 #[.slice B m d] w (Whole ERec 24 k w) := by
  have HN := Lib.hid (wholeRec B m d k (w.alloc (.cells (List.toArray [.int .i64 0, .int .i64 0, .int .i64 0, .int .i64 0, .int .i64 0, .int .i64 0, .int .i64 0, .int .i64 0, .bool false, .int .i64 0, .int .i64 0, .int .i64 0, .complex .f64 0 0, .int .i64 0, .int .i64 0, .int .i64 0, .int .i64 0, .slice none 0 0, .bool false, .int .i64 0, .int .i64 0, .complex .f64 0 0, .slice none 0 0, .slice none 0 0]) 33)) hm (hk.alloc _) (by omega))
  clear hm hk hb
  go_enter Try.func9, Try.ntmps9
  go_wp2_with fail
  refine HN.out.mono ?_
  rintro en w1 ⟨hn, cl, x, rfl, hz, hon, hx⟩
  have HZ := Lib.hid hz
  have HON := Lib.hid hon
  have HX := Lib.hid hx
  have HB1 := Lib.hid ((hn.block w.heap.size (by rw [World.size_alloc]; omega)).trans (heap_alloc_new w _))
  have HK1 : Hid (Keep (fun i => w.heap.size ≤ i) w w1) := Keep.of_new (New.trans ((Below.refl _ _).alloc (Nat.le_refl _) _) hn)
  clear hz hon hx hn HN
  go_wp2_with (refine wpList_store_row2 rfl 33 (.tmp 2) (.tmp 6) rfl w.heap.size cl.toArray rfl rfl 33 _ HB1.out (by rw [show cl.toArray.size = 24 from HZ.out]; kernel_rfl) (by rw [show cl.toArray.size = 24 from HZ.out]; rfl) (ones_all HON.out) ?_; refine stop ?_)
  have HB6 : Hid ((w1.setRow w.heap.size cl.toArray).heap[w.heap.size]? = some (.cells cl.toArray 33 (0, 0))) := Lib.hid (setRow_heap _ _ _ _ _ _ HB1.out)
  have HK2 := Lib.hid (Keep.of_grown (grownBy_setRow w1 w.heap.size cl.toArray))
  have HK6 := Lib.hid (Keep.trans_new HK1.out HK2.out (fun i hi _ => by injection hi with hi; omega))
  obtain ⟨w6, hw6⟩ : ∃ w6, w6 = w1.setRow w.heap.size cl.toArray := ⟨_, rfl⟩
  rw [← hw6] at HB6 HK6 HK2 ⊢
  clear hw6
  refine go ?_
  go_wp2_with fail
  (try simp only [Exit.inBlock, Exit.then])
  refine bodyPost_ret (results_cell_row_tmp rfl _ _ w.heap.size 33 cl.toArray _ _ (.int .i64 x) rfl rfl HB6.out Try.underlying33 rfl (by rw [show cl.toArray.size = 24 from HZ.out]; kernel_rfl)) rfl ?_
  refine ⟨HK6.out.new (fun i hi => hi), cl, x, rfl, HZ.out, HON.out, fun h => ?_⟩
  obtain ⟨cs, h1, h2, h3⟩ := HX.out h
  exact ⟨cs, (h1.on (HK2.out.mono (fun i hi => by injection hi with hi; rw [World.size_alloc]; omega))).le (by rw [World.size_alloc]; omega), h2, h3⟩
set_option maxRecDepth 20000 in
set_option maxHeartbeats 4000000 in
theorem wholeFrame (B : Option Addr) (m d : Nat) (k : List UInt8) (w : World) (hm : m = k.length) (hk : RB w B k) (hb : m ≤ 65536) :
    Calls Try.prog 25 #[.slice B m d, .func (Fn.func 26) #[] #[]] w (Whole EFrame 7 k w) := by
  have HN := Lib.hid (newr_rk B m d k (w.alloc (.cells (List.toArray [.int .i64 0, .int .i64 0, .int .i64 0, .int .i64 0, .int .i64 0, .int .i64 0, .slice none 0 0]) 55)) hm (hk.alloc _) (by omega))
  clear hm hk hb
  go_enter Try.func25, Try.ntmps25
  go_wp2_with fail
  refine HN.out.mono ?_
  rintro en w1 ⟨g, A, c, rfl, hr, hn⟩
  have HR1 := Lib.hid (rw_new hr)
  have hle := hr.le
  have hlt := hr.lt
  rw [World.size_alloc] at hle
  have HG : Hid (w.heap.size < g ∧ g < w1.heap.size) := ⟨hle, hlt⟩
  have HB1 := Lib.hid ((hn.block w.heap.size (by rw [World.size_alloc]; omega)).trans (heap_alloc_new w _))
  have HK1 : Hid (Keep (fun i => w.heap.size ≤ i) w (w1.alloc (.cells #[.pointer (some ⟨g, 0, none⟩), .bool false] 129))) := Keep.of_new (New.trans (New.trans ((Below.refl _ _).alloc (Nat.le_refl _) _) hn) ((Below.refl _ _).alloc (Nat.le_refl _) _))
  clear hr hn hle hlt HN
  go_wp2_with fail
  refine (rFrame HR1.out).mono ?_
  rintro en w3 ⟨cl, rfl, cs, A3, c3, l3, e3, g3, hr3, hk3, hf3, hnn, hj3⟩
  have hz : cl.length = 7 := by obtain ⟨v1, v2, v3, v4, v5, v6, v7, rfl⟩ := hf3.now.ex; rfl
  have HZ := Lib.hid hz
  have HON := Lib.hid hf3.now.one
  have HF3 := Lib.hid hf3
  have HNN := Lib.hid hnn
  have HJ3 := Lib.hid hj3
  have HK3 := Lib.hid (Keep.trans_new HK1.out hk3 (fun i hi _ => by have := HG.out; show w.heap.size ≤ i; rcases hi with hi | hi <;> omega))
  have HB3 := Lib.hid ((hk3.block w.heap.size (by have := HG.out; rw [World.size_alloc]; omega) (by have := HG.out; rintro (hi | hi) <;> omega)).trans (((Below.refl _ _).alloc (Nat.le_refl _) _ : New w1 _).block w.heap.size (by have := HG.out; omega) |>.trans HB1.out))
  have HR3 := Lib.hid hr3
  clear hz hf3 hnn hj3 hk3 hr3
  go_wp2_with (refine wpList_store_new w3 rfl 55 (.tmp 7) (.tmp 15) rfl rfl _ cl rfl 7 (by kernel_rfl) HZ.out rfl HON.out ?_; refine stop ?_)
  obtain ⟨gs, hgs⟩ : ∃ gs, gs = w3.heap.size := ⟨_, rfl⟩
  obtain ⟨w4, hw4⟩ : ∃ w4, w4 = w3.alloc (.cells cl.toArray 55) := ⟨_, rfl⟩
  have hn4 : New w3 w4 := by rw [hw4]; exact (Below.refl _ _).alloc (Nat.le_refl _) _
  have HS4 : Hid (w4.heap[gs]? = some (.cells cl.toArray 55 (0, 0))) := by rw [hw4, hgs]; exact heap_alloc_new w3 _
  have HR4 := Lib.hid (HR3.out.new hn4)
  have HB4 := Lib.hid ((hn4.block _ (Array.getElem?_eq_some_iff.1 HB3.out).1).trans HB3.out)
  have HK4 := Lib.hid (Keep.trans_new HK3.out (Keep.of_new (S := fun _ => False) hn4) (fun i hi _ => hi.elim))
  have HX4 := Lib.hid (HF3.out.on (Keep.of_new hn4))
  rw [← hw4, ← hgs]
  clear hw4 hgs hn4
  have q0 := HR4.out.c0
  have q1 := HR4.out.c1
  refine go ?_
  cases g3 with
  | true =>
    go_wp2_with (refine wpList_load_ad rfl 55 (.tmp 8) rfl ⟨w4.heap.size, 0, none⟩ rfl [.int .i64 0, .int .i64 0, .int .i64 0, .int .i64 0, .int .i64 0, .int .i64 0, .slice none 0 0] (cells_of (heap_alloc_new w4 _)) _ Try.underlying55 rfl 7 (by kernel_rfl) rfl ?_; refine stop ?_)
    obtain ⟨w5, hw5⟩ : ∃ w5, w5 = w4.alloc (.cells (List.toArray [.int .i64 0, .int .i64 0, .int .i64 0, .int .i64 0, .int .i64 0, .int .i64 0, .slice none 0 0]) 55) := ⟨_, rfl⟩
    have hn5 : New w4 w5 := by rw [hw5]; exact (Below.refl _ _).alloc (Nat.le_refl _) _
    have HB5 := Lib.hid ((hn5.block _ (Array.getElem?_eq_some_iff.1 HB4.out).1).trans HB4.out)
    have HK5 := Lib.hid (Keep.trans_new HK4.out (Keep.of_new (S := fun _ => False) hn5) (fun i hi _ => hi.elim))
    rw [← hw5]
    clear hw5 hn5
    refine go ?_
    go_wp2_with (refine wpList_store_row2 rfl 55 (.tmp 4) (.tmp 28) rfl w.heap.size (List.toArray [.int .i64 0, .int .i64 0, .int .i64 0, .int .i64 0, .int .i64 0, .int .i64 0, .slice none 0 0]) rfl rfl 55 _ HB5.out (by kernel_rfl) rfl (ones_all (List.all_eq_true.1 rfl)) ?_; refine stop ?_)
    have HB6 : Hid ((w5.setRow w.heap.size (List.toArray [.int .i64 0, .int .i64 0, .int .i64 0, .int .i64 0, .int .i64 0, .int .i64 0, .slice none 0 0])).heap[w.heap.size]? = some (.cells (List.toArray [.int .i64 0, .int .i64 0, .int .i64 0, .int .i64 0, .int .i64 0, .int .i64 0, .slice none 0 0]) 55 (0, 0))) := Lib.hid (setRow_heap _ _ _ _ _ _ HB5.out)
    have HK6 := Lib.hid (Keep.trans_new HK5.out (Keep.of_grown (grownBy_setRow w5 w.heap.size (List.toArray [.int .i64 0, .int .i64 0, .int .i64 0, .int .i64 0, .int .i64 0, .int .i64 0, .slice none 0 0]))) (fun i hi _ => by injection hi with hi; omega))
    obtain ⟨w6, hw6⟩ : ∃ w6, w6 = w5.setRow w.heap.size (List.toArray [.int .i64 0, .int .i64 0, .int .i64 0, .int .i64 0, .int .i64 0, .int .i64 0, .slice none 0 0]) := ⟨_, rfl⟩
    rw [← hw6] at HB6 HK6 ⊢
    clear hw6
    refine go ?_
    go_wp2_with fail
    (try simp only [Exit.inBlock, Exit.then])
    refine bodyPost_ret (results_cell_row_tmp rfl _ _ w.heap.size 55 (List.toArray [.int .i64 0, .int .i64 0, .int .i64 0, .int .i64 0, .int .i64 0, .int .i64 0, .slice none 0 0]) _ _ (.int .i64 6) rfl rfl HB6.out Try.underlying55 rfl (by kernel_rfl)) rfl ?_
    exact ⟨HK6.out.new (fun i hi => hi), _, 6, rfl, rfl, List.all_eq_true.1 rfl, fun h => absurd h (by decide)⟩
  | false =>
    obtain ⟨x, hx⟩ : ∃ x, (if e3 = 0 ∧ 0 < l3.length then (4 : Int) else e3) = x := ⟨_, rfl⟩
    have HD := Lib.hid (done_rk HR4.out.rk x hx)
    have HX := Lib.hid hx
    clear hx
    go_wp2_with fail
    refine HD.out.mono ?_
    rintro en w4' ⟨rfl, rfl⟩
    clear HD
    by_cases hx0 : x = 0
    · subst hx0
      go_wp2_with (refine wpList_load_ad rfl 55 (.tmp 7) rfl ⟨gs, 0, none⟩ rfl cl (cells_of HS4.out) _ Try.underlying55 rfl 7 (by kernel_rfl) HZ.out ?_; refine stop ?_)
      refine go ?_
      go_wp2_with (refine wpList_store_row2 rfl 55 (.tmp 4) (.tmp 29) rfl w.heap.size cl.toArray rfl rfl 55 _ HB4.out (by rw [show cl.toArray.size = 7 from HZ.out]; kernel_rfl) (by rw [show cl.toArray.size = 7 from HZ.out]; rfl) (ones_all HON.out) ?_; refine stop ?_)
      have HB6 : Hid ((w4.setRow w.heap.size cl.toArray).heap[w.heap.size]? = some (.cells cl.toArray 55 (0, 0))) := Lib.hid (setRow_heap _ _ _ _ _ _ HB4.out)
      have hk6 := Keep.of_grown (grownBy_setRow w4 w.heap.size cl.toArray)
      have HK6 := Lib.hid (Keep.trans_new HK4.out hk6 (fun i hi _ => by injection hi with hi; omega))
      have HX6 := Lib.hid (HX4.out.on (hk6.mono (fun i hi => by injection hi with hi; have := HG.out; rw [World.size_alloc]; omega)))
      obtain ⟨w6, hw6⟩ : ∃ w6, w6 = w4.setRow w.heap.size cl.toArray := ⟨_, rfl⟩
      rw [← hw6] at HB6 HK6 HX6 ⊢
      clear hw6 hk6
      refine go ?_
      go_wp2_with fail
      (try simp only [Exit.inBlock, Exit.then])
      refine bodyPost_ret (results_cell_row_tmp rfl _ _ w.heap.size 55 cl.toArray _ _ (.int .i64 0) rfl rfl HB6.out Try.underlying55 rfl (by rw [show cl.toArray.size = 7 from HZ.out]; kernel_rfl)) rfl ?_
      refine ⟨HK6.out.new (fun i hi => hi), cl, 0, rfl, HZ.out, HON.out, fun _ => ⟨cs, HX6.out.le (by have := HG.out; rw [World.size_alloc]; omega), HNN.out, ?_⟩⟩
      obtain ⟨h1, h2⟩ := done_code HX.out
      obtain ⟨_, _, h3⟩ := HJ3.out h1 (by trivial)
      rw [h3, List.eq_nil_of_length_eq_zero h2, List.append_nil]
    · have hx0' : (x == 0) = false := by simpa using hx0
      go_wp2_with (refine wpList_load_ad rfl 55 (.tmp 8) rfl ⟨w4.heap.size, 0, none⟩ rfl [.int .i64 0, .int .i64 0, .int .i64 0, .int .i64 0, .int .i64 0, .int .i64 0, .slice none 0 0] (cells_of (heap_alloc_new w4 _)) _ Try.underlying55 rfl 7 (by kernel_rfl) rfl ?_; refine stop ?_)
      obtain ⟨w5, hw5⟩ : ∃ w5, w5 = w4.alloc (.cells (List.toArray [.int .i64 0, .int .i64 0, .int .i64 0, .int .i64 0, .int .i64 0, .int .i64 0, .slice none 0 0]) 55) := ⟨_, rfl⟩
      have hn5 : New w4 w5 := by rw [hw5]; exact (Below.refl _ _).alloc (Nat.le_refl _) _
      have HB5 := Lib.hid ((hn5.block _ (Array.getElem?_eq_some_iff.1 HB4.out).1).trans HB4.out)
      have HK5 := Lib.hid (Keep.trans_new HK4.out (Keep.of_new (S := fun _ => False) hn5) (fun i hi _ => hi.elim))
      rw [← hw5]
      clear hw5 hn5
      refine go ?_
      go_wp2_with (refine wpList_store_row2 rfl 55 (.tmp 4) (.tmp 28) rfl w.heap.size (List.toArray [.int .i64 0, .int .i64 0, .int .i64 0, .int .i64 0, .int .i64 0, .int .i64 0, .slice none 0 0]) rfl rfl 55 _ HB5.out (by kernel_rfl) rfl (ones_all (List.all_eq_true.1 rfl)) ?_; refine stop ?_)
      have HB6 : Hid ((w5.setRow w.heap.size (List.toArray [.int .i64 0, .int .i64 0, .int .i64 0, .int .i64 0, .int .i64 0, .int .i64 0, .slice none 0 0])).heap[w.heap.size]? = some (.cells (List.toArray [.int .i64 0, .int .i64 0, .int .i64 0, .int .i64 0, .int .i64 0, .int .i64 0, .slice none 0 0]) 55 (0, 0))) := Lib.hid (setRow_heap _ _ _ _ _ _ HB5.out)
      have HK6 := Lib.hid (Keep.trans_new HK5.out (Keep.of_grown (grownBy_setRow w5 w.heap.size (List.toArray [.int .i64 0, .int .i64 0, .int .i64 0, .int .i64 0, .int .i64 0, .int .i64 0, .slice none 0 0]))) (fun i hi _ => by injection hi with hi; omega))
      obtain ⟨w6, hw6⟩ : ∃ w6, w6 = w5.setRow w.heap.size (List.toArray [.int .i64 0, .int .i64 0, .int .i64 0, .int .i64 0, .int .i64 0, .int .i64 0, .slice none 0 0]) := ⟨_, rfl⟩
      rw [← hw6] at HB6 HK6 ⊢
      clear hw6
      refine go ?_
      go_wp2_with fail
      (try simp only [Exit.inBlock, Exit.then])
      refine bodyPost_ret (results_cell_row_tmp rfl _ _ w.heap.size 55 (List.toArray [.int .i64 0, .int .i64 0, .int .i64 0, .int .i64 0, .int .i64 0, .int .i64 0, .slice none 0 0]) _ _ (.int .i64 6) rfl rfl HB6.out Try.underlying55 rfl (by kernel_rfl)) rfl ?_
      exact ⟨HK6.out.new (fun i hi => hi), _, 6, rfl, rfl, List.all_eq_true.1 rfl, fun h => absurd h (by decide)⟩
set_option maxRecDepth 20000 in
set_option maxHeartbeats 4000000 in
theorem readFrame (B : Option Addr) (m d : Nat) (k : List UInt8) (w : World) (hm : m = k.length) (hk : RB w B k) (hb : m ≤ 65536) :
    Calls Try.prog 12 #[.slice B m d] w (Whole EFrame 7 k w) := by
  have HN := Lib.hid (wholeFrame B m d k (w.alloc (.cells (List.toArray [.int .i64 0, .int .i64 0, .int .i64 0, .int .i64 0, .int .i64 0, .int .i64 0, .slice none 0 0]) 55)) hm (hk.alloc _) (by omega))
  clear hm hk hb
  go_enter Try.func12, Try.ntmps12
  go_wp2_with fail
  refine HN.out.mono ?_
  rintro en w1 ⟨hn, cl, x, rfl, hz, hon, hx⟩
  have HZ := Lib.hid hz
  have HON := Lib.hid hon
  have HX := Lib.hid hx
  have HB1 := Lib.hid ((hn.block w.heap.size (by rw [World.size_alloc]; omega)).trans (heap_alloc_new w _))
  have HK1 : Hid (Keep (fun i => w.heap.size ≤ i) w w1) := Keep.of_new (New.trans ((Below.refl _ _).alloc (Nat.le_refl _) _) hn)
  clear hz hon hx hn HN
  go_wp2_with (refine wpList_store_row2 rfl 55 (.tmp 2) (.tmp 6) rfl w.heap.size cl.toArray rfl rfl 55 _ HB1.out (by rw [show cl.toArray.size = 7 from HZ.out]; kernel_rfl) (by rw [show cl.toArray.size = 7 from HZ.out]; rfl) (ones_all HON.out) ?_; refine stop ?_)
  have HB6 : Hid ((w1.setRow w.heap.size cl.toArray).heap[w.heap.size]? = some (.cells cl.toArray 55 (0, 0))) := Lib.hid (setRow_heap _ _ _ _ _ _ HB1.out)
  have HK2 := Lib.hid (Keep.of_grown (grownBy_setRow w1 w.heap.size cl.toArray))
  have HK6 := Lib.hid (Keep.trans_new HK1.out HK2.out (fun i hi _ => by injection hi with hi; omega))
  obtain ⟨w6, hw6⟩ : ∃ w6, w6 = w1.setRow w.heap.size cl.toArray := ⟨_, rfl⟩
  rw [← hw6] at HB6 HK6 HK2 ⊢
  clear hw6
  refine go ?_
  go_wp2_with fail
  (try simp only [Exit.inBlock, Exit.then])
  refine bodyPost_ret (results_cell_row_tmp rfl _ _ w.heap.size 55 cl.toArray _ _ (.int .i64 x) rfl rfl HB6.out Try.underlying55 rfl (by rw [show cl.toArray.size = 7 from HZ.out]; kernel_rfl)) rfl ?_
  refine ⟨HK6.out.new (fun i hi => hi), cl, x, rfl, HZ.out, HON.out, fun h => ?_⟩
  obtain ⟨cs, h1, h2, h3⟩ := HX.out h
  exact ⟨cs, (h1.on (HK2.out.mono (fun i hi => by injection hi with hi; rw [World.size_alloc]; omega))).le (by rw [World.size_alloc]; omega), h2, h3⟩
set_option maxRecDepth 20000 in
set_option maxHeartbeats 4000000 in
theorem wholeState (B : Option Addr) (m d : Nat) (k : List UInt8) (w : World) (hm : m = k.length) (hk : RB w B k) (hb : m ≤ 65536) :
    Calls Try.prog 28 #[.slice B m d, .func (Fn.func 29) #[] #[]] w (Whole EState 12 k w) := by
  have HN := Lib.hid (newr_rk B m d k (w.alloc (.cells (List.toArray [.int .i64 0, .complex .f64 0 0, .int .i64 0, .bool false, .int .i64 0, .int .i64 0, .slice none 0 0, .slice none 0 0, .slice none 0 0, .slice none 0 0, .slice none 0 0, .int .i64 0]) 46)) hm (hk.alloc _) (by omega))
  clear hm hk hb
  go_enter Try.func28, Try.ntmps28
  go_wp2_with fail
  refine HN.out.mono ?_
  rintro en w1 ⟨g, A, c, rfl, hr, hn⟩
  have HR1 := Lib.hid (rw_new hr)
  have hle := hr.le
  have hlt := hr.lt
  rw [World.size_alloc] at hle
  have HG : Hid (w.heap.size < g ∧ g < w1.heap.size) := ⟨hle, hlt⟩
  have HB1 := Lib.hid ((hn.block w.heap.size (by rw [World.size_alloc]; omega)).trans (heap_alloc_new w _))
  have HK1 : Hid (Keep (fun i => w.heap.size ≤ i) w (w1.alloc (.cells #[.pointer (some ⟨g, 0, none⟩), .bool false] 129))) := Keep.of_new (New.trans (New.trans ((Below.refl _ _).alloc (Nat.le_refl _) _) hn) ((Below.refl _ _).alloc (Nat.le_refl _) _))
  clear hr hn hle hlt HN
  go_wp2_with fail
  refine (rState HR1.out).mono ?_
  rintro en w3 ⟨cl, rfl, cs, A3, c3, l3, e3, g3, hr3, hk3, hf3, hnn, hj3⟩
  have hz : cl.length = 12 := by obtain ⟨v1, v2, v3, v4, v5, v6, v7, v8, v9, v10, v11, v12, rfl⟩ := hf3.now.ex; rfl
  have HZ := Lib.hid hz
  have HON := Lib.hid hf3.now.one
  have HF3 := Lib.hid hf3
  have HNN := Lib.hid hnn
  have HJ3 := Lib.hid hj3
  have HK3 := Lib.hid (Keep.trans_new HK1.out hk3 (fun i hi _ => by have := HG.out; show w.heap.size ≤ i; rcases hi with hi | hi <;> omega))
  have HB3 := Lib.hid ((hk3.block w.heap.size (by have := HG.out; rw [World.size_alloc]; omega) (by have := HG.out; rintro (hi | hi) <;> omega)).trans (((Below.refl _ _).alloc (Nat.le_refl _) _ : New w1 _).block w.heap.size (by have := HG.out; omega) |>.trans HB1.out))
  have HR3 := Lib.hid hr3
  clear hz hf3 hnn hj3 hk3 hr3
  go_wp2_with (refine wpList_store_new w3 rfl 46 (.tmp 7) (.tmp 15) rfl rfl _ cl rfl 12 (by kernel_rfl) HZ.out rfl HON.out ?_; refine stop ?_)
  obtain ⟨gs, hgs⟩ : ∃ gs, gs = w3.heap.size := ⟨_, rfl⟩
  obtain ⟨w4, hw4⟩ : ∃ w4, w4 = w3.alloc (.cells cl.toArray 46) := ⟨_, rfl⟩
  have hn4 : New w3 w4 := by rw [hw4]; exact (Below.refl _ _).alloc (Nat.le_refl _) _
  have HS4 : Hid (w4.heap[gs]? = some (.cells cl.toArray 46 (0, 0))) := by rw [hw4, hgs]; exact heap_alloc_new w3 _
  have HR4 := Lib.hid (HR3.out.new hn4)
  have HB4 := Lib.hid ((hn4.block _ (Array.getElem?_eq_some_iff.1 HB3.out).1).trans HB3.out)
  have HK4 := Lib.hid (Keep.trans_new HK3.out (Keep.of_new (S := fun _ => False) hn4) (fun i hi _ => hi.elim))
  have HX4 := Lib.hid (HF3.out.on (Keep.of_new hn4))
  rw [← hw4, ← hgs]
  clear hw4 hgs hn4
  have q0 := HR4.out.c0
  have q1 := HR4.out.c1
  refine go ?_
  cases g3 with
  | true =>
    go_wp2_with (refine wpList_load_ad rfl 46 (.tmp 8) rfl ⟨w4.heap.size, 0, none⟩ rfl [.int .i64 0, .complex .f64 0 0, .int .i64 0, .bool false, .int .i64 0, .int .i64 0, .slice none 0 0, .slice none 0 0, .slice none 0 0, .slice none 0 0, .slice none 0 0, .int .i64 0] (cells_of (heap_alloc_new w4 _)) _ Try.underlying46 rfl 12 (by kernel_rfl) rfl ?_; refine stop ?_)
    obtain ⟨w5, hw5⟩ : ∃ w5, w5 = w4.alloc (.cells (List.toArray [.int .i64 0, .complex .f64 0 0, .int .i64 0, .bool false, .int .i64 0, .int .i64 0, .slice none 0 0, .slice none 0 0, .slice none 0 0, .slice none 0 0, .slice none 0 0, .int .i64 0]) 46) := ⟨_, rfl⟩
    have hn5 : New w4 w5 := by rw [hw5]; exact (Below.refl _ _).alloc (Nat.le_refl _) _
    have HB5 := Lib.hid ((hn5.block _ (Array.getElem?_eq_some_iff.1 HB4.out).1).trans HB4.out)
    have HK5 := Lib.hid (Keep.trans_new HK4.out (Keep.of_new (S := fun _ => False) hn5) (fun i hi _ => hi.elim))
    rw [← hw5]
    clear hw5 hn5
    refine go ?_
    go_wp2_with (refine wpList_store_row2 rfl 46 (.tmp 4) (.tmp 28) rfl w.heap.size (List.toArray [.int .i64 0, .complex .f64 0 0, .int .i64 0, .bool false, .int .i64 0, .int .i64 0, .slice none 0 0, .slice none 0 0, .slice none 0 0, .slice none 0 0, .slice none 0 0, .int .i64 0]) rfl rfl 46 _ HB5.out (by kernel_rfl) rfl (ones_all (List.all_eq_true.1 rfl)) ?_; refine stop ?_)
    have HB6 : Hid ((w5.setRow w.heap.size (List.toArray [.int .i64 0, .complex .f64 0 0, .int .i64 0, .bool false, .int .i64 0, .int .i64 0, .slice none 0 0, .slice none 0 0, .slice none 0 0, .slice none 0 0, .slice none 0 0, .int .i64 0])).heap[w.heap.size]? = some (.cells (List.toArray [.int .i64 0, .complex .f64 0 0, .int .i64 0, .bool false, .int .i64 0, .int .i64 0, .slice none 0 0, .slice none 0 0, .slice none 0 0, .slice none 0 0, .slice none 0 0, .int .i64 0]) 46 (0, 0))) := Lib.hid (setRow_heap _ _ _ _ _ _ HB5.out)
    have HK6 := Lib.hid (Keep.trans_new HK5.out (Keep.of_grown (grownBy_setRow w5 w.heap.size (List.toArray [.int .i64 0, .complex .f64 0 0, .int .i64 0, .bool false, .int .i64 0, .int .i64 0, .slice none 0 0, .slice none 0 0, .slice none 0 0, .slice none 0 0, .slice none 0 0, .int .i64 0]))) (fun i hi _ => by injection hi with hi; omega))
    obtain ⟨w6, hw6⟩ : ∃ w6, w6 = w5.setRow w.heap.size (List.toArray [.int .i64 0, .complex .f64 0 0, .int .i64 0, .bool false, .int .i64 0, .int .i64 0, .slice none 0 0, .slice none 0 0, .slice none 0 0, .slice none 0 0, .slice none 0 0, .int .i64 0]) := ⟨_, rfl⟩
    rw [← hw6] at HB6 HK6 ⊢
    clear hw6
    refine go ?_
    go_wp2_with fail
    (try simp only [Exit.inBlock, Exit.then])
    refine bodyPost_ret (results_cell_row_tmp rfl _ _ w.heap.size 46 (List.toArray [.int .i64 0, .complex .f64 0 0, .int .i64 0, .bool false, .int .i64 0, .int .i64 0, .slice none 0 0, .slice none 0 0, .slice none 0 0, .slice none 0 0, .slice none 0 0, .int .i64 0]) _ _ (.int .i64 6) rfl rfl HB6.out Try.underlying46 rfl (by kernel_rfl)) rfl ?_
    exact ⟨HK6.out.new (fun i hi => hi), _, 6, rfl, rfl, List.all_eq_true.1 rfl, fun h => absurd h (by decide)⟩
  | false =>
    obtain ⟨x, hx⟩ : ∃ x, (if e3 = 0 ∧ 0 < l3.length then (4 : Int) else e3) = x := ⟨_, rfl⟩
    have HD := Lib.hid (done_rk HR4.out.rk x hx)
    have HX := Lib.hid hx
    clear hx
    go_wp2_with fail
    refine HD.out.mono ?_
    rintro en w4' ⟨rfl, rfl⟩
    clear HD
    by_cases hx0 : x = 0
    · subst hx0
      go_wp2_with (refine wpList_load_ad rfl 46 (.tmp 7) rfl ⟨gs, 0, none⟩ rfl cl (cells_of HS4.out) _ Try.underlying46 rfl 12 (by kernel_rfl) HZ.out ?_; refine stop ?_)
      refine go ?_
      go_wp2_with (refine wpList_store_row2 rfl 46 (.tmp 4) (.tmp 29) rfl w.heap.size cl.toArray rfl rfl 46 _ HB4.out (by rw [show cl.toArray.size = 12 from HZ.out]; kernel_rfl) (by rw [show cl.toArray.size = 12 from HZ.out]; rfl) (ones_all HON.out) ?_; refine stop ?_)
      have HB6 : Hid ((w4.setRow w.heap.size cl.toArray).heap[w.heap.size]? = some (.cells cl.toArray 46 (0, 0))) := Lib.hid (setRow_heap _ _ _ _ _ _ HB4.out)
      have hk6 := Keep.of_grown (grownBy_setRow w4 w.heap.size cl.toArray)
      have HK6 := Lib.hid (Keep.trans_new HK4.out hk6 (fun i hi _ => by injection hi with hi; omega))
      have HX6 := Lib.hid (HX4.out.on (hk6.mono (fun i hi => by injection hi with hi; have := HG.out; rw [World.size_alloc]; omega)))
      obtain ⟨w6, hw6⟩ : ∃ w6, w6 = w4.setRow w.heap.size cl.toArray := ⟨_, rfl⟩
      rw [← hw6] at HB6 HK6 HX6 ⊢
      clear hw6 hk6
      refine go ?_
      go_wp2_with fail
      (try simp only [Exit.inBlock, Exit.then])
      refine bodyPost_ret (results_cell_row_tmp rfl _ _ w.heap.size 46 cl.toArray _ _ (.int .i64 0) rfl rfl HB6.out Try.underlying46 rfl (by rw [show cl.toArray.size = 12 from HZ.out]; kernel_rfl)) rfl ?_
      refine ⟨HK6.out.new (fun i hi => hi), cl, 0, rfl, HZ.out, HON.out, fun _ => ⟨cs, HX6.out.le (by have := HG.out; rw [World.size_alloc]; omega), HNN.out, ?_⟩⟩
      obtain ⟨h1, h2⟩ := done_code HX.out
      obtain ⟨_, _, h3⟩ := HJ3.out h1 (by trivial)
      rw [h3, List.eq_nil_of_length_eq_zero h2, List.append_nil]
    · have hx0' : (x == 0) = false := by simpa using hx0
      go_wp2_with (refine wpList_load_ad rfl 46 (.tmp 8) rfl ⟨w4.heap.size, 0, none⟩ rfl [.int .i64 0, .complex .f64 0 0, .int .i64 0, .bool false, .int .i64 0, .int .i64 0, .slice none 0 0, .slice none 0 0, .slice none 0 0, .slice none 0 0, .slice none 0 0, .int .i64 0] (cells_of (heap_alloc_new w4 _)) _ Try.underlying46 rfl 12 (by kernel_rfl) rfl ?_; refine stop ?_)
      obtain ⟨w5, hw5⟩ : ∃ w5, w5 = w4.alloc (.cells (List.toArray [.int .i64 0, .complex .f64 0 0, .int .i64 0, .bool false, .int .i64 0, .int .i64 0, .slice none 0 0, .slice none 0 0, .slice none 0 0, .slice none 0 0, .slice none 0 0, .int .i64 0]) 46) := ⟨_, rfl⟩
      have hn5 : New w4 w5 := by rw [hw5]; exact (Below.refl _ _).alloc (Nat.le_refl _) _
      have HB5 := Lib.hid ((hn5.block _ (Array.getElem?_eq_some_iff.1 HB4.out).1).trans HB4.out)
      have HK5 := Lib.hid (Keep.trans_new HK4.out (Keep.of_new (S := fun _ => False) hn5) (fun i hi _ => hi.elim))
      rw [← hw5]
      clear hw5 hn5
      refine go ?_
      go_wp2_with (refine wpList_store_row2 rfl 46 (.tmp 4) (.tmp 28) rfl w.heap.size (List.toArray [.int .i64 0, .complex .f64 0 0, .int .i64 0, .bool false, .int .i64 0, .int .i64 0, .slice none 0 0, .slice none 0 0, .slice none 0 0, .slice none 0 0, .slice none 0 0, .int .i64 0]) rfl rfl 46 _ HB5.out (by kernel_rfl) rfl (ones_all (List.all_eq_true.1 rfl)) ?_; refine stop ?_)
      have HB6 : Hid ((w5.setRow w.heap.size (List.toArray [.int .i64 0, .complex .f64 0 0, .int .i64 0, .bool false, .int .i64 0, .int .i64 0, .slice none 0 0, .slice none 0 0, .slice none 0 0, .slice none 0 0, .slice none 0 0, .int .i64 0])).heap[w.heap.size]? = some (.cells (List.toArray [.int .i64 0, .complex .f64 0 0, .int .i64 0, .bool false, .int .i64 0, .int .i64 0, .slice none 0 0, .slice none 0 0, .slice none 0 0, .slice none 0 0, .slice none 0 0, .int .i64 0]) 46 (0, 0))) := Lib.hid (setRow_heap _ _ _ _ _ _ HB5.out)
      have HK6 := Lib.hid (Keep.trans_new HK5.out (Keep.of_grown (grownBy_setRow w5 w.heap.size (List.toArray [.int .i64 0, .complex .f64 0 0, .int .i64 0, .bool false, .int .i64 0, .int .i64 0, .slice none 0 0, .slice none 0 0, .slice none 0 0, .slice none 0 0, .slice none 0 0, .int .i64 0]))) (fun i hi _ => by injection hi with hi; omega))
      obtain ⟨w6, hw6⟩ : ∃ w6, w6 = w5.setRow w.heap.size (List.toArray [.int .i64 0, .complex .f64 0 0, .int .i64 0, .bool false, .int .i64 0, .int .i64 0, .slice none 0 0, .slice none 0 0, .slice none 0 0, .slice none 0 0, .slice none 0 0, .int .i64 0]) := ⟨_, rfl⟩
      rw [← hw6] at HB6 HK6 ⊢
      clear hw6
      refine go ?_
      go_wp2_with fail
      (try simp only [Exit.inBlock, Exit.then])
      refine bodyPost_ret (results_cell_row_tmp rfl _ _ w.heap.size 46 (List.toArray [.int .i64 0, .complex .f64 0 0, .int .i64 0, .bool false, .int .i64 0, .int .i64 0, .slice none 0 0, .slice none 0 0, .slice none 0 0, .slice none 0 0, .slice none 0 0, .int .i64 0]) _ _ (.int .i64 6) rfl rfl HB6.out Try.underlying46 rfl (by kernel_rfl)) rfl ?_
      exact ⟨HK6.out.new (fun i hi => hi), _, 6, rfl, rfl, List.all_eq_true.1 rfl, fun h => absurd h (by decide)⟩
set_option maxRecDepth 20000 in
set_option maxHeartbeats 4000000 in
theorem readState (B : Option Addr) (m d : Nat) (k : List UInt8) (w : World) (hm : m = k.length) (hk : RB w B k) (hb : m ≤ 65536) :
    Calls Try.prog 14 #[.slice B m d] w (Whole EState 12 k w) := by
  have HN := Lib.hid (wholeState B m d k (w.alloc (.cells (List.toArray [.int .i64 0, .complex .f64 0 0, .int .i64 0, .bool false, .int .i64 0, .int .i64 0, .slice none 0 0, .slice none 0 0, .slice none 0 0, .slice none 0 0, .slice none 0 0, .int .i64 0]) 46)) hm (hk.alloc _) (by omega))
  clear hm hk hb
  go_enter Try.func14, Try.ntmps14
  go_wp2_with fail
  refine HN.out.mono ?_
  rintro en w1 ⟨hn, cl, x, rfl, hz, hon, hx⟩
  have HZ := Lib.hid hz
  have HON := Lib.hid hon
  have HX := Lib.hid hx
  have HB1 := Lib.hid ((hn.block w.heap.size (by rw [World.size_alloc]; omega)).trans (heap_alloc_new w _))
  have HK1 : Hid (Keep (fun i => w.heap.size ≤ i) w w1) := Keep.of_new (New.trans ((Below.refl _ _).alloc (Nat.le_refl _) _) hn)
  clear hz hon hx hn HN
  go_wp2_with (refine wpList_store_row2 rfl 46 (.tmp 2) (.tmp 6) rfl w.heap.size cl.toArray rfl rfl 46 _ HB1.out (by rw [show cl.toArray.size = 12 from HZ.out]; kernel_rfl) (by rw [show cl.toArray.size = 12 from HZ.out]; rfl) (ones_all HON.out) ?_; refine stop ?_)
  have HB6 : Hid ((w1.setRow w.heap.size cl.toArray).heap[w.heap.size]? = some (.cells cl.toArray 46 (0, 0))) := Lib.hid (setRow_heap _ _ _ _ _ _ HB1.out)
  have HK2 := Lib.hid (Keep.of_grown (grownBy_setRow w1 w.heap.size cl.toArray))
  have HK6 := Lib.hid (Keep.trans_new HK1.out HK2.out (fun i hi _ => by injection hi with hi; omega))
  obtain ⟨w6, hw6⟩ : ∃ w6, w6 = w1.setRow w.heap.size cl.toArray := ⟨_, rfl⟩
  rw [← hw6] at HB6 HK6 HK2 ⊢
  clear hw6
  refine go ?_
  go_wp2_with fail
  (try simp only [Exit.inBlock, Exit.then])
  refine bodyPost_ret (results_cell_row_tmp rfl _ _ w.heap.size 46 cl.toArray _ _ (.int .i64 x) rfl rfl HB6.out Try.underlying46 rfl (by rw [show cl.toArray.size = 12 from HZ.out]; kernel_rfl)) rfl ?_
  refine ⟨HK6.out.new (fun i hi => hi), cl, x, rfl, HZ.out, HON.out, fun h => ?_⟩
  obtain ⟨cs, h1, h2, h3⟩ := HX.out h
  exact ⟨cs, (h1.on (HK2.out.mono (fun i hi => by injection hi with hi; rw [World.size_alloc]; omega))).le (by rw [World.size_alloc]; omega), h2, h3⟩
end Go.Proofs.Ytagocmbcbbhehaa
