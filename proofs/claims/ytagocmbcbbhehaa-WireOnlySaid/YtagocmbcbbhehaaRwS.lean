/- wire.reader.bundle, wire.whole and wire.ReadBundle; wire.Frame: what they tell. By a program. -/
import Derived.Test.YtagocmbcbbhehaaRwL
import Derived.Test.YtagocmbcbbhehaaRwO
namespace Go.Proofs.Ytagocmbcbbhehaa
set_option linter.unusedVariables false
open Go.RowKit
theorem rBundle {w : World} {lo g R c : Nat} {A : Option Addr} {l : List UInt8} {e : Int} {lg : Bool} (h : RW w lo g R A c l e lg) :
    Calls Try.prog 24 #[.pointer (some ⟨R, 0, none⟩)] w (RedL (FList EMsg 18 16) w lo g R l e lg) := by
  have H := Lib.hid h
  clear h
  go_enter Try.func24, Try.ntmps24
  go_wp2_with fail
  refine (mMsg H.out 16 (by decide)).mono ?_
  rintro en w1 ⟨v, rfl, hc⟩
  obtain ⟨L, M, K, rfl⟩ : ∃ L M K, v = .slice L M K := by
    obtain ⟨cs, _, _, _, _, _, _, _, hf, _⟩ := hc
    exact FList.sl hf.now
  have HC := Lib.hid hc
  clear hc
  go_wp2_with fail
  go_ret
  exact ⟨_, rfl, HC.out⟩
set_option maxRecDepth 20000 in
set_option maxHeartbeats 4000000 in
theorem wholeBundle (B : Option Addr) (m d : Nat) (k : List UInt8) (w : World) (hm : m = k.length) (hk : RB w B k) (hb : m ≤ 65536) :
    Calls Try.prog 23 #[.slice B m d, .func (Fn.func 24) #[] #[]] w (WholeL (FList EMsg 18 16) k w) := by
  have HN := Lib.hid (newr_rk B m d k w hm hk (by omega))
  clear hm hk hb
  go_enter Try.func23, Try.ntmps23
  go_wp2_with fail
  refine HN.out.mono ?_
  rintro en w1 ⟨g, A, c, rfl, hr, hn⟩
  have HR1 := Lib.hid (rw_new hr)
  have HG : Hid (w.heap.size ≤ g ∧ g < w1.heap.size) := ⟨hr.le, hr.lt⟩
  have HK1 : Hid (Keep (fun i => w.heap.size ≤ i) w (w1.alloc (.cells #[.pointer (some ⟨g, 0, none⟩), .bool false] 129))) := Keep.of_new (New.trans hn ((Below.refl _ _).alloc (Nat.le_refl _) _))
  clear hr hn HN
  go_wp2_with fail
  refine (rBundle HR1.out).mono ?_
  rintro en w3 ⟨v, rfl, cs, A3, c3, l3, e3, g3, hr3, hk3, hf3, hnn, hj3⟩
  obtain ⟨L, M, K, rfl⟩ := FList.sl hf3.now
  have HF3 := Lib.hid hf3
  have HNN := Lib.hid hnn
  have HJ3 := Lib.hid hj3
  have HK3 := Lib.hid (Keep.trans_new HK1.out hk3 (fun i hi _ => by have := HG.out; show w.heap.size ≤ i; rcases hi with hi | hi <;> omega))
  have HR3 := Lib.hid hr3
  have q0 := hr3.c0
  have q1 := hr3.c1
  clear hf3 hnn hj3 hk3 hr3
  cases g3 with
  | true =>
    go_wp2_with fail
    go_ret2
    exact ⟨HK3.out.new (fun i hi => hi), none, 0, 0, 6, rfl, fun h => absurd h (by decide)⟩
  | false =>
    obtain ⟨x, hx⟩ : ∃ x, (if e3 = 0 ∧ 0 < l3.length then (4 : Int) else e3) = x := ⟨_, rfl⟩
    have HD := Lib.hid (done_rk HR3.out.rk x hx)
    have HX := Lib.hid hx
    clear hx
    go_wp2_with fail
    refine HD.out.mono ?_
    rintro en w4' ⟨rfl, rfl⟩
    clear HD
    by_cases hx0 : x = 0
    · subst hx0
      go_wp2_with fail
      go_ret2
      refine ⟨HK3.out.new (fun i hi => hi), L, M, K, 0, rfl, fun _ => ⟨cs, HF3.out.le (by have := HG.out; rw [World.size_alloc]; omega), HNN.out, ?_⟩⟩
      obtain ⟨h1, h2⟩ := done_code HX.out
      obtain ⟨_, _, h3⟩ := HJ3.out h1 (by trivial)
      rw [h3, List.eq_nil_of_length_eq_zero h2, List.append_nil]
    · have hx0' : (x == 0) = false := by simpa using hx0
      go_wp2_with fail
      go_ret2
      exact ⟨HK3.out.new (fun i hi => hi), none, 0, 0, 6, rfl, fun h => absurd h (by decide)⟩
theorem readBundle (B : Option Addr) (m d : Nat) (k : List UInt8) (w : World) (hm : m = k.length) (hk : RB w B k) (hb : m ≤ 65536) :
    Calls Try.prog 11 #[.slice B m d] w (WholeL (FList EMsg 18 16) k w) := by
  have HN := Lib.hid (wholeBundle B m d k w hm hk hb)
  clear hm hk hb
  go_enter Try.func11, Try.ntmps11
  go_wp2_with fail
  refine HN.out.mono ?_
  rintro en w1 ⟨hn, L, M, K, x, rfl, hx⟩
  have HX := Lib.hid hx
  have HW := Lib.hid hn
  clear hx hn HN
  go_wp2_with fail
  go_ret2
  exact ⟨HW.out, L, M, K, x, rfl, HX.out⟩
set_option maxRecDepth 20000 in
set_option maxHeartbeats 2000000 in
theorem wireFrame (w : World) (cl : List Value) (cs : Ch) (hE : EFrame w.heap.size w cl cs) (hsz : sz cs ≤ MX) :
    Calls Try.prog 13 #[.agg cl.toArray] w (Wrote w (run cs ([], false))) := by
  obtain ⟨v1, v2, v3, v4, v5, v6, v7, rfl⟩ := hE.ex
  have HE := Lib.hid hE
  have HSZ := Lib.hid hsz
  clear hE hsz
  have HCA : Hid (CellsAt ((w.alloc (.cells #[v1, v2, v3, v4, v5, v6, v7] 55)).alloc (.cells #[.slice none 0 0, .int .i64 0, .bool false] 66)) ⟨w.heap.size, 0, none⟩ [v1, v2, v3, v4, v5, v6, v7]) := fun i v hi => by
    have hb := heap_alloc_new w (.cells #[v1, v2, v3, v4, v5, v6, v7] 55)
    have hn : New (w.alloc (.cells #[v1, v2, v3, v4, v5, v6, v7] 55)) ((w.alloc (.cells #[v1, v2, v3, v4, v5, v6, v7] 55)).alloc (.cells #[.slice none 0 0, .int .i64 0, .bool false] 66)) := (Below.refl _ _).alloc (Nat.le_refl _) _
    rw [addr_at, cell_of_row _ _ i _ _ _ ((hn.block _ (by rw [World.size_alloc]; exact Nat.lt_succ_self _)).trans hb), List.getElem?_toArray]
    exact hi
  go_enter Try.func13, Try.ntmps13
  go_wp2_with (refine wpList_load_ad rfl 55 (.tmp 1) rfl ⟨w.heap.size, 0, none⟩ rfl [v1, v2, v3, v4, v5, v6, v7] HCA.out _ Try.underlying55 rfl 7 (by kernel_rfl) rfl ?_; refine stop ?_)
  obtain ⟨w1, hw1⟩ : ∃ w1, w1 = w.alloc (.cells #[v1, v2, v3, v4, v5, v6, v7] 55) := ⟨_, rfl⟩
  have hn1 : New w w1 := by rw [hw1]; exact (Below.refl _ _).alloc (Nat.le_refl _) _
  obtain ⟨g, hg⟩ : ∃ g, g = w1.heap.size := ⟨_, rfl⟩
  have hg2 : w.heap.size + 1 = g := by rw [hg, hw1, World.size_alloc]
  obtain ⟨w2, hw2⟩ : ∃ w2, w2 = w1.alloc (.cells #[.slice none 0 0, .int .i64 0, .bool false] 66) := ⟨_, rfl⟩
  have H2 : Hid (PW w2 w1.heap.size g none 0 (([], false) : Wst).1 (([], false) : Wst).2) := by rw [hw2, hg]; exact pw_new w1
  have hn2 : New w1 w2 := by rw [hw2]; exact (Below.refl _ _).alloc (Nat.le_refl _) _
  have HN2 := Lib.hid (New.trans hn1 hn2)
  have HN1 := Lib.hid hn1
  have HS2 : Hid (w1.heap.size ≤ w2.heap.size) := hn2.size
  have HEE : Hid (EFrame w1.heap.size w2 [v1, v2, v3, v4, v5, v6, v7] cs) := (HE.out.below HN2.out).up hn1.size
  have HCL := Lib.hid (wFrame H2.out [v1, v2, v3, v4, v5, v6, v7] cs HEE.out (by rw [List.length_nil, Nat.zero_add]; exact HSZ.out) HS2.out)
  rw [hg2]
  rw [← hw1, ← hw2]
  clear hw1 hn1 hg hg2 hw2 hn2
  refine go ?_
  go_wp2_with fail
  refine HCL.out.mono ?_
  rintro e w3 ⟨A3, c3, rfl, hk3, hm3⟩
  have HN3 : Hid (New w w3) := Below.trans HN2.out ((Moved.belowW hm3 H2.out (Nat.le_refl _) HS2.out).mono HN1.out.size)
  have HEN := Lib.hid (wend hk3 (Nat.le_trans (run_len cs ([], false)) (by rw [List.length_nil, Nat.zero_add]; exact HSZ.out)))
  clear hk3 hm3 HCL
  go_wp2_with fail
  refine HEN.out.mono ?_
  rintro e w4 ⟨hw4, hcase⟩
  have HN4 := Lib.hid (New.trans HN3.out hw4)
  have hs3 := HN3.out.size
  rcases hcase with ⟨hl, rfl⟩ | ⟨hl, B, d, rfl, ho⟩
  · have HL := Lib.hid hl
    clear hl hw4 HEN
    go_wp2_with fail
    go_ret2
    exact ⟨HN4.out, .inl ⟨HL.out, rfl⟩⟩
  · have HL := Lib.hid hl
    have HO := Lib.hid ho
    clear hl hw4 HEN ho
    go_wp2_with fail
    go_ret2
    exact ⟨HN4.out, .inr ⟨HL.out, B, d, rfl, HO.out.base_le hs3⟩⟩
end Go.Proofs.Ytagocmbcbbhehaa
