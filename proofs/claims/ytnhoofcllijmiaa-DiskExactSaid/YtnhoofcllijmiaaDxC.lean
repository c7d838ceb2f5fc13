/- hanselaw06.do: what is done to two disks alike leaves them alike. -/
import Derived.Test.YtnhoofcllijmiaaDxL
namespace Go.Proofs.Ytnhoofcllijmiaa
open Go.RowKit
section
variable {base g c : Nat} {A : Option Addr} {σ : St} {w : World}
theorem start_ar (h : DKr w base g A c σ) (τ : St) (hx : σ.start = τ) : Calls Try.prog 36 #[.pointer (some ⟨g, 0, none⟩)] w (DidR w base g A (.returned (.tuple #[])) τ) := by
  subst hx
  exact start_dr h
theorem crash_ar (h : DKr w base g A c σ) (x : Int) (τ : St) (hx : σ.rcrash x = τ) : Calls Try.prog 35 #[.pointer (some ⟨g, 0, none⟩), .int .i64 x] w (DidR w base g A (.returned (.tuple #[])) τ) := by
  subst hx
  exact crash_dr h x
theorem trip_ar (h : DKr w base g A c σ) (x : Int) (τ : St) (hx : σ.trip x = τ) : Calls Try.prog 34 #[.pointer (some ⟨g, 0, none⟩), .int .i64 x] w (DidR w base g A (.returned (.tuple #[])) τ) := by
  subst hx
  exact trip_dr h x
end
/-- two disks alike, behind an act -/
def Acted (w0 : World) (g k : Nat) (m : Nat) (e : Ending) (w' : World) : Prop := e = .returned (.bool true) ∧ ∃ A c B d l s off tr x y, Two 52 44 w0 w' g A c ⟨l, s, off, tr, x⟩ k B d ⟨l, s, off, tr, y⟩ ∧ (tr = true → x = y) ∧ l.length ≤ m
set_option maxHeartbeats 4000000 in
theorem do_any {w0 w : World} {g c k d : Nat} {A B : Option Addr} {l : List UInt8} {s : Nat} {off tr : Bool} {x y : Int} (h : Two 52 44 w0 w g A c ⟨l, s, off, tr, x⟩ k B d ⟨l, s, off, tr, y⟩) (hxy : tr = true → x = y) (hl : l.length ≤ 4000000)
    (a N : Int) (C : Option Addr) (m e0 : Nat) (r : List UInt8) (hm : m = r.length) (hmx : m ≤ 65536) (hr : RB w0 C r) :
    Calls Try.prog 25 #[.pointer (some ⟨g, 0, none⟩), .pointer (some ⟨k, 0, none⟩), .agg #[.int .i64 a, .int .i64 N, .slice C m e0]] w (Acted w0 g k (l.length + 65536)) := by
  have HM := Lib.hid hm
  have HX := Lib.hid hxy
  have HL := Lib.hid hl
  clear hm hxy hl
  have hr1 := h.rb hr
  have ht : Two 52 44 w0 (w.alloc (.cells #[.int .i64 a, .int .i64 N, .slice C m e0] 48)) g A c ⟨l, s, off, tr, x⟩ k B d ⟨l, s, off, tr, y⟩ := h.also ((Below.refl _ _).alloc (Nat.le_refl _) _)
  have hbx := heap_alloc_new w (.cells #[.int .i64 a, .int .i64 N, .slice C m e0] 48)
  have hlA : ∀ i, blk A = some i → i < w.heap.size := fun i hi => (OB.lt h.a.own hi).2
  have hlB : ∀ i, blk B = some i → i < w.heap.size := fun i hi => (OB.lt h.b.own hi).2
  have HH := Lib.hid h
  clear h
  obtain ⟨q, hq, hq8⟩ := mod8 a
  rcases hq8 with rfl | rfl | rfl | rfl | rfl | rfl | rfl | rfl
  · skip
    go_enter Try.func25, Try.ntmps25
    go_wp2_with fail
    refine (twin_any C m e0 r _ HM.out (hr1.alloc _) (by omega)).mono ?_
    rintro e w2 ⟨X, cx, rfl, ox, hw2⟩
    have T : Tri w0 w2 g A c ⟨l, s, off, tr, x⟩ k B d ⟨l, s, off, tr, y⟩ w.heap.size #[.int .i64 a, .int .i64 N, .slice C m e0] X m cx r := by
      refine ⟨ht.also hw2, OB.base_le ox ht.size, ?_, ?_, (hw2.block _ (by simp)).trans hbx⟩
      · intro i hi hA
        have := (OB.lt ox hi).1
        have := hlA i hA
        simp at *
        omega
      · intro i hi hB
        have := (OB.lt ox hi).1
        have := hlB i hB
        simp at *
        omega
    have rc2 : RB w2 C r := (hr1.alloc _).new hw2
    have b0 := T.cell 0
    have b1 := T.cell 1
    have b2 := T.cell 2
    simp only [List.getElem?_toArray, List.getElem?_cons_zero, List.getElem?_cons_succ] at b0 b1 b2
    clear hw2 ox ht hbx hlA hlB hr1
    have HT := Lib.hid T
    clear T
    obtain ⟨z, l1, s1, off1, tr1, x1, y1, e1, e2, hxy1, hl1⟩ := both_append l r s off tr x y HX.out
    have E1 := Lib.hid e1
    have E2 := Lib.hid e2
    clear e1 e2
    go_wp2_with fail
    go_region_held3 (fun v => v.cell? ⟨w.heap.size, 2, none⟩ = some (.slice C m e0)) ((first | exact b2 | exact (HT3.out.cell 2) | exact (HT4.out.cell 2))) ((first
      | (go_at_call 10; refine (append_dk HT.out.drew.two.a X m cx r HM.out HT.out.drew.own.rb (by have := HL.out; show l.length + m ≤ _; omega) HT.out.drew.two.size z ⟨l1, s1, off1, tr1, x1⟩ E1.out).mono ?_; intro e w3 hd; obtain ⟨A3, c3, rfl, T3⟩ := HT.out.drew.left hd; have HT3 := Lib.hid T3; clear T3 hd)
      | (go_at_call 30; refine (append_dr HT3.out.two.b C m e0 r HM.out (HT3.out.two.rb hr) (by have := HL.out; show l.length + m ≤ _; omega) HT3.out.two.size z ⟨l1, s1, off1, tr1, y1⟩ E2.out).mono ?_; intro e w4 hd; obtain ⟨B4, d4, rfl, T4⟩ := HT3.out.right hd; have HT4 := Lib.hid T4; clear T4 hd)))
    have T4 := HT4.out
    go_wp2_with fail
    refine (spoil_any X m cx _ r _ T4.own).mono ?_
    rintro e w9 ⟨rfl, _, hk, _⟩
    go_wp2_with fail
    go_ret
    exact ⟨rfl, A3, c3, B4, d4, l1, s1, off1, tr1, x1, y1, T4.spoil hk (fun i hi => hi), hxy1, by have := hl1; have : m = r.length := HM.out; omega⟩
  · skip
    go_enter Try.func25, Try.ntmps25
    go_wp2_with fail
    refine (twin_any C m e0 r _ HM.out (hr1.alloc _) (by omega)).mono ?_
    rintro e w2 ⟨X, cx, rfl, ox, hw2⟩
    have T : Tri w0 w2 g A c ⟨l, s, off, tr, x⟩ k B d ⟨l, s, off, tr, y⟩ w.heap.size #[.int .i64 a, .int .i64 N, .slice C m e0] X m cx r := by
      refine ⟨ht.also hw2, OB.base_le ox ht.size, ?_, ?_, (hw2.block _ (by simp)).trans hbx⟩
      · intro i hi hA
        have := (OB.lt ox hi).1
        have := hlA i hA
        simp at *
        omega
      · intro i hi hB
        have := (OB.lt ox hi).1
        have := hlB i hB
        simp at *
        omega
    have rc2 : RB w2 C r := (hr1.alloc _).new hw2
    have b0 := T.cell 0
    have b1 := T.cell 1
    have b2 := T.cell 2
    simp only [List.getElem?_toArray, List.getElem?_cons_zero, List.getElem?_cons_succ] at b0 b1 b2
    clear hw2 ox ht hbx hlA hlB hr1
    have HT := Lib.hid T
    clear T
    obtain ⟨z, l1, s1, off1, tr1, x1, y1, e1, e2, hxy1, hl1⟩ := both_append l r s off tr x y HX.out
    have E1 := Lib.hid e1
    have E2 := Lib.hid e2
    clear e1 e2
    go_wp2_with fail
    go_region_held3 (fun v => v.cell? ⟨w.heap.size, 2, none⟩ = some (.slice C m e0)) ((first | exact b2 | exact (HT3.out.cell 2) | exact (HT4.out.cell 2))) ((first
      | (go_at_call 10; refine (append_dk HT.out.drew.two.a X m cx r HM.out HT.out.drew.own.rb (by have := HL.out; show l.length + m ≤ _; omega) HT.out.drew.two.size z ⟨l1, s1, off1, tr1, x1⟩ E1.out).mono ?_; intro e w3 hd; obtain ⟨A3, c3, rfl, T3⟩ := HT.out.drew.left hd; have HT3 := Lib.hid T3; clear T3 hd)
      | (go_at_call 30; refine (append_dr HT3.out.two.b C m e0 r HM.out (HT3.out.two.rb hr) (by have := HL.out; show l.length + m ≤ _; omega) HT3.out.two.size z ⟨l1, s1, off1, tr1, y1⟩ E2.out).mono ?_; intro e w4 hd; obtain ⟨B4, d4, rfl, T4⟩ := HT3.out.right hd; have HT4 := Lib.hid T4; clear T4 hd)))
    have T4 := HT4.out
    go_wp2_with fail
    refine (spoil_any X m cx _ r _ T4.own).mono ?_
    rintro e w9 ⟨rfl, _, hk, _⟩
    go_wp2_with fail
    go_ret
    exact ⟨rfl, A3, c3, B4, d4, l1, s1, off1, tr1, x1, y1, T4.spoil hk (fun i hi => hi), hxy1, by have := hl1; have : m = r.length := HM.out; omega⟩
  · skip
    go_enter Try.func25, Try.ntmps25
    go_wp2_with fail
    refine (twin_any C m e0 r _ HM.out (hr1.alloc _) (by omega)).mono ?_
    rintro e w2 ⟨X, cx, rfl, ox, hw2⟩
    have T : Tri w0 w2 g A c ⟨l, s, off, tr, x⟩ k B d ⟨l, s, off, tr, y⟩ w.heap.size #[.int .i64 a, .int .i64 N, .slice C m e0] X m cx r := by
      refine ⟨ht.also hw2, OB.base_le ox ht.size, ?_, ?_, (hw2.block _ (by simp)).trans hbx⟩
      · intro i hi hA
        have := (OB.lt ox hi).1
        have := hlA i hA
        simp at *
        omega
      · intro i hi hB
        have := (OB.lt ox hi).1
        have := hlB i hB
        simp at *
        omega
    have rc2 : RB w2 C r := (hr1.alloc _).new hw2
    have b0 := T.cell 0
    have b1 := T.cell 1
    have b2 := T.cell 2
    simp only [List.getElem?_toArray, List.getElem?_cons_zero, List.getElem?_cons_succ] at b0 b1 b2
    clear hw2 ox ht hbx hlA hlB hr1
    have HT := Lib.hid T
    clear T
    obtain ⟨z, l1, s1, off1, tr1, x1, y1, e1, e2, hxy1, hl1⟩ := both_sync l s off tr x y HX.out
    have E1 := Lib.hid e1
    have E2 := Lib.hid e2
    clear e1 e2
    go_wp2_with fail
    refine (sync_dk HT.out.two.a z ⟨l1, s1, off1, tr1, x1⟩ E1.out).mono ?_
    intro e w3 hd
    obtain ⟨A3, c3, rfl, T3⟩ := HT.out.left hd
    clear hd b0 b1 b2
    have b1 := T3.cell 1
    simp only [List.getElem?_toArray, List.getElem?_cons_zero, List.getElem?_cons_succ] at b1
    have HT3 := Lib.hid T3
    clear T3
    go_wp2_with fail
    refine (sync_dr HT3.out.two.b z ⟨l1, s1, off1, tr1, y1⟩ E2.out).mono ?_
    intro e w4 hd
    obtain ⟨B4, d4, rfl, T4⟩ := HT3.out.right hd
    clear hd b1
    go_wp2_with fail
    refine (spoil_any X m cx _ r _ T4.own).mono ?_
    rintro e w9 ⟨rfl, _, hk, _⟩
    go_wp2_with fail
    go_ret
    exact ⟨rfl, A3, c3, B4, d4, l1, s1, off1, tr1, x1, y1, T4.spoil hk (fun i hi => hi), hxy1, by have := hl1; have : m = r.length := HM.out; omega⟩
  · skip
    go_enter Try.func25, Try.ntmps25
    go_wp2_with fail
    refine (twin_any C m e0 r _ HM.out (hr1.alloc _) (by omega)).mono ?_
    rintro e w2 ⟨X, cx, rfl, ox, hw2⟩
    have T : Tri w0 w2 g A c ⟨l, s, off, tr, x⟩ k B d ⟨l, s, off, tr, y⟩ w.heap.size #[.int .i64 a, .int .i64 N, .slice C m e0] X m cx r := by
      refine ⟨ht.also hw2, OB.base_le ox ht.size, ?_, ?_, (hw2.block _ (by simp)).trans hbx⟩
      · intro i hi hA
        have := (OB.lt ox hi).1
        have := hlA i hA
        simp at *
        omega
      · intro i hi hB
        have := (OB.lt ox hi).1
        have := hlB i hB
        simp at *
        omega
    have rc2 : RB w2 C r := (hr1.alloc _).new hw2
    have b0 := T.cell 0
    have b1 := T.cell 1
    have b2 := T.cell 2
    simp only [List.getElem?_toArray, List.getElem?_cons_zero, List.getElem?_cons_succ] at b0 b1 b2
    clear hw2 ox ht hbx hlA hlB hr1
    have HT := Lib.hid T
    clear T
    obtain ⟨z, l1, s1, off1, tr1, x1, y1, e1, e2, hxy1, hl1⟩ := both_cut l s off tr x y N HX.out
    have E1 := Lib.hid e1
    have E2 := Lib.hid e2
    clear e1 e2
    go_wp2_with fail
    go_region_held3 (fun v => v.cell? ⟨w.heap.size, 1, none⟩ = some (.int .i64 N)) ((first | exact b1 | exact (HT3.out.cell 1) | exact (HT4.out.cell 1))) ((first
      | (go_at_call 19; refine (cut_dk HT.out.drew.two.a N z ⟨l1, s1, off1, tr1, x1⟩ E1.out).mono ?_; intro e w3 hd; obtain ⟨A3, c3, rfl, T3⟩ := HT.out.drew.left hd; have HT3 := Lib.hid T3; clear T3 hd)
      | (go_at_call 32; refine (cut_dr HT3.out.two.b N z ⟨l1, s1, off1, tr1, y1⟩ E2.out).mono ?_; intro e w4 hd; obtain ⟨B4, d4, rfl, T4⟩ := HT3.out.right hd; have HT4 := Lib.hid T4; clear T4 hd)))
    have T4 := HT4.out
    go_wp2_with fail
    refine (spoil_any X m cx _ r _ T4.own).mono ?_
    rintro e w9 ⟨rfl, _, hk, _⟩
    go_wp2_with fail
    go_ret
    exact ⟨rfl, A3, c3, B4, d4, l1, s1, off1, tr1, x1, y1, T4.spoil hk (fun i hi => hi), hxy1, by have := hl1; have : m = r.length := HM.out; omega⟩
  · skip
    go_enter Try.func25, Try.ntmps25
    go_wp2_with fail
    refine (twin_any C m e0 r _ HM.out (hr1.alloc _) (by omega)).mono ?_
    rintro e w2 ⟨X, cx, rfl, ox, hw2⟩
    have T : Tri w0 w2 g A c ⟨l, s, off, tr, x⟩ k B d ⟨l, s, off, tr, y⟩ w.heap.size #[.int .i64 a, .int .i64 N, .slice C m e0] X m cx r := by
      refine ⟨ht.also hw2, OB.base_le ox ht.size, ?_, ?_, (hw2.block _ (by simp)).trans hbx⟩
      · intro i hi hA
        have := (OB.lt ox hi).1
        have := hlA i hA
        simp at *
        omega
      · intro i hi hB
        have := (OB.lt ox hi).1
        have := hlB i hB
        simp at *
        omega
    have rc2 : RB w2 C r := (hr1.alloc _).new hw2
    have b0 := T.cell 0
    have b1 := T.cell 1
    have b2 := T.cell 2
    simp only [List.getElem?_toArray, List.getElem?_cons_zero, List.getElem?_cons_succ] at b0 b1 b2
    clear hw2 ox ht hbx hlA hlB hr1
    have HT := Lib.hid T
    clear T
    obtain ⟨z, l1, s1, off1, tr1, x1, y1, e1, e2, hxy1, hl1⟩ := both_swap l r s off tr x y HX.out
    have E1 := Lib.hid e1
    have E2 := Lib.hid e2
    clear e1 e2
    go_wp2_with fail
    go_region_held3 (fun v => v.cell? ⟨w.heap.size, 2, none⟩ = some (.slice C m e0)) ((first | exact b2 | exact (HT3.out.cell 2) | exact (HT4.out.cell 2))) ((first
      | (go_at_call 20; refine (swap_dk HT.out.drew.two.a X m cx r HM.out HT.out.drew.own.rb (by omega) HT.out.drew.two.size z ⟨l1, s1, off1, tr1, x1⟩ E1.out).mono ?_; intro e w3 hd; obtain ⟨A3, c3, rfl, T3⟩ := HT.out.drew.left hd; have HT3 := Lib.hid T3; clear T3 hd)
      | (go_at_call 33; refine (swap_dr HT3.out.two.b C m e0 r HM.out (HT3.out.two.rb hr) (by omega) HT3.out.two.size z ⟨l1, s1, off1, tr1, y1⟩ E2.out).mono ?_; intro e w4 hd; obtain ⟨B4, d4, rfl, T4⟩ := HT3.out.right hd; have HT4 := Lib.hid T4; clear T4 hd)))
    have T4 := HT4.out
    go_wp2_with fail
    refine (spoil_any X m cx _ r _ T4.own).mono ?_
    rintro e w9 ⟨rfl, _, hk, _⟩
    go_wp2_with fail
    go_ret
    exact ⟨rfl, A3, c3, B4, d4, l1, s1, off1, tr1, x1, y1, T4.spoil hk (fun i hi => hi), hxy1, by have := hl1; have : m = r.length := HM.out; omega⟩
  · skip
    go_enter Try.func25, Try.ntmps25
    go_wp2_with fail
    refine (twin_any C m e0 r _ HM.out (hr1.alloc _) (by omega)).mono ?_
    rintro e w2 ⟨X, cx, rfl, ox, hw2⟩
    have T : Tri w0 w2 g A c ⟨l, s, off, tr, x⟩ k B d ⟨l, s, off, tr, y⟩ w.heap.size #[.int .i64 a, .int .i64 N, .slice C m e0] X m cx r := by
      refine ⟨ht.also hw2, OB.base_le ox ht.size, ?_, ?_, (hw2.block _ (by simp)).trans hbx⟩
      · intro i hi hA
        have := (OB.lt ox hi).1
        have := hlA i hA
        simp at *
        omega
      · intro i hi hB
        have := (OB.lt ox hi).1
        have := hlB i hB
        simp at *
        omega
    have rc2 : RB w2 C r := (hr1.alloc _).new hw2
    have b0 := T.cell 0
    have b1 := T.cell 1
    have b2 := T.cell 2
    simp only [List.getElem?_toArray, List.getElem?_cons_zero, List.getElem?_cons_succ] at b0 b1 b2
    clear hw2 ox ht hbx hlA hlB hr1
    have HT := Lib.hid T
    clear T
    obtain ⟨z, l1, s1, off1, tr1, x1, y1, e1, e2, hxy1, hl1⟩ := both_trip l s off tr x y N HX.out
    have E1 := Lib.hid e1
    have E2 := Lib.hid e2
    clear e1 e2
    have F1 : Hid (St.trip ⟨l, s, off, tr, x⟩ N = _) := (Prod.ext_iff.1 E1.out).2
    have F2 : Hid (St.trip ⟨l, s, off, tr, y⟩ N = _) := (Prod.ext_iff.1 E2.out).2
    go_wp2_with fail
    refine (trip_at HT.out.two.a N _ F1.out).mono ?_
    intro e w3 hd
    obtain ⟨A3, c3, rfl, T3⟩ := HT.out.left hd
    clear hd b0 b1 b2
    have b1 := T3.cell 1
    simp only [List.getElem?_toArray, List.getElem?_cons_zero, List.getElem?_cons_succ] at b1
    have HT3 := Lib.hid T3
    clear T3
    go_wp2_with fail
    refine (trip_ar HT3.out.two.b N _ F2.out).mono ?_
    intro e w4 hd
    obtain ⟨B4, d4, rfl, T4⟩ := HT3.out.right hd
    clear hd b1
    go_wp2_with fail
    refine (spoil_any X m cx _ r _ T4.own).mono ?_
    rintro e w9 ⟨rfl, _, hk, _⟩
    go_wp2_with fail
    go_ret
    exact ⟨rfl, A3, c3, B4, d4, l1, s1, off1, tr1, x1, y1, T4.spoil hk (fun i hi => hi), hxy1, by have := hl1; have : m = r.length := HM.out; omega⟩
  · skip
    go_enter Try.func25, Try.ntmps25
    go_wp2_with fail
    refine (twin_any C m e0 r _ HM.out (hr1.alloc _) (by omega)).mono ?_
    rintro e w2 ⟨X, cx, rfl, ox, hw2⟩
    have T : Tri w0 w2 g A c ⟨l, s, off, tr, x⟩ k B d ⟨l, s, off, tr, y⟩ w.heap.size #[.int .i64 a, .int .i64 N, .slice C m e0] X m cx r := by
      refine ⟨ht.also hw2, OB.base_le ox ht.size, ?_, ?_, (hw2.block _ (by simp)).trans hbx⟩
      · intro i hi hA
        have := (OB.lt ox hi).1
        have := hlA i hA
        simp at *
        omega
      · intro i hi hB
        have := (OB.lt ox hi).1
        have := hlB i hB
        simp at *
        omega
    have rc2 : RB w2 C r := (hr1.alloc _).new hw2
    have b0 := T.cell 0
    have b1 := T.cell 1
    have b2 := T.cell 2
    simp only [List.getElem?_toArray, List.getElem?_cons_zero, List.getElem?_cons_succ] at b0 b1 b2
    clear hw2 ox ht hbx hlA hlB hr1
    have HT := Lib.hid T
    clear T
    obtain ⟨z, l1, s1, off1, tr1, x1, y1, e1, e2, hxy1, hl1⟩ := both_crash l s off tr x y N HX.out
    have E1 := Lib.hid e1
    have E2 := Lib.hid e2
    clear e1 e2
    have F1 : Hid (St.crash ⟨l, s, off, tr, x⟩ N = _) := (Prod.ext_iff.1 E1.out).2
    have F2 : Hid (St.rcrash ⟨l, s, off, tr, y⟩ N = _) := (Prod.ext_iff.1 E2.out).2
    go_wp2_with fail
    refine (crash_at HT.out.two.a N _ F1.out).mono ?_
    intro e w3 hd
    obtain ⟨A3, c3, rfl, T3⟩ := HT.out.left hd
    clear hd b0 b1 b2
    have b1 := T3.cell 1
    simp only [List.getElem?_toArray, List.getElem?_cons_zero, List.getElem?_cons_succ] at b1
    have HT3 := Lib.hid T3
    clear T3
    go_wp2_with fail
    refine (crash_ar HT3.out.two.b N _ F2.out).mono ?_
    intro e w4 hd
    obtain ⟨B4, d4, rfl, T4⟩ := HT3.out.right hd
    clear hd b1
    go_wp2_with fail
    refine (spoil_any X m cx _ r _ T4.own).mono ?_
    rintro e w9 ⟨rfl, _, hk, _⟩
    go_wp2_with fail
    go_ret
    exact ⟨rfl, A3, c3, B4, d4, l1, s1, off1, tr1, x1, y1, T4.spoil hk (fun i hi => hi), hxy1, by have := hl1; have : m = r.length := HM.out; omega⟩
  · skip
    go_enter Try.func25, Try.ntmps25
    go_wp2_with fail
    refine (twin_any C m e0 r _ HM.out (hr1.alloc _) (by omega)).mono ?_
    rintro e w2 ⟨X, cx, rfl, ox, hw2⟩
    have T : Tri w0 w2 g A c ⟨l, s, off, tr, x⟩ k B d ⟨l, s, off, tr, y⟩ w.heap.size #[.int .i64 a, .int .i64 N, .slice C m e0] X m cx r := by
      refine ⟨ht.also hw2, OB.base_le ox ht.size, ?_, ?_, (hw2.block _ (by simp)).trans hbx⟩
      · intro i hi hA
        have := (OB.lt ox hi).1
        have := hlA i hA
        simp at *
        omega
      · intro i hi hB
        have := (OB.lt ox hi).1
        have := hlB i hB
        simp at *
        omega
    have rc2 : RB w2 C r := (hr1.alloc _).new hw2
    have b0 := T.cell 0
    have b1 := T.cell 1
    have b2 := T.cell 2
    simp only [List.getElem?_toArray, List.getElem?_cons_zero, List.getElem?_cons_succ] at b0 b1 b2
    clear hw2 ox ht hbx hlA hlB hr1
    have HT := Lib.hid T
    clear T
    obtain ⟨z, l1, s1, off1, tr1, x1, y1, e1, e2, hxy1, hl1⟩ := both_start l s off tr x y HX.out
    have E1 := Lib.hid e1
    have E2 := Lib.hid e2
    clear e1 e2
    have F1 : Hid (St.start ⟨l, s, off, tr, x⟩ = _) := (Prod.ext_iff.1 E1.out).2
    have F2 : Hid (St.start ⟨l, s, off, tr, y⟩ = _) := (Prod.ext_iff.1 E2.out).2
    go_wp2_with fail
    refine (start_at HT.out.two.a _ F1.out).mono ?_
    intro e w3 hd
    obtain ⟨A3, c3, rfl, T3⟩ := HT.out.left hd
    clear hd b0 b1 b2
    have b1 := T3.cell 1
    simp only [List.getElem?_toArray, List.getElem?_cons_zero, List.getElem?_cons_succ] at b1
    have HT3 := Lib.hid T3
    clear T3
    go_wp2_with fail
    refine (start_ar HT3.out.two.b _ F2.out).mono ?_
    intro e w4 hd
    obtain ⟨B4, d4, rfl, T4⟩ := HT3.out.right hd
    clear hd b1
    go_wp2_with fail
    refine (spoil_any X m cx _ r _ T4.own).mono ?_
    rintro e w9 ⟨rfl, _, hk, _⟩
    go_wp2_with fail
    go_ret
    exact ⟨rfl, A3, c3, B4, d4, l1, s1, off1, tr1, x1, y1, T4.spoil hk (fun i hi => hi), hxy1, by have := hl1; have : m = r.length := HM.out; omega⟩
end Go.Proofs.Ytnhoofcllijmiaa
