/- life.run: what it does. -/
import Derived.Test.YtblananbhibpmaaLf
import Derived.RegionTactic
namespace Go.Proofs.Ytblananbhibpmaa
open Go.RowKit
set_option maxHeartbeats 1000000 in
/-- the next event -/
theorem ev_any (gb gn : Nat) (E : Option Addr) (m d base : Nat) (z : List Int) (j : Nat) (x q : Int) (w : World) (hb : w.heap[gb]? = some (.cells #[.slice E m d] 22)) (hn : w.heap[gn]? = some (.cells #[.int .i64 q] 3)) (hq : q = (j : Int) - 1) (hne : gn ≠ gb) (ho : OIs w base E m d z) (hnb : gn < base) (hj : z[j]? = some x) (hj2 : j < 1000000000) :
    Calls Try.prog 27 #[.pointer (some ⟨gn, 0, none⟩), .pointer (some ⟨gb, 0, none⟩)] w fun e w' => e = .returned (.int .i64 x) ∧ w' = w.setCell ⟨gn, 0, none⟩ (.int .i64 j) := by
  have c0 : w.cell? ⟨gb, 0, none⟩ = some (.slice E m d) := cell_of_row w gb 0 _ _ _ hb
  have c1 : w.cell? ⟨gn, 0, none⟩ = some (.int .i64 q) := cell_of_row w gn 0 _ _ _ hn
  have f1 : w.frozen? ⟨gn, 0, none⟩ = false := frozen_of_row w gn 0 _ _ hn
  have hw1 : IntKind.i64.wrap (q + 1) = (j : Int) := by rw [hq, show (j : Int) - 1 + 1 = (j : Int) from by omega]; exact IntWalk.i64_in _ ⟨by omega, by omega⟩
  have hlt : j < m := by rw [← ho.len]; exact (List.getElem?_eq_some_iff.1 hj).1
  obtain ⟨ad, rfl, hc⟩ := ho.rb j x hj
  have hfar : ad.block ≠ gn := by
    have := (Own.lt ho (k := ad.block) rfl).1
    omega
  have hc2 : (w.setCell ⟨gn, 0, none⟩ (.int .i64 j)).cell? (ad.add j) = some (.int .i64 x) := by
    rw [World.cell?_of_block (Below.heap_setCell _ _ _ _ (by rw [add_block]; exact hfar))]
    exact hc
  have c02 : (w.setCell ⟨gn, 0, none⟩ (.int .i64 j)).cell? ⟨gb, 0, none⟩ = some (.slice (some ad) m d) := by
    rw [World.cell?_of_block (Below.heap_setCell _ _ _ _ (by show gb ≠ gn; exact fun e => hne e.symm))]
    exact c0
  have c12 : (w.setCell ⟨gn, 0, none⟩ (.int .i64 j)).cell? ⟨gn, 0, none⟩ = some (.int .i64 j) := by
    rw [cell_of_row _ gn 0 _ _ (0, 0) (heap_setCell_same w gn 0 _ _ _ hn)]
    rfl
  obtain ⟨w2, hw2⟩ : ∃ w2, w2 = w.setCell ⟨gn, 0, none⟩ (.int .i64 j) := ⟨_, rfl⟩
  have HW := Lib.hid hw2
  clear hb hn hq ho hj hc hfar hne hnb hw2
  go_enter Try.func27, Try.ntmps27
  go_wp2_with fail
  go_ret
  exact ⟨rfl, rfl⟩
theorem results_tc {P : Program} {fn : Func} {t u : Tmp} {ty : TypeId} {k : IntKind} (h : fn.results = #[.tmp t, .cell u ty]) (hu : P.underlying ty = some (.int k)) (tmps : Array Value) (w : World) (p : Addr) (v : Value) (hp : tmps[u]?.getD undef = .pointer (some p)) (hc : w.cell? p = some v) :
    (results fn tmps).run P w = .ok (.tuple #[tmps.getD t undef, v]) w := by
  simp [results, h, hp, asAddr, loadVar, isAgg, run_underlying hu, hc]
/-- what stands at a label of run -/
def RunAt (w : World) (A : Option Addr) (n c : Nat) (l : List Int) (s : Int) (a' : Act) (w' : World) : Prop :=
  ∃ (j : Nat) (E : Option Addr) (d : Nat) (u : Nat → Value),
    a' = { tmps := #[.slice A n c, .pointer (some ⟨w.heap.size, 0, none⟩), .int .i64 0, .pointer (some ⟨w.heap.size + 1, 0, none⟩), .func (.func 27) #[] #[.pointer (some ⟨w.heap.size + 1, 0, none⟩), .pointer (some ⟨w.heap.size, 0, none⟩)], u 5, u 6, u 7, u 8, u 9, u 10, u 11, u 12, u 13, u 14, u 15, u 16, u 17, u 18, u 19, u 20, u 21, u 22, u 23, u 24, u 25, u 26, u 27, u 28, u 29, u 30, u 31, u 32, u 33, u 34, u 35, u 36, u 37, u 38, u 39, u 40, u 41, u 42, u 43, u 44, u 45, u 46, u 47, u 48, u 49, u 50, u 51, u 52, u 53, u 54, u 55, u 56, u 57, u 58, u 59], defers := [] } ∧
      w'.heap[w.heap.size]? = some (.cells #[.slice E (l.length + 1) d] 22) ∧ w'.heap[w.heap.size + 1]? = some (.cells #[.int .i64 ((j : Int) - 1)] 3) ∧ OIs w' (w.heap.size + 2) E (l.length + 1) d (l ++ [0]) ∧ New w w' ∧ j ≤ l.length ∧
      wk 0 l = ((wk s (l.drop j)).1, j + (wk s (l.drop j)).2)
/-- which state a label is -/
def labSt : Nat → Int
  | 0 => 1 | 1 => 0 | 2 => 2 | 3 => 4 | 4 => 7 | 5 => 3 | 6 => 6 | _ => 5
/-- how many events are left -/
def runMu (w : World) (l : List Int) (_ : Act) (w' : World) : Nat := ((l.length : Int) + 5 - intOf ((w'.cell? ⟨w.heap.size + 1, 0, none⟩).getD undef)).toNat
def Ran (w : World) (l : List Int) (e : Ending) (w' : World) : Prop := e = .returned (.tuple #[.int .i64 (wk 0 l).1, .int .i64 ((wk 0 l).2 : Nat)]) ∧ New w w'
/-- an event is taken -/
theorem run_next {w w' : World} {A E : Option Addr} {n c d j : Nat} {l : List Int} {s s' x : Int} {k : Nat}
    (hb : w'.heap[w.heap.size]? = some (.cells #[.slice E (l.length + 1) d] 22)) (hn : w'.heap[w.heap.size + 1]? = some (.cells #[.int .i64 ((j : Int) - 1)] 3)) (ho : OIs w' (w.heap.size + 2) E (l.length + 1) d (l ++ [0])) (hw : New w w') (hj : j ≤ l.length)
    (hk : wk 0 l = ((wk s (l.drop j)).1, j + (wk s (l.drop j)).2)) (hx : (l ++ [0])[j]? = some x) (hnx : nx s x = some s') (hk8 : k < 8) (hlab : labSt k = s') (a a' : Act) (hx0 : x ≠ 0)
    (ha : a' = { tmps := #[.slice A n c, .pointer (some ⟨w.heap.size, 0, none⟩), .int .i64 0, .pointer (some ⟨w.heap.size + 1, 0, none⟩), .func (.func 27) #[] #[.pointer (some ⟨w.heap.size + 1, 0, none⟩), .pointer (some ⟨w.heap.size, 0, none⟩)], a'.tmps.getD 5 undef, a'.tmps.getD 6 undef, a'.tmps.getD 7 undef, a'.tmps.getD 8 undef, a'.tmps.getD 9 undef, a'.tmps.getD 10 undef, a'.tmps.getD 11 undef, a'.tmps.getD 12 undef, a'.tmps.getD 13 undef, a'.tmps.getD 14 undef, a'.tmps.getD 15 undef, a'.tmps.getD 16 undef, a'.tmps.getD 17 undef, a'.tmps.getD 18 undef, a'.tmps.getD 19 undef, a'.tmps.getD 20 undef, a'.tmps.getD 21 undef, a'.tmps.getD 22 undef, a'.tmps.getD 23 undef, a'.tmps.getD 24 undef, a'.tmps.getD 25 undef, a'.tmps.getD 26 undef, a'.tmps.getD 27 undef, a'.tmps.getD 28 undef, a'.tmps.getD 29 undef, a'.tmps.getD 30 undef, a'.tmps.getD 31 undef, a'.tmps.getD 32 undef, a'.tmps.getD 33 undef, a'.tmps.getD 34 undef, a'.tmps.getD 35 undef, a'.tmps.getD 36 undef, a'.tmps.getD 37 undef, a'.tmps.getD 38 undef, a'.tmps.getD 39 undef, a'.tmps.getD 40 undef, a'.tmps.getD 41 undef, a'.tmps.getD 42 undef, a'.tmps.getD 43 undef, a'.tmps.getD 44 undef, a'.tmps.getD 45 undef, a'.tmps.getD 46 undef, a'.tmps.getD 47 undef, a'.tmps.getD 48 undef, a'.tmps.getD 49 undef, a'.tmps.getD 50 undef, a'.tmps.getD 51 undef, a'.tmps.getD 52 undef, a'.tmps.getD 53 undef, a'.tmps.getD 54 undef, a'.tmps.getD 55 undef, a'.tmps.getD 56 undef, a'.tmps.getD 57 undef, a'.tmps.getD 58 undef, a'.tmps.getD 59 undef], defers := [] }) :
    k < 8 ∧ RunAt w A n c l (labSt k) a' (w'.setCell ⟨w.heap.size + 1, 0, none⟩ (.int .i64 j)) ∧ runMu w l a' (w'.setCell ⟨w.heap.size + 1, 0, none⟩ (.int .i64 j)) < runMu w l a w' := by
  have hjl : j < l.length := by
    rcases Nat.lt_or_ge j l.length with h | h
    · exact h
    · exfalso
      have : j = l.length := by omega
      subst this
      rw [List.getElem?_append_right (Nat.le_refl _)] at hx
      simp at hx
      exact hx0 hx.symm
  have hxl : l[j]? = some x := by rw [← List.getElem?_append_left hjl]; exact hx
  have hc : (w'.setCell ⟨w.heap.size + 1, 0, none⟩ (.int .i64 j)).heap[w.heap.size + 1]? = some (.cells #[.int .i64 (j : Int)] 3 (0, 0)) := heap_setCell_same w' (w.heap.size + 1) 0 _ _ _ hn
  refine ⟨hk8, ?_, ?_⟩
  · refine ⟨j + 1, E, d, fun i => a'.tmps.getD i undef, ha, ?_, ?_, ?_, ?_, hjl, ?_⟩
    · rw [Below.heap_setCell _ _ _ _ (by show w.heap.size ≠ w.heap.size + 1; omega)]
      exact hb
    · rw [hc, show (((j + 1 : Nat) : Int) - 1) = (j : Int) from by omega]
    · refine Own.keep ho (Keep.setAt _ _ _ _) ?_
      rintro i hi rfl
      have := (Own.lt ho hi).1
      omega
    · exact Below.setCell hw (by show w.heap.size ≤ w.heap.size + 1; omega) _
    · rw [hlab]
      exact wk_step hk hxl hnx
  · unfold runMu
    rw [cell_of_row _ _ 0 _ _ _ hc, cell_of_row _ _ 0 _ _ _ hn]
    show ((l.length : Int) + 5 - (j : Int)).toNat < ((l.length : Int) + 5 - ((j : Int) - 1)).toNat
    omega
/-- an event is taken -/
theorem run_next0 {w w' : World} {A E : Option Addr} {n c d j : Nat} {l : List Int} {s s' x : Int} {k : Nat}
    (hb : w'.heap[w.heap.size]? = some (.cells #[.slice E (l.length + 1) d] 22)) (hn : w'.heap[w.heap.size + 1]? = some (.cells #[.int .i64 ((j : Int) - 1)] 3)) (ho : OIs w' (w.heap.size + 2) E (l.length + 1) d (l ++ [0])) (hw : New w w') (hj : j ≤ l.length)
    (hk : wk 0 l = ((wk s (l.drop j)).1, j + (wk s (l.drop j)).2)) (hx : (l ++ [0])[j]? = some x) (hnx : nx s x = some s') (hk8 : k < 8) (hlab : labSt k = s') (a' : Act) (hx0 : x ≠ 0)
    (ha : a' = { tmps := #[.slice A n c, .pointer (some ⟨w.heap.size, 0, none⟩), .int .i64 0, .pointer (some ⟨w.heap.size + 1, 0, none⟩), .func (.func 27) #[] #[.pointer (some ⟨w.heap.size + 1, 0, none⟩), .pointer (some ⟨w.heap.size, 0, none⟩)], a'.tmps.getD 5 undef, a'.tmps.getD 6 undef, a'.tmps.getD 7 undef, a'.tmps.getD 8 undef, a'.tmps.getD 9 undef, a'.tmps.getD 10 undef, a'.tmps.getD 11 undef, a'.tmps.getD 12 undef, a'.tmps.getD 13 undef, a'.tmps.getD 14 undef, a'.tmps.getD 15 undef, a'.tmps.getD 16 undef, a'.tmps.getD 17 undef, a'.tmps.getD 18 undef, a'.tmps.getD 19 undef, a'.tmps.getD 20 undef, a'.tmps.getD 21 undef, a'.tmps.getD 22 undef, a'.tmps.getD 23 undef, a'.tmps.getD 24 undef, a'.tmps.getD 25 undef, a'.tmps.getD 26 undef, a'.tmps.getD 27 undef, a'.tmps.getD 28 undef, a'.tmps.getD 29 undef, a'.tmps.getD 30 undef, a'.tmps.getD 31 undef, a'.tmps.getD 32 undef, a'.tmps.getD 33 undef, a'.tmps.getD 34 undef, a'.tmps.getD 35 undef, a'.tmps.getD 36 undef, a'.tmps.getD 37 undef, a'.tmps.getD 38 undef, a'.tmps.getD 39 undef, a'.tmps.getD 40 undef, a'.tmps.getD 41 undef, a'.tmps.getD 42 undef, a'.tmps.getD 43 undef, a'.tmps.getD 44 undef, a'.tmps.getD 45 undef, a'.tmps.getD 46 undef, a'.tmps.getD 47 undef, a'.tmps.getD 48 undef, a'.tmps.getD 49 undef, a'.tmps.getD 50 undef, a'.tmps.getD 51 undef, a'.tmps.getD 52 undef, a'.tmps.getD 53 undef, a'.tmps.getD 54 undef, a'.tmps.getD 55 undef, a'.tmps.getD 56 undef, a'.tmps.getD 57 undef, a'.tmps.getD 58 undef, a'.tmps.getD 59 undef], defers := [] }) :
    k < 8 ∧ RunAt w A n c l (labSt k) a' (w'.setCell ⟨w.heap.size + 1, 0, none⟩ (.int .i64 j)) :=
  ⟨(run_next hb hn ho hw hj hk hx hnx hk8 hlab a' a' hx0 ha).1, (run_next hb hn ho hw hj hk hx hnx hk8 hlab a' a' hx0 ha).2.1⟩
end Go.Proofs.Ytblananbhibpmaa
