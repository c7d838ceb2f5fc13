/- Arguments opened: a slice of structs of two numbers and bytes. -/
import Derived.Test.YtemgiodakoojiaaOpen
import Derived.Test.YtemgiodakoojiaaEqH
import Derived.Deep.Strs
namespace Go.Proofs.Ytemgiodakoojiaa
open Go.RowKit Go.ChangeShapes Go.WideShapes Go.Deep
section
variable {H : Type} {enc : TypeId × Value → H} {P : Program} {w : World} {base : Nat} {spare : Nat → Bool} {held : Bool}
theorem open_acts {t e : TypeId} {f0 f1 f2 : Field} {fuel : Nat} {cs : List Value} {x : DataW H × List MemPlace} {be : TypeId} (ht : P.underlying t = some (.slice e)) (he : P.underlying e = some (.struct #[f0, f1, f2])) (ce : P.cellsOf e = 3)
    (o0 : f0.offset = 0) (o1 : f1.offset = 1) (o2 : f2.offset = 2) (c0 : P.cellsOf f0.type = 1) (c1 : P.cellsOf f1.type = 1) (c2 : P.cellsOf f2.type = 1)
    (t0 : P.underlying f0.type = some (.int .i64)) (t1 : P.underlying f1.type = some (.int .i64)) (t2 : P.underlying f2.type = some (.slice be)) (tb : P.underlying be = some (.int .u8)) (cb : P.cellsOf be = 1)
    (h : DataW.trod enc P w base spare held fuel t cs = some x) : ∃ (A : Option Addr) (ls : List Actt) (c : Nat), cs = [.slice A ls.length c] ∧ ls.length ≤ c ∧ c ≤ maxLen ∧ RA w A ls := by
  rcases open_slice ht h with ⟨rfl, _⟩ | ⟨a, len, cap, m, n, D, Pl, rfl, _, hl, hm, hmm, _, hx⟩
  · exact ⟨none, [], 0, rfl, Nat.le_refl _, Nat.zero_le _, fun j l hj => by simp at hj⟩
  · have hlm : len ≤ m := by rw [hmm]; split <;> omega
    rw [ce] at hx
    have key : ∀ i, i < len → ∃ r : Actt, ∃ B d, w.cell? (a.add (i * 3)) = some (.int .i64 r.1) ∧ w.cell? ⟨(a.add (i * 3)).block, (a.add (i * 3)).off + 1, none⟩ = some (.int .i64 r.2.1) ∧ w.cell? ⟨(a.add (i * 3)).block, (a.add (i * 3)).off + 2, none⟩ = some (.slice B r.2.2.length d) ∧ r.2.2.length ≤ d ∧ d ≤ maxLen ∧ RB w B r.2.2 := by
      intro i hi
      obtain ⟨cs', h1, h2⟩ := hx i (by omega)
      obtain ⟨_, hlen, hcell⟩ := World.cells?_some h1
      match cs', hlen with
      | [v0, v1, v2], _ =>
        obtain ⟨y0, y1, y2, n', _, _, g0, g1, g2⟩ := trod_struct3 he h2
        rw [o0, c0] at g0
        rw [o1, c1] at g1
        rw [o2, c2] at g2
        obtain ⟨z0, e0, _, _⟩ := DataW.trod_int t0 g0
        obtain ⟨z1, e1, _, _⟩ := DataW.trod_int t1 g1
        obtain ⟨B, l, d, e2, h4, h5, h6⟩ := open_B t2 tb cb g2
        simp only [List.drop_zero, List.take_succ_cons, List.take_zero, List.cons.injEq, and_true] at e0
        simp only [List.drop_succ_cons, List.drop_zero, List.take_succ_cons, List.take_zero, List.cons.injEq, and_true] at e1 e2
        refine ⟨(z0, z1, l), B, d, ?_, ?_, ?_, h4, h5, h6⟩
        · rw [← e0]; exact hcell 0 (by omega)
        · rw [← e1]; exact hcell 1 (by omega)
        · rw [← e2]; exact hcell 2 (by omega)
    obtain ⟨L, hL⟩ := choose_lt (α := Actt) (p := fun i r => ∃ B d, w.cell? (a.add (i * 3)) = some (.int .i64 r.1) ∧ w.cell? ⟨(a.add (i * 3)).block, (a.add (i * 3)).off + 1, none⟩ = some (.int .i64 r.2.1) ∧ w.cell? ⟨(a.add (i * 3)).block, (a.add (i * 3)).off + 2, none⟩ = some (.slice B r.2.2.length d) ∧ r.2.2.length ≤ d ∧ d ≤ maxLen ∧ RB w B r.2.2) key
    refine ⟨some a, (List.range len).map L, cap, by simp, by simpa using hl, hm, fun j l hj => ?_⟩
    rw [List.getElem?_map, Option.map_eq_some_iff] at hj
    obtain ⟨i, hi, rfl⟩ := hj
    obtain ⟨hlt, hie⟩ := List.getElem?_eq_some_iff.1 hi
    simp only [List.length_range] at hlt
    simp only [List.getElem_range] at hie
    subst hie
    obtain ⟨B, d, h1, h2, h3, h4⟩ := hL j hlt
    exact ⟨a, B, d, rfl, h1, h2, h3, h4⟩
end
end Go.Proofs.Ytemgiodakoojiaa
