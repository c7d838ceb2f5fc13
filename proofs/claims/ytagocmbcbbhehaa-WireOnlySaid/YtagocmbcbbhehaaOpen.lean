/- Arguments opened: a slice of bytes, a slice of slices of bytes. Over any program. -/
import Derived.Test.YtagocmbcbbhehaaApp
import Derived.Deep.Slices
import Derived.ProofKit
namespace Go.Proofs.Ytagocmbcbbhehaa
open Go.RowKit Go.ChangeShapes Go.WideShapes Go.Deep
section
variable {H : Type} {enc : TypeId × Value → H} {P : Program} {w : World} {base : Nat} {spare : Nat → Bool} {held : Bool}
theorem open_B {t e : TypeId} {fuel : Nat} {cs : List Value} {x : DataW H × List MemPlace} (ht : P.underlying t = some (.slice e)) (he : P.underlying e = some (.int .u8)) (hc : P.cellsOf e = 1)
    (h : DataW.trod enc P w base spare held fuel t cs = some x) : ∃ (A : Option Addr) (l : List UInt8) (c : Nat), cs = [.slice A l.length c] ∧ l.length ≤ c ∧ c ≤ maxLen ∧ RB w A l := by
  rcases open_ints ht he hc h with ⟨rfl, _⟩ | ⟨a, len, cap, zs, rfl, _, hl, hm, hz, _, hcell, hwf⟩
  · exact ⟨none, [], 0, rfl, Nat.le_refl _, Nat.zero_le _, RB.nil _ _⟩
  · have hzl : len ≤ zs.length := by rw [hz]; split <;> omega
    refine ⟨some a, (zs.take len).map fun z => UInt8.ofNat z.toNat, cap, ?_, ?_, hm, fun j u hu => ⟨a, rfl, ?_⟩⟩
    · rw [List.length_map, List.length_take, Nat.min_eq_left hzl]
    · rw [List.length_map, List.length_take, Nat.min_eq_left hzl]; exact hl
    · rw [List.getElem?_map, Option.map_eq_some_iff] at hu
      obtain ⟨z, hz', rfl⟩ := hu
      rw [List.getElem?_take] at hz'
      split at hz'
      · have hj : j < zs.length := (List.getElem?_eq_some_iff.1 hz').1
        rw [hcell j hj, List.getD_eq_getElem?_getD, hz', Option.getD_some]
        have hw := hwf z (List.mem_of_getElem? hz')
        have hb : 0 ≤ z ∧ z < 256 := by
          simp [Lit.wf, IntKind.min, IntKind.max, IntKind.signed, IntKind.bits] at hw
          omega
        rw [bv_of z hb.1 hb.2]
      · cases hz'
theorem open_BB {t r e : TypeId} {fuel : Nat} {cs : List Value} {x : DataW H × List MemPlace} (ht : P.underlying t = some (.slice r)) (hr : P.underlying r = some (.slice e)) (he : P.underlying e = some (.int .u8)) (hcr : P.cellsOf r = 1) (hc : P.cellsOf e = 1)
    (h : DataW.trod enc P w base spare held fuel t cs = some x) : ∃ (A : Option Addr) (ls : List (List UInt8)) (c : Nat), cs = [.slice A ls.length c] ∧ ls.length ≤ c ∧ c ≤ maxLen ∧ RR w A ls := by
  rcases open_slice1 ht hcr h with ⟨rfl, _⟩ | ⟨a, len, cap, m, n, V, D, Pl, rfl, _, hl, hm, hmm, _, hx⟩
  · exact ⟨none, [], 0, rfl, Nat.le_refl _, Nat.zero_le _, fun j l hj => by simp at hj⟩
  · have hlm : len ≤ m := by rw [hmm]; split <;> omega
    have key : ∀ i, i < len → ∃ l : List UInt8, ∃ B d, w.cell? (a.add i) = some (.slice B l.length d) ∧ l.length ≤ d ∧ d ≤ maxLen ∧ RB w B l := by
      intro i hi
      obtain ⟨h1, h2⟩ := hx i (by omega)
      obtain ⟨B, l, d, h3, h4, h5, h6⟩ := open_B hr he hc h2
      simp only [List.cons.injEq, and_true] at h3
      exact ⟨l, B, d, by rw [h1, h3], h4, h5, h6⟩
    obtain ⟨L, hL⟩ := choose_lt (α := List UInt8) (p := fun i l => ∃ B d, w.cell? (a.add i) = some (.slice B l.length d) ∧ l.length ≤ d ∧ d ≤ maxLen ∧ RB w B l) key
    refine ⟨some a, (List.range len).map L, cap, by simp, by simpa using hl, hm, fun j l hj => ?_⟩
    rw [List.getElem?_map, Option.map_eq_some_iff] at hj
    obtain ⟨i, hi, rfl⟩ := hj
    have hi' := List.getElem?_eq_some_iff.1 hi
    obtain ⟨hlt, hie⟩ := hi'
    simp only [List.length_range] at hlt
    simp only [List.getElem_range] at hie
    subst hie
    obtain ⟨B, d, h1, h2, h3, h4⟩ := hL j hlt
    exact ⟨a, B, d, rfl, h1, h2, h3, h4⟩
end
end Go.Proofs.Ytagocmbcbbhehaa
