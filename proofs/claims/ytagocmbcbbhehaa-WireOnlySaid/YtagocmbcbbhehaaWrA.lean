/- wire.writer: id, span, slot: what they do. -/
import Derived.Test.YtagocmbcbbhehaaPwA
import Derived.Deep.RegionHeld3
import Derived.StillTailTactics
namespace Go.Proofs.Ytagocmbcbbhehaa
set_option linter.unusedVariables false
open Go.RowKit
/-- a whole number's bytes -/
def iv (z : Int) : List UInt8 := uv (if 0 ≤ z then (2 * z).toNat else (-2 * z - 1).toNat)
theorem iv_is (z : Int) (h : -9223372036854775808 ≤ z ∧ z ≤ 9223372036854775807) : ∃ v, v < 18446744073709551616 ∧ iv z = uv v ∧ zz v = z := by
  unfold iv
  by_cases h0 : 0 ≤ z
  · rw [if_pos h0]
    refine ⟨_, by omega, rfl, ?_⟩
    unfold zz
    rw [if_pos (by omega)]
    omega
  · rw [if_neg h0]
    refine ⟨_, by omega, rfl, ?_⟩
    unfold zz
    rw [if_neg (by omega)]
    omega
theorem iv_le (z : Int) (h : -9223372036854775808 ≤ z ∧ z ≤ 9223372036854775807) : (iv z).length ≤ 10 := by
  obtain ⟨v, h1, h2, _⟩ := iv_is z h
  rw [h2]
  exact uv_ten h1
/-- a number of the language's -/
abbrev I64 (z : Int) : Prop := -9223372036854775808 ≤ z ∧ z ≤ 9223372036854775807
theorem wint {base g c : Nat} {A : Option Addr} {l : List UInt8} {x : Bool} {w : World} (h : PW w base g A c l x) (z : Int) (hz : I64 z) (hmax : l.length + 10 ≤ 140737488355328) (hb : base ≤ w.heap.size) :
    Calls Try.prog 30 #[.pointer (some ⟨g, 0, none⟩), .int .i64 z] w (Put w base g A (.returned (.tuple #[])) (l ++ iv z) x) := by
  obtain ⟨v, h1, h2, h3⟩ := iv_is z hz
  have h4 := iv_le z hz
  rw [h2] at h4 ⊢
  exact int_pk h v h1 (by omega) hb z h3
/-- a call that writes leaves what was below its base -/
theorem Put.step {w w' : World} {base g c : Nat} {A : Option Addr} {v e : Ending} {l l' : List UInt8} {x x' : Bool} (hd : PW w base g A c l x) (h : Put w base g A v l' x' e w') (hb : base ≤ w.heap.size) : ∃ A' c', e = v ∧ PW w' base g A' c' l' x' ∧ Moved w w' g A A' ∧ base ≤ w'.heap.size := by
  obtain ⟨A', c', he, h1, h2⟩ := h
  exact ⟨A', c', he, h1, h2, Nat.le_trans hb h2.keep.size⟩
/-- a block of other things stays, whatever is written -/
theorem box_keepW {w w' : World} {base g gb c : Nat} {A A' : Option Addr} {l : List UInt8} {x : Bool} {bx : Array Value} {U : TypeId} (hb : w.heap[gb]? = some (.cells bx U (0, 0))) (ha : PW w base g A c l x) (hU : U ≠ 66) (hU8 : U ≠ 5) (hm : Moved w w' g A A') : w'.heap[gb]? = some (.cells bx U (0, 0)) := by
  refine (hm.keep.block gb (Array.getElem?_eq_some_iff.1 hb).1 ?_).trans hb
  rintro (e | e)
  · subst e
    rw [ha.cells] at hb
    injection hb with hb
    injection hb with _ hb
    exact hU hb.symm
  · obtain ⟨cur, h1⟩ := ha.own.cells_ e
    rw [hb] at h1
    injection h1 with h1
    injection h1 with _ h1
    exact hU8 h1
end Go.Proofs.Ytagocmbcbbhehaa
