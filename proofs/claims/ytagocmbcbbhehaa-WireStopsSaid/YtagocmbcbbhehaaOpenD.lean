/- An argument opened: a struct of two ints. -/
import Derived.Test.YtagocmbcbbhehaaOpen
import Derived.Laws.IdiomArrays
import Derived.ChangeSame
import Derived.Test.YtagocmbcbbhehaaWrA
namespace Go.Proofs.Ytagocmbcbbhehaa
open Go.RowKit Go.ChangeShapes Go.WideShapes Go.Deep
section
variable {H : Type} {enc : TypeId × Value → H} {P : Program} {w : World} {base : Nat} {spare : Nat → Bool} {held : Bool}
theorem i64_of {e : TypeId} {n : Nat} {c : Value} {y : DataW H × List MemPlace} (he : P.underlying e = some (.int .i64)) (h : DataW.trod enc P w base spare held n e [c] = some y) : ∃ z : Int, c = .int .i64 z ∧ I64 z := by
  obtain ⟨z, hc, _, hw⟩ := DataW.trod_int he h
  simp at hc
  refine ⟨z, hc, ?_⟩
  simp [Lit.wf, IntKind.min, IntKind.max, IntKind.signed, IntKind.bits] at hw
  unfold I64
  omega
theorem open_id {r : Reach} {k0 : Nat} {t : TypeId} {f0 f1 : Field} {v : Value} {d : DataW H} {ps : List MemPlace} (ht : P.underlying t = some (.struct #[f0, f1])) (h0 : P.underlying f0.type = some (.int .i64)) (h1 : P.underlying f1.type = some (.int .i64)) (o0 : f0.offset = 0) (o1 : f1.offset = 1) (c0 : P.cellsOf f0.type = 1) (c1 : P.cellsOf f1.type = 1) (hct : P.cellsOf t = 2)
    (hval : Value.okWide P w r k0 t v) (hd : DataW.Trod enc P w base spare held t v d ps) : ∃ a b : Int, v = .agg #[.int .i64 a, .int .i64 b] ∧ I64 a ∧ I64 b := by
  obtain ⟨cs, rfl, hsz⟩ := okWide_struct ht hval
  rw [hct] at hsz
  obtain ⟨l⟩ := cs
  obtain ⟨u0, u1, rfl⟩ : ∃ u0 u1, l = [u0, u1] := by
    match l, hsz with
    | [u0, u1], _ => exact ⟨u0, u1, rfl⟩
  obtain ⟨fuel, hf⟩ := hd
  obtain ⟨y0, y1, n, _, _, hy0, hy1⟩ := trod_struct2 ht hf
  rw [o0, c0] at hy0
  rw [o1, c1] at hy1
  obtain ⟨a, rfl, ha⟩ := i64_of (c := u0) h0 hy0
  obtain ⟨b, rfl, hb⟩ := i64_of (c := u1) h1 hy1
  exact ⟨a, b, rfl, ha, hb⟩
end
end Go.Proofs.Ytagocmbcbbhehaa
