/- An argument opened: an array of four bytes. -/
import Derived.Test.YtjdcikhbgbefcaaOpen
import Derived.Laws.IdiomArrays
import Derived.Lib.SmallJoins
namespace Go.Proofs.Ytjdcikhbgbefcaa
open Go.RowKit Go.ChangeShapes Go.WideShapes Go.Deep
section
variable {H : Type} {enc : TypeId × Value → H} {P : Program} {w : World} {base : Nat} {spare : Nat → Bool} {held : Bool}
theorem byte_of {e : TypeId} {n : Nat} {c : Value} {y : DataW H × List MemPlace} (he : P.underlying e = some (.int .u8)) (h : DataW.trod enc P w base spare held n e [c] = some y) : ∃ b : UInt8, c = bv b := by
  obtain ⟨z, hc, _, hw⟩ := DataW.trod_int he h
  simp at hc
  have hb : 0 ≤ z ∧ z < 256 := by
    simp [Lit.wf, IntKind.min, IntKind.max, IntKind.signed, IntKind.bits] at hw
    omega
  exact ⟨UInt8.ofNat z.toNat, by rw [hc, bv_of z hb.1 hb.2]⟩
theorem open_arr4 {r : Reach} {k0 : Nat} {t e : TypeId} {v : Value} {d : DataW H} {ps : List MemPlace} (ht : P.underlying t = some (.array 4 e)) (he : P.underlying e = some (.int .u8)) (hce : P.cellsOf e = 1) (hct : P.cellsOf t = 4)
    (hval : Value.okWide P w r k0 t v) (hd : DataW.Trod enc P w base spare held t v d ps) : ∃ b0 b1 b2 b3 : UInt8, v = .agg #[bv b0, bv b1, bv b2, bv b3] := by
  obtain ⟨cs, rfl, hsz, _⟩ : ∃ cs, v = .agg cs ∧ cs.size = P.cellsOf t ∧ Row.okWide P w r k0 t cs := by
    simpa [Value.okWide, ht] using hval
  rw [hct] at hsz
  obtain ⟨l⟩ := cs
  obtain ⟨c0, c1, c2, c3, rfl⟩ : ∃ c0 c1 c2 c3, l = [c0, c1, c2, c3] := by
    match l, hsz with
    | [c0, c1, c2, c3], _ => exact ⟨c0, c1, c2, c3, rfl⟩
  obtain ⟨fuel, hf⟩ := hd
  obtain ⟨y0, y1, y2, y3, m, hx, hy0, hy1, hy2, hy3⟩ := trod_array4 ht hce hf
  obtain ⟨b0, rfl⟩ := byte_of he hy0
  obtain ⟨b1, rfl⟩ := byte_of he hy1
  obtain ⟨b2, rfl⟩ := byte_of he hy2
  obtain ⟨b3, rfl⟩ := byte_of he hy3
  exact ⟨b0, b1, b2, b3, rfl⟩
end
end Go.Proofs.Ytjdcikhbgbefcaa
