/- The page's disk in blocks of its own; a log and the page's disk beside it. -/
import Derived.Test.YtemgiodakoojiaaBo
import Derived.Test.YtemgiodakoojiaaLgK
namespace Go.Proofs.Ytemgiodakoojiaa
set_option linter.unusedVariables false
open Go.RowKit
open Go.Proofs.Ytemgiodakoojiaa.Frm
open Go.Proofs.Ytemgiodakoojiaa.Jr
/-- the page's disk in blocks of G, made since w0 -/
structure RefB (G : Nat → Prop) (w0 w : World) (k : Nat) (B : Option Addr) (d : Nat) (ρ : St) : Prop where
  a : DKr w 0 k B d ρ
  kG : G k
  bG : ∀ i, blk B = some i → G i
  lo : ∀ i, G i → w0.heap.size ≤ i ∧ i < w.heap.size
  new : New w0 w
section
variable {G F1 F1' : Nat → Prop} {w0 w w' : World} {k d d' : Nat} {B B' : Option Addr} {ρ τ : St} {v e : Ending}
theorem RefB.other {S : Nat → Prop} (h : RefB G w0 w k B d ρ) (hk : Keep S w w') (hS : ∀ i, S i → ¬ G i) (hn : New w0 w') : RefB G w0 w' k B d ρ :=
  ⟨h.a.keep hk (fun hs => hS _ hs h.kG) (fun i hi hs => hS i hs (h.bG i hi)), h.kG, h.bG, fun i hi => by have := h.lo i hi; have := hk.size; omega, hn⟩
theorem RefB.also (h : RefB G w0 w k B d ρ) (hn : New w w') : RefB G w0 w' k B d ρ :=
  h.other (S := fun _ => False) (.of_new hn) (fun _ h => h.elim) (New.trans h.new hn)
theorem RefB.did (h : RefB G w0 w k B d ρ) (hd : DidR w 0 k B v τ e w') : ∃ B' d', e = v ∧ RefB (After G w w') w0 w' k B' d' τ ∧ Grew G (After G w w') w w' := by
  obtain ⟨B', d', he, k1, hm⟩ := hd
  have hp : Keep (Plus G w) w w' := hm.keep.mono fun i hi => by
    rcases hi with rfl | hi
    · exact .inl h.kG
    · exact .inl (h.bG i hi)
  refine ⟨B', d', he, ⟨k1, .inl h.kG, fun i hi => ?_, after_lo h.lo h.new.size hm.keep.size, new_of h.new h.lo hp⟩, grew hp⟩
  rcases hm.at_ with ha | ha
  · exact .inl (h.bG i (ha ▸ hi))
  · exact .inr ⟨ha i hi, (OB.lt k1.own hi).2⟩
theorem RefB.beside (h : RefB G w0 w k B d ρ) (hd : ∀ i, F1 i → ¬ G i) (hg : Grew F1 F1' w w') (hn : New w0 w') : RefB G w0 w' k B d ρ ∧ ∀ i, F1' i → ¬ G i :=
  ⟨h.other hg.keep hd hn, fun i hi hf => by
    rcases hg.sub i hi with hi | hi
    · exact hd i hi hf
    · have := (h.lo i hf).2; omega⟩
end
/-- blocks of E stay as they are, and lie apart -/
structure Off (E F : Nat → Prop) (w : World) : Prop where
  lt : ∀ i, E i → i < w.heap.size
  ap : ∀ i, E i → ¬ F i
theorem Off.step {E F F' : Nat → Prop} {w w' : World} (h : Off E F w) (hg : Grew F F' w w') : Off E F' w' :=
  ⟨fun i hi => Nat.lt_of_lt_of_le (h.lt i hi) hg.keep.size, fun i hi hf => by
    rcases hg.sub i hf with hf | hf
    · exact h.ap i hi hf
    · have := h.lt i hi; omega⟩
theorem Off.keep {E F F' : Nat → Prop} {w w' : World} (h : Off E F w) (hg : Grew F F' w w') : Keep (fun i => ¬ E i) w w' := hg.keep.mono fun i hi he => h.ap i he hi
theorem Off.also {E F : Nat → Prop} {w w' : World} (h : Off E F w) (hn : New w w') : Off E F w' := ⟨fun i hi => Nat.lt_of_lt_of_le (h.lt i hi) hn.size, h.ap⟩
end Go.Proofs.Ytemgiodakoojiaa
