/- A wire.reader in memory; what holds of what was read, whatever is read behind it. -/
import Derived.Test.YtagocmbcbbhehaaWnC
import Derived.Test.YtagocmbcbbhehaaRdE
import Derived.Test.YtagocmbcbbhehaaCan
namespace Go.Proofs.Ytagocmbcbbhehaa
set_option linter.unusedVariables false
open Go.RowKit
theorem grownBy_setRow (W : World) (g : Nat) (cs : Array Value) : W.grownBy (W.setRow g cs) (some g) := by
  refine ⟨rfl, rfl, rfl, ?_, fun k hk hne => ?_⟩
  · simp [World.setRow]
  · have hgk : ¬ g = k := fun h => hne (by rw [h])
    simp [World.setRow, Array.getElem?_modify, hgk]
/-- block R is a wire.reader over the pack.Reader in block g -/
structure RW (w : World) (lo g R : Nat) (A : Option Addr) (c : Nat) (l : List UInt8) (e : Int) (lg : Bool) : Prop where
  rk : RKp w lo g A c l e
  cell : w.heap[R]? = some (.cells #[.pointer (some ⟨g, 0, none⟩), .bool lg] 129 (0, 0))
  ord : g < R
abbrev S2 (g R : Nat) : Nat → Prop := fun i => i = g ∨ i = R
/-- E holds of these cells from w on, as long as nothing changes but blocks below a -/
def Fut (a : Nat) (w : World) (E : Nat → World → List Value → Ch → Prop) (cl : List Value) (cs : Ch) : Prop := ∀ w', Keep (fun i => i < a) w w' → E w'.heap.size w' cl cs
def flat : Ch → List UInt8
  | [] => []
  | some b :: t => b ++ flat t
  | none :: t => flat t
theorem flat_append (a b : Ch) : flat (a ++ b) = flat a ++ flat b := by
  induction a with
  | nil => rfl
  | cons o t ih =>
    cases o with
    | none => exact ih
    | some x => show x ++ flat (t ++ b) = (x ++ flat t) ++ flat b; rw [ih, List.append_assoc]
theorem run_flat (cs : Ch) (h : none ∉ cs) (l : List UInt8) (b : Bool) : run cs (l, b) = (l ++ flat cs, b) := by
  induction cs generalizing l with
  | nil => show (l, b) = _; rw [flat, List.append_nil]
  | cons o t ih =>
    cases o with
    | none => exact absurd (List.mem_cons_self ..) h
    | some x =>
      show run t (l ++ x, b) = _
      rw [ih (fun hm => h (List.mem_cons_of_mem _ hm)), flat, List.append_assoc]
theorem sz_flat (cs : Ch) : sz cs = (flat cs).length := by
  induction cs with
  | nil => rfl
  | cons o t ih =>
    cases o with
    | none => exact ih
    | some x => show x.length + sz t = (x ++ flat t).length; rw [List.length_append, ih]
/-- what is left behind the reading of the cells cl -/
def Core (E : Nat → World → List Value → Ch → Prop) (cl : List Value) (w : World) (lo g R : Nat) (l : List UInt8) (e : Int) (lg : Bool) (w' : World) : Prop :=
  ∃ cs A c l' e' lg', RW w' lo g R A c l' e' lg' ∧ Keep (S2 g R) w w' ∧ Fut w.heap.size w' E cl cs ∧ none ∉ cs ∧ (e' = 0 → lg' = false → e = 0 ∧ lg = false ∧ l = flat cs ++ l')
/-- what a function that reads a struct tells -/
def Red (E : Nat → World → List Value → Ch → Prop) (w : World) (lo g R : Nat) (l : List UInt8) (e : Int) (lg : Bool) (en : Ending) (w' : World) : Prop := ∃ cl : List Value, en = .returned (.agg cl.toArray) ∧ Core E cl w lo g R l e lg w'
/-- what a function that reads one cell tells -/
def RedL (E : Nat → World → List Value → Ch → Prop) (w : World) (lo g R : Nat) (l : List UInt8) (e : Int) (lg : Bool) (en : Ending) (w' : World) : Prop := ∃ v, en = .returned v ∧ Core E [v] w lo g R l e lg w'
theorem iv_zz (V : Nat) : iv (zz V) = uv V := by
  unfold iv zz
  congr 1
  by_cases h : V % 2 = 0
  · rw [if_pos h, if_pos (by omega)]; omega
  · rw [if_neg h, if_neg (by omega)]; omega
theorem zz_i64 {V : Nat} (h : V < 18446744073709551616) : I64 (zz V) := by
  unfold I64 zz
  split <;> omega
theorem Fut.on {a : Nat} {w w' : World} {E : Nat → World → List Value → Ch → Prop} {cl : List Value} {cs : Ch} (h : Fut a w E cl cs) (hk : Keep (fun i => i < a) w w') : Fut a w' E cl cs := fun w'' hk' => h w'' (Keep.trans hk hk')
theorem Fut.now {a : Nat} {w : World} {E : Nat → World → List Value → Ch → Prop} {cl : List Value} {cs : Ch} (h : Fut a w E cl cs) : E w.heap.size w cl cs := h w (Keep.refl _ _)
theorem Fut.le {a b : Nat} {w : World} {E : Nat → World → List Value → Ch → Prop} {cl : List Value} {cs : Ch} (h : Fut a w E cl cs) (hb : b ≤ a) : Fut b w E cl cs := fun w'' hk' => h w'' (hk'.mono fun i hi => Nat.lt_of_lt_of_le hi hb)
section
variable {w w' : World} {lo g R c : Nat} {A : Option Addr} {l l' : List UInt8} {e x : Int} {lg : Bool}
theorem RW.got {A' : Option Addr} {c' : Nat} (h : RW w lo g R A c l e lg) (hr : RKp w' lo g A' c' l' x) (hk : Keep (fun i => i = g) w w') : RW w' lo g R A' c' l' x lg ∧ Keep (S2 g R) w w' := by
  refine ⟨⟨hr, (hk.block R (Array.getElem?_eq_some_iff.1 h.cell).1 (fun hi => by have := h.ord; omega)).trans h.cell, h.ord⟩, hk.mono fun i hi => .inl hi⟩
end
end Go.Proofs.Ytagocmbcbbhehaa
