/- What wire.whole tells. -/
import Derived.Test.YtagocmbcbbhehaaRwD
import Derived.Laws.ResultCell
namespace Go.Proofs.Ytagocmbcbbhehaa
set_option linter.unusedVariables false
open Go.RowKit
theorem results_cell_row_tmp {P : Program} {fn : Func} {p u : Tmp} {ty : TypeId} (h : fn.results = #[.cell p ty, .tmp u]) (tmps : Array Value) (w : World) (g : Nat) (t : TypeId) (cs : Array Value) (fr : Nat × Nat) (d : TypeDesc) (x : Value)
    (hp : tmps.getD p undef = .pointer (some ⟨g, 0, none⟩)) (hx : tmps.getD u undef = x) (hg : w.heap[g]? = some (.cells cs t fr))
    (hu : P.underlying ty = some d) (hd : (match d with | .struct _ | .array _ _ => true | _ => false) = true) (hi : (P.info? ty).map (·.size) = some cs.size) :
    (results fn tmps).run P w = .ok (.tuple #[.agg cs, x]) w := by
  rw [results_cell_tmp h tmps P w, hp, hx]
  simp [asAddr, run_loadVar_row w g t ty cs fr d hg hu hd hi]
theorem rw_new {w1 : World} {lo g c : Nat} {A : Option Addr} {k : List UInt8} (h : RKp w1 lo g A c k 0) : RW (w1.alloc (.cells #[.pointer (some ⟨g, 0, none⟩), .bool false] 129)) lo g w1.heap.size A c k 0 false :=
  ⟨h.new ((Below.refl _ _).alloc (Nat.le_refl _) _), heap_alloc_new _ _, h.lt⟩
/-- what is told of bytes k that are read as one whole: cells, and a code; where it is 0, the cells are written as k -/
def Whole (E : Nat → World → List Value → Ch → Prop) (z : Nat) (k : List UInt8) (w : World) (en : Ending) (w' : World) : Prop :=
  New w w' ∧ ∃ (cl : List Value) (x : Int), en = .returned (.tuple #[.agg cl.toArray, .int .i64 x]) ∧ cl.length = z ∧ (∀ v ∈ cl, v.oneCell' = true) ∧ (x = 0 → ∃ cs, Fut w.heap.size w' E cl cs ∧ none ∉ cs ∧ flat cs = k)
/-- the same, of one slice -/
def WholeL (E : Nat → World → List Value → Ch → Prop) (k : List UInt8) (w : World) (en : Ending) (w' : World) : Prop :=
  New w w' ∧ ∃ (B : Option Addr) (n d : Nat) (x : Int), en = .returned (.tuple #[.slice B n d, .int .i64 x]) ∧ (x = 0 → ∃ cs, Fut w.heap.size w' E [.slice B n d] cs ∧ none ∉ cs ∧ flat cs = k)
theorem done_code {e : Int} {n : Nat} (h : (if e = 0 ∧ 0 < n then (4 : Int) else e) = 0) : e = 0 ∧ n = 0 := by
  by_cases h1 : e = 0 ∧ 0 < n
  · rw [if_pos h1] at h; cases h
  · rw [if_neg h1] at h
    exact ⟨h, by omega⟩
end Go.Proofs.Ytagocmbcbbhehaa
