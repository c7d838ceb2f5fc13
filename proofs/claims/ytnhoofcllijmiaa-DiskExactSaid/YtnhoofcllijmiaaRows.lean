/-
  No cell of these rows narrows 'for every input' (looked for: loops, veiled, ifaces, maps, wideKeys, modest, calm, conditions, laid).
  DERIVED. THE GIVEN ROWS OF THIS SEAT. 6 by the template 'for every input the law returns true; each argument reads behind the call as it read before'; 0 by the template 'total and deterministic' (their statements: YtnhoofcllijmiaaTotals.lean).
  GIVEN WITH THE SEED: the statements are not yours to turn. If you find one false, say at which input.
  Laid BY PROGRAM, IN A SANDBOX (cutbox-rows.mjs): the forced cells as the released guide's own fill.sh prints them over the translation 10b9e19fd24181a4… (all of the seat's roots in one cut). By AI agents, Wed Nov 11 2026. No macro, syntax, notation, axiom, sorry.
-/
import Derived.Test.YtnhoofcllijmiaaChecked
import GoSem.Claim
import GoSem.ClaimJoined
import GoSem.ClaimMapViews
import Derived.JoinedTies
import Derived.KernelRfl
namespace Go.Proofs.Ytnhoofcllijmiaa
/- THE CELL 'sum', in the pinned program and in every row, IS THE sha256 OF THE DUMP (.gsa) THAT YtnhoofcllijmiaaProg.lean LOADS. Nothing in Lean hashes anything: it is a label: what it is worth is what the hold of that sum in a sandbox is worth. -/
noncomputable def Try.pinned : Pinned := { name := "ytnhoofcllijmiaa", sum := "10b9e19fd24181a47309bfa374ad6d0acb95355fb6bf2d697cbc21609f0d34ff", checked := Try.checked }
namespace Rows
def none {H : Type} : Left H := { results := [], args := [] }

/-- 'hanselaw06.DiskParts': WHATEVER THE INPUT: true; the input reads as it did. -/
def diskPartsSpec : ChangeSpec := { name := "diskParts", fn := fun _ => fun
  | [d] => { results := [.lit (.bool true)], args := [d] }
  | _ => none }
def diskPartsRow : OpenClaim := { program := "ytnhoofcllijmiaa", sum := "10b9e19fd24181a47309bfa374ad6d0acb95355fb6bf2d697cbc21609f0d34ff", func := "hanse/hanselaw06.DiskParts", spec := "diskParts", apart := false }
def DiskPartsSaid : Prop := diskPartsRow.holds Try.pinned (OpenSpec.ofChange diskPartsSpec)

/-- ITS FALSE NEIGHBOUR: 'it returns false'. Refute it at one input. -/
def diskPartsWrong : ChangeSpec := { name := "diskParts", fn := fun _ => fun
  | [d] => { results := [.lit (.bool false)], args := [d] }
  | _ => none }
def DiskPartsWrongFalsely : Prop := diskPartsRow.holds Try.pinned (OpenSpec.ofChange diskPartsWrong)

/-- 'hanselaw06.DiskAgain': WHATEVER THE INPUT: true; the input reads as it did. -/
def diskAgainSpec : ChangeSpec := { name := "diskAgain", fn := fun _ => fun
  | [d1, d2, d3, d4] => { results := [.lit (.bool true)], args := [d1, d2, d3, d4] }
  | _ => none }
def diskAgainRow : OpenClaim := { program := "ytnhoofcllijmiaa", sum := "10b9e19fd24181a47309bfa374ad6d0acb95355fb6bf2d697cbc21609f0d34ff", func := "hanse/hanselaw06.DiskAgain", spec := "diskAgain", apart := false }
def DiskAgainSaid : Prop := diskAgainRow.holds Try.pinned (OpenSpec.ofChange diskAgainSpec)

/-- ITS FALSE NEIGHBOUR: 'it returns false'. Refute it at one input. -/
def diskAgainWrong : ChangeSpec := { name := "diskAgain", fn := fun _ => fun
  | [d1, d2, d3, d4] => { results := [.lit (.bool false)], args := [d1, d2, d3, d4] }
  | _ => none }
def DiskAgainWrongFalsely : Prop := diskAgainRow.holds Try.pinned (OpenSpec.ofChange diskAgainWrong)

/-- 'hanselaw06.DiskStrokes': WHATEVER THE INPUT: true; the input reads as it did. -/
def diskStrokesSpec : ChangeSpec := { name := "diskStrokes", fn := fun _ => fun
  | [d1, d2, d3] => { results := [.lit (.bool true)], args := [d1, d2, d3] }
  | _ => none }
def diskStrokesRow : OpenClaim := { program := "ytnhoofcllijmiaa", sum := "10b9e19fd24181a47309bfa374ad6d0acb95355fb6bf2d697cbc21609f0d34ff", func := "hanse/hanselaw06.DiskStrokes", spec := "diskStrokes", apart := false }
def DiskStrokesSaid : Prop := diskStrokesRow.holds Try.pinned (OpenSpec.ofChange diskStrokesSpec)

/-- ITS FALSE NEIGHBOUR: 'it returns false'. Refute it at one input. -/
def diskStrokesWrong : ChangeSpec := { name := "diskStrokes", fn := fun _ => fun
  | [d1, d2, d3] => { results := [.lit (.bool false)], args := [d1, d2, d3] }
  | _ => none }
def DiskStrokesWrongFalsely : Prop := diskStrokesRow.holds Try.pinned (OpenSpec.ofChange diskStrokesWrong)

/-- 'hanselaw06.DiskLasts': WHATEVER THE INPUT: true; the input reads as it did. -/
def diskLastsSpec : ChangeSpec := { name := "diskLasts", fn := fun _ => fun
  | [d1, d2, d3] => { results := [.lit (.bool true)], args := [d1, d2, d3] }
  | _ => none }
def diskLastsRow : OpenClaim := { program := "ytnhoofcllijmiaa", sum := "10b9e19fd24181a47309bfa374ad6d0acb95355fb6bf2d697cbc21609f0d34ff", func := "hanse/hanselaw06.DiskLasts", spec := "diskLasts", apart := false }
def DiskLastsSaid : Prop := diskLastsRow.holds Try.pinned (OpenSpec.ofChange diskLastsSpec)

/-- ITS FALSE NEIGHBOUR: 'it returns false'. Refute it at one input. -/
def diskLastsWrong : ChangeSpec := { name := "diskLasts", fn := fun _ => fun
  | [d1, d2, d3] => { results := [.lit (.bool false)], args := [d1, d2, d3] }
  | _ => none }
def DiskLastsWrongFalsely : Prop := diskLastsRow.holds Try.pinned (OpenSpec.ofChange diskLastsWrong)

/-- 'hanselaw06.DiskExact': WHATEVER THE INPUT: true; the input reads as it did. -/
def diskExactSpec : ChangeSpec := { name := "diskExact", fn := fun _ => fun
  | [d] => { results := [.lit (.bool true)], args := [d] }
  | _ => none }
def diskExactRow : OpenClaim := { program := "ytnhoofcllijmiaa", sum := "10b9e19fd24181a47309bfa374ad6d0acb95355fb6bf2d697cbc21609f0d34ff", func := "hanse/hanselaw06.DiskExact", spec := "diskExact", apart := false }
def DiskExactSaid : Prop := diskExactRow.holds Try.pinned (OpenSpec.ofChange diskExactSpec)

/-- ITS FALSE NEIGHBOUR: 'it returns false'. Refute it at one input. -/
def diskExactWrong : ChangeSpec := { name := "diskExact", fn := fun _ => fun
  | [d] => { results := [.lit (.bool false)], args := [d] }
  | _ => none }
def DiskExactWrongFalsely : Prop := diskExactRow.holds Try.pinned (OpenSpec.ofChange diskExactWrong)

/-- 'hanselaw06.DiskTrips': WHATEVER THE INPUT: true; the input reads as it did. -/
def diskTripsSpec : ChangeSpec := { name := "diskTrips", fn := fun _ => fun
  | [d1, d2, d3, d4, d5] => { results := [.lit (.bool true)], args := [d1, d2, d3, d4, d5] }
  | _ => none }
def diskTripsRow : OpenClaim := { program := "ytnhoofcllijmiaa", sum := "10b9e19fd24181a47309bfa374ad6d0acb95355fb6bf2d697cbc21609f0d34ff", func := "hanse/hanselaw06.DiskTrips", spec := "diskTrips", apart := false }
def DiskTripsSaid : Prop := diskTripsRow.holds Try.pinned (OpenSpec.ofChange diskTripsSpec)

/-- ITS FALSE NEIGHBOUR: 'it returns false'. Refute it at one input. -/
def diskTripsWrong : ChangeSpec := { name := "diskTrips", fn := fun _ => fun
  | [d1, d2, d3, d4, d5] => { results := [.lit (.bool false)], args := [d1, d2, d3, d4, d5] }
  | _ => none }
def DiskTripsWrongFalsely : Prop := diskTripsRow.holds Try.pinned (OpenSpec.ofChange diskTripsWrong)

/- THE SECOND FORM. 'bulk': how many values and letters a reading holds, each counted each time it is reached (what is shared counts as often as it is met; a slice's spare places count too). A statement '..UptoSaid' is the law's where the arguments, and the package variables that the reading takes, are together of bulk at most 1048576: NARROWER than '..Said'. Prove '..Said' where nothing that the law and all that it calls make is longer than what came in: it says more and counts as full. Else prove '..UptoSaid'. A law counts once. -/
mutual
def uptoBulk {H : Type} : DataW H → Nat
  | .lit (.string bytes) => bytes.length + 1
  | .lit _ => 1
  | .nil => 1
  | .ptr d => uptoBulk d + 1
  | .slice elems spare => uptoBulkAll elems + uptoBulkAll spare + 1
  | .agg parts => uptoBulkAll parts + 1
  | .iface _ d => uptoBulk d + 1
  | .map entries => uptoBulkEntries entries + 1
  | .held _ => 1
def uptoBulkAll {H : Type} : List (DataW H) → Nat
  | [] => 0
  | d :: r => uptoBulk d + uptoBulkAll r
def uptoBulkEntries {H : Type} : List (Lit × DataW H) → Nat
  | [] => 0
  | x :: r => uptoBulkEntry x + uptoBulkEntries r
def uptoBulkEntry {H : Type} : Lit × DataW H → Nat
  | (.string bytes, d) => bytes.length + uptoBulk d + 1
  | (_, d) => uptoBulk d + 1
 end
def uptoSmall : (H : Type) → List (DataW H) → Bool := fun _ ds => decide (uptoBulkAll ds ≤ 1048576)
def OpenSpec.upto (s : _root_.Go.ChangeSpec) : _root_.Go.OpenSpec := { _root_.Go.OpenSpec.ofChange s with cond := some uptoSmall }

/-- 'hanselaw06.DiskParts', WHERE WHAT IT READS IS OF BULK AT MOST 1048576: true; the input reads as it did. -/
def diskPartsUptoRow : OpenClaim := { program := "ytnhoofcllijmiaa", sum := "10b9e19fd24181a47309bfa374ad6d0acb95355fb6bf2d697cbc21609f0d34ff", func := "hanse/hanselaw06.DiskParts", spec := "diskParts", apart := false, narrowed := true }
def DiskPartsUptoSaid : Prop := diskPartsUptoRow.holds Try.pinned (OpenSpec.upto diskPartsSpec)

/-- 'hanselaw06.DiskAgain', WHERE WHAT IT READS IS OF BULK AT MOST 1048576: true; the input reads as it did. -/
def diskAgainUptoRow : OpenClaim := { program := "ytnhoofcllijmiaa", sum := "10b9e19fd24181a47309bfa374ad6d0acb95355fb6bf2d697cbc21609f0d34ff", func := "hanse/hanselaw06.DiskAgain", spec := "diskAgain", apart := false, narrowed := true }
def DiskAgainUptoSaid : Prop := diskAgainUptoRow.holds Try.pinned (OpenSpec.upto diskAgainSpec)

/-- 'hanselaw06.DiskStrokes', WHERE WHAT IT READS IS OF BULK AT MOST 1048576: true; the input reads as it did. -/
def diskStrokesUptoRow : OpenClaim := { program := "ytnhoofcllijmiaa", sum := "10b9e19fd24181a47309bfa374ad6d0acb95355fb6bf2d697cbc21609f0d34ff", func := "hanse/hanselaw06.DiskStrokes", spec := "diskStrokes", apart := false, narrowed := true }
def DiskStrokesUptoSaid : Prop := diskStrokesUptoRow.holds Try.pinned (OpenSpec.upto diskStrokesSpec)

/-- 'hanselaw06.DiskLasts', WHERE WHAT IT READS IS OF BULK AT MOST 1048576: true; the input reads as it did. -/
def diskLastsUptoRow : OpenClaim := { program := "ytnhoofcllijmiaa", sum := "10b9e19fd24181a47309bfa374ad6d0acb95355fb6bf2d697cbc21609f0d34ff", func := "hanse/hanselaw06.DiskLasts", spec := "diskLasts", apart := false, narrowed := true }
def DiskLastsUptoSaid : Prop := diskLastsUptoRow.holds Try.pinned (OpenSpec.upto diskLastsSpec)

/-- 'hanselaw06.DiskExact', WHERE WHAT IT READS IS OF BULK AT MOST 1048576: true; the input reads as it did. -/
def diskExactUptoRow : OpenClaim := { program := "ytnhoofcllijmiaa", sum := "10b9e19fd24181a47309bfa374ad6d0acb95355fb6bf2d697cbc21609f0d34ff", func := "hanse/hanselaw06.DiskExact", spec := "diskExact", apart := false, narrowed := true }
def DiskExactUptoSaid : Prop := diskExactUptoRow.holds Try.pinned (OpenSpec.upto diskExactSpec)

/-- 'hanselaw06.DiskTrips', WHERE WHAT IT READS IS OF BULK AT MOST 1048576: true; the input reads as it did. -/
def diskTripsUptoRow : OpenClaim := { program := "ytnhoofcllijmiaa", sum := "10b9e19fd24181a47309bfa374ad6d0acb95355fb6bf2d697cbc21609f0d34ff", func := "hanse/hanselaw06.DiskTrips", spec := "diskTrips", apart := false, narrowed := true }
def DiskTripsUptoSaid : Prop := diskTripsUptoRow.holds Try.pinned (OpenSpec.upto diskTripsSpec)

end Rows
end Go.Proofs.Ytnhoofcllijmiaa
