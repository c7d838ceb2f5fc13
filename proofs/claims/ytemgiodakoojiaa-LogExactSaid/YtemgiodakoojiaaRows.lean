/-
  No cell of these rows narrows 'for every input' (looked for: loops, veiled, ifaces, maps, wideKeys, modest, calm, conditions, laid).
  DERIVED. THE GIVEN ROWS OF THIS SEAT. 7 by the template 'for every input the law returns true; each argument reads behind the call as it read before'; 0 by the template 'total and deterministic' (their statements: YtemgiodakoojiaaTotals.lean).
  GIVEN WITH THE SEED: the statements are not yours to turn. If you find one false, say at which input.
  Laid BY PROGRAM, IN A SANDBOX (cutbox-rows.mjs): the forced cells as the released guide's own fill.sh prints them over the translation b1efe0d2a70d1aab… (all of the seat's roots in one cut). By AI agents, Wed Nov 11 2026. No macro, syntax, notation, axiom, sorry.
-/
import Derived.Test.YtemgiodakoojiaaChecked
import GoSem.Claim
import GoSem.ClaimJoined
import GoSem.ClaimMapViews
import Derived.JoinedTies
import Derived.KernelRfl
namespace Go.Proofs.Ytemgiodakoojiaa
/- THE CELL 'sum', in the pinned program and in every row, IS THE sha256 OF THE DUMP (.gsa) THAT YtemgiodakoojiaaProg.lean LOADS. Nothing in Lean hashes anything: it is a label: what it is worth is what the hold of that sum in a sandbox is worth. -/
noncomputable def Try.pinned : Pinned := { name := "ytemgiodakoojiaa", sum := "b1efe0d2a70d1aabec36981cc703c766b132ba49163bd12e81d3b2073b9dca59", checked := Try.checked }
namespace Rows
def none {H : Type} : Left H := { results := [], args := [] }

/-- 'hanselaw07.LogTwice': WHATEVER THE INPUT: true; the input reads as it did. -/
def logTwiceSpec : ChangeSpec := { name := "logTwice", fn := fun _ => fun
  | [d1, d2] => { results := [.lit (.bool true)], args := [d1, d2] }
  | _ => none }
def logTwiceRow : OpenClaim := { program := "ytemgiodakoojiaa", sum := "b1efe0d2a70d1aabec36981cc703c766b132ba49163bd12e81d3b2073b9dca59", func := "hanse/hanselaw07.LogTwice", spec := "logTwice", apart := false }
def LogTwiceSaid : Prop := logTwiceRow.holds Try.pinned (OpenSpec.ofChange logTwiceSpec)

/-- ITS FALSE NEIGHBOUR: 'it returns false'. Refute it at one input. -/
def logTwiceWrong : ChangeSpec := { name := "logTwice", fn := fun _ => fun
  | [d1, d2] => { results := [.lit (.bool false)], args := [d1, d2] }
  | _ => none }
def LogTwiceWrongFalsely : Prop := logTwiceRow.holds Try.pinned (OpenSpec.ofChange logTwiceWrong)

/-- 'hanselaw07.LogTorn': WHATEVER THE INPUT: true; the input reads as it did. -/
def logTornSpec : ChangeSpec := { name := "logTorn", fn := fun _ => fun
  | [d1, d2] => { results := [.lit (.bool true)], args := [d1, d2] }
  | _ => none }
def logTornRow : OpenClaim := { program := "ytemgiodakoojiaa", sum := "b1efe0d2a70d1aabec36981cc703c766b132ba49163bd12e81d3b2073b9dca59", func := "hanse/hanselaw07.LogTorn", spec := "logTorn", apart := false }
def LogTornSaid : Prop := logTornRow.holds Try.pinned (OpenSpec.ofChange logTornSpec)

/-- ITS FALSE NEIGHBOUR: 'it returns false'. Refute it at one input. -/
def logTornWrong : ChangeSpec := { name := "logTorn", fn := fun _ => fun
  | [d1, d2] => { results := [.lit (.bool false)], args := [d1, d2] }
  | _ => none }
def LogTornWrongFalsely : Prop := logTornRow.holds Try.pinned (OpenSpec.ofChange logTornWrong)

/-- 'hanselaw07.LogOther': WHATEVER THE INPUT: true; the input reads as it did. -/
def logOtherSpec : ChangeSpec := { name := "logOther", fn := fun _ => fun
  | [d1, d2, d3] => { results := [.lit (.bool true)], args := [d1, d2, d3] }
  | _ => none }
def logOtherRow : OpenClaim := { program := "ytemgiodakoojiaa", sum := "b1efe0d2a70d1aabec36981cc703c766b132ba49163bd12e81d3b2073b9dca59", func := "hanse/hanselaw07.LogOther", spec := "logOther", apart := false }
def LogOtherSaid : Prop := logOtherRow.holds Try.pinned (OpenSpec.ofChange logOtherSpec)

/-- ITS FALSE NEIGHBOUR: 'it returns false'. Refute it at one input. -/
def logOtherWrong : ChangeSpec := { name := "logOther", fn := fun _ => fun
  | [d1, d2, d3] => { results := [.lit (.bool false)], args := [d1, d2, d3] }
  | _ => none }
def LogOtherWrongFalsely : Prop := logOtherRow.holds Try.pinned (OpenSpec.ofChange logOtherWrong)

/-- 'hanselaw07.LogLasts': WHATEVER THE INPUT: true; the input reads as it did. -/
def logLastsSpec : ChangeSpec := { name := "logLasts", fn := fun _ => fun
  | [d1, d2, d3] => { results := [.lit (.bool true)], args := [d1, d2, d3] }
  | _ => none }
def logLastsRow : OpenClaim := { program := "ytemgiodakoojiaa", sum := "b1efe0d2a70d1aabec36981cc703c766b132ba49163bd12e81d3b2073b9dca59", func := "hanse/hanselaw07.LogLasts", spec := "logLasts", apart := false }
def LogLastsSaid : Prop := logLastsRow.holds Try.pinned (OpenSpec.ofChange logLastsSpec)

/-- ITS FALSE NEIGHBOUR: 'it returns false'. Refute it at one input. -/
def logLastsWrong : ChangeSpec := { name := "logLasts", fn := fun _ => fun
  | [d1, d2, d3] => { results := [.lit (.bool false)], args := [d1, d2, d3] }
  | _ => none }
def LogLastsWrongFalsely : Prop := logLastsRow.holds Try.pinned (OpenSpec.ofChange logLastsWrong)

/-- 'hanselaw07.LogLong': WHATEVER THE INPUT: true; the input reads as it did. -/
def logLongSpec : ChangeSpec := { name := "logLong", fn := fun _ => fun
  | [d1, d2] => { results := [.lit (.bool true)], args := [d1, d2] }
  | _ => none }
def logLongRow : OpenClaim := { program := "ytemgiodakoojiaa", sum := "b1efe0d2a70d1aabec36981cc703c766b132ba49163bd12e81d3b2073b9dca59", func := "hanse/hanselaw07.LogLong", spec := "logLong", apart := false }
def LogLongSaid : Prop := logLongRow.holds Try.pinned (OpenSpec.ofChange logLongSpec)

/-- ITS FALSE NEIGHBOUR: 'it returns false'. Refute it at one input. -/
def logLongWrong : ChangeSpec := { name := "logLong", fn := fun _ => fun
  | [d1, d2] => { results := [.lit (.bool false)], args := [d1, d2] }
  | _ => none }
def LogLongWrongFalsely : Prop := logLongRow.holds Try.pinned (OpenSpec.ofChange logLongWrong)

/-- 'hanselaw07.LogCompacts': WHATEVER THE INPUT: true; the input reads as it did. -/
def logCompactsSpec : ChangeSpec := { name := "logCompacts", fn := fun _ => fun
  | [d1, d2, d3, d4] => { results := [.lit (.bool true)], args := [d1, d2, d3, d4] }
  | _ => none }
def logCompactsRow : OpenClaim := { program := "ytemgiodakoojiaa", sum := "b1efe0d2a70d1aabec36981cc703c766b132ba49163bd12e81d3b2073b9dca59", func := "hanse/hanselaw07.LogCompacts", spec := "logCompacts", apart := false }
def LogCompactsSaid : Prop := logCompactsRow.holds Try.pinned (OpenSpec.ofChange logCompactsSpec)

/-- ITS FALSE NEIGHBOUR: 'it returns false'. Refute it at one input. -/
def logCompactsWrong : ChangeSpec := { name := "logCompacts", fn := fun _ => fun
  | [d1, d2, d3, d4] => { results := [.lit (.bool false)], args := [d1, d2, d3, d4] }
  | _ => none }
def LogCompactsWrongFalsely : Prop := logCompactsRow.holds Try.pinned (OpenSpec.ofChange logCompactsWrong)

/-- 'hanselaw07.LogExact': WHATEVER THE INPUT: true; the input reads as it did. -/
def logExactSpec : ChangeSpec := { name := "logExact", fn := fun _ => fun
  | [d] => { results := [.lit (.bool true)], args := [d] }
  | _ => none }
def logExactRow : OpenClaim := { program := "ytemgiodakoojiaa", sum := "b1efe0d2a70d1aabec36981cc703c766b132ba49163bd12e81d3b2073b9dca59", func := "hanse/hanselaw07.LogExact", spec := "logExact", apart := false }
def LogExactSaid : Prop := logExactRow.holds Try.pinned (OpenSpec.ofChange logExactSpec)

/-- ITS FALSE NEIGHBOUR: 'it returns false'. Refute it at one input. -/
def logExactWrong : ChangeSpec := { name := "logExact", fn := fun _ => fun
  | [d] => { results := [.lit (.bool false)], args := [d] }
  | _ => none }
def LogExactWrongFalsely : Prop := logExactRow.holds Try.pinned (OpenSpec.ofChange logExactWrong)

/- THE SECOND FORM. 'bulk': how many values and letters a reading holds, each counted each time it is reached (what is shared counts as often as it is met; a slice's spare places count too). A statement '..UptoSaid' is the law's where the arguments, and the package variables that the reading takes, are together of bulk at most 1048576: NARROWER than '..Said'. Prove '..Said' where nothing that the law and all that it calls make is longer than what came in: it says more and counts as full. Else prove '..UptoSaid'. A law counts once. -/
mutual
def uptoBulk {H : Type} : DataW H → Nat
  | .lit (.string bytes) => bytes.length + 1
  | .lit _ => 1
  | .nil => 1
  | .ptr d => uptoBulk d + 1
  | .slice elems spare => uptoBulkAll elems + uptoBulkAll spare + 1
  | .agg parts => uptoBulkAll parts + 1
  | .iface _ d => uptoBulk d + 1
  | .map entries => uptoBulkEntries entries + 1
  | .held _ => 1
def uptoBulkAll {H : Type} : List (DataW H) → Nat
  | [] => 0
  | d :: r => uptoBulk d + uptoBulkAll r
def uptoBulkEntries {H : Type} : List (Lit × DataW H) → Nat
  | [] => 0
  | x :: r => uptoBulkEntry x + uptoBulkEntries r
def uptoBulkEntry {H : Type} : Lit × DataW H → Nat
  | (.string bytes, d) => bytes.length + uptoBulk d + 1
  | (_, d) => uptoBulk d + 1
 end
def uptoSmall : (H : Type) → List (DataW H) → Bool := fun _ ds => decide (uptoBulkAll ds ≤ 1048576)
def OpenSpec.upto (s : _root_.Go.ChangeSpec) : _root_.Go.OpenSpec := { _root_.Go.OpenSpec.ofChange s with cond := some uptoSmall }

/-- 'hanselaw07.LogTwice', WHERE WHAT IT READS IS OF BULK AT MOST 1048576: true; the input reads as it did. -/
def logTwiceUptoRow : OpenClaim := { program := "ytemgiodakoojiaa", sum := "b1efe0d2a70d1aabec36981cc703c766b132ba49163bd12e81d3b2073b9dca59", func := "hanse/hanselaw07.LogTwice", spec := "logTwice", apart := false, narrowed := true }
def LogTwiceUptoSaid : Prop := logTwiceUptoRow.holds Try.pinned (OpenSpec.upto logTwiceSpec)

/-- 'hanselaw07.LogTorn', WHERE WHAT IT READS IS OF BULK AT MOST 1048576: true; the input reads as it did. -/
def logTornUptoRow : OpenClaim := { program := "ytemgiodakoojiaa", sum := "b1efe0d2a70d1aabec36981cc703c766b132ba49163bd12e81d3b2073b9dca59", func := "hanse/hanselaw07.LogTorn", spec := "logTorn", apart := false, narrowed := true }
def LogTornUptoSaid : Prop := logTornUptoRow.holds Try.pinned (OpenSpec.upto logTornSpec)

/-- 'hanselaw07.LogOther', WHERE WHAT IT READS IS OF BULK AT MOST 1048576: true; the input reads as it did. -/
def logOtherUptoRow : OpenClaim := { program := "ytemgiodakoojiaa", sum := "b1efe0d2a70d1aabec36981cc703c766b132ba49163bd12e81d3b2073b9dca59", func := "hanse/hanselaw07.LogOther", spec := "logOther", apart := false, narrowed := true }
def LogOtherUptoSaid : Prop := logOtherUptoRow.holds Try.pinned (OpenSpec.upto logOtherSpec)

/-- 'hanselaw07.LogLasts', WHERE WHAT IT READS IS OF BULK AT MOST 1048576: true; the input reads as it did. -/
def logLastsUptoRow : OpenClaim := { program := "ytemgiodakoojiaa", sum := "b1efe0d2a70d1aabec36981cc703c766b132ba49163bd12e81d3b2073b9dca59", func := "hanse/hanselaw07.LogLasts", spec := "logLasts", apart := false, narrowed := true }
def LogLastsUptoSaid : Prop := logLastsUptoRow.holds Try.pinned (OpenSpec.upto logLastsSpec)

/-- 'hanselaw07.LogLong', WHERE WHAT IT READS IS OF BULK AT MOST 1048576: true; the input reads as it did. -/
def logLongUptoRow : OpenClaim := { program := "ytemgiodakoojiaa", sum := "b1efe0d2a70d1aabec36981cc703c766b132ba49163bd12e81d3b2073b9dca59", func := "hanse/hanselaw07.LogLong", spec := "logLong", apart := false, narrowed := true }
def LogLongUptoSaid : Prop := logLongUptoRow.holds Try.pinned (OpenSpec.upto logLongSpec)

/-- 'hanselaw07.LogCompacts', WHERE WHAT IT READS IS OF BULK AT MOST 1048576: true; the input reads as it did. -/
def logCompactsUptoRow : OpenClaim := { program := "ytemgiodakoojiaa", sum := "b1efe0d2a70d1aabec36981cc703c766b132ba49163bd12e81d3b2073b9dca59", func := "hanse/hanselaw07.LogCompacts", spec := "logCompacts", apart := false, narrowed := true }
def LogCompactsUptoSaid : Prop := logCompactsUptoRow.holds Try.pinned (OpenSpec.upto logCompactsSpec)

/-- 'hanselaw07.LogExact', WHERE WHAT IT READS IS OF BULK AT MOST 1048576: true; the input reads as it did. -/
def logExactUptoRow : OpenClaim := { program := "ytemgiodakoojiaa", sum := "b1efe0d2a70d1aabec36981cc703c766b132ba49163bd12e81d3b2073b9dca59", func := "hanse/hanselaw07.LogExact", spec := "logExact", apart := false, narrowed := true }
def LogExactUptoSaid : Prop := logExactUptoRow.holds Try.pinned (OpenSpec.upto logExactSpec)

end Rows
end Go.Proofs.Ytemgiodakoojiaa
