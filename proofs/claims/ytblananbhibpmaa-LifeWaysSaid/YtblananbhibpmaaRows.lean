/-
  No cell of these rows narrows 'for every input' (looked for: loops, veiled, ifaces, maps, wideKeys, modest, calm, conditions, laid).
  DERIVED. THE GIVEN ROWS OF THIS SEAT. 7 by the template 'for every input the law returns true; each argument reads behind the call as it read before'; 0 by the template 'total and deterministic' (their statements: YtblananbhibpmaaTotals.lean).
  GIVEN WITH THE SEED: the statements are not yours to turn. If you find one false, say at which input.
  Laid BY PROGRAM, IN A SANDBOX (cutbox-rows.mjs): the forced cells as the released guide's own fill.sh prints them over the translation c582eaac563a9bb9… (all of the seat's roots in one cut). By AI agents, Wed Nov 11 2026. No macro, syntax, notation, axiom, sorry.
-/
import Derived.Test.YtblananbhibpmaaChecked
import GoSem.Claim
import GoSem.ClaimJoined
import GoSem.ClaimMapViews
import Derived.JoinedTies
import Derived.KernelRfl
namespace Go.Proofs.Ytblananbhibpmaa
/- THE CELL 'sum', in the pinned program and in every row, IS THE sha256 OF THE DUMP (.gsa) THAT YtblananbhibpmaaProg.lean LOADS. Nothing in Lean hashes anything: it is a label: what it is worth is what the hold of that sum in a sandbox is worth. -/
noncomputable def Try.pinned : Pinned := { name := "ytblananbhibpmaa", sum := "c582eaac563a9bb9a2df1d4ae0b984aaadafdca050c2340d86cbde26a6e8c0a6", checked := Try.checked }
namespace Rows
def none {H : Type} : Left H := { results := [], args := [] }

/-- 'hanselaw10.LifeParts': WHATEVER THE INPUT: true; the input reads as it did. -/
def lifePartsSpec : ChangeSpec := { name := "lifeParts", fn := fun _ => fun
  | [d1, d2, d3] => { results := [.lit (.bool true)], args := [d1, d2, d3] }
  | _ => none }
def lifePartsRow : OpenClaim := { program := "ytblananbhibpmaa", sum := "c582eaac563a9bb9a2df1d4ae0b984aaadafdca050c2340d86cbde26a6e8c0a6", func := "hanse/hanselaw10.LifeParts", spec := "lifeParts", unfollowed := true, recurses := true, apart := false }
def LifePartsSaid : Prop := lifePartsRow.holds Try.pinned (OpenSpec.ofChange lifePartsSpec)

/-- ITS FALSE NEIGHBOUR: 'it returns false'. Refute it at one input. -/
def lifePartsWrong : ChangeSpec := { name := "lifeParts", fn := fun _ => fun
  | [d1, d2, d3] => { results := [.lit (.bool false)], args := [d1, d2, d3] }
  | _ => none }
def LifePartsWrongFalsely : Prop := lifePartsRow.holds Try.pinned (OpenSpec.ofChange lifePartsWrong)

/-- 'hanselaw10.LifeExact': WHATEVER THE INPUT: true; the input reads as it did. -/
def lifeExactSpec : ChangeSpec := { name := "lifeExact", fn := fun _ => fun
  | [d1, d2, d3] => { results := [.lit (.bool true)], args := [d1, d2, d3] }
  | _ => none }
def lifeExactRow : OpenClaim := { program := "ytblananbhibpmaa", sum := "c582eaac563a9bb9a2df1d4ae0b984aaadafdca050c2340d86cbde26a6e8c0a6", func := "hanse/hanselaw10.LifeExact", spec := "lifeExact", unfollowed := true, recurses := true, apart := false }
def LifeExactSaid : Prop := lifeExactRow.holds Try.pinned (OpenSpec.ofChange lifeExactSpec)

/-- ITS FALSE NEIGHBOUR: 'it returns false'. Refute it at one input. -/
def lifeExactWrong : ChangeSpec := { name := "lifeExact", fn := fun _ => fun
  | [d1, d2, d3] => { results := [.lit (.bool false)], args := [d1, d2, d3] }
  | _ => none }
def LifeExactWrongFalsely : Prop := lifeExactRow.holds Try.pinned (OpenSpec.ofChange lifeExactWrong)

/-- 'hanselaw10.LifeStarts': WHATEVER THE INPUT: true; the input reads as it did. -/
def lifeStartsSpec : ChangeSpec := { name := "lifeStarts", fn := fun _ => fun
  | [d] => { results := [.lit (.bool true)], args := [d] }
  | _ => none }
def lifeStartsRow : OpenClaim := { program := "ytblananbhibpmaa", sum := "c582eaac563a9bb9a2df1d4ae0b984aaadafdca050c2340d86cbde26a6e8c0a6", func := "hanse/hanselaw10.LifeStarts", spec := "lifeStarts", unfollowed := true, recurses := true, apart := false }
def LifeStartsSaid : Prop := lifeStartsRow.holds Try.pinned (OpenSpec.ofChange lifeStartsSpec)

/-- ITS FALSE NEIGHBOUR: 'it returns false'. Refute it at one input. -/
def lifeStartsWrong : ChangeSpec := { name := "lifeStarts", fn := fun _ => fun
  | [d] => { results := [.lit (.bool false)], args := [d] }
  | _ => none }
def LifeStartsWrongFalsely : Prop := lifeStartsRow.holds Try.pinned (OpenSpec.ofChange lifeStartsWrong)

/-- 'hanselaw10.LifeWays': WHATEVER THE INPUT: true; the input reads as it did. -/
def lifeWaysSpec : ChangeSpec := { name := "lifeWays", fn := fun _ => fun
  | [d1, d2] => { results := [.lit (.bool true)], args := [d1, d2] }
  | _ => none }
def lifeWaysRow : OpenClaim := { program := "ytblananbhibpmaa", sum := "c582eaac563a9bb9a2df1d4ae0b984aaadafdca050c2340d86cbde26a6e8c0a6", func := "hanse/hanselaw10.LifeWays", spec := "lifeWays", unfollowed := true, recurses := true, apart := false }
def LifeWaysSaid : Prop := lifeWaysRow.holds Try.pinned (OpenSpec.ofChange lifeWaysSpec)

/-- ITS FALSE NEIGHBOUR: 'it returns false'. Refute it at one input. -/
def lifeWaysWrong : ChangeSpec := { name := "lifeWays", fn := fun _ => fun
  | [d1, d2] => { results := [.lit (.bool false)], args := [d1, d2] }
  | _ => none }
def LifeWaysWrongFalsely : Prop := lifeWaysRow.holds Try.pinned (OpenSpec.ofChange lifeWaysWrong)

/-- 'hanselaw10.LifeLeads': WHATEVER THE INPUT: true; the input reads as it did. -/
def lifeLeadsSpec : ChangeSpec := { name := "lifeLeads", fn := fun _ => fun
  | [d1, d2] => { results := [.lit (.bool true)], args := [d1, d2] }
  | _ => none }
def lifeLeadsRow : OpenClaim := { program := "ytblananbhibpmaa", sum := "c582eaac563a9bb9a2df1d4ae0b984aaadafdca050c2340d86cbde26a6e8c0a6", func := "hanse/hanselaw10.LifeLeads", spec := "lifeLeads", unfollowed := true, recurses := true, apart := false }
def LifeLeadsSaid : Prop := lifeLeadsRow.holds Try.pinned (OpenSpec.ofChange lifeLeadsSpec)

/-- ITS FALSE NEIGHBOUR: 'it returns false'. Refute it at one input. -/
def lifeLeadsWrong : ChangeSpec := { name := "lifeLeads", fn := fun _ => fun
  | [d1, d2] => { results := [.lit (.bool false)], args := [d1, d2] }
  | _ => none }
def LifeLeadsWrongFalsely : Prop := lifeLeadsRow.holds Try.pinned (OpenSpec.ofChange lifeLeadsWrong)

/-- 'hanselaw10.LifeReaches': WHATEVER THE INPUT: true; the input reads as it did. -/
def lifeReachesSpec : ChangeSpec := { name := "lifeReaches", fn := fun _ => fun
  | [] => { results := [.lit (.bool true)], args := [] }
  | _ => none }
def lifeReachesRow : OpenClaim := { program := "ytblananbhibpmaa", sum := "c582eaac563a9bb9a2df1d4ae0b984aaadafdca050c2340d86cbde26a6e8c0a6", func := "hanse/hanselaw10.LifeReaches", spec := "lifeReaches", unfollowed := true, recurses := true, apart := false }
def LifeReachesSaid : Prop := lifeReachesRow.holds Try.pinned (OpenSpec.ofChange lifeReachesSpec)

/-- ITS FALSE NEIGHBOUR: 'it returns false'. Refute it at one input. -/
def lifeReachesWrong : ChangeSpec := { name := "lifeReaches", fn := fun _ => fun
  | [] => { results := [.lit (.bool false)], args := [] }
  | _ => none }
def LifeReachesWrongFalsely : Prop := lifeReachesRow.holds Try.pinned (OpenSpec.ofChange lifeReachesWrong)

/-- 'hanselaw10.LifeShort': WHATEVER THE INPUT: true; the input reads as it did. -/
def lifeShortSpec : ChangeSpec := { name := "lifeShort", fn := fun _ => fun
  | [d1, d2] => { results := [.lit (.bool true)], args := [d1, d2] }
  | _ => none }
def lifeShortRow : OpenClaim := { program := "ytblananbhibpmaa", sum := "c582eaac563a9bb9a2df1d4ae0b984aaadafdca050c2340d86cbde26a6e8c0a6", func := "hanse/hanselaw10.LifeShort", spec := "lifeShort", unfollowed := true, recurses := true, apart := false }
def LifeShortSaid : Prop := lifeShortRow.holds Try.pinned (OpenSpec.ofChange lifeShortSpec)

/-- ITS FALSE NEIGHBOUR: 'it returns false'. Refute it at one input. -/
def lifeShortWrong : ChangeSpec := { name := "lifeShort", fn := fun _ => fun
  | [d1, d2] => { results := [.lit (.bool false)], args := [d1, d2] }
  | _ => none }
def LifeShortWrongFalsely : Prop := lifeShortRow.holds Try.pinned (OpenSpec.ofChange lifeShortWrong)

/- THE SECOND FORM. 'bulk': how many values and letters a reading holds, each counted each time it is reached (what is shared counts as often as it is met; a slice's spare places count too). A statement '..UptoSaid' is the law's where the arguments, and the package variables that the reading takes, are together of bulk at most 1048576: NARROWER than '..Said'. Prove '..Said' where nothing that the law and all that it calls make is longer than what came in: it says more and counts as full. Else prove '..UptoSaid'. A law counts once. -/
mutual
def uptoBulk {H : Type} : DataW H → Nat
  | .lit (.string bytes) => bytes.length + 1
  | .lit _ => 1
  | .nil => 1
  | .ptr d => uptoBulk d + 1
  | .slice elems spare => uptoBulkAll elems + uptoBulkAll spare + 1
  | .agg parts => uptoBulkAll parts + 1
  | .iface _ d => uptoBulk d + 1
  | .map entries => uptoBulkEntries entries + 1
  | .held _ => 1
def uptoBulkAll {H : Type} : List (DataW H) → Nat
  | [] => 0
  | d :: r => uptoBulk d + uptoBulkAll r
def uptoBulkEntries {H : Type} : List (Lit × DataW H) → Nat
  | [] => 0
  | x :: r => uptoBulkEntry x + uptoBulkEntries r
def uptoBulkEntry {H : Type} : Lit × DataW H → Nat
  | (.string bytes, d) => bytes.length + uptoBulk d + 1
  | (_, d) => uptoBulk d + 1
 end
def uptoSmall : (H : Type) → List (DataW H) → Bool := fun _ ds => decide (uptoBulkAll ds ≤ 1048576)
def OpenSpec.upto (s : _root_.Go.ChangeSpec) : _root_.Go.OpenSpec := { _root_.Go.OpenSpec.ofChange s with cond := some uptoSmall }

/-- 'hanselaw10.LifeParts', WHERE WHAT IT READS IS OF BULK AT MOST 1048576: true; the input reads as it did. -/
def lifePartsUptoRow : OpenClaim := { program := "ytblananbhibpmaa", sum := "c582eaac563a9bb9a2df1d4ae0b984aaadafdca050c2340d86cbde26a6e8c0a6", func := "hanse/hanselaw10.LifeParts", spec := "lifeParts", unfollowed := true, recurses := true, apart := false, narrowed := true }
def LifePartsUptoSaid : Prop := lifePartsUptoRow.holds Try.pinned (OpenSpec.upto lifePartsSpec)

/-- 'hanselaw10.LifeExact', WHERE WHAT IT READS IS OF BULK AT MOST 1048576: true; the input reads as it did. -/
def lifeExactUptoRow : OpenClaim := { program := "ytblananbhibpmaa", sum := "c582eaac563a9bb9a2df1d4ae0b984aaadafdca050c2340d86cbde26a6e8c0a6", func := "hanse/hanselaw10.LifeExact", spec := "lifeExact", unfollowed := true, recurses := true, apart := false, narrowed := true }
def LifeExactUptoSaid : Prop := lifeExactUptoRow.holds Try.pinned (OpenSpec.upto lifeExactSpec)

/-- 'hanselaw10.LifeStarts', WHERE WHAT IT READS IS OF BULK AT MOST 1048576: true; the input reads as it did. -/
def lifeStartsUptoRow : OpenClaim := { program := "ytblananbhibpmaa", sum := "c582eaac563a9bb9a2df1d4ae0b984aaadafdca050c2340d86cbde26a6e8c0a6", func := "hanse/hanselaw10.LifeStarts", spec := "lifeStarts", unfollowed := true, recurses := true, apart := false, narrowed := true }
def LifeStartsUptoSaid : Prop := lifeStartsUptoRow.holds Try.pinned (OpenSpec.upto lifeStartsSpec)

/-- 'hanselaw10.LifeWays', WHERE WHAT IT READS IS OF BULK AT MOST 1048576: true; the input reads as it did. -/
def lifeWaysUptoRow : OpenClaim := { program := "ytblananbhibpmaa", sum := "c582eaac563a9bb9a2df1d4ae0b984aaadafdca050c2340d86cbde26a6e8c0a6", func := "hanse/hanselaw10.LifeWays", spec := "lifeWays", unfollowed := true, recurses := true, apart := false, narrowed := true }
def LifeWaysUptoSaid : Prop := lifeWaysUptoRow.holds Try.pinned (OpenSpec.upto lifeWaysSpec)

/-- 'hanselaw10.LifeLeads', WHERE WHAT IT READS IS OF BULK AT MOST 1048576: true; the input reads as it did. -/
def lifeLeadsUptoRow : OpenClaim := { program := "ytblananbhibpmaa", sum := "c582eaac563a9bb9a2df1d4ae0b984aaadafdca050c2340d86cbde26a6e8c0a6", func := "hanse/hanselaw10.LifeLeads", spec := "lifeLeads", unfollowed := true, recurses := true, apart := false, narrowed := true }
def LifeLeadsUptoSaid : Prop := lifeLeadsUptoRow.holds Try.pinned (OpenSpec.upto lifeLeadsSpec)

/-- 'hanselaw10.LifeReaches', WHERE WHAT IT READS IS OF BULK AT MOST 1048576: true; the input reads as it did. -/
def lifeReachesUptoRow : OpenClaim := { program := "ytblananbhibpmaa", sum := "c582eaac563a9bb9a2df1d4ae0b984aaadafdca050c2340d86cbde26a6e8c0a6", func := "hanse/hanselaw10.LifeReaches", spec := "lifeReaches", unfollowed := true, recurses := true, apart := false, narrowed := true }
def LifeReachesUptoSaid : Prop := lifeReachesUptoRow.holds Try.pinned (OpenSpec.upto lifeReachesSpec)

/-- 'hanselaw10.LifeShort', WHERE WHAT IT READS IS OF BULK AT MOST 1048576: true; the input reads as it did. -/
def lifeShortUptoRow : OpenClaim := { program := "ytblananbhibpmaa", sum := "c582eaac563a9bb9a2df1d4ae0b984aaadafdca050c2340d86cbde26a6e8c0a6", func := "hanse/hanselaw10.LifeShort", spec := "lifeShort", unfollowed := true, recurses := true, apart := false, narrowed := true }
def LifeShortUptoSaid : Prop := lifeShortUptoRow.holds Try.pinned (OpenSpec.upto lifeShortSpec)

end Rows
end Go.Proofs.Ytblananbhibpmaa
