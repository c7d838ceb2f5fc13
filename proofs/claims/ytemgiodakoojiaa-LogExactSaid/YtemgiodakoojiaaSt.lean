/- A disk as the page has it: bytes, how many are synced, power, a tripped stroke. No program here. -/
import Derived.WalkKit
namespace Go.Proofs.Ytemgiodakoojiaa
structure St where
  l : List UInt8
  s : Nat
  off : Bool
  tr : Bool
  k : Int
namespace St
def new : St := ⟨[], 0, false, false, 0⟩
def append (σ : St) (r : List UInt8) : Int × St := if σ.off then (7, σ) else (0, { σ with l := σ.l ++ r })
/-- how many bytes a crash leaves -/
def left (σ : St) (k : Int) : Nat := σ.s + (min (max k 0) ((σ.l.length : Int) - σ.s)).toNat
def crash (σ : St) (k : Int) : St := if σ.off then σ else ⟨σ.l.take (σ.left k), σ.s, true, false, 0⟩
def stroke (σ : St) : Int × St := if σ.tr then (7, σ.crash σ.k) else (0, σ)
def sync (σ : St) : Int × St := if σ.off then (7, σ) else if σ.tr then (7, σ.crash σ.k) else (0, { σ with s := σ.l.length })
def cut (σ : St) (n : Int) : Int × St := if σ.off then (7, σ) else if n < 0 ∨ (σ.l.length : Int) < n then (9, σ) else if σ.tr then (7, σ.crash σ.k) else (0, { σ with l := σ.l.take n.toNat, s := n.toNat })
def swap (σ : St) (r : List UInt8) : Int × St := if σ.off then (7, σ) else if σ.tr then (7, σ.crash σ.k) else (0, { σ with l := r, s := r.length })
def read (σ : St) : List UInt8 × Int := if σ.off then ([], 7) else (σ.l, 0)
def trip (σ : St) (k : Int) : St := if σ.off then σ else { σ with tr := true, k := k }
def start (σ : St) : St := if σ.off then { σ with off := false, s := σ.l.length } else σ
/-- what is synced is there -/
def ok (σ : St) : Prop := σ.s ≤ σ.l.length
end St
end Go.Proofs.Ytemgiodakoojiaa
