/- Words for memory: a slice that reads as bytes, worlds in which only some blocks have turned. Over any program. -/
import Derived.WalkKit
import Derived.WalkSpells
import Derived.WalkLawsBesides
import Derived.Deep.AppendLies
import Derived.Maps.AppendAt
import Derived.Deep.Draws
import Derived.Deep.QuietTactic
import Derived.Lib.Hide
import Derived.Laws.BytesArg
import Derived.Laws.BytesString
namespace Go.Proofs.Ytagocmbcbbhehaa
open Go.RowKit

/-- a byte as a value -/
abbrev bv (u : UInt8) : Value := .int .u8 (u.toNat : Int)

theorem bv_of (x : Int) (h0 : 0 ≤ x) (h : x < 256) : Value.int .u8 x = bv (UInt8.ofNat x.toNat) := by
  show _ = Value.int .u8 ((UInt8.ofNat x.toNat).toNat : Int)
  rw [UInt8.toNat_ofNat']
  congr 1
  omega
theorem bv_nat (m : Nat) (x : Int) (h : x = ((m % 256 : Nat) : Int)) : Value.int .u8 x = bv (UInt8.ofNat m) := by
  show _ = Value.int .u8 ((UInt8.ofNat m).toNat : Int)
  rw [UInt8.toNat_ofNat', h]
theorem add_block (a : Addr) (n : Nat) : (a.add n).block = a.block := by unfold Addr.add; split <;> rfl
theorem add_add_ (a : Addr) (i j : Nat) : (a.add i).add j = a.add (i + j) := by
  unfold Addr.add
  by_cases hi : i = 0 <;> by_cases hj : j = 0 <;> simp [hi, hj, Nat.add_assoc]
theorem add_zero_ (a : Addr) : a.add 0 = a := rfl

/-- blocks outside S are as they were -/
structure Keep (S : Nat → Prop) (w w' : World) : Prop where
  os : w'.os = w.os
  tape : w'.tape = w.tape
  output : w'.output = w.output
  size : w.heap.size ≤ w'.heap.size
  block : ∀ k, k < w.heap.size → ¬ S k → w'.heap[k]? = w.heap[k]?
/-- nothing that was there has turned -/
abbrev New (w w' : World) : Prop := Below w.heap.size w w'

section
variable {S T : Nat → Prop} {w w' w'' : World}
theorem Keep.refl (S : Nat → Prop) (w : World) : Keep S w w := ⟨rfl, rfl, rfl, Nat.le_refl _, fun _ _ _ => rfl⟩
theorem Keep.trans (h : Keep S w w') (k : Keep S w' w'') : Keep S w w'' :=
  ⟨k.os.trans h.os, k.tape.trans h.tape, k.output.trans h.output, Nat.le_trans h.size k.size, fun i hi hs => (k.block i (Nat.lt_of_lt_of_le hi h.size) hs).trans (h.block i hi hs)⟩
/-- what is written is new, or in S -/
theorem Keep.trans_new (h : Keep S w w') (k : Keep T w' w'') (hT : ∀ i, T i → i < w.heap.size → S i) : Keep S w w'' :=
  ⟨k.os.trans h.os, k.tape.trans h.tape, k.output.trans h.output, Nat.le_trans h.size k.size, fun i hi hs => (k.block i (Nat.lt_of_lt_of_le hi h.size) (fun ht => hs (hT i ht hi))).trans (h.block i hi hs)⟩
theorem Keep.mono (h : Keep S w w') (hS : ∀ i, S i → T i) : Keep T w w' := ⟨h.os, h.tape, h.output, h.size, fun i hi ht => h.block i hi (fun hs => ht (hS i hs))⟩
theorem Keep.of_new (h : New w w') : Keep S w w' := ⟨h.os, h.tape, h.output, h.size, fun i hi _ => h.block i hi⟩
theorem Keep.new (h : Keep S w w') (hS : ∀ i, S i → w.heap.size ≤ i) : New w w' := ⟨h.os, h.tape, h.output, h.size, fun i hi => h.block i hi (fun hs => by have := hS i hs; omega)⟩
theorem Keep.of_grown {row : Option Nat} (h : w.grownBy w' row) : Keep (fun i => row = some i) w w' := ⟨h.os, h.tape, h.output, h.size, fun i hi hs => h.block i hi (fun e => hs e.symm)⟩
theorem Keep.alloc (w : World) (o : Obj) : Keep S w (w.alloc o) := .of_new ((Below.refl _ _).alloc (Nat.le_refl _) o)
theorem Keep.drew (h : Keep S w w') : Keep S w w'.drew := ⟨h.os, h.tape, h.output, h.size, h.block⟩
theorem Keep.drewN (h : Keep S w w') (n : Nat) : Keep S w (w'.drewN n) := ⟨h.os, h.tape, h.output, h.size, h.block⟩
theorem Keep.setCell (w : World) (p : Addr) (u : Value) : Keep (fun i => i = p.block) w (w.setCell p u) :=
  ⟨rfl, rfl, rfl, by simp [World.setCell], fun i _ hs => Below.heap_setCell _ _ _ _ hs⟩
theorem Keep.setAt (w : World) (g o : Nat) (u : Value) : Keep (fun i => i = g) w (w.setCell ⟨g, o, none⟩ u) := Keep.setCell w ⟨g, o, none⟩ u
theorem Keep.below {B : Nat} (h : Keep S w w') (hB : B ≤ w.heap.size) (hS : ∀ i, S i → B ≤ i) : Below B w w' := ⟨h.os, h.tape, h.output, h.size, fun k hk => h.block k (by omega) (fun hs => by have := hS k hs; omega)⟩
theorem New.refl (w : World) : New w w := Below.refl _ _
theorem New.trans (h : New w w') (k : New w' w'') : New w w'' := Below.trans h (k.mono h.size)
theorem New.drewN (h : New w w') (n : Nat) : New w (w'.drewN n) := ⟨h.os, h.tape, h.output, h.size, h.block⟩
end

/-- a slice at address A reads as these bytes -/
def RB (w : World) (A : Option Addr) (l : List UInt8) : Prop := ∀ j u, l[j]? = some u → ∃ ad, A = some ad ∧ w.cell? (ad.add j) = some (bv u)
/-- a value is a slice of these bytes -/
structure Sl (w : World) (A : Option Addr) (n c : Nat) (l : List UInt8) : Prop where
  len : l.length = n
  le : n ≤ c
  max : c ≤ maxLen
  rb : RB w A l
section
variable {w w' : World} {A : Option Addr} {n c : Nat} {l : List UInt8}
theorem RB.nil (w : World) (A : Option Addr) : RB w A [] := fun j u h => by simp at h
theorem RB.at_ (h : RB w A l) {j : Nat} (hj : j < l.length) : ∃ ad, A = some ad ∧ w.cell? (ad.add j) = some (bv l[j]) := h j _ (List.getElem?_eq_getElem hj)
theorem RB.keep (h : RB w A l) (hk : ∀ ad, A = some ad → ad.block < w.heap.size → w'.heap[ad.block]? = w.heap[ad.block]?) : RB w' A l := fun j u hu => by
  obtain ⟨ad, rfl, hc⟩ := h j u hu
  have hb : (ad.add j).block < w.heap.size := World.block_lt_of_cell? w (ad.add j) hc
  rw [add_block] at hb
  exact ⟨ad, rfl, (World.cell?_of_block (by rw [add_block]; exact hk ad rfl hb)).trans hc⟩
theorem RB.new (h : RB w A l) (hn : New w w') : RB w' A l := h.keep fun _ _ hb => hn.block _ hb
theorem RB.kept {S : Nat → Prop} (h : RB w A l) (hn : Keep S w w') (hs : ∀ ad, A = some ad → ¬ S ad.block) : RB w' A l := h.keep fun ad e hb => hn.block _ hb (hs ad e)
theorem RB.drew (h : RB w A l) : RB w.drew A l := h
theorem RB.drewN (h : RB w A l) (k : Nat) : RB (w.drewN k) A l := h
theorem RB.alloc (h : RB w A l) (o : Obj) : RB (w.alloc o) A l := h.new ((Below.refl _ _).alloc (Nat.le_refl _) o)
theorem RB.take (h : RB w A l) (k : Nat) : RB w A (l.take k) := fun j u hu => by
  rw [List.getElem?_take] at hu
  split at hu
  · exact h j u hu
  · cases hu
theorem RB.cut (h : RB w A l) (k cap : Nat) (hc : l.length ≤ cap) : RB w (if cap = k then A else A.map (·.add k)) (l.drop k) := fun j u hu => by
  rw [List.getElem?_drop] at hu
  obtain ⟨ad, rfl, hcell⟩ := h (k + j) u hu
  have hlt : k + j < l.length := (List.getElem?_eq_some_iff.1 hu).1
  rw [if_neg (by omega)]
  exact ⟨ad.add k, rfl, by rw [add_add_]; exact hcell⟩
theorem RB.drop (h : RB w A l) (k : Nat) : RB w (A.map (·.add k)) (l.drop k) := fun j u hu => by
  rw [List.getElem?_drop] at hu
  obtain ⟨ad, rfl, hcell⟩ := h (k + j) u hu
  exact ⟨ad.add k, rfl, by rw [add_add_]; exact hcell⟩
theorem Sl.keep (h : Sl w A n c l) (hk : RB w A l → RB w' A l) : Sl w' A n c l := ⟨h.len, h.le, h.max, hk h.rb⟩
/-- an owned row of bytes reads as them -/
theorem RB.of_own {base : Nat} {e : TypeId} {A : Option Addr} {n c : Nat} {l : List UInt8} (h : w.ownsRow base e 1 (.slice A n c) n (l.map bv)) : RB w A l := by
  intro j u hu
  rcases h.2 with ⟨h1, h2⟩ | ⟨g, cap, cur, h1, h2⟩
  · have := h.1
    rw [h2, List.length_map] at this
    have : l = [] := List.eq_nil_of_length_eq_zero (by omega)
    subst this
    simp at hu
  · injection h1 with h1
    subst h1
    exact ⟨_, rfl, h.cells (g := g) rfl j _ (by rw [List.getElem?_map, hu]; rfl)⟩
end
theorem bytes_one (l : List UInt8) : ∀ u ∈ l.map bv, u.oneCell' = true := by
  intro u hu
  obtain ⟨b, _, rfl⟩ := List.mem_map.1 hu
  rfl
theorem foldl_bytes (l : List UInt8) : ∀ s : ByteArray, (l.map fun u => (u.toNat : Int)).foldl (fun r n => r.push (UInt8.ofNat n.toNat)) s = ⟨s.data ++ l.toArray⟩ := by
  induction l with
  | nil => intro s; simp
  | cons u l ih =>
    intro s
    rw [List.map_cons, List.foldl_cons, ih]
    simp [ByteArray.push]
theorem run_convert_RB {P : Program} (w : World) (src e : TypeId) (hs : P.underlying src = some (.slice e)) (he : P.underlying e = some (.int .u8)) {A : Option Addr} {l : List UInt8} (n c : Nat) (hn : n = l.length) (hr : RB w A l) :
    ∀ dst, P.underlying dst = some .string → (convert src dst (.slice A n c)).run P w = .ok (.string ⟨l.toArray⟩) w := by
  intro dst hd
  subst hn
  cases A with
  | none =>
    have : l = [] := by
      cases l with
      | nil => rfl
      | cons u l => obtain ⟨ad, h, _⟩ := hr.at_ (j := 0) (by simp); cases h
    subst this
    rw [run_convert_bytes_nil w src e hs he _ _ dst hd]
    rfl
  | some a =>
    have hl : (loadCells a l.length).run P w = .ok ((l.map fun u => (u.toNat : Int)).map (Value.int .u8)).toArray w := by
      have := run_loadCells_list (P := P) w a ((l.map fun u => (u.toNat : Int)).map (Value.int .u8)) (fun j v hj => by
        simp only [List.map_map, List.getElem?_map, Option.map_eq_some_iff] at hj
        obtain ⟨u, hu, rfl⟩ := hj
        obtain ⟨ad, e, hc⟩ := hr j u hu
        cases e
        exact hc)
      simpa using this
    rw [run_convert_bytes_string w src dst e _ _ c hs he hd, run_bytesToString w _ _ c _ hl, foldl_bytes]
    simp [ByteArray.empty, ByteArray.emptyWithCapacity]
    rfl
/-- a call that leaves the world alone, within a quiet region -/
theorem quiet_id {P : Program} {f : FuncId} {args : Array Value} {w : World} {n : Nat} {v : Value}
    (h : Calls P f args (w.drewN n) fun e w' => e = .returned v ∧ w.drewN n = w') : Calls P f args (w.drewN n) fun e w'' => e = .returned v ∧ ∃ m, w'' = w.drewN m :=
  h.mono fun _ _ ⟨he, hm⟩ => ⟨he, n, hm.symm⟩
theorem quiet_draw {P : Program} {f : FuncId} {args : Array Value} {w : World} {n : Nat} {v : Value}
    (h : Calls P f args (w.drewN n) fun e w' => e = .returned v ∧ ∃ k, w' = (w.drewN n).drewN k) : Calls P f args (w.drewN n) fun e w'' => e = .returned v ∧ ∃ m, w'' = w.drewN m :=
  h.mono fun _ _ ⟨he, k, hm⟩ => ⟨he, n + k, by rw [hm, World.drewN_drewN]⟩
/-- w' is w behind some draws -/
def Drawn (w w' : World) : Prop := ∃ k, w' = w.drewN k
theorem Drawn.refl (w : World) : Drawn w w := ⟨0, rfl⟩
theorem Drawn.drewN {w w' : World} (h : Drawn w w') (n : Nat) : Drawn w (w'.drewN n) := by
  obtain ⟨k, rfl⟩ := h
  exact ⟨k + n, by rw [World.drewN_drewN]⟩
theorem Drawn.trans {a b c : World} (h : Drawn a b) (k : Drawn b c) : Drawn a c := by
  obtain ⟨n, rfl⟩ := k
  exact h.drewN n
theorem Drawn.new {w w' : World} (h : Drawn w w') : New w w' := by
  obtain ⟨k, rfl⟩ := h
  exact New.drewN (New.refl w) k
/-- a goal at which the walk stands still; 'go' lets it go on -/
def Stop (p : Prop) : Prop := p
theorem stop {p : Prop} (h : Stop p) : p := h
theorem go {p : Prop} (h : p) : Stop p := h
end Go.Proofs.Ytagocmbcbbhehaa
