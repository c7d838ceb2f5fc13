/- A writer or a reader in memory: a block of two cells and bytes of the call's own. -/
import Derived.Test.YtagocmbcbbhehaaKeepA
namespace Go.Proofs.Ytagocmbcbbhehaa
open Go.RowKit
/-- block g is a writer (a reader; its type is T) of the bytes l, with the error e, its bytes the call's own, at A -/
structure PK (T : TypeId) (w : World) (base g : Nat) (A : Option Addr) (c : Nat) (l : List UInt8) (e : Int) : Prop where
  cells : w.heap[g]? = some (.cells #[.slice A l.length c, .int .i64 e] T)
  own : OBs w base A l.length c l
  le : base ≤ g
  ty : 5 ≠ T
/-- the disk at g with its bytes at A was changed, and nothing else that was there; its bytes are at A' now: where they were, or in new memory -/
structure Moved (w w' : World) (g : Nat) (A A' : Option Addr) : Prop where
  keep : Keep (fun i => i = g ∨ blk A = some i) w w'
  at_ : blk A' = blk A ∨ ∀ i, blk A' = some i → w.heap.size ≤ i
section
variable {T : TypeId} {w w' w'' : World} {base g c : Nat} {A A' A'' : Option Addr} {l : List UInt8} {e : Int}
theorem PK.lt (h : PK T w base g A c l e) : g < w.heap.size := (Array.getElem?_eq_some_iff.1 h.cells).1
theorem PK.c0 (h : PK T w base g A c l e) : w.cell? ⟨g, 0, none⟩ = some (.slice A l.length c) := cell_of_row w g 0 _ _ _ h.cells
theorem PK.c1 (h : PK T w base g A c l e) : w.cell? ⟨g, 1, none⟩ = some (.int .i64 e) := cell_of_row w g 1 _ _ _ h.cells
theorem PK.fr (h : PK T w base g A c l e) (j : Nat) : w.frozen? ⟨g, j, none⟩ = false := frozen_of_row w g j _ _ h.cells
/-- the bytes do not lie in the disk's block -/
theorem PK.apart (h : PK T w base g A c l e) {i : Nat} (hi : blk A = some i) : i ≠ g := by
  rintro rfl
  obtain ⟨cur, h1⟩ := h.own.cells_ hi
  rw [h.cells] at h1
  injection h1 with h1
  injection h1 with _ h1
  exact h.ty h1.symm
theorem PK.new (h : PK T w base g A c l e) (hn : New w w') : PK T w' base g A c l e := ⟨(hn.block g h.lt).trans h.cells, h.own.new hn, h.le, h.ty⟩
theorem PK.alloc (h : PK T w base g A c l e) (o : Obj) : PK T (w.alloc o) base g A c l e := h.new ((Below.refl _ _).alloc (Nat.le_refl _) o)
theorem PK.keep {S : Nat → Prop} (h : PK T w base g A c l e) (hk : Keep S w w') (hg : ¬ S g) (hA : ∀ i, blk A = some i → ¬ S i) : PK T w' base g A c l e :=
  ⟨(hk.block g h.lt hg).trans h.cells, h.own.keep hk hA, h.le, h.ty⟩
theorem PK.drew (h : PK T w base g A c l e) : PK T w.drew base g A c l e := ⟨h.cells, h.own, h.le, h.ty⟩
theorem PK.drewN (h : PK T w base g A c l e) (n : Nat) : PK T (w.drewN n) base g A c l e := ⟨h.cells, h.own, h.le, h.ty⟩
theorem PK.base_le {b : Nat} (h : PK T w base g A c l e) (hb : b ≤ base) : PK T w b g A c l e := ⟨h.cells, OB.base_le h.own hb, Nat.le_trans hb h.le, h.ty⟩
theorem Moved.refl (w : World) (g : Nat) (A : Option Addr) : Moved w w g A A := ⟨Keep.refl _ w, .inl rfl⟩
theorem Moved.trans (h : Moved w w' g A A') (k : Moved w' w'' g A' A'') : Moved w w'' g A A'' := by
  refine ⟨h.keep.trans_new k.keep ?_, ?_⟩
  · rintro i (rfl | hi) hlt
    · exact .inl rfl
    · rcases h.at_ with ha | ha
      · exact .inr (ha ▸ hi)
      · have := ha i hi; omega
  · rcases k.at_ with ka | ka
    · rw [ka]; exact h.at_
    · exact .inr fun i hi => Nat.le_trans h.keep.size (ka i hi)
theorem Moved.of_new (h : New w w') : Moved w w' g A A := ⟨.of_new h, .inl rfl⟩
theorem Moved.drew (h : Moved w w' g A A') : Moved w w'.drew g A A' := ⟨h.keep.drew, h.at_⟩
theorem Moved.drewN (h : Moved w w' g A A') (n : Nat) : Moved w (w'.drewN n) g A A' := ⟨h.keep.drewN n, h.at_⟩
theorem Moved.below (h : Moved w w' g A A') (hd : PK T w base g A c l e) {b : Nat} (hb : b ≤ base) (hw : b ≤ w.heap.size) : Below b w w' := by
  refine h.keep.below hw ?_
  rintro i (rfl | hi)
  · exact Nat.le_trans hb hd.le
  · have := (OB.lt hd.own hi).1; omega
theorem Moved.store (h : Moved w w' g A A') (o : Nat) (u : Value) : Moved w (w'.setCell ⟨g, o, none⟩ u) g A A' :=
  ⟨h.keep.trans_new (Keep.setAt w' g o u) (fun _ hi _ => .inl hi), h.at_⟩
/-- another one stays, if its bytes lie elsewhere -/
theorem PK.other {T' : TypeId} {base' g' c' : Nat} {B : Option Addr} {l' : List UInt8} {e' : Int} (h : PK T' w base' g' B c' l' e') (hd : PK T w base g A c l e) (hm : Moved w w' g A A') (hg : g' ≠ g) (hB : ∀ i, blk B = some i → ¬ blk A = some i) : PK T' w' base' g' B c' l' e' := by
  refine h.keep hm.keep ?_ ?_
  · rintro (he | he)
    · exact hg he
    · obtain ⟨cur, h1⟩ := hd.own.cells_ he
      rw [h.cells] at h1
      injection h1 with h1
      injection h1 with _ h1
      exact h.ty h1.symm
  · rintro i hi (he | he)
    · subst he
      obtain ⟨cur, h1⟩ := h.own.cells_ hi
      rw [hd.cells] at h1
      injection h1 with h1
      injection h1 with _ h1
      exact hd.ty h1.symm
    · exact hB i hi he
/-- and their bytes still lie apart -/
theorem Moved.apart {base' n d : Nat} {B : Option Addr} {l : List UInt8} (hm : Moved w w' g A A') (h : OBs w base' B n d l) (hB : ∀ i, blk B = some i → ¬ blk A = some i) : ∀ i, blk B = some i → ¬ blk A' = some i := by
  intro i hi e
  rcases hm.at_ with ha | ha
  · exact hB i hi (ha ▸ e)
  · have := ha i e
    have := (OB.lt h hi).2
    omega
end
/-- the cells after a store -/
theorem dk_set {w : World} {g : Nat} {T : TypeId} {cs : Array Value} (h : w.heap[g]? = some (.cells cs T (0, 0))) (o : Nat) (u : Value) : (w.setCell ⟨g, o, none⟩ u).heap[g]? = some (.cells (cs.set! o u) T (0, 0)) := by
  rw [heap_setCell_same w g o _ _ _ h]
  simp
end Go.Proofs.Ytagocmbcbbhehaa
