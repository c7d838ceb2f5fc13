/- A disk in memory: a block of five cells and bytes of the call's own. -/
import Derived.Test.YtemgiodakoojiaaKeepA
import Derived.Test.YtemgiodakoojiaaSt
namespace Go.Proofs.Ytemgiodakoojiaa
open Go.RowKit
/-- the cells of a disk -/
abbrev dkc (A : Option Addr) (n c : Nat) (s : Int) (off tr : Bool) (k : Int) : Array Value := #[.slice A n c, .int .i64 s, .bool off, .bool tr, .int .i64 k]
/-- block g is a disk in state σ (its type is T), its bytes the call's own, at A -/
structure DK (T : TypeId) (w : World) (base g : Nat) (A : Option Addr) (c : Nat) (σ : St) : Prop where
  cells : w.heap[g]? = some (.cells (dkc A σ.l.length c σ.s σ.off σ.tr σ.k) T)
  own : OBs w base A σ.l.length c σ.l
  le : base ≤ g
  ok : σ.ok
  ty : 5 ≠ T
/-- the disk at g with its bytes at A was changed, and nothing else that was there; its bytes are at A' now: where they were, or in new memory -/
structure Moved (w w' : World) (g : Nat) (A A' : Option Addr) : Prop where
  keep : Keep (fun i => i = g ∨ blk A = some i) w w'
  at_ : blk A' = blk A ∨ ∀ i, blk A' = some i → w.heap.size ≤ i
section
variable {T : TypeId} {w w' w'' : World} {base g c : Nat} {A A' A'' : Option Addr} {σ : St}
theorem DK.lt (h : DK T w base g A c σ) : g < w.heap.size := (Array.getElem?_eq_some_iff.1 h.cells).1
theorem DK.cell (h : DK T w base g A c σ) (j : Nat) : w.cell? ⟨g, j, none⟩ = (dkc A σ.l.length c σ.s σ.off σ.tr σ.k)[j]? := cell_of_row w g j _ _ _ h.cells
theorem DK.c0 (h : DK T w base g A c σ) : w.cell? ⟨g, 0, none⟩ = some (.slice A σ.l.length c) := h.cell 0
theorem DK.c1 (h : DK T w base g A c σ) : w.cell? ⟨g, 1, none⟩ = some (.int .i64 σ.s) := h.cell 1
theorem DK.c2 (h : DK T w base g A c σ) : w.cell? ⟨g, 2, none⟩ = some (.bool σ.off) := h.cell 2
theorem DK.c3 (h : DK T w base g A c σ) : w.cell? ⟨g, 3, none⟩ = some (.bool σ.tr) := h.cell 3
theorem DK.c4 (h : DK T w base g A c σ) : w.cell? ⟨g, 4, none⟩ = some (.int .i64 σ.k) := h.cell 4
theorem DK.fr (h : DK T w base g A c σ) (j : Nat) : w.frozen? ⟨g, j, none⟩ = false := frozen_of_row w g j _ _ h.cells
/-- the bytes do not lie in the disk's block -/
theorem DK.apart (h : DK T w base g A c σ) {i : Nat} (hi : blk A = some i) : i ≠ g := by
  rintro rfl
  obtain ⟨cur, h1⟩ := h.own.cells_ hi
  rw [h.cells] at h1
  injection h1 with h1
  injection h1 with _ h1
  exact h.ty h1.symm
theorem DK.new (h : DK T w base g A c σ) (hn : New w w') : DK T w' base g A c σ := ⟨(hn.block g h.lt).trans h.cells, h.own.new hn, h.le, h.ok, h.ty⟩
theorem DK.alloc (h : DK T w base g A c σ) (o : Obj) : DK T (w.alloc o) base g A c σ := h.new ((Below.refl _ _).alloc (Nat.le_refl _) o)
theorem DK.keep {S : Nat → Prop} (h : DK T w base g A c σ) (hk : Keep S w w') (hg : ¬ S g) (hA : ∀ i, blk A = some i → ¬ S i) : DK T w' base g A c σ :=
  ⟨(hk.block g h.lt hg).trans h.cells, h.own.keep hk hA, h.le, h.ok, h.ty⟩
theorem DK.drew (h : DK T w base g A c σ) : DK T w.drew base g A c σ := ⟨h.cells, h.own, h.le, h.ok, h.ty⟩
theorem DK.drewN (h : DK T w base g A c σ) (n : Nat) : DK T (w.drewN n) base g A c σ := ⟨h.cells, h.own, h.le, h.ok, h.ty⟩
theorem DK.base_le {b : Nat} (h : DK T w base g A c σ) (hb : b ≤ base) : DK T w b g A c σ := ⟨h.cells, OB.base_le h.own hb, Nat.le_trans hb h.le, h.ok, h.ty⟩
theorem Moved.refl (w : World) (g : Nat) (A : Option Addr) : Moved w w g A A := ⟨Keep.refl _ w, .inl rfl⟩
theorem Moved.trans (h : Moved w w' g A A') (k : Moved w' w'' g A' A'') : Moved w w'' g A A'' := by
  refine ⟨h.keep.trans_new k.keep ?_, ?_⟩
  · rintro i (rfl | hi) hlt
    · exact .inl rfl
    · rcases h.at_ with ha | ha
      · exact .inr (ha ▸ hi)
      · have := ha i hi; omega
  · rcases k.at_ with ka | ka
    · rw [ka]; exact h.at_
    · exact .inr fun i hi => Nat.le_trans h.keep.size (ka i hi)
theorem Moved.of_new (h : New w w') : Moved w w' g A A := ⟨.of_new h, .inl rfl⟩
theorem Moved.drew (h : Moved w w' g A A') : Moved w w'.drew g A A' := ⟨h.keep.drew, h.at_⟩
theorem Moved.drewN (h : Moved w w' g A A') (n : Nat) : Moved w (w'.drewN n) g A A' := ⟨h.keep.drewN n, h.at_⟩
theorem Moved.below (h : Moved w w' g A A') (hd : DK T w base g A c σ) {b : Nat} (hb : b ≤ base) (hw : b ≤ w.heap.size) : Below b w w' := by
  refine h.keep.below hw ?_
  rintro i (rfl | hi)
  · exact Nat.le_trans hb hd.le
  · have := (OB.lt hd.own hi).1; omega
theorem Moved.store (h : Moved w w' g A A') (o : Nat) (u : Value) : Moved w (w'.setCell ⟨g, o, none⟩ u) g A A' :=
  ⟨h.keep.trans_new (Keep.setAt w' g o u) (fun _ hi _ => .inl hi), h.at_⟩
/-- another disk stays, if its bytes lie elsewhere -/
theorem DK.other {T' : TypeId} {base' g' c' : Nat} {B : Option Addr} {τ : St} (h : DK T' w base' g' B c' τ) (hd : DK T w base g A c σ) (hm : Moved w w' g A A') (hg : g' ≠ g) (hB : ∀ i, blk B = some i → ¬ blk A = some i) : DK T' w' base' g' B c' τ := by
  refine h.keep hm.keep ?_ ?_
  · rintro (e | e)
    · exact hg e
    · obtain ⟨cur, h1⟩ := hd.own.cells_ e
      rw [h.cells] at h1
      injection h1 with h1
      injection h1 with _ h1
      exact h.ty h1.symm
  · rintro i hi (e | e)
    · subst e
      obtain ⟨cur, h1⟩ := h.own.cells_ hi
      rw [hd.cells] at h1
      injection h1 with h1
      injection h1 with _ h1
      exact hd.ty h1.symm
    · exact hB i hi e
/-- and their bytes still lie apart -/
theorem Moved.apart {base' n d : Nat} {B : Option Addr} {l : List UInt8} (hm : Moved w w' g A A') (h : OBs w base' B n d l) (hB : ∀ i, blk B = some i → ¬ blk A = some i) : ∀ i, blk B = some i → ¬ blk A' = some i := by
  intro i hi e
  rcases hm.at_ with ha | ha
  · exact hB i hi (ha ▸ e)
  · have := ha i e
    have := (OB.lt h hi).2
    omega
end
/-- the disk's cells after a store -/
theorem dk_set {w : World} {g : Nat} {T : TypeId} {cs : Array Value} (h : w.heap[g]? = some (.cells cs T (0, 0))) (o : Nat) (u : Value) : (w.setCell ⟨g, o, none⟩ u).heap[g]? = some (.cells (cs.set! o u) T (0, 0)) := by
  rw [heap_setCell_same w g o _ _ _ h]
  simp
end Go.Proofs.Ytemgiodakoojiaa
