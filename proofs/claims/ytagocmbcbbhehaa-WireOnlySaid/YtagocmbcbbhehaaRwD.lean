/- A reading function's two boxes. -/
import Derived.Test.YtagocmbcbbhehaaRwB
import Derived.Deep.MidRow
namespace Go.Proofs.Ytagocmbcbbhehaa
set_option linter.unusedVariables false
open Go.RowKit
section
variable {w w' : World} {lo g R c : Nat} {A : Option Addr} {l : List UInt8} {e : Int} {lg : Bool}
theorem RW.new (h : RW w lo g R A c l e lg) (hn : New w w') : RW w' lo g R A c l e lg := ⟨h.rk.new hn, (hn.block R (Array.getElem?_eq_some_iff.1 h.cell).1).trans h.cell, h.ord⟩
theorem RW.c0 (h : RW w lo g R A c l e lg) : w.cell? ⟨R, 0, none⟩ = some (.pointer (some ⟨g, 0, none⟩)) := cell_of_row w R 0 _ _ _ h.cell
theorem RW.c1 (h : RW w lo g R A c l e lg) : w.cell? ⟨R, 1, none⟩ = some (.bool lg) := cell_of_row w R 1 _ _ _ h.cell
theorem RW.lt (h : RW w lo g R A c l e lg) : R < w.heap.size := (Array.getElem?_eq_some_iff.1 h.cell).1
theorem RW.far {sb : Nat} (h : RW w lo g R A c l e lg) (hk : Keep (fun i => i = sb) w w') (hs : R < sb) : RW w' lo g R A c l e lg :=
  ⟨⟨(hk.block g h.rk.lt (fun hi => by have := h.ord; omega)).trans h.rk.cells, h.rk.rb.kept hk (fun ad ea hi => by have := (h.rk.low ad ea).1; have := h.ord; omega), h.rk.low, h.rk.le, h.rk.cap⟩, (hk.block R h.lt (fun hi => by omega)).trans h.cell, h.ord⟩
end
theorem wpList_store_row2 {P : Program} {w : World} {ops : Array Oper} {rest : List Oper} {op : Oper} {a : Act} {Q : Exit → Act → World → Prop} (hgd : op.guard = none) (ty : TypeId) (x y : Operand) (ho : op.op = .store ty x y)
    (g : Nat) (cells : Array Value) (hx : a.eval x = .pointer (some ⟨g, 0, none⟩)) (hy : a.eval y = .agg cells)
    (t : TypeId) (old : Array Value) (hg : w.heap[g]? = some (.cells old t (0, 0))) (hi : (P.info? ty).map (·.size) = some cells.size)
    (hold : old.size = cells.size) (h1 : cells.all (·.oneCell') = true)
    (h : wpList P ops Q rest (a.put op.dst undef) (w.setRow g cells)) : wpList P ops Q (op :: rest) a w :=
  wpList_plain hgd fun K hK => wp_store_row ty x y ho g cells hx hy t old hg hi hold h1 (hK _ _ h)
theorem cells_of {W : World} {g : Nat} {l : List Value} {ty : TypeId} (h : W.heap[g]? = some (.cells l.toArray ty (0, 0))) : CellsAt W ⟨g, 0, none⟩ l := fun i v hi => by
  rw [addr_at, cell_of_row _ _ i _ _ _ h, List.getElem?_toArray]
  exact hi
theorem FText.sl {b : Nat} {w : World} {v : Value} {s : Ch} (h : FText b w [v] s) : ∃ A n d, v = .slice A n d := by
  obtain ⟨A, d, l, _, _, _, h, _⟩ := h
  injection h with h
  exact ⟨_, _, _, h⟩
theorem FList.sl {E : Nat → World → List Value → Ch → Prop} {z most b : Nat} {w : World} {v : Value} {s : Ch} (h : FList E z most b w [v] s) : ∃ A n d, v = .slice A n d := by
  obtain ⟨A, n, d, h, _⟩ := h
  injection h with h
  exact ⟨_, _, _, h⟩
abbrev DD (w0 : World) : Nat → Prop := fun i => i < w0.heap.size + 2
/-- the box of the result (block w0.heap.size) and the box that is filled (the next one), beside the reader; F holds, whatever changes below -/
structure BX (F : World → Prop) (T : TypeId) (w0 w : World) (lo g R : Nat) (A : Option Addr) (c : Nat) (l : List UInt8) (e : Int) (lg : Bool) (zs cur : List Value) : Prop where
  rw : RW w lo g R A c l e lg
  res : w.heap[w0.heap.size]? = some (.cells zs.toArray T (0, 0))
  box : w.heap[w0.heap.size + 1]? = some (.cells cur.toArray T (0, 0))
  keep : Keep (S2 g R) w0 w
  low : R < w0.heap.size
  ff : ∀ u, Keep (DD w0) w u → F u
section
variable {F : World → Prop} {T : TypeId} {w0 w w' : World} {lo g R c c' : Nat} {A A' : Option Addr} {l l' : List UInt8} {e e' : Int} {lg lg' : Bool} {zs cur : List Value}
theorem BX.new (h : RW w0 lo g R A c l e lg) (T : TypeId) (zs : List Value) : BX (fun _ => True) T w0 ((w0.alloc (.cells zs.toArray T)).alloc (.cells zs.toArray T)) lo g R A c l e lg zs zs := by
  have hn : New w0 ((w0.alloc (.cells zs.toArray T)).alloc (.cells zs.toArray T)) := Below.alloc (Below.alloc (Below.refl _ _) (Nat.le_refl _) _) (by rw [World.size_alloc]; omega) _
  refine ⟨h.new hn, ?_, ?_, Keep.of_new hn, h.lt, fun _ _ => trivial⟩
  · exact (Below.block (Below.alloc (Below.refl (w0.heap.size + 1) (w0.alloc (.cells zs.toArray T))) (by rw [World.size_alloc]; omega) _) _ (by omega)).trans (heap_alloc_new w0 _)
  · have := heap_alloc_new (w0.alloc (.cells zs.toArray T)) (.cells zs.toArray T)
    rw [World.size_alloc] at this
    exact this
theorem BX.lt (h : BX F T w0 w lo g R A c l e lg zs cur) : w0.heap.size + 1 < w.heap.size := (Array.getElem?_eq_some_iff.1 h.box).1
theorem BX.red (h : BX F T w0 w lo g R A c l e lg zs cur) (hr : RW w' lo g R A' c' l' e' lg') (hk : Keep (S2 g R) w w') : BX F T w0 w' lo g R A' c' l' e' lg' zs cur := by
  have h1 := h.lt
  have h2 := h.low
  have h3 := h.rw.ord
  exact ⟨hr, (hk.block _ (by omega) (by rintro (h | h) <;> omega)).trans h.res, (hk.block _ h1 (by rintro (h | h) <;> omega)).trans h.box, Keep.trans_new h.keep hk (fun i hi _ => hi), h2,
    fun u hu => h.ff u ((hk.mono (T := DD w0) (by show ∀ i, (i = g ∨ i = R) → i < w0.heap.size + 2; rintro i (h | h) <;> omega)).trans hu)⟩
theorem BX.got {E : Nat → World → List Value → Ch → Prop} {cl : List Value} {cs : Ch} (h : BX F T w0 w lo g R A c l e lg zs cur) (hr : RW w' lo g R A' c' l' e' lg') (hk : Keep (S2 g R) w w') (hf : Fut w.heap.size w' E cl cs) :
    BX (fun u => F u ∧ E u.heap.size u cl cs) T w0 w' lo g R A' c' l' e' lg' zs cur := by
  have h0 := h.red hr hk
  have h1 := h.lt
  exact ⟨h0.rw, h0.res, h0.box, h0.keep, h0.low, fun u hu => ⟨h0.ff u hu, hf u (hu.mono fun i (hi : i < w0.heap.size + 2) => by show i < w.heap.size; omega)⟩⟩
theorem BX.put (h : BX F T w0 w lo g R A c l e lg zs cur) (j : Nat) (v : Value) : BX F T w0 (w.setCell ⟨w0.heap.size + 1, j, none⟩ v) lo g R A c l e lg zs (cur.set j v) := by
  have h1 := h.lt
  have h2 := h.low
  refine ⟨h.rw.far (Keep.setAt _ _ _ _) (by omega), ((Keep.setAt w _ _ _).block _ (by omega) (by omega)).trans h.res, ?_, Keep.trans_new h.keep (Keep.setAt _ _ _ _) (fun i hi hl => by omega), h2,
    fun u hu => h.ff u (((Keep.setAt w _ _ _).mono (T := DD w0) (fun i hi => by show i < w0.heap.size + 2; omega)).trans hu)⟩
  rw [dk_set h.box]
  simp
theorem BX.puts (vs : List Value) : ∀ (j : Nat) {w : World} {cur : List Value}, BX F T w0 w lo g R A c l e lg zs cur → j + vs.length ≤ cur.length → BX F T w0 (w.setCells (w0.heap.size + 1) j vs) lo g R A c l e lg zs (cur.take j ++ (vs ++ cur.drop (j + vs.length))) := by
  induction vs with
  | nil => intro j w cur h hj; simpa [World.setCells] using h
  | cons v r ih =>
    intro j w cur h hj
    rw [List.length_cons] at hj
    have := ih (j + 1) (h.put j v) (by rw [List.length_set]; omega)
    rw [World.setCells]
    have e : (cur.set j v).take (j + 1) ++ (r ++ (cur.set j v).drop (j + 1 + r.length)) = cur.take j ++ (v :: r ++ cur.drop (j + (v :: r).length)) := by
      rw [List.take_add_one, List.take_set_of_le (Nat.le_refl j), List.getElem?_set, if_pos rfl, if_pos (by omega), List.drop_set_of_lt (by omega), List.length_cons]
      simp [show j + 1 + r.length = j + (r.length + 1) by omega]
    rw [e] at this
    exact this
theorem BX.cell (h : BX F T w0 w lo g R A c l e lg zs cur) (j : Nat) : w.cell? ⟨w0.heap.size + 1, j, none⟩ = cur[j]? := by rw [cell_of_row _ _ j _ _ _ h.box, List.getElem?_toArray]
theorem BX.fr (h : BX F T w0 w lo g R A c l e lg zs cur) (j : Nat) : w.frozen? ⟨w0.heap.size + 1, j, none⟩ = false := frozen_of_row _ _ j _ _ h.box
theorem BX.there (h : BX F T w0 w lo g R A c l e lg zs cur) (j n : Nat) (hn : j + n ≤ cur.length) : w.there (w0.heap.size + 1) j n := fun i hi =>
  ⟨by rw [h.cell, List.getElem?_eq_getElem (by omega)]; rfl, h.fr _⟩
theorem BX.done (h : BX F T w0 w lo g R A c l e lg zs cur) (cs : List Value) : BX F T w0 (w.setRow w0.heap.size cs.toArray) lo g R A c l e lg cs cur := by
  have h1 := h.lt
  have h2 := h.low
  have hk : Keep (fun i => i = w0.heap.size) w (w.setRow w0.heap.size cs.toArray) := (Keep.of_grown (grownBy_setRow w w0.heap.size _)).mono (fun i hi => by injection hi with hi; exact hi.symm)
  exact ⟨h.rw.far hk h2, setRow_heap _ _ _ _ _ _ h.res, (hk.block _ h1 (by omega)).trans h.box, Keep.trans_new h.keep hk (fun i hi hl => by omega), h2,
    fun u hu => h.ff u ((hk.mono (T := DD w0) (fun i hi => by show i < w0.heap.size + 2; omega)).trans hu)⟩
end
end Go.Proofs.Ytagocmbcbbhehaa
