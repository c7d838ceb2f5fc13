/- A log, a disk beside other things: in blocks of a set of their own; a list that holds rows of an argument. -/
import Derived.Test.YtemgiodakoojiaaLgI
namespace Go.Proofs.Ytemgiodakoojiaa
set_option linter.unusedVariables false
open Go.RowKit
open Go.Proofs.Ytemgiodakoojiaa.Frm
open Go.Proofs.Ytemgiodakoojiaa.Jr
/-- the blocks of F, and all that is new -/
abbrev Plus (F : Nat → Prop) (w : World) : Nat → Prop := fun i => F i ∨ w.heap.size ≤ i
/-- a disk in blocks of F, made since w0 -/
structure DiskB (F : Nat → Prop) (w0 w : World) (dg : Nat) (A : Option Addr) (c : Nat) (σ : St) : Prop where
  disk : DiskAt (Plus F w) w w dg A c σ
  lo : ∀ i, F i → w0.heap.size ≤ i ∧ i < w.heap.size
  new : New w0 w
/-- a log in blocks of F, made since w0 -/
structure LogB (F : Nat → Prop) (w0 w : World) (g dg : Nat) (A : Option Addr) (c : Nat) (σ : St) (snap : List UInt8) (recs : List (List UInt8)) : Prop where
  log : LogAt (Plus F w) w w g dg A c σ snap recs
  lo : ∀ i, F i → w0.heap.size ≤ i ∧ i < w.heap.size
  new : New w0 w
/-- F' is F, and blocks that are new since w; all else is as it was -/
structure Grew (F F' : Nat → Prop) (w w' : World) : Prop where
  keep : Keep F w w'
  sub : ∀ i, F' i → F i ∨ w.heap.size ≤ i
section
variable {F : Nat → Prop} {w0 w w' : World} {g g' dg c c' : Nat} {A A' : Option Addr} {σ τ : St} {snap snap' : List UInt8} {rs rs' : List (List UInt8)}
theorem Keep.plus (h : Keep (Plus F w) w w') : Keep F w w' := ⟨h.os, h.tape, h.output, h.size, fun i hi hs => h.block i hi (fun hp => by rcases hp with hp | hp; exact hs hp; omega)⟩
/-- the blocks behind a step -/
def After (F : Nat → Prop) (w w' : World) : Nat → Prop := fun i => F i ∨ (w.heap.size ≤ i ∧ i < w'.heap.size)
theorem grew (h : Keep (Plus F w) w w') : Grew F (After F w w') w w' := ⟨h.plus, fun i hi => by rcases hi with hi | hi; exact .inl hi; exact .inr hi.1⟩
theorem after_lo (hlo : ∀ i, F i → w0.heap.size ≤ i ∧ i < w.heap.size) (hw : w0.heap.size ≤ w.heap.size) (hs : w.heap.size ≤ w'.heap.size) : ∀ i, After F w w' i → w0.heap.size ≤ i ∧ i < w'.heap.size := by
  intro i hi
  rcases hi with hi | hi
  · have := hlo i hi; omega
  · omega
theorem new_of (hn : New w0 w) (hlo : ∀ i, F i → w0.heap.size ≤ i ∧ i < w.heap.size) (h : Keep (Plus F w) w w') : New w0 w' :=
  Below.trans hn (h.below hn.size fun i hi => by
    rcases hi with hi | hi
    · exact (hlo i hi).1
    · exact Nat.le_trans hn.size hi)
theorem LogB.toDisk (h : LogB F w0 w g dg A c σ snap rs) : DiskB F w0 w dg A c σ := ⟨h.log.toDiskAt, h.lo, h.new⟩
theorem LogB.step (h : DiskB F w0 w dg A c σ) (k : LogAt (Plus F w) w w' g' dg A' c' τ snap' rs') : LogB (After F w w') w0 w' g' dg A' c' τ snap' rs' ∧ Grew F (After F w w') w w' := by
  refine ⟨⟨k.far (S := fun _ => False) (Keep.refl _ _) (fun _ h _ _ => h.elim) w' _ (fun i hi hp => ?_) (Keep.refl _ _) (fun i hi => .inr hi), after_lo h.lo h.new.size k.size, new_of h.new h.lo k.fr⟩, grew k.fr⟩
  rcases hp with hp | hp
  · exact .inl (.inl hp)
  · exact .inl (.inr ⟨hp, hi⟩)
theorem DiskB.step (h : DiskB F w0 w dg A c σ) (k : DiskAt (Plus F w) w w' dg A' c' τ) : DiskB (After F w w') w0 w' dg A' c' τ ∧ Grew F (After F w w') w w' := by
  have hp : ∀ i, i < w'.heap.size → Plus F w i → Plus (After F w w') w' i := fun i hi hp => by
    rcases hp with hp | hp
    · exact .inl (.inl hp)
    · exact .inl (.inr ⟨hp, hi⟩)
  exact ⟨⟨⟨k.a, Keep.refl _ _, fun i hi => .inr hi, hp _ k.a.lt k.od, fun i hi => hp _ (OB.lt k.a.own hi).2 (k.oA i hi)⟩, after_lo h.lo h.new.size k.size, new_of h.new h.lo k.fr⟩, grew k.fr⟩
/-- something else is done -/
theorem LogB.other {S : Nat → Prop} (h : LogB F w0 w g dg A c σ snap rs) (hk : Keep S w w') (hS : ∀ i, S i → ¬ F i) (hn : New w0 w') : LogB F w0 w' g dg A c σ snap rs :=
  ⟨h.log.far hk (fun i hs hi hp => by
    rcases hp with hp | hp
    · exact hS i hs hp
    · omega) w' _ (fun i hi hp => by
    rcases hp with hp | hp
    · exact .inl hp
    · omega) (Keep.refl _ _) (fun i hi => .inr hi), fun i hi => by have := h.lo i hi; have := hk.size; omega, hn⟩
theorem LogB.also (h : LogB F w0 w g dg A c σ snap rs) (hn : New w w') : LogB F w0 w' g dg A c σ snap rs :=
  h.other (S := fun _ => False) (.of_new hn) (fun _ h => h.elim) (New.trans h.new hn)
theorem DiskB.other {S : Nat → Prop} (h : DiskB F w0 w dg A c σ) (hk : Keep S w w') (hS : ∀ i, S i → ¬ F i) (hn : New w0 w') : DiskB F w0 w' dg A c σ := by
  have hp : ∀ i, i < w.heap.size → Plus F w i → F i := fun i hi hp => by
    rcases hp with hp | hp
    · exact hp
    · omega
  have hd := hp _ h.disk.a.lt h.disk.od
  have hA := fun i hi => hp i (OB.lt h.disk.a.own hi).2 (h.disk.oA i hi)
  exact ⟨⟨h.disk.a.keep hk (fun hs => hS _ hs hd) (fun i hi hs => hS i hs (hA i hi)), Keep.refl _ _, fun i hi => .inr hi, .inl hd, fun i hi => .inl (hA i hi)⟩, fun i hi => by have := h.lo i hi; have := hk.size; omega, hn⟩
theorem DiskB.also (h : DiskB F w0 w dg A c σ) (hn : New w w') : DiskB F w0 w' dg A c σ :=
  h.other (S := fun _ => False) (.of_new hn) (fun _ h => h.elim) (New.trans h.new hn)
/-- from the log of a call alone -/
theorem DiskB.of_new {w1 : World} (hn : New w0 w1) (h : DiskAt (Since w1) w1 w dg A c σ) : DiskB (fun i => w1.heap.size ≤ i ∧ i < w.heap.size) w0 w dg A c σ :=
  ⟨⟨h.a, Keep.refl _ _, fun i hi => .inr hi, .inl ⟨h.od, h.a.lt⟩, fun i hi => .inl ⟨h.oA i hi, (OB.lt h.a.own hi).2⟩⟩, fun i hi => ⟨Nat.le_trans hn.size hi.1, hi.2⟩, New.trans hn h.fr.since⟩
end
/-- a list that holds rows of w0's, n of them -/
def Held (w0 w : World) (A : Option Addr) (n c : Nat) (ls : List (List UInt8)) : Prop := ∃ xs : List Value, Own w w0.heap.size 30 A n c xs ∧ ls.length = n ∧ ∀ (j : Nat) (l : List UInt8), ls[j]? = some l → ∃ B d, xs[j]? = some (.slice B l.length d) ∧ l.length ≤ d ∧ d ≤ maxLen ∧ RB w0 B l
section
variable {w0 w w' : World} {A : Option Addr} {n c : Nat} {ls : List (List UInt8)}
theorem Held.nil (w0 w : World) : Held w0 w none 0 0 [] := ⟨[], Own.nil _ _ _, rfl, fun j l h => by simp at h⟩
theorem Held.keep {S : Nat → Prop} (h : Held w0 w A n c ls) (hk : Keep S w w') (hS : ∀ i, blk A = some i → ¬ S i) : Held w0 w' A n c ls := by
  obtain ⟨xs, h1, h2, h3⟩ := h
  exact ⟨xs, h1.keep hk hS, h2, h3⟩
theorem Held.new (h : Held w0 w A n c ls) (hn : New w w') : Held w0 w' A n c ls := h.keep (S := fun _ => False) (.of_new hn) (fun _ _ h => h)
theorem Held.rr (h : Held w0 w A n c ls) (hn : New w0 w) : RR w A ls := fun j l hl => by
  obtain ⟨xs, ho, hlen, hx⟩ := h
  obtain ⟨B, d, hj, h1, h2, hb⟩ := hx j l hl
  have hjn : j < n := by rw [← hlen]; exact (List.getElem?_eq_some_iff.1 hl).1
  rcases ho.form with ⟨_, h0, _⟩ | ⟨g, rfl, _, _⟩
  · omega
  · exact ⟨_, B, d, rfl, by rw [addr_at, ho.at_ rfl hjn, hj], h1, h2, hb.new hn⟩
theorem Held.snoc {xs : List Value} {A' B : Option Addr} {c' d : Nat} {l : List UInt8} (h3 : ∀ (j : Nat) (l : List UInt8), ls[j]? = some l → ∃ B d, xs[j]? = some (.slice B l.length d) ∧ l.length ≤ d ∧ d ≤ maxLen ∧ RB w0 B l) (hl : ls.length = n) (ho : Own w w0.heap.size 30 A n c xs) (ho' : Own w' w0.heap.size 30 A' (n + 1) c' (xs ++ [.slice B l.length d])) (hb : RB w0 B l) (h1 : l.length ≤ d) (h2 : d ≤ maxLen) : Held w0 w' A' (n + 1) c' (ls ++ [l]) := by
  have hxl := ho.len
  refine ⟨_, ho', by simp [hl], fun j k hj => ?_⟩
  rw [List.getElem?_append] at hj
  split at hj
  · rename_i hlt
    obtain ⟨B', d', g1, g2⟩ := h3 j k hj
    exact ⟨B', d', by rw [List.getElem?_append_left (by omega)]; exact g1, g2⟩
  · rename_i hge
    have hj0 : j = ls.length := by
      have := (List.getElem?_eq_some_iff.1 hj).1
      simp only [List.length_cons, List.length_nil] at this
      omega
    subst hj0
    simp only [Nat.sub_self, List.getElem?_cons_zero, Option.some.injEq] at hj
    subst hj
    exact ⟨B, d, by rw [List.getElem?_append_right (by omega), hxl, hl]; simp, h1, h2, hb⟩
theorem Held.blk_lt (h : Held w0 w A n c ls) : ∀ i, blk A = some i → w0.heap.size ≤ i ∧ i < w.heap.size := by
  obtain ⟨xs, h1, _, _⟩ := h
  exact fun i hi => Own.lt h1 hi
end
section
variable {P : Program}
/-- 'xs = append(xs, v)', one cell an element, xs the call's own -/
theorem wpList_append_at (W : World) {ops : Array Oper} {rest : List Oper} {o : Oper} {a : Act} {Q : Exit → Act → World → Prop} (hgd : o.guard = none) (s x : Operand) (t : TypeId)
    (ho : o.op = .call { callee := .builtin .append, args := #[s, x], argTypes := #[t, t] })
    (base : Nat) (e : TypeId) (z : Value) (bytes : Nat) (ht : P.underlying t = some (.slice e)) (he : (P.info? e).map (fun i => (i.zero, i.size, i.bytes)) = some (some z, 1, bytes)) (hzs : z.cells.size = 1)
    (A : Option Addr) (n c : Nat) (xs : List Value) (hs : a.eval s = .slice A n c) (hown : Own W base e A n c xs)
    (v : Value) (hv : v.oneCell' = true) {g : Nat} (hg : g = W.heap.size) (hx : a.eval x = .slice (some ⟨g, 0, none⟩) 1 1) (h63 : n + 1 ≤ maxLen) (hn : (n + 1) * bytes ≤ 140737488355328) (hbase : base ≤ W.heap.size)
    (h : ∀ A' c' w', Own w' base e A' (n + 1) c' (xs ++ [v]) → (W.alloc (.cells #[v] e)).grownBy w' (blk A) → (blk A' = blk A ∨ blk A' = some (W.heap.size + 1)) → Below base W w' → wpList P ops Q rest (a.put o.dst (.slice A' (n + 1) c')) w') : wpList P ops Q (o :: rest) a (W.alloc (.cells #[v] e)) := by
  obtain ⟨i, hi, hz0, hz1, hz2⟩ := info_parts he
  subst hg
  refine wpList_append_Own _ hgd s x t ho base e i z bytes ht hi hz0 hz1 hz2 hzs A n c xs hs (hown.alloc _) (some ⟨W.heap.size, 0, none⟩) 1 1 [v] hx rfl (fun j u hu => ?_) (fun u hu => ?_) h63 hn (by simp; omega) (fun A' c' w' h2 h3 h4 => h A' c' w' h2 h3 (by rwa [World.size_alloc] at h4) ?_)
  · have hj : j = 0 := by
      have := (List.getElem?_eq_some_iff.1 hu).1
      simp only [List.length_cons, List.length_nil] at this
      omega
    subst hj
    simp only [List.getElem?_cons_zero, Option.some.injEq] at hu
    subst hu
    exact ⟨_, rfl, by rw [addr_at, cell_of_row _ _ 0 _ _ _ (heap_alloc_new W _)]; rfl⟩
  · simp only [List.mem_singleton] at hu
    subst hu
    exact hv
  · exact (Below.alloc (Below.refl _ _) hbase _).trans (below_blk (hown.alloc _) h3 (by simp; omega))
end
/-- what a crash leaves -/
theorem crash_at_ (l : List UInt8) (s : Nat) (hs : s ≤ l.length) (tr : Bool) (k x : Int) : ∃ en, s ≤ en ∧ en ≤ l.length ∧ St.crash ⟨l, s, false, tr, k⟩ x = ⟨l.take en, s, true, false, 0⟩ ∧ St.start ⟨l.take en, s, true, false, 0⟩ = ⟨l.take en, en, false, false, 0⟩ := by
  refine ⟨St.left ⟨l, s, false, tr, k⟩ x, ?_, ?_, rfl, ?_⟩
  · unfold St.left; show s ≤ s + (min (max x 0) ((l.length : Int) - s)).toNat; omega
  · unfold St.left; show s + (min (max x 0) ((l.length : Int) - s)).toNat ≤ _; omega
  · have h : St.left ⟨l, s, false, tr, k⟩ x ≤ l.length := by unfold St.left; show s + (min (max x 0) ((l.length : Int) - s)).toNat ≤ _; omega
    unfold St.start
    rw [if_pos rfl]
    show (⟨l.take _, (l.take _).length, false, false, 0⟩ : St) = _
    rw [List.length_take, Nat.min_eq_left h]
end Go.Proofs.Ytemgiodakoojiaa
