/- Rows of the call's own that hold bytes, and append onto them. Over any program. -/
import Derived.Test.YtagocmbcbbhehaaMem
import Derived.Maps.AppendAt
import Derived.Deep.AppendLies
import Derived.RegionTactic
import Derived.OwnWalk
import Derived.Laws.IdiomStrings
import Derived.Lib.SlBytesConst
namespace Go.Proofs.Ytagocmbcbbhehaa
open Go.RowKit

/-- the block of an address -/
def blk (A : Option Addr) : Option Nat := A.map (·.block)
theorem blk_own (A : Option Addr) (n c : Nat) : (Value.slice A n c).ownBlock = blk A := by cases A <;> rfl
/-- a slice of the call's own, of cells xs, one cell an element -/
abbrev Own (w : World) (base : Nat) (e : TypeId) (A : Option Addr) (n c : Nat) (xs : List Value) : Prop := w.ownsRow base e 1 (.slice A n c) n xs
/-- likewise, of bytes -/
def OB (w : World) (base : Nat) (e : TypeId) (A : Option Addr) (n c : Nat) (l : List UInt8) : Prop := Own w base e A n c (l.map bv)

section
variable {w w' : World} {base : Nat} {e : TypeId} {A : Option Addr} {n c : Nat} {xs : List Value} {l : List UInt8}
theorem Own.len (h : Own w base e A n c xs) : xs.length = n := by have := h.1; omega
theorem OB.len (h : OB w base e A n c l) : l.length = n := by have := Own.len h; simpa using this
theorem OB.rb (h : OB w base e A n c l) : RB w A l := RB.of_own h
theorem Own.lt (h : Own w base e A n c xs) {k : Nat} (hk : blk A = some k) : base ≤ k ∧ k < w.heap.size := World.ownsRow.lt h k (by rw [blk_own]; exact hk)
theorem OB.lt (h : OB w base e A n c l) {k : Nat} (hk : blk A = some k) : base ≤ k ∧ k < w.heap.size := Own.lt h hk
theorem Own.form (h : Own w base e A n c xs) : (A = none ∧ n = 0 ∧ c = 0) ∨ ∃ g, A = some ⟨g, 0, none⟩ ∧ base ≤ g ∧ g < w.heap.size := by
  rcases h.2 with ⟨h1, h2⟩ | ⟨g, cap, cur, h1, hb, hh, _⟩
  · injection h1 with h1 h3 h4
    exact .inl ⟨h1, h2, h4⟩
  · injection h1 with h1
    exact .inr ⟨g, h1, hb, (Array.getElem?_eq_some_iff.1 hh).1⟩
theorem Own.nil (w : World) (base : Nat) (e : TypeId) : Own w base e none 0 0 [] := World.ownsRow_nil w base e 1
theorem OB.nil (w : World) (base : Nat) (e : TypeId) : OB w base e none 0 0 [] := World.ownsRow_nil w base e 1
theorem Own.keep {S : Nat → Prop} (h : Own w base e A n c xs) (hk : Keep S w w') (hs : ∀ k, blk A = some k → ¬ S k) : Own w' base e A n c xs := by
  refine ⟨h.1, ?_⟩
  rcases h.2 with h2 | ⟨g, cap, cur, h1, hb, hh, r⟩
  · exact .inl h2
  · injection h1 with h1 h3 h4
    subst h1; subst h4
    exact .inr ⟨g, c, cur, rfl, hb, (hk.block g (Array.getElem?_eq_some_iff.1 hh).1 (hs g rfl)).trans hh, r⟩
theorem OB.keep {S : Nat → Prop} (h : OB w base e A n c l) (hk : Keep S w w') (hs : ∀ k, blk A = some k → ¬ S k) : OB w' base e A n c l := Own.keep h hk hs
theorem Own.new (h : Own w base e A n c xs) (hk : New w w') : Own w' base e A n c xs := h.keep (S := fun _ => False) (.of_new hk) (fun _ _ => id)
theorem OB.new (h : OB w base e A n c l) (hk : New w w') : OB w' base e A n c l := Own.new h hk
theorem Own.drew (h : Own w base e A n c xs) : Own w.drew base e A n c xs := h
theorem OB.drew (h : OB w base e A n c l) : OB w.drew base e A n c l := h
theorem Own.drewN (h : Own w base e A n c xs) (k : Nat) : Own (w.drewN k) base e A n c xs := h
theorem OB.drewN (h : OB w base e A n c l) (k : Nat) : OB (w.drewN k) base e A n c l := h
theorem Own.alloc (h : Own w base e A n c xs) (o : Obj) : Own (w.alloc o) base e A n c xs := World.ownsRow.alloc h o
theorem OB.alloc (h : OB w base e A n c l) (o : Obj) : OB (w.alloc o) base e A n c l := World.ownsRow.alloc h o
theorem Own.base_le {base' : Nat} (h : Own w base e A n c xs) (hb : base' ≤ base) : Own w base' e A n c xs := by
  refine ⟨h.1, ?_⟩
  rcases h.2 with h2 | ⟨g, cap, cur, h1, hg, r⟩
  · exact .inl h2
  · exact .inr ⟨g, cap, cur, h1, by omega, r⟩
theorem OB.base_le {base' : Nat} (h : OB w base e A n c l) (hb : base' ≤ base) : OB w base' e A n c l := Own.base_le h hb
theorem Own.frozen (h : Own w base e A n c xs) {g : Nat} (hA : A = some ⟨g, 0, none⟩) (j : Nat) : w.frozen? ⟨g, j, none⟩ = false := by subst hA; exact World.ownsRow.frozenAt h j
theorem Own.at_ (h : Own w base e A n c xs) {g : Nat} (hA : A = some ⟨g, 0, none⟩) {j : Nat} (hj : j < n) : w.cell? ⟨g, j, none⟩ = xs[j]? := by subst hA; exact World.ownsRow.cellAt h j (by omega)
theorem Own.le (h : Own w base e A n c xs) : n ≤ c ∧ c ≤ maxLen := by
  rcases h.2 with ⟨h1, h2⟩ | ⟨g, cap, cur, h1, _, _, h3, h4, _⟩
  · injection h1 with _ _ h1
    subst h1; subst h2
    exact ⟨Nat.le_refl _, Nat.zero_le _⟩
  · injection h1 with _ _ h1
    subst h1
    exact ⟨h3, h4⟩
theorem OB.le (h : OB w base e A n c l) : n ≤ c ∧ c ≤ maxLen := Own.le h
/-- one element written -/
theorem Own.set_ (h : Own w base e A n c xs) {g : Nat} (hA : A = some ⟨g, 0, none⟩) (j : Nat) (u : Value) :
    Own (w.setCell ⟨g, j, none⟩ u) base e A n c (xs.set j u) := by subst hA; exact (World.ownsRow.stored h j u).1
theorem OB.set_ {g : Nat} (h : OB w base e (some ⟨g, 0, none⟩) n c l) (j : Nat) (b : UInt8) : OB (w.setCell ⟨g, j, none⟩ (bv b)) base e (some ⟨g, 0, none⟩) n c (l.set j b) := by
  have := Own.set_ h rfl j (bv b)
  unfold OB
  rwa [List.map_set]
theorem OB.at_ {g : Nat} (h : OB w base e (some ⟨g, 0, none⟩) n c l) {j : Nat} (hj : j < n) : w.cell? ⟨g, j, none⟩ = some (bv (l[j]'(by rw [h.len]; exact hj))) := by
  have := Own.at_ h rfl hj
  have hl := h.len
  rw [this, List.getElem?_map, List.getElem?_eq_getElem (by omega)]
  rfl
theorem OB.frozen {g : Nat} (h : OB w base e (some ⟨g, 0, none⟩) n c l) (j : Nat) : w.frozen? ⟨g, j, none⟩ = false := Own.frozen h rfl j
/-- the first k elements -/
theorem Own.take_ (h : Own w base e A n c xs) {k : Nat} (hk : k ≤ n) : Own w base e A k c (xs.take k) := by
  refine ⟨by rw [List.length_take, Own.len h]; omega, ?_⟩
  rcases h.2 with ⟨h1, h2⟩ | ⟨g, cap, cur, h1, hb, hh, h3, h4, h5, h6⟩
  · injection h1 with h1 h3 h4
    exact .inl ⟨by rw [h1, h4, show k = 0 from by omega], by omega⟩
  · injection h1 with h1 _ h7
    subst h1; subst h7
    exact .inr ⟨g, c, cur, rfl, hb, hh, by omega, h4, h5, by rw [← h6, List.take_take]; congr 1; omega⟩
theorem OB.take_ (h : OB w base e A n c l) {k : Nat} (hk : k ≤ n) : OB w base e A k c (l.take k) := by
  have := Own.take_ h hk
  rwa [← List.map_take] at this
end

section
variable {P : Program}
/-- append onto a row of the call's own: the new elements lie at B, or there are none -/
theorem run_append_Own (w : World) (base : Nat) (t ty e : TypeId) (i : TypeInfo) (z : Value) (bytes : Nat) (ht : P.underlying t = some (.slice e)) (hi : P.info? e = some i) (hz : i.zero = some z)
    (hsize : i.size = 1) (hby : i.bytes = bytes) (hzs : z.cells.size = 1)
    (A : Option Addr) (n c : Nat) (xs : List Value) (hown : Own w base e A n c xs)
    (B : Option Addr) (m d : Nat) (news : List Value) (hm : news.length = m) (hnews : ∀ j u, news[j]? = some u → ∃ ad, B = some ad ∧ w.cell? (ad.add j) = some u) (h1 : ∀ u ∈ news, u.oneCell' = true)
    (h63 : n + m ≤ maxLen) (hbytes : (n + m) * bytes ≤ 140737488355328) (hbase : base ≤ w.heap.size) :
    ∃ A' c' w', (Builtin.append_ #[t, t] ty #[.slice A n c, .slice B m d]).run P w = .ok (.slice A' (n + m) c') w' ∧ Own w' base e A' (n + m) c' (xs ++ news) ∧ w.grownBy w' (blk A) ∧
      (blk A' = blk A ∨ blk A' = some w.heap.size) := by
  have key : ∃ v' w', (Builtin.append_ #[t, t] ty #[.slice A n c, .slice B m d]).run P w = .ok v' w' ∧ w'.ownsRow base e 1 v' (n + m) (xs ++ news) ∧ w.grownBy w' (blk A) ∧ (v'.ownBlock = blk A ∨ v'.ownBlock = some w.heap.size) := by
    cases B with
    | none =>
      have hn : news = [] := by
        cases news with
        | nil => rfl
        | cons u l => obtain ⟨ad, h, _⟩ := hnews 0 u rfl; cases h
      subst hn
      have hm0 : m = 0 := hm.symm
      subst hm0
      refine ⟨.slice A n c, w, ?_, by simpa using hown, World.grownBy.refl w _, .inl (blk_own A n c)⟩
      rcases hown.2 with ⟨h1, rfl⟩ | ⟨g, cap, cur, h1, _, _, hnc, _⟩
      · injection h1 with h1 _ h2
        subst h1; subst h2
        simp [Builtin.append_, run_underlying ht, sizeOf, typeInfo, hi, Builtin.lenOf, Builtin.firstCells]
      · injection h1 with h1 _ h2
        subst h1; subst h2
        simp [Builtin.append_, run_underlying ht, sizeOf, typeInfo, hi, Builtin.lenOf, Builtin.firstCells, hnc, storeCells]
    | some ad =>
      have hcells : ∀ j u, news[j]? = some u → w.cell? (ad.add j) = some u := fun j u hu => by
        obtain ⟨ad', h, hc⟩ := hnews j u hu
        injection h with h
        subst h
        exact hc
      obtain ⟨v', w', hrun, h2, h3, _, h5⟩ := run_append_own_at (P := P) w base t ty e i z 1 bytes ht hi hz hsize hby hzs (by omega) (.slice A n c) n xs hown ad m d news (by omega) hcells h1 h63 hbytes hbase
      rw [blk_own] at h3 h5
      exact ⟨v', w', hrun, h2, h3, h5⟩
  obtain ⟨v', w', hrun, h2, h3, h4⟩ := key
  rcases h2.2 with ⟨rfl, h0⟩ | ⟨g, cap, cur, rfl, _⟩
  · rw [h0] at h2 ⊢
    exact ⟨none, 0, w', hrun, h2, h3, h4⟩
  · exact ⟨_, cap, w', hrun, h2, h3, h4⟩

theorem wp_append_Own (w : World) {o : Oper} {a : Act} {K : Act → World → Prop} {Q : Exit → Act → World → Prop} (s x : Operand) (t : TypeId)
    (ho : o.op = .call { callee := .builtin .append, args := #[s, x], argTypes := #[t, t] })
    (base : Nat) (e : TypeId) (i : TypeInfo) (z : Value) (bytes : Nat) (ht : P.underlying t = some (.slice e)) (hi : P.info? e = some i) (hz : i.zero = some z)
    (hsize : i.size = 1) (hby : i.bytes = bytes) (hzs : z.cells.size = 1)
    (A : Option Addr) (n c : Nat) (xs : List Value) (hs : a.eval s = .slice A n c) (hown : Own w base e A n c xs)
    (B : Option Addr) (m d : Nat) (news : List Value) (hx : a.eval x = .slice B m d) (hm : news.length = m) (hnews : ∀ j u, news[j]? = some u → ∃ ad, B = some ad ∧ w.cell? (ad.add j) = some u) (h1 : ∀ u ∈ news, u.oneCell' = true)
    (h63 : n + m ≤ maxLen) (hbytes : (n + m) * bytes ≤ 140737488355328) (hbase : base ≤ w.heap.size)
    (h : ∀ A' c' w', Own w' base e A' (n + m) c' (xs ++ news) → w.grownBy w' (blk A) → (blk A' = blk A ∨ blk A' = some w.heap.size) → K (a.put o.dst (.slice A' (n + m) c')) w') : o.wp P a w K Q := by
  obtain ⟨A', c', w', hrun, h2, h3, h4⟩ := run_append_Own (P := P) w base t o.type e i z bytes ht hi hz hsize hby hzs A n c xs hown B m d news hm hnews h1 h63 hbytes hbase
  unfold Oper.wp execOp
  simp only [ho, resolve, invoke, builtin, Sem.run_bind, Sem.run_pure, Result.andThen_ok, List.map_toArray, List.map_cons, List.map_nil, hs, hx, hrun]
  exact h A' c' w' h2 h3 h4

theorem wpList_append_Own (w : World) {ops : Array Oper} {rest : List Oper} {o : Oper} {a : Act} {Q : Exit → Act → World → Prop} (hgd : o.guard = none) (s x : Operand) (t : TypeId)
    (ho : o.op = .call { callee := .builtin .append, args := #[s, x], argTypes := #[t, t] })
    (base : Nat) (e : TypeId) (i : TypeInfo) (z : Value) (bytes : Nat) (ht : P.underlying t = some (.slice e)) (hi : P.info? e = some i) (hz : i.zero = some z)
    (hsize : i.size = 1) (hby : i.bytes = bytes) (hzs : z.cells.size = 1)
    (A : Option Addr) (n c : Nat) (xs : List Value) (hs : a.eval s = .slice A n c) (hown : Own w base e A n c xs)
    (B : Option Addr) (m d : Nat) (news : List Value) (hx : a.eval x = .slice B m d) (hm : news.length = m) (hnews : ∀ j u, news[j]? = some u → ∃ ad, B = some ad ∧ w.cell? (ad.add j) = some u) (h1 : ∀ u ∈ news, u.oneCell' = true)
    (h63 : n + m ≤ maxLen) (hbytes : (n + m) * bytes ≤ 140737488355328) (hbase : base ≤ w.heap.size)
    (h : ∀ A' c' w', Own w' base e A' (n + m) c' (xs ++ news) → w.grownBy w' (blk A) → (blk A' = blk A ∨ blk A' = some w.heap.size) → wpList P ops Q rest (a.put o.dst (.slice A' (n + m) c')) w') : wpList P ops Q (o :: rest) a w :=
  wpList_plain hgd fun _ hK => wp_append_Own w s x t ho base e i z bytes ht hi hz hsize hby hzs A n c xs hs hown B m d news hx hm hnews h1 h63 hbytes hbase fun A' c' w' h2 h3 h4 => hK _ _ (h A' c' w' h2 h3 h4)

/-- bytes onto bytes -/
theorem wpList_append_OB (w : World) {ops : Array Oper} {rest : List Oper} {o : Oper} {a : Act} {Q : Exit → Act → World → Prop} (hgd : o.guard = none) (s x : Operand) (t : TypeId)
    (ho : o.op = .call { callee := .builtin .append, args := #[s, x], argTypes := #[t, t] })
    (base : Nat) (e : TypeId) (ht : P.underlying t = some (.slice e)) (he : (P.info? e).map (fun i => (i.zero, i.size, i.bytes)) = some (some (.int .u8 0), 1, 1))
    (A : Option Addr) (n c : Nat) (l : List UInt8) (hs : a.eval s = .slice A n c) (hown : OB w base e A n c l)
    (B : Option Addr) (m d : Nat) (k : List UInt8) (hx : a.eval x = .slice B m d) (hm : m = k.length) (hk : RB w B k)
    (hbytes : n + m ≤ 140737488355328) (hbase : base ≤ w.heap.size)
    (h : ∀ A' c' w', OB w' base e A' (n + m) c' (l ++ k) → w.grownBy w' (blk A) → (blk A' = blk A ∨ blk A' = some w.heap.size) → wpList P ops Q rest (a.put o.dst (.slice A' (n + m) c')) w') : wpList P ops Q (o :: rest) a w := by
  obtain ⟨i, hi, hz0, hz1, hz2⟩ := info_parts he
  refine wpList_append_Own w hgd s x t ho base e i _ 1 ht hi hz0 hz1 hz2 rfl A n c _ hs hown B m d (k.map bv) hx (by simp [hm]) (fun j u hu => ?_) (bytes_one k) (by unfold maxLen; omega) (by omega) hbase (fun A' c' w' h2 h3 h4 => h A' c' w' ?_ h3 h4)
  · rw [List.getElem?_map, Option.map_eq_some_iff] at hu
    obtain ⟨b, hb, rfl⟩ := hu
    exact hk j b hb
  · unfold OB
    rw [List.map_append]
    exact h2
end
/-- a slice of slices reads as rows of bytes -/
def RR (w : World) (A : Option Addr) (ls : List (List UInt8)) : Prop :=
  ∀ j l, ls[j]? = some l → ∃ ad B d, A = some ad ∧ w.cell? (ad.add j) = some (.slice B l.length d) ∧ l.length ≤ d ∧ d ≤ maxLen ∧ RB w B l
section
variable {w w' : World} {A : Option Addr} {ls : List (List UInt8)}
theorem RR.at_ (h : RR w A ls) {j : Nat} (hj : j < ls.length) : ∃ ad B d, A = some ad ∧ w.cell? (ad.add j) = some (.slice B (ls[j]).length d) ∧ (ls[j]).length ≤ d ∧ d ≤ maxLen ∧ RB w B ls[j] := h j _ (List.getElem?_eq_getElem hj)
theorem RR.new (h : RR w A ls) (hn : New w w') : RR w' A ls := fun j l hl => by
  obtain ⟨ad, B, d, rfl, hc, h1, h2, hb⟩ := h j l hl
  exact ⟨ad, B, d, rfl, (hn.cell (World.block_lt_of_cell? w _ hc)).trans hc, h1, h2, hb.new hn⟩
theorem RR.alloc (h : RR w A ls) (o : Obj) : RR (w.alloc o) A ls := h.new ((Below.refl _ _).alloc (Nat.le_refl _) o)
theorem RR.drew (h : RR w A ls) : RR w.drew A ls := h
theorem RR.drewN (h : RR w A ls) (k : Nat) : RR (w.drewN k) A ls := h
theorem RR.take (h : RR w A ls) (k : Nat) : RR w A (ls.take k) := fun j u hu => by
  rw [List.getElem?_take] at hu
  split at hu
  · exact h j u hu
  · cases hu
end
section
variable {w w' : World} {base : Nat} {e e' : TypeId} {A B : Option Addr} {n c m d : Nat} {xs ys : List Value}
theorem Own.cells_ (h : Own w base e A n c xs) {k : Nat} (hk : blk A = some k) : ∃ cur, w.heap[k]? = some (.cells cur e (0, 0)) := by
  rcases h.2 with ⟨h1, _⟩ | ⟨g, cap, cur, h1, _, hh, _⟩
  · injection h1 with h1
    subst h1
    cases hk
  · injection h1 with h1
    subst h1
    cases hk
    exact ⟨cur, hh⟩
/-- rows whose elements' types differ lie apart -/
theorem Own.apart {base' : Nat} (h : Own w base e A n c xs) (h' : Own w base' e' B m d ys) (hne : e ≠ e') : ∀ k, blk A = some k → ¬ blk B = some k := by
  intro k hk hk'
  obtain ⟨c1, h1⟩ := h.cells_ hk
  obtain ⟨c2, h2⟩ := h'.cells_ hk'
  rw [h1] at h2
  injection h2 with h2
  injection h2 with _ h2
  exact hne h2
end

/-- a slice of slices, all of it the call's own -/
def OR (w : World) (base : Nat) (eb er : TypeId) (A : Option Addr) (n c : Nat) (ls : List (List UInt8)) : Prop :=
  ∃ xs : List Value, Own w base er A n c xs ∧ ls.length = n ∧ ∀ (j : Nat) (l : List UInt8), ls[j]? = some l → ∃ B d, xs[j]? = some (Value.slice B l.length d) ∧ OB w base eb B l.length d l
section
variable {w w' : World} {base : Nat} {eb er : TypeId} {A : Option Addr} {n c : Nat} {ls : List (List UInt8)}
theorem OR.nil (w : World) (base : Nat) (eb er : TypeId) : OR w base eb er none 0 0 [] := ⟨[], Own.nil _ _ _, rfl, fun j l h => by simp at h⟩
theorem OR.len (h : OR w base eb er A n c ls) : ls.length = n := by obtain ⟨_, _, hl, _⟩ := h; exact hl
theorem OR.le (h : OR w base eb er A n c ls) : n ≤ c ∧ c ≤ maxLen := by obtain ⟨_, ho, _, _⟩ := h; exact ho.le
theorem OR.rr (h : OR w base eb er A n c ls) : RR w A ls := fun j l hl => by
  obtain ⟨xs, ho, hn, hx⟩ := h
  obtain ⟨B, d, hj, hb⟩ := hx j l hl
  have hjn : j < n := by rw [← hn]; exact (List.getElem?_eq_some_iff.1 hl).1
  rcases ho.form with ⟨_, h0, _⟩ | ⟨g, rfl, _, _⟩
  · omega
  · refine ⟨_, B, d, rfl, ?_, hb.le.1, hb.le.2, hb.rb⟩
    rw [show (⟨g, 0, none⟩ : Addr).add j = ⟨g, j, none⟩ from by unfold Addr.add; split <;> simp_all, ho.at_ rfl hjn, hj]
theorem OR.new (h : OR w base eb er A n c ls) (hn : New w w') : OR w' base eb er A n c ls := by
  obtain ⟨xs, ho, hl, hx⟩ := h
  exact ⟨xs, ho.new hn, hl, fun j l hj => by
    obtain ⟨B, d, h1, h2⟩ := hx j l hj
    exact ⟨B, d, h1, h2.new hn⟩⟩
theorem OR.keep {S : Nat → Prop} (h : OR w base eb er A n c ls) (hn : Keep S w w') (hS : ∀ i, base ≤ i → ¬ S i) : OR w' base eb er A n c ls := by
  obtain ⟨xs, ho, hl, hx⟩ := h
  exact ⟨xs, ho.keep hn (fun k hk => hS k (ho.lt hk).1), hl, fun j l hj => by
    obtain ⟨B, d, h1, h2⟩ := hx j l hj
    exact ⟨B, d, h1, h2.keep hn (fun k hk => hS k (h2.lt hk).1)⟩⟩
theorem OR.alloc (h : OR w base eb er A n c ls) (o : Obj) : OR (w.alloc o) base eb er A n c ls := h.new ((Below.refl _ _).alloc (Nat.le_refl _) o)
theorem OR.drewN (h : OR w base eb er A n c ls) (k : Nat) : OR (w.drewN k) base eb er A n c ls := h
/-- a row more: 'append(rows, row)' -/
theorem OR.snoc {xs : List Value} {A' : Option Addr} {c' : Nat} {B : Option Addr} {d : Nat} {l : List UInt8} (hne : eb ≠ er) (hx : ∀ (j : Nat) (l : List UInt8), ls[j]? = some l → ∃ B d, xs[j]? = some (Value.slice B l.length d) ∧ OB w base eb B l.length d l) (ho : Own w base er A n c xs)
    (hl : ls.length = n) (hb : OB w base eb B l.length d l) (ho' : Own w' base er A' (n + 1) c' (xs ++ [.slice B l.length d])) (hg : w.grownBy w' (blk A)) : OR w' base eb er A' (n + 1) c' (ls ++ [l]) := by
  have hk := Keep.of_grown hg
  have hxl := ho.len
  refine ⟨_, ho', by simp [hl], fun j k hj => ?_⟩
  rw [List.getElem?_append] at hj
  split at hj
  · rename_i hlt
    obtain ⟨B', d', h1, h2⟩ := hx j k hj
    exact ⟨B', d', by rw [List.getElem?_append_left (by omega)]; exact h1, h2.keep hk (Own.apart h2 ho hne)⟩
  · rename_i hge
    have hj0 : j = ls.length := by
      have := (List.getElem?_eq_some_iff.1 hj).1
      simp only [List.length_cons, List.length_nil] at this
      omega
    subst hj0
    simp only [Nat.sub_self, List.getElem?_cons_zero, Option.some.injEq] at hj
    subst hj
    exact ⟨B, d, by rw [List.getElem?_append_right (by omega), hxl, hl]; simp, hb.keep hk (Own.apart hb ho hne)⟩
end
section
variable {P : Program}
theorem below_blk {w w' : World} {base : Nat} {e : TypeId} {A : Option Addr} {n c : Nat} {xs : List Value} (h : Own w base e A n c xs) (hg : w.grownBy w' (blk A)) (hb : base ≤ w.heap.size) : Below base w w' :=
  (Below.refl base w).grown hg hb fun _ hk => (h.lt hk).1
theorem addr_at (g j : Nat) : (⟨g, 0, none⟩ : Addr).add j = ⟨g, j, none⟩ := by unfold Addr.add; split <;> simp_all
/-- 'rows = append(rows, row)', row the call's own -/
theorem wpList_append_OR (W : World) {ops : Array Oper} {rest : List Oper} {o : Oper} {a : Act} {Q : Exit → Act → World → Prop} (hgd : o.guard = none) (s x : Operand) (t : TypeId)
    (ho : o.op = .call { callee := .builtin .append, args := #[s, x], argTypes := #[t, t] })
    (base : Nat) (eb er : TypeId) (hne : eb ≠ er) (ht : P.underlying t = some (.slice er)) (he : (P.info? er).map (fun i => (i.zero, i.size, i.bytes)) = some (some (.slice none 0 0), 1, 24))
    (A : Option Addr) (n c : Nat) (ls : List (List UInt8)) (hs : a.eval s = .slice A n c) (hor : OR W base eb er A n c ls)
    (B : Option Addr) (m d : Nat) (l : List UInt8) (hx : a.eval x = .slice (some ⟨W.heap.size, 0, none⟩) 1 1) (hob : OB W base eb B m d l) (hn : n ≤ 1099511627776) (hbase : base ≤ W.heap.size)
    (h : ∀ A' c' w', OR w' base eb er A' (n + 1) c' (ls ++ [l]) → Below base W w' → wpList P ops Q rest (a.put o.dst (.slice A' (n + 1) c')) w') : wpList P ops Q (o :: rest) a (W.alloc (.cells #[.slice B m d] er)) := by
  obtain ⟨i, hi, hz0, hz1, hz2⟩ := info_parts he
  obtain ⟨xs, hown, hl, hxs⟩ := hor
  have hm : m = l.length := hob.len.symm
  subst hm
  refine wpList_append_Own _ hgd s x t ho base er i _ 24 ht hi hz0 hz1 hz2 rfl A n c xs hs (hown.alloc _) (some ⟨W.heap.size, 0, none⟩) 1 1 [.slice B l.length d] hx rfl (fun j u hu => ?_) (fun u hu => ?_) (by unfold maxLen; omega) (by omega) (by simp; omega) (fun A' c' w' h2 h3 _ => h A' c' w' ?_ ?_)
  · have hj : j = 0 := by
      have := (List.getElem?_eq_some_iff.1 hu).1
      simp only [List.length_cons, List.length_nil] at this
      omega
    subst hj
    simp only [List.getElem?_cons_zero, Option.some.injEq] at hu
    subst hu
    exact ⟨_, rfl, by rw [addr_at, cell_of_row _ _ 0 _ _ _ (heap_alloc_new W _)]; rfl⟩
  · simp only [List.mem_singleton] at hu
    subst hu
    rfl
  · exact OR.snoc hne (fun j l' hj => by
      obtain ⟨B', d', h1, h2⟩ := hxs j l' hj
      exact ⟨B', d', h1, h2.alloc _⟩) (hown.alloc _) hl (hob.alloc _) h2 h3
  · exact (Below.alloc (Below.refl _ _) hbase _).trans (below_blk (hown.alloc _) h3 (by simp; omega))
end
/-- a new row of bytes reads as them, whatever its mark -/
theorem RB.lit (w : World) (l : List UInt8) (e : TypeId) (fr : Nat × Nat) {g : Nat} (hg : g = w.heap.size) : RB (w.alloc (.cells (l.map bv).toArray e fr)) (some ⟨g, 0, none⟩) l := fun j u hu =>
  ⟨_, rfl, by subst hg; rw [addr_at, World.cell?_alloc_mark]; simp [hu]⟩
/-- a new row of one slice of bytes -/
theorem RR.one {w : World} {B : Option Addr} {n d : Nat} {l : List UInt8} (e : TypeId) (hn : n = l.length) (hb : RB w B l) (hd : n ≤ d) (hdm : d ≤ maxLen) {g : Nat} (hg : g = w.heap.size) : RR (w.alloc (.cells #[.slice B n d] e)) (some ⟨g, 0, none⟩) [l] := fun j u hu => by
  subst hg
  have hj : j = 0 := by
    have := (List.getElem?_eq_some_iff.1 hu).1
    simp only [List.length_cons, List.length_nil] at this
    omega
  subst hj
  simp only [List.getElem?_cons_zero, Option.some.injEq] at hu
  subst hu
  subst hn
  exact ⟨_, B, d, rfl, by rw [addr_at, cell_of_row _ _ 0 _ _ _ (heap_alloc_new w _)]; rfl, hd, hdm, hb.alloc _⟩
/-- a new row of two -/
theorem RR.two {w : World} {B C : Option Addr} {n d m c : Nat} {l k : List UInt8} (e : TypeId) (hn : n = l.length) (hm : m = k.length) (hb : RB w B l) (hc : RB w C k) (hd : n ≤ d) (hdm : d ≤ maxLen) (hcl : m ≤ c) (hcm : c ≤ maxLen)
    {g : Nat} (hg : g = w.heap.size) : RR (w.alloc (.cells #[.slice B n d, .slice C m c] e)) (some ⟨g, 0, none⟩) [l, k] := fun j u hu => by
  subst hg
  have hj : j = 0 ∨ j = 1 := by
    have := (List.getElem?_eq_some_iff.1 hu).1
    simp only [List.length_cons, List.length_nil] at this
    omega
  subst hn; subst hm
  rcases hj with rfl | rfl
  · simp only [List.getElem?_cons_zero, Option.some.injEq] at hu
    subst hu
    exact ⟨_, B, d, rfl, by rw [addr_at, cell_of_row _ _ 0 _ _ _ (heap_alloc_new w _)]; rfl, hd, hdm, hb.alloc _⟩
  · simp only [List.getElem?_cons_succ, List.getElem?_cons_zero, Option.some.injEq] at hu
    subst hu
    exact ⟨_, C, c, rfl, by rw [addr_at, cell_of_row _ _ 1 _ _ _ (heap_alloc_new w _)]; rfl, hcl, hcm, hc.alloc _⟩
/-- block g holds just these bytes -/
def FB (w : World) (g : Nat) (e : TypeId) (l : List UInt8) : Prop := w.heap[g]? = some (.cells (l.map bv).toArray e (0, 0))
section
variable {w w' : World} {g : Nat} {e : TypeId} {l : List UInt8} {base n c : Nat}
theorem FB.lt (h : FB w g e l) : g < w.heap.size := (Array.getElem?_eq_some_iff.1 h).1
theorem FB.cell (h : FB w g e l) (j : Nat) : w.cell? ⟨g, j, none⟩ = (l[j]?).map bv := by rw [cell_of_row w g j _ e (0, 0) h]; simp
theorem FB.frozen (h : FB w g e l) (j : Nat) : w.frozen? ⟨g, j, none⟩ = false := frozen_of_row w g j _ e h
theorem FB.rb (h : FB w g e l) : RB w (some ⟨g, 0, none⟩) l := fun j u hu => ⟨_, rfl, by rw [addr_at, h.cell, hu]; rfl⟩
theorem FB.rb_at (h : FB w g e l) (o : Nat) : RB w (some ⟨g, o, none⟩) (l.drop o) := fun j u hu => by
  rw [List.getElem?_drop] at hu
  exact ⟨_, rfl, by rw [show (⟨g, o, none⟩ : Addr).add j = ⟨g, o + j, none⟩ from by unfold Addr.add; split <;> simp_all, h.cell, hu]; rfl⟩
theorem FB.new (h : FB w g e l) (hn : New w w') : FB w' g e l := (hn.block g h.lt).trans h
theorem FB.keep {S : Nat → Prop} (h : FB w g e l) (hn : Keep S w w') (hs : ¬ S g) : FB w' g e l := (hn.block g h.lt hs).trans h
theorem FB.set_ (h : FB w g e l) (j : Nat) (b : UInt8) : FB (w.setCell ⟨g, j, none⟩ (bv b)) g e (l.set j b) := by
  unfold FB
  rw [heap_setCell_same w g j _ e _ h]
  simp [List.map_set]
theorem FB.of_own (h : OB w base e (some ⟨g, 0, none⟩) n n l) : FB w g e l := by
  rcases h.2 with ⟨h1, _⟩ | ⟨g', cap, cur, h1, _, hh, _, _, hs, ht⟩
  · cases h1
  · injection h1 with h1 _ h2
    injection h1 with h1
    injection h1 with h1
    subst h1; subst h2
    rw [List.take_of_length_le (by rw [Array.length_toList, hs]; exact Nat.le_refl _)] at ht
    unfold FB
    rw [hh, ← ht]
theorem FB.own (h : FB w g e l) (hb : base ≤ g) (hn : n = l.length) (hm : n ≤ maxLen) : OB w base e (some ⟨g, 0, none⟩) n n l := by
  subst hn
  exact ⟨by simp, .inr ⟨g, l.length, _, rfl, hb, h, Nat.le_refl _, hm, by simp, by simp [List.take_of_length_le]⟩⟩
end
/-- a row that was there lies apart from one that is nil or new -/
theorem apart_new {w : World} {base : Nat} {e : TypeId} {A B : Option Addr} {n c : Nat} {l : List UInt8} (h : OB w base e A n c l) (hB : blk B = blk none ∨ blk B = some w.heap.size) : ∀ k, blk A = some k → ¬ blk B = some k := by
  intro k hk hk'
  have := (h.lt hk).2
  rcases hB with hB | hB <;> rw [hB] at hk'
  · cases hk'
  · injection hk' with hk'
    omega
section
variable {P : Program}
/-- 'xs = append(xs, v)', one cell an element, xs the call's own -/
theorem wpList_append_one (W : World) {ops : Array Oper} {rest : List Oper} {o : Oper} {a : Act} {Q : Exit → Act → World → Prop} (hgd : o.guard = none) (s x : Operand) (t : TypeId)
    (ho : o.op = .call { callee := .builtin .append, args := #[s, x], argTypes := #[t, t] })
    (base : Nat) (e : TypeId) (z : Value) (bytes : Nat) (ht : P.underlying t = some (.slice e)) (he : (P.info? e).map (fun i => (i.zero, i.size, i.bytes)) = some (some z, 1, bytes)) (hzs : z.cells.size = 1)
    (A : Option Addr) (n c : Nat) (xs : List Value) (hs : a.eval s = .slice A n c) (hown : Own W base e A n c xs)
    (v : Value) (hv : v.oneCell' = true) {g : Nat} (hg : g = W.heap.size) (hx : a.eval x = .slice (some ⟨g, 0, none⟩) 1 1) (h63 : n + 1 ≤ maxLen) (hn : (n + 1) * bytes ≤ 140737488355328) (hbase : base ≤ W.heap.size)
    (h : ∀ A' c' w', Own w' base e A' (n + 1) c' (xs ++ [v]) → (W.alloc (.cells #[v] e)).grownBy w' (blk A) → Below base W w' → wpList P ops Q rest (a.put o.dst (.slice A' (n + 1) c')) w') : wpList P ops Q (o :: rest) a (W.alloc (.cells #[v] e)) := by
  obtain ⟨i, hi, hz0, hz1, hz2⟩ := info_parts he
  subst hg
  refine wpList_append_Own _ hgd s x t ho base e i z bytes ht hi hz0 hz1 hz2 hzs A n c xs hs (hown.alloc _) (some ⟨W.heap.size, 0, none⟩) 1 1 [v] hx rfl (fun j u hu => ?_) (fun u hu => ?_) h63 hn (by simp; omega) (fun A' c' w' h2 h3 _ => h A' c' w' h2 h3 ?_)
  · have hj : j = 0 := by
      have := (List.getElem?_eq_some_iff.1 hu).1
      simp only [List.length_cons, List.length_nil] at this
      omega
    subst hj
    simp only [List.getElem?_cons_zero, Option.some.injEq] at hu
    subst hu
    exact ⟨_, rfl, by rw [addr_at, cell_of_row _ _ 0 _ _ _ (heap_alloc_new W _)]; rfl⟩
  · simp only [List.mem_singleton] at hu
    subst hu
    exact hv
  · exact (Below.alloc (Below.refl _ _) hbase _).trans (below_blk (hown.alloc _) h3 (by simp; omega))
end
end Go.Proofs.Ytagocmbcbbhehaa
