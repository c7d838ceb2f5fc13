/- wire.many: what holds ahead of each round, and behind the last one. -/
import Derived.Test.YtagocmbcbbhehaaRwD
import Derived.Maps.AppendAt
namespace Go.Proofs.Ytagocmbcbbhehaa
set_option linter.unusedVariables false
open Go.RowKit
theorem own_keep {w w' : World} {base z n : Nat} {e : TypeId} {v : Value} {xs : List Value} {S : Nat → Prop} (h : w.ownsRow base e z v n xs) (hk : Keep S w w') (hs : ∀ k, v.ownBlock = some k → ¬ S k) : w'.ownsRow base e z v n xs := by
  refine ⟨h.1, ?_⟩
  rcases h.2 with hn | ⟨g, cap, cur, rfl, hb, hgg, rest⟩
  · exact .inl hn
  · exact .inr ⟨g, cap, cur, rfl, hb, (hk.block g (Array.getElem?_eq_some_iff.1 hgg).1 (hs g rfl)).trans hgg, rest⟩
/-- an element that was read: it stays, whatever is done to the list, which lies in B -/
def Kp (B : Option Nat) (n0 : Nat) (w : World) (E : Nat → World → List Value → Ch → Prop) (cl : List Value) (cs : Ch) : Prop :=
  ∃ a wi, n0 ≤ a ∧ Fut a wi E cl cs ∧ Keep (fun i => i < a) wi w ∧ ∀ k, B = some k → k < a ∨ wi.heap.size ≤ k
theorem Kp.step {B B' : Option Nat} {n0 : Nat} {w w' : World} {E : Nat → World → List Value → Ch → Prop} {cl : List Value} {cs : Ch} {S : Nat → Prop} (h : Kp B n0 w E cl cs) (hk : Keep S w w') (hS : ∀ i, S i → i < n0 ∨ B = some i)
    (hB : B' = B ∨ ∃ b, B' = some b ∧ w.heap.size ≤ b) : Kp B' n0 w' E cl cs := by
  obtain ⟨a, wi, h1, h2, h3, h4⟩ := h
  refine ⟨a, wi, h1, h2, Keep.trans_new h3 hk (fun i hi hl => ?_), ?_⟩
  · rcases hS i hi with h5 | h5
    · exact Nat.lt_of_lt_of_le h5 h1
    · rcases h4 i h5 with h6 | h6
      · exact h6
      · omega
  · intro k hk'
    rcases hB with rfl | ⟨b, rfl, hb⟩
    · exact h4 k hk'
    · injection hk' with hk'
      subst hk'
      exact .inr (Nat.le_trans h3.size hb)
/-- ahead of a round: the elements es are read, they make the list v -/
structure MI (E : Nat → World → List Value → Ch → Prop) (z : Nat) (ty : TypeId) (w0 w : World) (lo g R : Nat) (A : Option Addr) (c : Nat) (l : List UInt8) (e : Int) (lg : Bool) (es : List (List Value × Ch)) (l0 : List UInt8) (e0 : Int) (lg0 : Bool) (v : Value) : Prop where
  rw : RW w lo g R A c l e lg
  keep : Keep (S2 g R) w0 w
  low : R < w0.heap.size
  own : w.ownsRow w0.heap.size ty z v es.length (es.map Prod.fst).flatten
  all : ∀ el ∈ es, el.1.length = z ∧ none ∉ el.2 ∧ Kp v.ownBlock w0.heap.size w E el.1 el.2
  jump : e = 0 → lg = false → e0 = 0 ∧ lg0 = false ∧ l0 = flat (es.map Prod.snd).flatten ++ l
section
variable {E : Nat → World → List Value → Ch → Prop} {z : Nat} {ty : TypeId} {w0 w w3 w4 w5 : World} {lo g R c : Nat} {A : Option Addr} {l l0 : List UInt8} {e e0 : Int} {lg lg0 : Bool} {es : List (List Value × Ch)} {v v' : Value} {cl : List Value} {cs : Ch}
theorem MI.start (h : RW w lo g R A c l e lg) : MI E z ty w w lo g R A c l e lg [] l e lg (.slice none 0 0) :=
  ⟨h, Keep.refl _ _, h.lt, World.ownsRow_nil _ _ _ _, fun el hel => by simp at hel, fun h1 h2 => ⟨h1, h2, by simp [flat]⟩⟩
theorem MI.own4 (h : MI E z ty w0 w lo g R A c l e lg es l0 e0 lg0 v) (hk : Keep (S2 g R) w w3) (hn : New w3 w4) : w4.ownsRow w0.heap.size ty z v es.length (es.map Prod.fst).flatten := by
  refine own_keep h.own (Keep.trans_new hk (Keep.of_new (S := S2 g R) hn) (fun i hi _ => hi)) (fun k hk' => ?_)
  have h1 := (World.ownsRow.lt h.own k hk').1
  have h2 := h.low
  have h3 := h.rw.ord
  rintro (h4 | h4) <;> omega
theorem MI.step (h : MI E z ty w0 w lo g R A c l e lg es l0 e0 lg0 v) {A' : Option Addr} {c' : Nat} {l' : List UInt8} {e' : Int} {lg' : Bool} (hr : RW w3 lo g R A' c' l' e' lg') (hk : Keep (S2 g R) w w3) (hf : Fut w.heap.size w3 E cl cs) (hnn : none ∉ cs)
    (hj : e' = 0 → lg' = false → e = 0 ∧ lg = false ∧ l = flat cs ++ l') (hz : cl.length = z) (hn : New w3 w4)
    (ho : w5.ownsRow w0.heap.size ty z v' (es.length + 1) ((es.map Prod.fst).flatten ++ cl)) (hg : w4.grownBy w5 v.ownBlock) (hb : v'.ownBlock = v.ownBlock ∨ v'.ownBlock = some w4.heap.size) :
    MI E z ty w0 w5 lo g R A' c' l' e' lg' (es ++ [(cl, cs)]) l0 e0 lg0 v' := by
  have hlow := h.low
  have hord := h.rw.ord
  have hs0 := h.keep.size
  have hg' : Keep (fun i => v.ownBlock = some i) w4 w5 := Keep.of_grown hg
  have hv : ∀ k, v.ownBlock = some k → w0.heap.size ≤ k ∧ k < w.heap.size := World.ownsRow.lt h.own
  have h35 : Keep (fun i => v.ownBlock = some i) w3 w5 := Keep.trans_new (Keep.of_new hn) hg' (fun i hi _ => hi)
  have hw5 : Keep (fun i => i = g ∨ i = R ∨ v.ownBlock = some i) w w5 := Keep.trans_new (hk.mono (fun i (hi : i = g ∨ i = R) => hi.elim .inl (fun h => .inr (.inl h)))) h35 (fun i hi _ => .inr (.inr hi))
  have hr5 : RW w5 lo g R A' c' l' e' lg' := by
    have hneg : ∀ i, i < w0.heap.size → ¬ v.ownBlock = some i := fun i hi hv' => by have := (hv i hv').1; omega
    have hg3 := hr.rk.lt
    refine ⟨⟨(h35.block g hg3 (hneg g (by omega))).trans hr.rk.cells, hr.rk.rb.kept h35 (fun ad ea => hneg _ (by have := (hr.rk.low ad ea).1; omega)), hr.rk.low, hr.rk.le, hr.rk.cap⟩, (h35.block R hr.lt (hneg R (by omega))).trans hr.cell, hr.ord⟩
  have hB : v'.ownBlock = v.ownBlock ∨ ∃ b, v'.ownBlock = some b ∧ w.heap.size ≤ b := hb.imp id fun h' => ⟨_, h', Nat.le_trans hk.size hn.size⟩
  refine ⟨hr5, Keep.trans_new h.keep hw5 (fun i hi hl => ?_), hlow, ?_, fun el hel => ?_, fun h1 h2 => ?_⟩
  · rcases hi with hi | hi | hi
    · exact .inl hi
    · exact .inr hi
    · have := (hv i hi).1; omega
  · simpa using ho
  · rcases List.mem_append.1 hel with hel | hel
    · obtain ⟨h1, h2, h3⟩ := h.all el hel
      refine ⟨h1, h2, h3.step hw5 (fun i hi => ?_) hB⟩
      rcases hi with hi | hi | hi
      · left; omega
      · left; omega
      · exact .inr hi
    · rw [List.mem_singleton] at hel
      subst hel
      refine ⟨hz, hnn, w.heap.size, w3, hs0, hf, h35.mono (fun i hi => (hv i hi).2), fun k hk' => ?_⟩
      rcases hb with hb | hb
      · rw [hb] at hk'; exact .inl (hv k hk').2
      · rw [hb] at hk'; injection hk' with hk'; subst hk'; exact .inr hn.size
  · obtain ⟨h3, h4, h5⟩ := hj h1 h2
    obtain ⟨h6, h7, h8⟩ := h.jump h3 h4
    refine ⟨h6, h7, ?_⟩
    rw [h8, h5]
    simp [flat_append]
theorem flat_at {z : Nat} : ∀ (es : List (List Value × Ch)) (_ : ∀ el ∈ es, el.1.length = z) (j : Nat) (el : List Value × Ch) (_ : es[j]? = some el) (i : Nat) (v : Value) (_ : el.1[i]? = some v), ((es.map Prod.fst).flatten)[j * z + i]? = some v
  | [], _, j, el, hj, _, _, _ => by simp at hj
  | x :: t, hz, 0, el, hj, i, v, hv => by
    simp only [List.getElem?_cons_zero, Option.some.injEq] at hj
    subst hj
    rw [List.map_cons, List.flatten_cons, Nat.zero_mul, Nat.zero_add, List.getElem?_append_left (List.getElem?_eq_some_iff.1 hv).1]
    exact hv
  | x :: t, hz, j + 1, el, hj, i, v, hv => by
    have hx := hz x (List.mem_cons_self ..)
    rw [List.map_cons, List.flatten_cons, List.getElem?_append_right (by rw [hx, Nat.add_mul]; omega), hx, show (j + 1) * z + i - z = j * z + i by rw [Nat.add_mul]; omega]
    exact flat_at t (fun el hel => hz el (List.mem_cons_of_mem _ hel)) j el hj i v hv
theorem MI.list (h : MI E z ty w0 w lo g R A c l e lg es l0 e0 lg0 v) {most : Nat} (hm : es.length ≤ most) : Fut w0.heap.size w (FList E z most) [v] (some (uv es.length) :: (es.map Prod.snd).flatten) := by
  intro u hu
  have hE : ∀ el ∈ es, E u.heap.size u el.1 el.2 := fun el hel => by
    obtain ⟨_, _, a, wi, h1, h2, h3, _⟩ := h.all el hel
    exact h2 u (h3.trans (hu.mono fun i hi => Nat.lt_of_lt_of_le hi h1))
  rcases h.own.2 with ⟨h1, h2⟩ | ⟨b, cap, cur, h1, h2, h3, h4, h5, h6, h7⟩
  · have : es = [] := List.eq_nil_of_length_eq_zero h2
    subst this
    rw [h1]
    exact ⟨none, 0, 0, rfl, Nat.le_refl _, Nat.zero_le _, .inr ⟨Nat.zero_le _, [], rfl, fun j e he => by simp at he, rfl⟩⟩
  · refine ⟨_, _, _, by rw [h1], h4, h5, .inr ⟨hm, es, rfl, fun j el hj => ?_, rfl⟩⟩
    have hel : el ∈ es := List.mem_of_getElem? hj
    have hlt := (Array.getElem?_eq_some_iff.1 h3).1
    refine ⟨_, rfl, Nat.lt_of_lt_of_le hlt hu.size, (h.all el hel).1, fun i v' hv' => ?_, hE el hel⟩
    have hu3 : u.heap[b]? = some (.cells cur ty (0, 0)) := (hu.block b hlt (by show ¬ b < w0.heap.size; omega)).trans h3
    have hat := flat_at es (fun el hel => (h.all el hel).1) j el hj i v' hv'
    rw [← h7, List.getElem?_take] at hat
    split at hat
    · rw [add_add_, addr_at, cell_of_row _ _ _ _ _ _ hu3, ← Array.getElem?_toList]
      exact hat
    · cases hat
theorem MI.nn (h : MI E z ty w0 w lo g R A c l e lg es l0 e0 lg0 v) : none ∉ (some (uv es.length) :: (es.map Prod.snd).flatten : Ch) := by
  intro hm
  rcases List.mem_cons.1 hm with hm | hm
  · cases hm
  · obtain ⟨cs, h1, h2⟩ := List.mem_flatten.1 hm
    obtain ⟨el, h3, rfl⟩ := List.mem_map.1 h1
    exact (h.all el h3).2.1 h2
/-- behind the last round: as the whole call tells it -/
theorem MI.core (h : MI E z ty w0 w lo g R A c l e lg es l0 e0 lg0 v) {most : Nat} (hm : es.length ≤ most) {w00 : World} {l00 : List UInt8} {e00 : Int} (hk : Keep (S2 g R) w00 w0) (hj : e0 = 0 → e00 = 0 ∧ l00 = uv es.length ++ l0) : Core (FList E z most) [v] w00 lo g R l00 e00 lg0 w :=
  ⟨_, A, c, l, e, lg, h.rw, Keep.trans_new hk h.keep (fun i hi _ => hi), (h.list hm).le hk.size, h.nn, fun h1 h2 => by
    obtain ⟨h3, h4, h5⟩ := h.jump h1 h2
    obtain ⟨h6, h7⟩ := hj h3
    refine ⟨h6, h4, ?_⟩
    rw [h7, h5]
    simp [flat]⟩
end
section
variable {P : Program} {E : Nat → World → List Value → Ch → Prop} {z : Nat} {ty : TypeId} {w0 w w3 : World} {lo g R c : Nat} {A : Option Addr} {l l0 : List UInt8} {e e0 : Int} {lg lg0 : Bool} {es : List (List Value × Ch)} {v : Value} {cl : List Value} {cs : Ch}
/-- the append of an element that was read -/
theorem wpList_append_el {ops : Array Oper} {rest : List Oper} {o : Oper} {a : Act} {Q : Exit → Act → World → Prop} (h : MI E z ty w0 w lo g R A c l e lg es l0 e0 lg0 v) {A' : Option Addr} {c' : Nat} {l' : List UInt8} {e' : Int} {lg' : Bool} (hr : RW w3 lo g R A' c' l' e' lg') (hk : Keep (S2 g R) w w3) (hf : Fut w.heap.size w3 E cl cs) (hnn : none ∉ cs)
    (hj : e' = 0 → lg' = false → e = 0 ∧ lg = false ∧ l = flat cs ++ l') (hz : cl.length = z) (hone : ∀ u ∈ cl, u.oneCell' = true) (hgd : o.guard = none) (s x : Operand) (t : TypeId)
    (ho : o.op = .call { callee := .builtin .append, args := #[s, x], argTypes := #[t, t] }) (ht : P.underlying t = some (.slice ty)) (zv : Value) (bytes : Nat) (hinfo : (P.info? ty).map (fun i => (i.zero, i.size, i.bytes)) = some (some zv, z, bytes)) (hzs : zv.cells.size = z) (hz0 : 0 < z) (hby : bytes ≤ 4096)
    (hs : a.eval s = v) (hx : a.eval x = .slice (some ⟨w3.heap.size, 0, none⟩) 1 1) (hlen : es.length < 4096)
    (hnext : ∀ B d w5, MI E z ty w0 w5 lo g R A' c' l' e' lg' (es ++ [(cl, cs)]) l0 e0 lg0 (.slice B (es.length + 1) d) → wpList P ops Q rest (a.put o.dst (.slice B (es.length + 1) d)) w5) :
    wpList P ops Q (o :: rest) a (w3.alloc (.cells cl.toArray ty)) := by
  obtain ⟨i, hi, hz1, hz2, hz3⟩ := info_parts hinfo
  have hn : New w3 (w3.alloc (.cells cl.toArray ty)) := (Below.refl _ _).alloc (Nat.le_refl _) _
  have hmul : (es.length + 1) * bytes ≤ 4097 * 4096 := Nat.mul_le_mul (by omega) hby
  refine wpList_append_own_at (P := P) _ hgd s x t ho w0.heap.size ty i zv z bytes ht hi hz1 hz2 hz3 hzs hz0 v es.length _ hs (h.own4 hk hn) ⟨w3.heap.size, 0, none⟩ 1 1 cl hx (by rw [Nat.one_mul]; exact hz) (fun j u hu => ?_) hone (by unfold maxLen; omega) (by omega) (Nat.le_trans h.keep.size (Nat.le_trans hk.size hn.size)) fun v' w5 h1 h2 _ h4 => ?_
  · rw [addr_at, cell_of_row _ _ j _ _ _ (heap_alloc_new w3 _), List.getElem?_toArray]
    exact hu
  · have h5 := h.step hr hk hf hnn hj hz hn h1 h2 h4
    rcases h1.2 with ⟨_, h6⟩ | ⟨g', cap, _, h6, _⟩
    · omega
    · subst h6
      exact hnext _ _ w5 h5
end
end Go.Proofs.Ytagocmbcbbhehaa
