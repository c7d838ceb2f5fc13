/- Slices of whole numbers of the call's own; Clone, TwinInts, Spoil, Ints: what they do. -/
import Derived.Test.YtblananbhibpmaaChecked
import Derived.Test.YtblananbhibpmaaApp
import Derived.Test.YtblananbhibpmaaBits
import Derived.Test.YtblananbhibpmaaOpenI
import Derived.Outline
import Derived.Deep.LoopGhost
namespace Go.Proofs.Ytblananbhibpmaa
open Go.RowKit
theorem u_ints : Try.prog.underlying 22 = some (.slice 3) := by kernel_rfl
theorem u_int : Try.prog.underlying 3 = some (.int .i64) := by kernel_rfl
theorem i_int : (Try.prog.info? 3).map (fun i => (i.zero, i.size, i.bytes)) = some (some (.int .i64 0), 1, 8) := by kernel_rfl
/-- a whole number as a value -/
abbrev iv (z : Int) : Value := .int .i64 z
/-- a slice of whole numbers of the call's own -/
abbrev OIs (w : World) (base : Nat) (A : Option Addr) (n c : Nat) (l : List Int) : Prop := Own w base 3 A n c (l.map iv)
theorem ints_one (l : List Int) : ∀ u ∈ l.map iv, u.oneCell' = true := by
  intro u hu
  obtain ⟨b, _, rfl⟩ := List.mem_map.1 hu
  rfl
section
variable {w w' : World} {base n c : Nat} {A : Option Addr} {l : List Int}
theorem OIs.len (h : OIs w base A n c l) : l.length = n := by have := Own.len h; simpa using this
theorem OIs.rb (h : OIs w base A n c l) : RI w A l := by
  intro j u hu
  rcases h.2 with ⟨h1, h2⟩ | ⟨g, cap, cur, h1, h2⟩
  · have := h.1
    rw [h2, List.length_map] at this
    have : l = [] := List.eq_nil_of_length_eq_zero (by omega)
    subst this
    simp at hu
  · injection h1 with h1
    subst h1
    exact ⟨_, rfl, h.cells (g := g) rfl j _ (by rw [List.getElem?_map, hu]; rfl)⟩
theorem OIs.nil (w : World) (base : Nat) : OIs w base none 0 0 [] := World.ownsRow_nil w base _ 1
theorem RI.lit (w : World) (l : List Int) (e : TypeId) (fr : Nat × Nat) {g : Nat} (hg : g = w.heap.size) : RI (w.alloc (.cells (l.map iv).toArray e fr)) (some ⟨g, 0, none⟩) l := fun j u hu =>
  ⟨_, rfl, by subst hg; rw [addr_at, World.cell?_alloc_mark]; simp [hu]⟩
end
section
variable {P : Program}
/-- 'l = append(l, k...)', l the call's own -/
theorem wpList_append_OI (w : World) {ops : Array Oper} {rest : List Oper} {o : Oper} {a : Act} {Q : Exit → Act → World → Prop} (hgd : o.guard = none) (s x : Operand) (t : TypeId)
    (ho : o.op = .call { callee := .builtin .append, args := #[s, x], argTypes := #[t, t] })
    (base : Nat) (e : TypeId) (ht : P.underlying t = some (.slice e)) (he : (P.info? e).map (fun i => (i.zero, i.size, i.bytes)) = some (some (.int .i64 0), 1, 8))
    (A : Option Addr) (n c : Nat) (l : List Int) (hs : a.eval s = .slice A n c) (hown : Own w base e A n c (l.map iv))
    (B : Option Addr) (m d : Nat) (k : List Int) (hx : a.eval x = .slice B m d) (hm : m = k.length) (hk : RI w B k)
    (hbytes : n + m ≤ 1099511627776) (hbase : base ≤ w.heap.size)
    (h : ∀ A' c' w', Own w' base e A' (n + m) c' ((l ++ k).map iv) → w.grownBy w' (blk A) → (blk A' = blk A ∨ blk A' = some w.heap.size) → wpList P ops Q rest (a.put o.dst (.slice A' (n + m) c')) w') : wpList P ops Q (o :: rest) a w := by
  obtain ⟨i, hi, hz0, hz1, hz2⟩ := info_parts he
  refine wpList_append_Own w hgd s x t ho base e i _ 8 ht hi hz0 hz1 hz2 rfl A n c _ hs hown B m d (k.map iv) hx (by simp [hm]) (fun j u hu => ?_) (ints_one k) (by unfold maxLen; omega) (by omega) hbase (fun A' c' w' h2 h3 h4 => h A' c' w' ?_ h3 h4)
  · rw [List.getElem?_map, Option.map_eq_some_iff] at hu
    obtain ⟨b, hb, rfl⟩ := hu
    exact hk j b hb
  · rw [List.map_append]
    exact h2
end
/-- what a copy is: numbers in new memory -/
def CopiedI (w : World) (n : Nat) (l : List Int) (e : Ending) (w' : World) : Prop := ∃ A c, e = .returned (.slice A n c) ∧ OIs w' w.heap.size A n c l ∧ New w w'
set_option maxHeartbeats 400000 in
theorem twin_any (B : Option Addr) (m d : Nat) (k : List Int) (w : World) (hm : m = k.length) (hk : RI w B k) (hb : m ≤ 1099511627776) :
    Calls Try.prog 11 #[.slice B m d] w (CopiedI w m k) := by
  have HM := Lib.hid hm
  clear hm
  go_enter Try.func11, Try.ntmps11
  go_wp2_with (at_builtin; refine wpList_append_OI _ rfl _ _ _ rfl w.heap.size _ u_ints i_int none 0 0 [] rfl (OIs.nil _ _) B m d k rfl HM.out hk (by omega) (Nat.le_refl _) ?_; intro A c w1 hown hg _)
  go_ret
  exact ⟨A, c, rfl, by simpa using hown, (Below.refl _ _).grown hg (Nat.le_refl _) (by simp [blk])⟩
set_option maxHeartbeats 400000 in
theorem clone_any (B : Option Addr) (m d : Nat) (k : List Int) (w : World) (hm : m = k.length) (hk : RI w B k) (hb : m ≤ 1099511627776) :
    Calls Try.prog 25 #[.slice B m d] w (CopiedI w m k) := by
  have h0 := fun w => Lib.run_eql_slice_nil (P := Try.prog) w 22 _ B m d 0 0 u_ints
  have HM := Lib.hid hm
  clear hm
  cases B with
  | none =>
    go_enter Try.func25, Try.ntmps25
    go_wp2
    go_ret
    have : k = [] := by
      cases k with
      | nil => rfl
      | cons u l => obtain ⟨ad, h, _⟩ := hk 0 u rfl; cases h
    subst this
    have : m = 0 := HM.out
    subst this
    exact ⟨none, 0, rfl, OIs.nil _ _, New.refl w⟩
  | some b =>
    go_enter Try.func25, Try.ntmps25
    have h1 : OIs (w.alloc (.cells #[] 3)) w.heap.size (some ⟨w.heap.size, 0, none⟩) 0 0 [] := World.ownsRow_made w #[] 0 (Nat.le_refl _) (Nat.zero_le _) rfl
    go_wp2_with (at_builtin; refine wpList_append_OI _ rfl _ _ _ rfl w.heap.size _ u_ints i_int _ 0 0 [] rfl h1 (some b) m d k rfl HM.out (hk.alloc _) (by omega) (by simp) ?_; intro A c w1 hown hg _)
    go_ret
    exact ⟨A, c, rfl, by simpa using hown, ((Below.refl _ _).alloc (Nat.le_refl _) _).grown hg (by simp) (by simp [blk])⟩
end Go.Proofs.Ytblananbhibpmaa
