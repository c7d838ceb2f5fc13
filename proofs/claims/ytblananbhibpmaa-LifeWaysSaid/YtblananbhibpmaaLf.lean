/- Life's table, and walks by it. No program here. -/
import Derived.Test.YtblananbhibpmaaIntB
import Derived.Scope
namespace Go.Proofs.Ytblananbhibpmaa
/-- the state to which an event leads -/
def nx (s e : Int) : Option Int :=
  if s = 0 ∧ e = 1 then some 1 else if s = 1 ∧ e = 2 then some 2 else if s = 1 ∧ e = 5 then some 4 else if s = 1 ∧ e = 9 then some 7 else if s = 1 ∧ e = 10 then some 0
  else if s = 2 ∧ e = 3 then some 3 else if s = 2 ∧ e = 8 then some 6 else if s = 2 ∧ e = 9 then some 7 else if s = 3 ∧ e = 4 then some 1 else if s = 4 ∧ e = 6 then some 1
  else if s = 4 ∧ e = 7 then some 5 else if s = 5 ∧ e = 8 then some 6 else if s = 5 ∧ e = 9 then some 7 else if s = 6 ∧ e = 9 then some 7 else if s = 7 ∧ e = 10 then some 0 else none
/-- events walked from a state: where, and how many -/
def wk : Int → List Int → Int × Nat
  | s, [] => (s, 0)
  | s, e :: t => match nx s e with
    | none => (s, 0)
    | some s' => ((wk s' t).1, (wk s' t).2 + 1)
theorem wk_nil (s : Int) : wk s [] = (s, 0) := rfl
theorem wk_none {s e : Int} {t : List Int} (h : nx s e = none) : wk s (e :: t) = (s, 0) := by rw [wk, h]
theorem wk_some {s s' e : Int} {t : List Int} (h : nx s e = some s') : wk s (e :: t) = ((wk s' t).1, (wk s' t).2 + 1) := by rw [wk, h]
theorem wk_le : ∀ (l : List Int) (s : Int), (wk s l).2 ≤ l.length := by
  intro l
  induction l with
  | nil => intro s; exact Nat.le_refl _
  | cons e t ih =>
    intro s
    cases h : nx s e with
    | none => rw [wk_none h]; exact Nat.zero_le _
    | some s' => rw [wk_some h]; have := ih s'; simp only [List.length_cons]; omega
theorem wk_append : ∀ (a b : List Int) (s : Int), wk s (a ++ b) = if (wk s a).2 = a.length then ((wk (wk s a).1 b).1, a.length + (wk (wk s a).1 b).2) else wk s a := by
  intro a
  induction a with
  | nil => intro b s; simp [wk_nil]
  | cons e t ih =>
    intro b s
    cases h : nx s e with
    | none => rw [List.cons_append, wk_none h, wk_none h, if_neg (by simp)]
    | some s' =>
      rw [List.cons_append, wk_some h, wk_some h, ih b s']
      by_cases hl : (wk s' t).2 = t.length
      · rw [if_pos hl, if_pos (by simp [hl])]
        simp only [List.length_cons]
        congr 1
        omega
      · rw [if_neg hl, if_neg (by simp only [List.length_cons]; omega)]
/-- an event at place j: the walk's next step -/
theorem wk_step {l : List Int} {s s' e : Int} {j : Nat} (h : wk 0 l = ((wk s (l.drop j)).1, j + (wk s (l.drop j)).2)) (hj : l[j]? = some e) (hn : nx s e = some s') : wk 0 l = ((wk s' (l.drop (j + 1))).1, (j + 1) + (wk s' (l.drop (j + 1))).2) := by
  obtain ⟨hlt, he⟩ := List.getElem?_eq_some_iff.1 hj
  rw [h, List.drop_eq_getElem_cons hlt, he, wk_some hn]
  simp only
  congr 1
  omega
theorem wk_stop {l : List Int} {s e : Int} {j : Nat} (h : wk 0 l = ((wk s (l.drop j)).1, j + (wk s (l.drop j)).2)) (hj : (l ++ [0])[j]? = some e) (hn : nx s e = none) : wk 0 l = (s, j) := by
  by_cases hlt : j < l.length
  · rw [List.getElem?_append_left hlt] at hj
    obtain ⟨_, he⟩ := List.getElem?_eq_some_iff.1 hj
    rw [h, List.drop_eq_getElem_cons hlt, he, wk_none hn]
    rfl
  · rw [h, List.drop_eq_nil_of_le (by omega), wk_nil]
    rfl
theorem nx_far {s : Int} (e : Int) (h : s < 0 ∨ 7 < s) : nx s e = none := by
  unfold nx
  repeat (first | (rw [if_neg (by omega)]) | rfl)
theorem wk_far {s : Int} (l : List Int) (h : s < 0 ∨ 7 < s) : wk s l = (s, 0) := by
  cases l with
  | nil => rfl
  | cons e t => exact wk_none (nx_far e h)
/-- As Q; by a goto to one of n labels: J. -/
def jumpsTo (n : Nat) (J : Nat → Act → World → Prop) (Q : Exit → Act → World → Prop) : Exit → Act → World → Prop
  | .goto l', a, w => l' < n ∧ J l' a w
  | e, a, w => Q e a w
theorem wp_scope_many {P : Program} {a : Act} {w : World} {Q : Exit → Act → World → Prop} {c : Code} (n : Nat) (rest : Nat → Code) (J : Nat → Act → World → Prop) (μ : Act → World → Nat) (hf : ∀ l, l < n → findLabel c l = some (rest l))
    (first : c.wp P (jumpsTo n J Q) a w)
    (pass : ∀ l, l < n → ∀ a w, J l a w → (rest l).wp P (jumpsTo n (fun l' a' w' => J l' a' w' ∧ μ a' w' < μ a w) Q) a w) : (Code.scope c).wp P Q a w := by
  intro b k cs
  have hg : ∀ l, l < n → gotoIn l (.inScope c :: k) = some (.code (rest l) :: .inScope c :: k) := fun l hl => by simp [gotoIn, hf l hl]
  have key : ∀ m a w l, l < n → μ a w = m → J l a w → ∃ e a' w', Q e a' w' ∧ Arrives P (lone (b.at a (.code (rest l) :: .inScope c :: k)) cs w) b k cs e a' w' := by
    intro m
    induction m using Nat.strongRecOn with
    | _ m ih =>
      intro a w l hl hm hJ
      obtain ⟨e, a₁, w₁, hq, harr⟩ := pass l hl a w hJ b (.inScope c :: k) cs
      cases e with
      | normal => exact ⟨.normal, a₁, w₁, hq, Steps.trans harr (.one step_inScope)⟩
      | exit id => exact ⟨.exit id, a₁, w₁, hq, fun k' hk => harr k' (by simp [exitTo, hk])⟩
      | goto l' =>
        obtain ⟨hl', hJ', hlt⟩ := hq
        obtain ⟨e₂, a₂, w₂, hq₂, harr₂⟩ := ih _ (by omega) a₁ w₁ l' hl' rfl hJ'
        exact ⟨e₂, a₂, w₂, hq₂, .of_steps (harr _ (hg l' hl')) harr₂⟩
      | ret => exact ⟨_, a₁, w₁, hq, harr⟩
      | panic ch => exact ⟨_, a₁, w₁, hq, harr⟩
      | outgrown => exact ⟨_, a₁, w₁, hq, harr⟩
  obtain ⟨e, a₁, w₁, hq, harr⟩ := first b (.inScope c :: k) cs
  cases e with
  | normal => exact ⟨.normal, a₁, w₁, hq, .head step_scope (Steps.trans harr (.one step_inScope))⟩
  | exit id => exact ⟨.exit id, a₁, w₁, hq, fun k' hk => .head step_scope (harr k' (by simp [exitTo, hk]))⟩
  | goto l' =>
    obtain ⟨hl', hJ'⟩ := hq
    obtain ⟨e₂, a₂, w₂, hq₂, harr₂⟩ := key _ a₁ w₁ l' hl' rfl hJ'
    exact ⟨e₂, a₂, w₂, hq₂, .of_steps (.head step_scope (harr _ (hg l' hl'))) harr₂⟩
  | ret => exact ⟨_, a₁, w₁, hq, .of_steps (.one step_scope) harr⟩
  | panic ch => exact ⟨_, a₁, w₁, hq, .of_steps (.one step_scope) harr⟩
  | outgrown => exact ⟨_, a₁, w₁, hq, .of_steps (.one step_scope) harr⟩
/-- eight labels -/
theorem wp_scope_8 {P : Program} {a : Act} {w : World} {Q : Exit → Act → World → Prop} {c r0 r1 r2 r3 r4 r5 r6 r7 : Code} (J : Nat → Act → World → Prop) (μ : Act → World → Nat)
    (h0 : findLabel c 0 = some r0) (h1 : findLabel c 1 = some r1) (h2 : findLabel c 2 = some r2) (h3 : findLabel c 3 = some r3) (h4 : findLabel c 4 = some r4) (h5 : findLabel c 5 = some r5) (h6 : findLabel c 6 = some r6) (h7 : findLabel c 7 = some r7)
    (first : c.wp P (jumpsTo 8 J Q) a w)
    (p0 : ∀ a w, J 0 a w → r0.wp P (jumpsTo 8 (fun l' a' w' => J l' a' w' ∧ μ a' w' < μ a w) Q) a w)
    (p1 : ∀ a w, J 1 a w → r1.wp P (jumpsTo 8 (fun l' a' w' => J l' a' w' ∧ μ a' w' < μ a w) Q) a w)
    (p2 : ∀ a w, J 2 a w → r2.wp P (jumpsTo 8 (fun l' a' w' => J l' a' w' ∧ μ a' w' < μ a w) Q) a w)
    (p3 : ∀ a w, J 3 a w → r3.wp P (jumpsTo 8 (fun l' a' w' => J l' a' w' ∧ μ a' w' < μ a w) Q) a w)
    (p4 : ∀ a w, J 4 a w → r4.wp P (jumpsTo 8 (fun l' a' w' => J l' a' w' ∧ μ a' w' < μ a w) Q) a w)
    (p5 : ∀ a w, J 5 a w → r5.wp P (jumpsTo 8 (fun l' a' w' => J l' a' w' ∧ μ a' w' < μ a w) Q) a w)
    (p6 : ∀ a w, J 6 a w → r6.wp P (jumpsTo 8 (fun l' a' w' => J l' a' w' ∧ μ a' w' < μ a w) Q) a w)
    (p7 : ∀ a w, J 7 a w → r7.wp P (jumpsTo 8 (fun l' a' w' => J l' a' w' ∧ μ a' w' < μ a w) Q) a w) : (Code.scope c).wp P Q a w := by
  refine wp_scope_many 8 (fun l => match l with | 0 => r0 | 1 => r1 | 2 => r2 | 3 => r3 | 4 => r4 | 5 => r5 | 6 => r6 | _ => r7) J μ ?_ first ?_
  · intro l hl
    match l, hl with
    | 0, _ => exact h0
    | 1, _ => exact h1
    | 2, _ => exact h2
    | 3, _ => exact h3
    | 4, _ => exact h4
    | 5, _ => exact h5
    | 6, _ => exact h6
    | 7, _ => exact h7
  · intro l hl
    match l, hl with
    | 0, _ => exact p0
    | 1, _ => exact p1
    | 2, _ => exact p2
    | 3, _ => exact p3
    | 4, _ => exact p4
    | 5, _ => exact p5
    | 6, _ => exact p6
    | 7, _ => exact p7
end Go.Proofs.Ytblananbhibpmaa
