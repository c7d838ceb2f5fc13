/- What is read as a number, a text, an amount, is written in the bytes that were read. No program here. -/
import Derived.Test.YtagocmbcbbhehaaRdE
namespace Go.Proofs.Ytagocmbcbbhehaa
theorem rdF_canon : ∀ (l : List UInt8) (i acc v k : Nat), i ≤ 9 → rdF i acc l = some (v, k) → ∃ V, v = acc + V * 2 ^ (7 * i) ∧ uv V = l.take (k - i) ∧ (0 < i → 0 < V) ∧ i < k := by
  intro l
  induction l with
  | nil => intro i acc v k _ h; rw [rdF_nil] at h; cases h
  | cons b t ih =>
    intro i acc v k hi h
    have hb := UInt8.toNat_lt b
    by_cases h1 : i = 9 ∧ 1 < b.toNat
    · rw [rdF_far h1.1 h1.2] at h; cases h
    · by_cases h2 : 127 < b.toNat
      · rw [rdF_more h1 h2] at h
        obtain ⟨V, hv, hu, hp, hk⟩ := ih (i + 1) _ v k (by omega) h
        have hV := hp (by omega)
        refine ⟨b.toNat % 128 + 128 * V, ?_, ?_, fun _ => by omega, by omega⟩
        · rw [hv, show 7 * (i + 1) = 7 * i + 7 from by omega, Nat.pow_add, Nat.add_mul, Nat.add_assoc]
          congr 2
          rw [show (2 : Nat) ^ 7 = 128 from rfl, Nat.mul_comm (2 ^ (7 * i)) 128, ← Nat.mul_assoc, Nat.mul_comm V 128]
        · rw [uv_big (by omega), show k - i = (k - (i + 1)) + 1 from by omega, List.take_succ_cons, ← hu]
          rw [show (b.toNat % 128 + 128 * V) % 128 + 128 = b.toNat from by omega, show (b.toNat % 128 + 128 * V) / 128 = V from by omega]
          simp
      · by_cases h3 : b.toNat = 0 ∧ 0 < i
        · rw [rdF_zero h1 h3.1 h3.2] at h; cases h
        · rw [rdF_end h1 h2 h3] at h
          cases h
          refine ⟨b.toNat % 128, rfl, ?_, fun hi => by omega, by omega⟩
          rw [show b.toNat % 128 = b.toNat from by omega, uv_small (by omega), show i + 1 - i = 1 from by omega]
          simp
theorem canon_U {l l' : List UInt8} {v : Nat} (h : rdU l 0 = (v, l', 0)) : l = uv v ++ l' := by
  cases hr : rd l with
  | none => rw [rdU_none hr] at h; cases h
  | some p =>
    obtain ⟨v', k⟩ := p
    rw [rdU_some hr] at h
    cases h
    obtain ⟨V, hv, hu, _, _⟩ := rdF_canon l 0 0 _ _ (by omega) hr
    have hV : v = V := by rw [hv]; simp
    rw [hV, hu, Nat.sub_zero, List.take_append_drop]
theorem canon_T {l l' t : List UInt8} (h : rdT l 0 = (t, l', 0)) : l = uv t.length ++ (t ++ l') ∧ t.length ≤ 131072 := by
  obtain ⟨V, l1, x1, h1⟩ : ∃ V l1 x1, rdU l 0 = (V, l1, x1) := ⟨_, _, _, rfl⟩
  unfold rdT at h
  rw [h1] at h
  simp only at h
  by_cases c1 : 131072 < V
  · rw [if_pos c1] at h; cases h
  · rw [if_neg c1] at h
    by_cases c2 : l1.length < V
    · rw [if_pos c2] at h; cases h
    · rw [if_neg c2] at h
      by_cases c3 : x1 = 0
      · subst c3
        rw [if_neg (by simp)] at h
        cases h
        have e : (l1.take V).length = V := by rw [List.length_take]; omega
        rw [e, List.take_append_drop]
        exact ⟨canon_U h1, by omega⟩
      · rw [if_pos c3] at h
        cases h
        exact absurd rfl c3
theorem canon_A {l l' : List UInt8} {o : Option (Nat × Nat)} (h : rdA l 0 = (o, l', 0)) : ∃ n k, o = some (n, k) ∧ l = uv n ++ (uv k ++ l') ∧ n ≤ 1048576 ∧ k ≤ 1048576 := by
  obtain ⟨V, l1, x1, h1⟩ : ∃ V l1 x1, rdU l 0 = (V, l1, x1) := ⟨_, _, _, rfl⟩
  obtain ⟨U, l2, x2, h2⟩ : ∃ U l2 x2, rdU l1 x1 = (U, l2, x2) := ⟨_, _, _, rfl⟩
  unfold rdA at h
  rw [h1] at h
  simp only [h2] at h
  by_cases c3 : x2 = 0
  · subst c3
    rw [if_neg (by simp)] at h
    by_cases c1 : 1048576 < V ∨ 1048576 < U
    · rw [if_pos c1] at h; cases h
    · rw [if_neg c1] at h
      cases h
      have hx1 : x1 = 0 := by
        by_cases hx : x1 = 0
        · exact hx
        · rw [rdU_err hx] at h2
          cases h2
          exact absurd rfl hx
      subst hx1
      refine ⟨V, U, rfl, ?_, by omega, by omega⟩
      rw [canon_U h1, canon_U h2]
  · rw [if_pos c3] at h
    cases h
    exact absurd rfl c3
/-- an error stays: nothing is read behind it -/
theorem stay_U {l l' : List UInt8} {e x : Int} {v : Nat} (h : rdU l e = (v, l', x)) (hx : x = 0) : e = 0 := by
  by_cases he : e = 0
  · exact he
  · rw [rdU_err he] at h; cases h; exact absurd hx he
theorem stay_T {l l' t : List UInt8} {e x : Int} (h : rdT l e = (t, l', x)) (hx : x = 0) : e = 0 := by
  by_cases he : e = 0
  · exact he
  · unfold rdT at h
    rw [rdU_err he, if_neg (by simp), if_neg (by simp), if_pos he] at h
    cases h
    exact absurd hx he
theorem stay_A {l l' : List UInt8} {e x : Int} {o : Option (Nat × Nat)} (h : rdA l e = (o, l', x)) (hx : x = 0) : e = 0 := by
  by_cases he : e = 0
  · exact he
  · unfold rdA at h
    rw [rdU_err he] at h
    simp only [rdU_err he] at h
    rw [if_pos he] at h
    cases h
    exact absurd hx he
end Go.Proofs.Ytagocmbcbbhehaa
