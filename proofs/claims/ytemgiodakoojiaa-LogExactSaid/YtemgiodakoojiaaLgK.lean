/- Two logs; the cells of a list of rows. -/
import Derived.Test.YtemgiodakoojiaaLgJ
namespace Go.Proofs.Ytemgiodakoojiaa
set_option linter.unusedVariables false
open Go.RowKit
open Go.Proofs.Ytemgiodakoojiaa.Frm
open Go.Proofs.Ytemgiodakoojiaa.Jr
/-- the cells that a list of rows has -/
theorem RR.vals {w : World} {A : Option Addr} {ls : List (List UInt8)} (h : RR w A ls) : ∃ xs : List Value, xs.length = ls.length ∧ (∀ (j : Nat) (u : Value), xs[j]? = some u → ∃ ad, A = some ad ∧ w.cell? (ad.add j) = some u) ∧ (∀ u ∈ xs, u.oneCell' = true) ∧ ∀ (j : Nat) (l : List UInt8), ls[j]? = some l → ∃ B d, xs[j]? = some (.slice B l.length d) ∧ l.length ≤ d ∧ d ≤ maxLen ∧ RB w B l := by
  have key : ∀ k, k ≤ ls.length → ∃ xs : List Value, xs.length = k ∧ (∀ (j : Nat) (u : Value), xs[j]? = some u → ∃ ad, A = some ad ∧ w.cell? (ad.add j) = some u) ∧ (∀ u ∈ xs, u.oneCell' = true) ∧ ∀ (j : Nat) (l : List UInt8), j < k → ls[j]? = some l → ∃ B d, xs[j]? = some (.slice B l.length d) ∧ l.length ≤ d ∧ d ≤ maxLen ∧ RB w B l := by
    intro k
    induction k with
    | zero => exact fun _ => ⟨[], rfl, fun j u h => by simp at h, fun u h => by simp at h, fun j l h => absurd h (Nat.not_lt_zero _)⟩
    | succ k ih =>
      intro hk
      obtain ⟨xs, h1, h2, h3, h4⟩ := ih (by omega)
      obtain ⟨l, hl⟩ : ∃ l, ls[k]? = some l := ⟨_, List.getElem?_eq_getElem (by omega)⟩
      obtain ⟨ad, B, d, e, hc, hle, hm, hb⟩ := h k l hl
      have hin : ∀ (j : Nat), j < k → ∀ u, (xs ++ [Value.slice B l.length d])[j]? = some u ↔ xs[j]? = some u := fun j hj u => by rw [List.getElem?_append_left (by omega)]
      have hat : (xs ++ [Value.slice B l.length d])[k]? = some (.slice B l.length d) := by rw [List.getElem?_append_right (by omega), h1]; simp
      refine ⟨xs ++ [.slice B l.length d], by simp [h1], fun j u hu => ?_, fun u hu => ?_, fun j l' hj hl' => ?_⟩
      · have hj := (List.getElem?_eq_some_iff.1 hu).1
        simp only [List.length_append, List.length_cons, List.length_nil] at hj
        by_cases hjk : j = k
        · subst hjk
          rw [hat] at hu
          injection hu with hu
          subst hu
          exact ⟨ad, e, hc⟩
        · exact h2 j u ((hin j (by omega) u).1 hu)
      · rcases List.mem_append.1 hu with hu | hu
        · exact h3 u hu
        · rw [List.mem_singleton.1 hu]; rfl
      · by_cases hjk : j = k
        · subst hjk
          rw [hl] at hl'
          cases hl'
          exact ⟨B, d, hat, hle, hm, hb⟩
        · obtain ⟨B', d', g1, g2⟩ := h4 j l' (by omega) hl'
          exact ⟨B', d', (hin j (by omega) _).2 g1, g2⟩
  obtain ⟨xs, h1, h2, h3, h4⟩ := key ls.length (Nat.le_refl _)
  exact ⟨xs, h1, h2, h3, fun j l hl => h4 j l (List.getElem?_eq_some_iff.1 hl).1 hl⟩
section
variable {F F1 F1' : Nat → Prop} {w0 w w' : World} {g dg c : Nat} {A : Option Addr} {σ : St} {snap : List UInt8} {rs : List (List UInt8)}
/-- beside a log something else was changed -/
theorem LogB.beside (h : LogB F w0 w g dg A c σ snap rs) (hd : ∀ i, F1 i → ¬ F i) (hg : Grew F1 F1' w w') (hn : New w0 w') : LogB F w0 w' g dg A c σ snap rs ∧ ∀ i, F1' i → ¬ F i :=
  ⟨h.other hg.keep hd hn, fun i hi hf => by
    rcases hg.sub i hi with hi | hi
    · exact hd i hi hf
    · have := (h.lo i hf).2; omega⟩
theorem DiskB.beside (h : DiskB F w0 w dg A c σ) (hd : ∀ i, F1 i → ¬ F i) (hg : Grew F1 F1' w w') (hn : New w0 w') : DiskB F w0 w' dg A c σ ∧ ∀ i, F1' i → ¬ F i :=
  ⟨h.other hg.keep hd hn, fun i hi hf => by
    rcases hg.sub i hi with hi | hi
    · exact hd i hi hf
    · have := (h.lo i hf).2; omega⟩
end
end Go.Proofs.Ytemgiodakoojiaa
