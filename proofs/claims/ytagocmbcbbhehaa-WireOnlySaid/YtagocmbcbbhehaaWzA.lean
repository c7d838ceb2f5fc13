/- Lists of zeros: what they are written as. -/
import Derived.Test.YtagocmbcbbhehaaWnU
namespace Go.Proofs.Ytagocmbcbbhehaa
set_option linter.unusedVariables false
open Go.RowKit
theorem made_at (zc : Array Value) (N i : Nat) (hi : i < N) (v : Value) (hv : zc.toList[i % zc.size]? = some v) : (madeCells zc N).toList[i]? = some v := by
  unfold madeCells
  have hlt : i % zc.size < zc.size := by
    have := (List.getElem?_eq_some_iff.1 hv).1
    simpa using this
  rw [Array.toList_map, Array.toList_range, List.getElem?_map, List.getElem?_range hi]
  simp only [Option.map_some, Option.some.injEq]
  rw [getElem!_pos zc _ hlt]
  rw [Array.getElem?_toList, Array.getElem?_eq_getElem hlt] at hv
  injection hv
theorem row_at {w : World} {base z g n : Nat} {e : TypeId} {xs : List Value} (h : w.ownsRow base e z (.slice (some ⟨g, 0, none⟩) n n) n xs) (i : Nat) (v : Value) (hv : xs[i]? = some v) : w.cell? ⟨g, i, none⟩ = some v := by
  rcases h.2 with ⟨h1, _⟩ | ⟨g', cap, cur, h1, _, hh, _, _, hs, ht⟩
  · cases h1
  · injection h1 with h1 h2 h3
    injection h1 with h1
    injection h1 with h1
    subst h1; subst h3
    rw [cell_of_row w g i _ e (0, 0) hh, ← Array.getElem?_toList]
    rw [← ht, List.getElem?_take] at hv
    split at hv
    · exact hv
    · cases hv
/-- what a list of n zeros is written as -/
def zch (zs : Ch) (n most : Nat) : Ch := if most < n then [none] else some (uv n) :: (List.replicate n zs).flatten
theorem zero_list {E : Nat → World → List Value → Ch → Prop} {w : World} {base z g n most b : Nat} {e : TypeId} {zc : Array Value} {zs : Ch} (h : w.ownsRow base e z (.slice (some ⟨g, 0, none⟩) n n) n (madeCells zc (n * z)).toList) (hz : zc.size = z) (hz0 : 0 < z) (hE : E b w zc.toList zs) (hg : g < b) (hm : n ≤ maxLen) :
    FList E z most b w [.slice (some ⟨g, 0, none⟩) n n] (zch zs n most) := by
  refine ⟨_, n, n, rfl, Nat.le_refl _, hm, ?_⟩
  unfold zch
  by_cases hn : most < n
  · exact .inl ⟨hn, by rw [if_pos hn]⟩
  · refine .inr ⟨by omega, List.replicate n (zc.toList, zs), by simp, ?_, by rw [if_neg hn]; simp⟩
    intro j el he
    have hj : j < n := by have := (List.getElem?_eq_some_iff.1 he).1; simpa using this
    rw [List.getElem?_replicate, if_pos hj] at he
    injection he with he
    subst he
    refine ⟨_, rfl, hg, by simp [hz], ?_, hE⟩
    intro i v hv
    have hi : i < z := by have := (List.getElem?_eq_some_iff.1 hv).1; simp only [Array.length_toList] at this; omega
    rw [add_add_, addr_at]
    refine row_at h _ v (made_at _ _ _ ?_ v ?_)
    · have : (j + 1) * z ≤ n * z := Nat.mul_le_mul_right _ hj
      rw [Nat.add_mul, Nat.one_mul] at this
      omega
    · rw [hz, Nat.mul_comm, Nat.mul_add_mod, Nat.mod_eq_of_lt hi]
      exact hv
theorem sz_rep (zs : Ch) (n : Nat) : sz (List.replicate n zs).flatten = n * sz zs := by
  induction n with
  | zero => simp [sz]
  | succ n ih => rw [List.replicate_succ, List.flatten_cons, sz_append, ih, Nat.add_mul, Nat.one_mul, Nat.add_comm]
theorem zch_sz (zs : Ch) (n most : Nat) (hn : n < 18446744073709551616) : sz (zch zs n most) ≤ 10 + n * sz zs := by
  unfold zch
  split
  · simp [sz]
  · show (uv n).length + _ ≤ _
    rw [sz_rep]
    have := uv_ten hn
    omega
theorem zch_none (zs : Ch) (n most : Nat) (h : none ∉ zs) : none ∈ zch zs n most ↔ most < n := by
  unfold zch
  by_cases hn : most < n
  · rw [if_pos hn]; simp [hn]
  · rw [if_neg hn]
    constructor
    · intro hm
      rcases List.mem_cons.1 hm with hm | hm
      · cases hm
      · obtain ⟨l, hl, hml⟩ := List.mem_flatten.1 hm
        rw [List.mem_replicate] at hl
        exact absurd (hl.2 ▸ hml) h
    · intro h'; exact absurd h' hn
/-- a list that is nil -/
theorem nil_list {E : Nat → World → List Value → Ch → Prop} {w : World} {z most b : Nat} : FList E z most b w [.slice none 0 0] [some (uv 0)] :=
  ⟨none, 0, 0, rfl, Nat.le_refl _, Nat.zero_le _, .inr ⟨Nat.zero_le _, [], rfl, fun j e he => by simp at he, rfl⟩⟩
theorem z_int (z : Int) (h : I64 z) : FInt [.int .i64 z] [some (iv z)] := ⟨z, h, rfl, rfl⟩
theorem z_mark : FMark [.bool false] [some (uv 0)] := ⟨false, rfl, rfl⟩
theorem z_am : FAm [.complex .f64 0 0] [some (uv 0 ++ uv 0)] := ⟨0, 0, by omega, by omega, by rw [show fl 0 = 0 from fl_zero], rfl⟩
end Go.Proofs.Ytagocmbcbbhehaa
