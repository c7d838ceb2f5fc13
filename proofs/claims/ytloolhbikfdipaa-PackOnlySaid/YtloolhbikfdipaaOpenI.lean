/- Arguments opened: a slice of whole numbers. Over any program. -/
import Derived.Test.YtloolhbikfdipaaOpen
namespace Go.Proofs.Ytloolhbikfdipaa
open Go.RowKit Go.ChangeShapes Go.WideShapes Go.Deep
/-- a slice at address A reads as these numbers -/
def RI (w : World) (A : Option Addr) (l : List Int) : Prop := ∀ j z, l[j]? = some z → ∃ ad, A = some ad ∧ w.cell? (ad.add j) = some (.int .i64 z)
section
variable {w w' : World} {A : Option Addr} {l : List Int}
theorem RI.keep (h : RI w A l) (hk : ∀ ad, A = some ad → ad.block < w.heap.size → w'.heap[ad.block]? = w.heap[ad.block]?) : RI w' A l := fun j u hu => by
  obtain ⟨ad, rfl, hc⟩ := h j u hu
  have hb : (ad.add j).block < w.heap.size := World.block_lt_of_cell? w (ad.add j) hc
  rw [add_block] at hb
  exact ⟨ad, rfl, (World.cell?_of_block (by rw [add_block]; exact hk ad rfl hb)).trans hc⟩
theorem RI.new (h : RI w A l) (hn : New w w') : RI w' A l := h.keep fun _ _ hb => hn.block _ hb
theorem RI.drewN (h : RI w A l) (k : Nat) : RI (w.drewN k) A l := h
theorem RI.alloc (h : RI w A l) (o : Obj) : RI (w.alloc o) A l := h.new ((Below.refl _ _).alloc (Nat.le_refl _) o)
theorem RI.take (h : RI w A l) (k : Nat) : RI w A (l.take k) := fun j u hu => by
  rw [List.getElem?_take] at hu
  split at hu
  · exact h j u hu
  · cases hu
theorem RI.nil (w : World) (A : Option Addr) : RI w A [] := fun j u h => by simp at h
end
section
variable {H : Type} {enc : TypeId × Value → H} {P : Program} {w : World} {base : Nat} {spare : Nat → Bool} {held : Bool}
theorem open_I {t e : TypeId} {fuel : Nat} {cs : List Value} {x : DataW H × List MemPlace} (ht : P.underlying t = some (.slice e)) (he : P.underlying e = some (.int .i64)) (hc : P.cellsOf e = 1)
    (h : DataW.trod enc P w base spare held fuel t cs = some x) : ∃ (A : Option Addr) (l : List Int) (c : Nat), cs = [.slice A l.length c] ∧ l.length ≤ c ∧ c ≤ maxLen ∧ (RI w A l ∧ ∀ z ∈ l, (Lit.int .i64 z).wf = true) := by
  rcases open_ints ht he hc h with ⟨rfl, _⟩ | ⟨a, len, cap, zs, rfl, _, hl, hm, hz, _, hcell, hwf⟩
  · exact ⟨none, [], 0, rfl, Nat.le_refl _, Nat.zero_le _, RI.nil _ _, fun z h => by simp at h⟩
  · have hzl : len ≤ zs.length := by rw [hz]; split <;> omega
    refine ⟨some a, zs.take len, cap, ?_, ?_, hm, fun j u hu => ⟨a, rfl, ?_⟩, fun z hz => hwf z (List.mem_of_mem_take hz)⟩
    · rw [List.length_take, Nat.min_eq_left hzl]
    · rw [List.length_take, Nat.min_eq_left hzl]; exact hl
    · rw [List.getElem?_take] at hu
      split at hu
      · have hj : j < zs.length := (List.getElem?_eq_some_iff.1 hu).1
        rw [hcell j hj, List.getD_eq_getElem?_getD, hu, Option.getD_some]
      · cases hu
end
end Go.Proofs.Ytloolhbikfdipaa
