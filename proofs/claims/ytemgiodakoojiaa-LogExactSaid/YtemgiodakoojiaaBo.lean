/- Two disks' states alike: whatever is done to both, they are alike again, and answer the same. No program here. -/
import Derived.Test.YtemgiodakoojiaaDrE
namespace Go.Proofs.Ytemgiodakoojiaa
open Go.RowKit
/-- what an operation makes of two states alike -/
def Both (l : List UInt8) (m : Nat) (a b : Int × St) : Prop := ∃ z l' s' off' tr' x' y', a = (z, ⟨l', s', off', tr', x'⟩) ∧ b = (z, ⟨l', s', off', tr', y'⟩) ∧ (tr' = true → x' = y') ∧ l'.length ≤ l.length + m
section
variable (l r : List UInt8) (s : Nat) (off tr : Bool) (x y n : Int) (h : tr = true → x = y)
include h
theorem both_append : Both l r.length (St.append ⟨l, s, off, tr, x⟩ r) (St.append ⟨l, s, off, tr, y⟩ r) := by
  cases off
  · exact ⟨_, _, _, _, _, _, _, rfl, rfl, h, by simp⟩
  · exact ⟨_, _, _, _, _, _, _, rfl, rfl, h, by simp⟩
theorem both_crash : Both l 0 (0, St.crash ⟨l, s, off, tr, x⟩ n) (0, St.rcrash ⟨l, s, off, tr, y⟩ n) := by
  cases off
  · exact ⟨_, _, _, _, _, _, _, rfl, rfl, (fun h => by cases h), Nat.le_trans (List.length_take_le' _ _) (Nat.le_add_right _ _)⟩
  · exact ⟨_, _, _, _, _, _, _, rfl, rfl, h, by simp⟩
theorem both_start : Both l 0 (0, St.start ⟨l, s, off, tr, x⟩) (0, St.start ⟨l, s, off, tr, y⟩) := by
  cases off
  · exact ⟨_, _, _, _, _, _, _, rfl, rfl, h, by simp⟩
  · exact ⟨_, _, _, _, _, _, _, rfl, rfl, h, by simp⟩
theorem both_trip : Both l 0 (0, St.trip ⟨l, s, off, tr, x⟩ n) (0, St.trip ⟨l, s, off, tr, y⟩ n) := by
  cases off
  · exact ⟨_, _, _, _, _, _, _, rfl, rfl, (fun _ => rfl), by simp⟩
  · exact ⟨_, _, _, _, _, _, _, rfl, rfl, h, by simp⟩
theorem both_sync : Both l 0 (St.sync ⟨l, s, off, tr, x⟩) (St.rsync ⟨l, s, off, tr, y⟩) := by
  cases off
  · cases tr
    · exact ⟨_, _, _, _, _, _, _, rfl, rfl, h, by simp⟩
    · have := h rfl
      subst this
      exact ⟨_, _, _, _, _, _, _, rfl, rfl, (fun h => by cases h), Nat.le_trans (List.length_take_le' _ _) (Nat.le_add_right _ _)⟩
  · exact ⟨_, _, _, _, _, _, _, rfl, rfl, h, by simp⟩
theorem both_swap : Both l r.length (St.swap ⟨l, s, off, tr, x⟩ r) (St.rswap ⟨l, s, off, tr, y⟩ r) := by
  cases off
  · cases tr
    · exact ⟨_, _, _, _, _, _, _, rfl, rfl, h, by simp⟩
    · have := h rfl
      subst this
      exact ⟨_, _, _, _, _, _, _, rfl, rfl, (fun h => by cases h), Nat.le_trans (List.length_take_le' _ _) (Nat.le_add_right _ _)⟩
  · exact ⟨_, _, _, _, _, _, _, rfl, rfl, h, by simp⟩
theorem both_cut : Both l 0 (St.cut ⟨l, s, off, tr, x⟩ n) (St.rcut ⟨l, s, off, tr, y⟩ n) := by
  cases off
  · by_cases hn : n < 0 ∨ (l.length : Int) < n
    · have e1 : ∀ x, St.cut ⟨l, s, false, tr, x⟩ n = (9, ⟨l, s, false, tr, x⟩) := fun x => by
        unfold St.cut
        rw [if_neg (by simp), if_pos hn]
      have e2 : ∀ x, St.rcut ⟨l, s, false, tr, x⟩ n = (9, ⟨l, s, false, tr, x⟩) := fun x => by
        unfold St.rcut
        rw [if_neg (by simp), if_pos hn]
      exact ⟨_, _, _, _, _, _, _, e1 x, e2 y, h, by simp⟩
    · cases tr
      · have e1 : ∀ x, St.cut ⟨l, s, false, false, x⟩ n = (0, ⟨l.take n.toNat, n.toNat, false, false, x⟩) := fun x => by
          unfold St.cut
          rw [if_neg (by simp), if_neg hn, if_neg (by simp)]
        have e2 : ∀ x, St.rcut ⟨l, s, false, false, x⟩ n = (0, ⟨l.take n.toNat, n.toNat, false, false, x⟩) := fun x => by
          unfold St.rcut
          rw [if_neg (by simp), if_neg hn, if_neg (by simp)]
        exact ⟨_, _, _, _, _, _, _, e1 x, e2 y, h, Nat.le_trans (List.length_take_le' _ _) (Nat.le_add_right _ _)⟩
      · have := h rfl
        subst this
        have e1 : St.cut ⟨l, s, false, true, x⟩ n = (7, St.crash ⟨l, s, false, true, x⟩ x) := by
          unfold St.cut
          rw [if_neg (by simp), if_neg hn, if_pos rfl]
        have e2 : St.rcut ⟨l, s, false, true, x⟩ n = (7, St.rcrash ⟨l, s, false, true, x⟩ x) := by
          unfold St.rcut
          rw [if_neg (by simp), if_neg hn, if_pos rfl]
        exact ⟨_, _, _, _, _, _, _, e1, e2, (fun h => by cases h), Nat.le_trans (List.length_take_le' _ _) (Nat.le_add_right _ _)⟩
  · exact ⟨_, _, _, _, _, _, _, rfl, rfl, h, by simp⟩
end
theorem mod8 (y : Int) : ∃ q : Nat, (IntKind.u64.wrap y).tmod 8 = (q : Int) ∧ (q = 0 ∨ q = 1 ∨ q = 2 ∨ q = 3 ∨ q = 4 ∨ q = 5 ∨ q = 6 ∨ q = 7) := by
  have h : 0 ≤ IntKind.u64.wrap y := by rw [IntKind.wrap_u64]; exact Int.emod_nonneg _ (by decide)
  refine ⟨((IntKind.u64.wrap y).tmod 8).toNat, ?_, ?_⟩
  · have := Int.tmod_nonneg 8 h
    omega
  · have h1 := Int.tmod_nonneg 8 h
    have h2 := Int.tmod_lt_of_pos (IntKind.u64.wrap y) (b := 8) (by omega)
    omega
end Go.Proofs.Ytemgiodakoojiaa
