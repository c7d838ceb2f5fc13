/- Two disks' states alike: whatever is done to both, they are alike again, and answer the same. No program here. -/
import Derived.Test.YtnhoofcllijmiaaDxB
namespace Go.Proofs.Ytnhoofcllijmiaa
open Go.RowKit
/-- what an operation makes of two states alike -/
def Both (l : List UInt8) (m : Nat) (a b : Int × St) : Prop := ∃ z l' s' off' tr' x' y', a = (z, ⟨l', s', off', tr', x'⟩) ∧ b = (z, ⟨l', s', off', tr', y'⟩) ∧ (tr' = true → x' = y') ∧ l'.length ≤ l.length + m
section
variable (l r : List UInt8) (s : Nat) (off tr : Bool) (x y n : Int) (h : tr = true → x = y)
include h
theorem both_append : Both l r.length (St.append ⟨l, s, off, tr, x⟩ r) (St.append ⟨l, s, off, tr, y⟩ r) := by
  cases off
  · exact ⟨_, _, _, _, _, _, _, rfl, rfl, h, by simp⟩
  · exact ⟨_, _, _, _, _, _, _, rfl, rfl, h, by simp⟩
theorem both_crash : Both l 0 (0, St.crash ⟨l, s, off, tr, x⟩ n) (0, St.rcrash ⟨l, s, off, tr, y⟩ n) := by
  cases off
  · exact ⟨_, _, _, _, _, _, _, rfl, rfl, (fun h => by cases h), Nat.le_trans (List.length_take_le' _ _) (Nat.le_add_right _ _)⟩
  · exact ⟨_, _, _, _, _, _, _, rfl, rfl, h, by simp⟩
theorem both_start : Both l 0 (0, St.start ⟨l, s, off, tr, x⟩) (0, St.start ⟨l, s, off, tr, y⟩) := by
  cases off
  · exact ⟨_, _, _, _, _, _, _, rfl, rfl, h, by simp⟩
  · exact ⟨_, _, _, _, _, _, _, rfl, rfl, h, by simp⟩
theorem both_trip : Both l 0 (0, St.trip ⟨l, s, off, tr, x⟩ n) (0, St.trip ⟨l, s, off, tr, y⟩ n) := by
  cases off
  · exact ⟨_, _, _, _, _, _, _, rfl, rfl, (fun _ => rfl), by simp⟩
  · exact ⟨_, _, _, _, _, _, _, rfl, rfl, h, by simp⟩
theorem both_sync : Both l 0 (St.sync ⟨l, s, off, tr, x⟩) (St.rsync ⟨l, s, off, tr, y⟩) := by
  cases off
  · cases tr
    · exact ⟨_, _, _, _, _, _, _, rfl, rfl, h, by simp⟩
    · have := h rfl
      subst this
      exact ⟨_, _, _, _, _, _, _, rfl, rfl, (fun h => by cases h), Nat.le_trans (List.length_take_le' _ _) (Nat.le_add_right _ _)⟩
  · exact ⟨_, _, _, _, _, _, _, rfl, rfl, h, by simp⟩
theorem both_swap : Both l r.length (St.swap ⟨l, s, off, tr, x⟩ r) (St.rswap ⟨l, s, off, tr, y⟩ r) := by
  cases off
  · cases tr
    · exact ⟨_, _, _, _, _, _, _, rfl, rfl, h, by simp⟩
    · have := h rfl
      subst this
      exact ⟨_, _, _, _, _, _, _, rfl, rfl, (fun h => by cases h), Nat.le_trans (List.length_take_le' _ _) (Nat.le_add_right _ _)⟩
  · exact ⟨_, _, _, _, _, _, _, rfl, rfl, h, by simp⟩
theorem both_cut : Both l 0 (St.cut ⟨l, s, off, tr, x⟩ n) (St.rcut ⟨l, s, off, tr, y⟩ n) := by
  cases off
  · by_cases hn : n < 0 ∨ (l.length : Int) < n
    · have e1 : ∀ x, St.cut ⟨l, s, false, tr, x⟩ n = (9, ⟨l, s, false, tr, x⟩) := fun x => by
        unfold St.cut
        rw [if_neg (by simp), if_pos hn]
      have e2 : ∀ x, St.rcut ⟨l, s, false, tr, x⟩ n = (9, ⟨l, s, false, tr, x⟩) := fun x => by
        unfold St.rcut
        rw [if_neg (by simp), if_pos hn]
      exact ⟨_, _, _, _, _, _, _, e1 x, e2 y, h, by simp⟩
    · cases tr
      · have e1 : ∀ x, St.cut ⟨l, s, false, false, x⟩ n = (0, ⟨l.take n.toNat, n.toNat, false, false, x⟩) := fun x => by
          unfold St.cut
          rw [if_neg (by simp), if_neg hn, if_neg (by simp)]
        have e2 : ∀ x, St.rcut ⟨l, s, false, false, x⟩ n = (0, ⟨l.take n.toNat, n.toNat, false, false, x⟩) := fun x => by
          unfold St.rcut
          rw [if_neg (by simp), if_neg hn, if_neg (by simp)]
        exact ⟨_, _, _, _, _, _, _, e1 x, e2 y, h, Nat.le_trans (List.length_take_le' _ _) (Nat.le_add_right _ _)⟩
      · have := h rfl
        subst this
        have e1 : St.cut ⟨l, s, false, true, x⟩ n = (7, St.crash ⟨l, s, false, true, x⟩ x) := by
          unfold St.cut
          rw [if_neg (by simp), if_neg hn, if_pos rfl]
        have e2 : St.rcut ⟨l, s, false, true, x⟩ n = (7, St.rcrash ⟨l, s, false, true, x⟩ x) := by
          unfold St.rcut
          rw [if_neg (by simp), if_neg hn, if_pos rfl]
        exact ⟨_, _, _, _, _, _, _, e1, e2, (fun h => by cases h), Nat.le_trans (List.length_take_le' _ _) (Nat.le_add_right _ _)⟩
  · exact ⟨_, _, _, _, _, _, _, rfl, rfl, h, by simp⟩
end
theorem mod8 (y : Int) : ∃ q : Nat, (IntKind.u64.wrap y).tmod 8 = (q : Int) ∧ (q = 0 ∨ q = 1 ∨ q = 2 ∨ q = 3 ∨ q = 4 ∨ q = 5 ∨ q = 6 ∨ q = 7) := by
  have h : 0 ≤ IntKind.u64.wrap y := by rw [IntKind.wrap_u64]; exact Int.emod_nonneg _ (by decide)
  refine ⟨((IntKind.u64.wrap y).tmod 8).toNat, ?_, ?_⟩
  · have := Int.tmod_nonneg 8 h
    omega
  · have h1 := Int.tmod_nonneg 8 h
    have h2 := Int.tmod_lt_of_pos (IntKind.u64.wrap y) (b := 8) (by omega)
    omega
/-- two disks, bytes beside them, a box of three cells -/
structure Tri (w0 w : World) (g : Nat) (A : Option Addr) (c : Nat) (σ : St) (k : Nat) (B : Option Addr) (d : Nat) (ρ : St) (gb : Nat) (bx : Array Value) (X : Option Addr) (n cx : Nat) (bs : List UInt8) : Prop where
  two : Two 52 44 w0 w g A c σ k B d ρ
  own : OBs w w0.heap.size X n cx bs
  xa : ∀ i, blk X = some i → ¬ blk A = some i
  xb : ∀ i, blk X = some i → ¬ blk B = some i
  box : w.heap[gb]? = some (.cells bx 48 (0, 0))
section
variable {w0 w w' : World} {g k c d gb n cx : Nat} {A B X : Option Addr} {σ ρ υ : St} {bx : Array Value} {bs : List UInt8} {v e : Ending}
theorem box_keep {T U : TypeId} {base : Nat} (hb : w.heap[gb]? = some (.cells bx U (0, 0))) (ha : DK T w base g A c σ) (hU : U ≠ T) (hU8 : U ≠ 5) (hm : Moved w w' g A B) : w'.heap[gb]? = some (.cells bx U (0, 0)) := by
  refine (hm.keep.block gb (Array.getElem?_eq_some_iff.1 hb).1 ?_).trans hb
  rintro (e | e)
  · subst e
    rw [ha.cells] at hb
    injection hb with hb
    injection hb with _ hb
    exact hU hb.symm
  · obtain ⟨cur, h1⟩ := ha.own.cells_ e
    rw [hb] at h1
    injection h1 with h1
    injection h1 with _ h1
    exact hU8 h1
theorem own_keep {T : TypeId} {base base' : Nat} (ho : OBs w base' X n cx bs) (ha : DK T w base g A c σ) (hx : ∀ i, blk X = some i → ¬ blk A = some i) (hm : Moved w w' g A B) : OBs w' base' X n cx bs := by
  refine OB.keep ho hm.keep ?_
  rintro i hi (e | e)
  · subst e
    obtain ⟨cur, h1⟩ := ho.cells_ hi
    rw [ha.cells] at h1
    injection h1 with h1
    injection h1 with _ h1
    exact ha.ty h1.symm
  · exact hx i hi e
theorem Tri.left (h : Tri w0 w g A c σ k B d ρ gb bx X n cx bs) (hd : DidT 52 w w0.heap.size g A v υ e w') : ∃ A' c', e = v ∧ Tri w0 w' g A' c' υ k B d ρ gb bx X n cx bs := by
  have hd' := hd
  obtain ⟨A', c', he, h1, h2⟩ := hd'
  refine ⟨A', c', he, ⟨⟨h1, h.two.b.other h.two.a h2 h.two.ne h.two.ap, h.two.ne, h2.apart h.two.b.own h.two.ap, Below.trans h.two.new (h2.below h.two.a (Nat.le_refl _) h.two.size)⟩, own_keep h.own h.two.a h.xa h2, h2.apart h.own h.xa, h.xb, box_keep h.box h.two.a (by decide) (by decide) h2⟩⟩
theorem Tri.right (h : Tri w0 w g A c σ k B d ρ gb bx X n cx bs) (hd : DidT 44 w w0.heap.size k B v υ e w') : ∃ B' d', e = v ∧ Tri w0 w' g A c σ k B' d' υ gb bx X n cx bs := by
  have hd' := hd
  obtain ⟨B', d', he, h1, h2⟩ := hd'
  obtain ⟨B'', d'', he', ht⟩ := h.two.right ⟨B', d', he, h1, h2⟩
  refine ⟨B', d', he, ⟨?_, own_keep h.own h.two.b h.xb h2, h.xa, h2.apart h.own h.xb, box_keep h.box h.two.b (by decide) (by decide) h2⟩⟩
  have hs := h.two.swap
  exact Two.swap ⟨h1, hs.b.other hs.a h2 hs.ne hs.ap, hs.ne, h2.apart hs.b.own hs.ap, Below.trans hs.new (h2.below hs.a (Nat.le_refl _) hs.size)⟩
theorem Tri.drew (h : Tri w0 w g A c σ k B d ρ gb bx X n cx bs) : Tri w0 w.drew g A c σ k B d ρ gb bx X n cx bs :=
  ⟨h.two.also (Below.drew (New.refl w)), h.own.drew, h.xa, h.xb, h.box⟩
theorem Tri.cell (h : Tri w0 w g A c σ k B d ρ gb bx X n cx bs) (j : Nat) : w.cell? ⟨gb, j, none⟩ = bx[j]? := cell_of_row w gb j _ _ _ h.box
/-- the bytes beside written over -/
theorem Tri.spoil {S : Nat → Prop} (h : Tri w0 w g A c σ k B d ρ gb bx X n cx bs) (hk : Keep S w w') (hS : ∀ i, S i → blk X = some i) : Two 52 44 w0 w' g A c σ k B d ρ := by
  have hg : ∀ {T : TypeId} {base f c' : Nat} {C : Option Addr} {τ : St}, DK T w base f C c' τ → ¬ S f := by
    intro T base f c' C τ hd hf
    obtain ⟨cur, h1⟩ := h.own.cells_ (hS _ hf)
    rw [hd.cells] at h1
    injection h1 with h1
    injection h1 with _ h1
    exact hd.ty h1.symm
  exact ⟨h.two.a.keep hk (hg h.two.a) fun i hi hs => h.xa i (hS i hs) hi, h.two.b.keep hk (hg h.two.b) fun i hi hs => h.xb i (hS i hs) hi, h.two.ne, h.two.ap, Below.trans h.two.new (hk.below h.two.size fun i hi => (OB.lt h.own (hS i hi)).1)⟩
end
end Go.Proofs.Ytnhoofcllijmiaa
