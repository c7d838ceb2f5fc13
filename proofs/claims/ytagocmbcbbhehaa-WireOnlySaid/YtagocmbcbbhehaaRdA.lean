/- A reader in memory; pack.NewReader, Reader.Uint, Reader.Done: what they do. -/
import Derived.Test.YtagocmbcbbhehaaPkB
import Derived.Test.YtagocmbcbbhehaaRd
namespace Go.Proofs.Ytagocmbcbbhehaa
open Go.RowKit
/-- block g is a reader (its type is T) that has the bytes l left, at A, and the error e; the bytes lie in a block from lo on, other than g -/
structure RK (T : TypeId) (w : World) (lo g : Nat) (A : Option Addr) (c : Nat) (l : List UInt8) (e : Int) : Prop where
  cells : w.heap[g]? = some (.cells #[.slice A l.length c, .int .i64 e] T)
  rb : RB w A l
  low : ∀ ad, A = some ad → ad.block < g ∧ lo ≤ ad.block
  le : lo ≤ g
  cap : l.length ≤ c ∧ c ≤ maxLen
section
variable {T : TypeId} {w w' : World} {lo g c : Nat} {A : Option Addr} {l : List UInt8} {e : Int}
theorem RK.far (h : RK T w lo g A c l e) (ad : Addr) (hA : A = some ad) : ad.block ≠ g ∧ lo ≤ ad.block := ⟨Nat.ne_of_lt (h.low ad hA).1, (h.low ad hA).2⟩
theorem RK.lt (h : RK T w lo g A c l e) : g < w.heap.size := (Array.getElem?_eq_some_iff.1 h.cells).1
theorem RK.c0 (h : RK T w lo g A c l e) : w.cell? ⟨g, 0, none⟩ = some (.slice A l.length c) := cell_of_row w g 0 _ _ _ h.cells
theorem RK.c1 (h : RK T w lo g A c l e) : w.cell? ⟨g, 1, none⟩ = some (.int .i64 e) := cell_of_row w g 1 _ _ _ h.cells
theorem RK.fr (h : RK T w lo g A c l e) (j : Nat) : w.frozen? ⟨g, j, none⟩ = false := frozen_of_row w g j _ _ h.cells
theorem RK.new (h : RK T w lo g A c l e) (hn : New w w') : RK T w' lo g A c l e := ⟨(hn.block g h.lt).trans h.cells, h.rb.new hn, h.low, h.le, h.cap⟩
theorem RK.drewN (h : RK T w lo g A c l e) (n : Nat) : RK T (w.drewN n) lo g A c l e := ⟨h.cells, h.rb, h.low, h.le, h.cap⟩
end
abbrev RKp (w : World) (lo g : Nat) (A : Option Addr) (c : Nat) (l : List UInt8) (e : Int) : Prop := RK 167 w lo g A c l e
/-- what a reading call leaves: v told, the reader with l and e, nothing else changed but new memory -/
def Got (T : TypeId) (w : World) (lo g : Nat) (v : Ending) (l : List UInt8) (x : Int) (e : Ending) (w' : World) : Prop := e = v ∧ (∃ A c, RK T w' lo g A c l x) ∧ Keep (fun i => i = g) w w'
abbrev Gotp (w : World) (lo g : Nat) (v : Ending) (l : List UInt8) (x : Int) (e : Ending) (w' : World) : Prop := Got 167 w lo g v l x e w'
set_option maxHeartbeats 400000 in
theorem newr_rk (B : Option Addr) (m d : Nat) (k : List UInt8) (w : World) (hm : m = k.length) (hk : RB w B k) (hb : m ≤ 140737488355328) :
    Calls Try.prog 51 #[.slice B m d] w fun e w' => ∃ g A c, e = .returned (.pointer (some ⟨g, 0, none⟩)) ∧ RKp w' w.heap.size g A c k 0 ∧ New w w' := by
  have HM := Lib.hid hm
  clear hm
  go_enter Try.func51, Try.ntmps51
  go_wp2_with fail
  refine (clone_any B m d k w HM.out hk hb).mono ?_
  rintro e w1 ⟨A, c, rfl, ho, hw⟩
  go_wp2_with fail
  go_ret
  have hm : m = k.length := HM.out
  subst hm
  refine ⟨w1.heap.size, A, c, rfl, ⟨heap_alloc_new w1 _, ho.rb.alloc _, ?_, hw.size, ho.le⟩, Below.alloc hw hw.size _⟩
  rintro ad rfl
  have := OB.lt ho (k := ad.block) rfl
  omega
set_option maxHeartbeats 400000 in
theorem done_rk {lo g c : Nat} {A : Option Addr} {l : List UInt8} {e : Int} {w : World} (h : RKp w lo g A c l e) (x : Int) (hx : (if e = 0 ∧ 0 < l.length then 4 else e) = x) :
    Calls Try.prog 52 #[.pointer (some ⟨g, 0, none⟩)] w fun e w' => e = .returned (.int .i64 x) ∧ w = w' := by
  have h0 := h.c0
  have h1 := h.c1
  clear h
  obtain ⟨n, hn⟩ : ∃ n, n = l.length := ⟨_, rfl⟩
  rw [← hn] at h0 hx
  clear hn
  by_cases he : e = 0
  · subst he
    by_cases hl : (0 : Int) < (n : Int)
    · rw [if_pos ⟨rfl, by omega⟩] at hx
      subst hx
      go_enter Try.func52, Try.ntmps52
      go_wp2_with fail
      go_ret
      exact ⟨rfl, rfl⟩
    · rw [if_neg (by omega)] at hx
      subst hx
      have hd : decide ((0 : Int) < (n : Int)) = false := by simpa using hl
      go_enter Try.func52, Try.ntmps52
      go_wp2_with fail
      go_ret
      exact ⟨rfl, rfl⟩
  · rw [if_neg (fun h => he h.1)] at hx
    subst hx
    have hd : (e == 0) = false := by rw [beq_eq_false_iff_ne]; exact he
    go_enter Try.func52, Try.ntmps52
    go_wp2_with fail
    go_ret
    exact ⟨rfl, rfl⟩
end Go.Proofs.Ytagocmbcbbhehaa
