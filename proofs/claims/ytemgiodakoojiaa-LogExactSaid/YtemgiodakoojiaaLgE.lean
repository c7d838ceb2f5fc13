/- journal.Log.found: what it does. -/
import Derived.Test.YtemgiodakoojiaaLgD
namespace Go.Proofs.Ytemgiodakoojiaa
open Go.RowKit
open Go.Proofs.Ytemgiodakoojiaa.Frm
/-- a log behind found -/
def FoundAt (O : Nat → Prop) (w0 : World) (g dg : Nat) (A : Option Addr) (c : Nat) (σ : St) (b : Bool) (snap : List UInt8) (recs : List (List UInt8)) (e : Ending) (w' : World) : Prop := e = .returned (.bool b) ∧ LogAt O w0 w' g dg A c σ snap recs
set_option maxHeartbeats 4000000 in
theorem found_rec {O : Nat → Prop} {w0 w : World} {g dg c : Nat} {A : Option Addr} {σ : St} {snap : List UInt8} {recs : List (List UInt8)} (h : LogAt O w0 w g dg A c σ snap recs) (pg d : Nat) (t : List UInt8) (fi : Bool) (hd : 1 + t.length ≤ d) (hdm : d ≤ maxLen) (hk : Kept O w A (some ⟨pg, 0, none⟩) (82 :: t)) (hrn : recs.length ≤ 1000000) :
    Calls Try.prog 42 #[.pointer (some ⟨g, 0, none⟩), .slice (some ⟨pg, 0, none⟩) (1 + t.length) d, .bool fi] w (FoundAt O w0 g dg A c σ true snap (recs ++ [t])) := by
  have c0 : w.cell? ⟨pg, 0, none⟩ = some (.int .u8 82) := by
    obtain ⟨ad, e, hc⟩ := hk.1 0 82 rfl
    cases e
    exact hc
  obtain ⟨S2, sc2, R2, rc2, hc2, hs1, hs2, hs3, xs, hrows⟩ := h.cells
  have hown := hrows.1
  have HFIN : Hid (∀ (B : Option Addr) (d : Nat) (R3 : Option Addr) (rc3 : Nat) (w3 : World) (o : Obj), Kept O w A B t → t.length ≤ d → d ≤ maxLen → Own w3 0 30 R3 (recs.length + 1) rc3 (xs ++ [.slice B t.length d]) → ((w.drew).alloc o).grownBy w3 (blk R2) → (blk R3 = blk R2 ∨ blk R3 = some (w.drew.heap.size + 1)) → LogAt O w0 (w3.setCell ⟨g, 2, none⟩ (.slice R3 (recs.length + 1) rc3)) g dg A c σ snap (recs ++ [t])) :=
    fun B d R3 rc3 w3 o hB hBd hdm ho3 hg3 hR3 => log_push h hc2 hs1 hs2 hs3 hrows hB hBd hdm ho3 hg3 hR3
  obtain ⟨n, hn⟩ : ∃ n, n = recs.length := ⟨_, rfl⟩
  obtain ⟨sn, hsn⟩ : ∃ sn, sn = snap.length := ⟨_, rfl⟩
  rw [← hn, ← hsn] at hc2
  rw [← hn] at hown HFIN
  have g2 : w.cell? ⟨g, 2, none⟩ = some (.slice R2 n rc2) := cell_of_row _ _ 2 _ _ _ hc2
  have gf : ∀ j, w.frozen? ⟨g, j, none⟩ = false := fun j => frozen_of_row _ _ j _ _ hc2
  have HC := Lib.hid hc2
  have HN := Lib.hid hn
  have HOW := Lib.hid hown
  have HKQ := Lib.hid hk
  have HD := Lib.hid hd
  have HDM := Lib.hid hdm
  have hrn' : n ≤ 1000000 := by rw [hn]; exact hrn
  have e2 : (1 : Int) + (t.length : Int) ≤ (d : Int) := by omega
  clear h hc2 hs1 hs2 hs3 hown hrows hn hsn hrn hk hd hdm
  have e1 : (1 : Int) ≤ 1 + (t.length : Int) := by omega
  have HNR : Hid (¬ blk R2 = some g) := by
    intro hb
    obtain ⟨cur, h1⟩ := Own.cells_ HOW.out hb
    rw [HC.out] at h1
    injection h1 with h1
    injection h1 with _ h1
    exact absurd h1 (by decide)
  have HG3 : Hid (∀ (o : Obj) (w3 : World), ((w.drew).alloc o).grownBy w3 (blk R2) → w3.heap[g]? = some (.cells #[.pointer (some ⟨dg, 0, none⟩), .slice S2 sn sc2, .slice R2 n rc2] 64 (0, 0))) := by
    intro o w3 hg3
    have hlt := (Array.getElem?_eq_some_iff.1 HC.out).1
    refine ((Keep.of_grown hg3).block g (by rw [World.size_alloc]; exact Nat.lt_succ_of_lt hlt) HNR.out).trans ?_
    exact ((Below.alloc (Below.refl w.drew.heap.size w.drew) (Nat.le_refl _) o).block g hlt).trans HC.out
  have ga : ∀ o, (w.alloc o).cell? ⟨g, 2, none⟩ = some (.slice R2 n rc2) := fun o => ((Below.alloc (Below.refl w.heap.size w) (Nat.le_refl _) o).cell (World.block_lt_of_cell? _ _ g2)).trans g2
  by_cases hpc : d = 1
  · subst hpc
    have ht0 : t = [] := List.eq_nil_of_length_eq_zero (by omega)
    subst ht0
    go_enter Try.func42, Try.ntmps42
    go_wp2_with fail
    go_region_law ((refine step_append_row w.drew rfl (.tmp 19) (.tmp 22) _ rfl 0 _ u_rows i_bytes R2 n rc2 xs rfl (Own.drew HOW.out) (.slice (some ⟨pg, 0, none⟩) 0 0) rfl rfl rfl (by omega) (Nat.zero_le _) ?_; intro R3 rc3 w3 ho3 hg3 hR3; have c3 : w3.cell? ⟨g, 2, none⟩ = some (.slice R2 n rc2) := cell_of_row _ _ 2 _ _ _ (HG3.out _ _ hg3); have f3 : w3.frozen? ⟨g, 2, none⟩ = false := frozen_of_row _ _ 2 _ _ (HG3.out _ _ hg3)))
    all_goals
      have hfin := HFIN.out (some ⟨pg, 0, none⟩) 0 _ _ _ _ (HKQ.out.drop1 0 (fun h => absurd rfl h)) (Nat.le_refl _) (Nat.zero_le _) ho3 hg3 hR3
      have HF := Lib.hid hfin
      clear hfin ho3 hg3 hR3 c3 f3
      go_wp2_with fail
      go_ret
      exact ⟨rfl, HF.out⟩
  · skip
    go_enter Try.func42, Try.ntmps42
    go_wp2_with fail
    go_region_law ((refine step_append_row w.drew rfl (.tmp 19) (.tmp 22) _ rfl 0 _ u_rows i_bytes R2 n rc2 xs rfl (Own.drew HOW.out) (.slice (some ⟨pg, 1, none⟩) t.length (d - 1)) rfl rfl rfl (by omega) (Nat.zero_le _) ?_; intro R3 rc3 w3 ho3 hg3 hR3; have c3 : w3.cell? ⟨g, 2, none⟩ = some (.slice R2 n rc2) := cell_of_row _ _ 2 _ _ _ (HG3.out _ _ hg3); have f3 : w3.frozen? ⟨g, 2, none⟩ = false := frozen_of_row _ _ 2 _ _ (HG3.out _ _ hg3)))
    all_goals
      have hfin := HFIN.out _ _ _ _ _ _ (HKQ.out.drop1 1 (fun _ => rfl)) (by omega) (by have := HDM.out; omega) ho3 hg3 hR3
      have HF := Lib.hid hfin
      clear hfin ho3 hg3 hR3 c3 f3
      go_wp2_with fail
      go_ret
      exact ⟨rfl, HF.out⟩
/-- a snapshot ahead of all records -/
theorem log_snap {O : Nat → Prop} {w0 w : World} {g dg c d : Nat} {A B : Option Addr} {σ : St} {snap t : List UInt8} {recs : List (List UInt8)} (h : LogAt O w0 w g dg A c σ snap recs) (hB : Kept O w A B t) (hBd : t.length ≤ d) (hdm : d ≤ maxLen) :
    LogAt O w0 (w.setCell ⟨g, 1, none⟩ (.slice B t.length d)) g dg A c σ t recs := by
  obtain ⟨S, sc, R, rc, hc, h1, h2, h3, xs, h5, h7, h6⟩ := h.cells
  have hk : Keep (fun i => i = g) w (w.setCell ⟨g, 1, none⟩ (.slice B t.length d)) := Keep.setAt _ _ _ _
  have hT : ∀ {cur : Array Value} {T : TypeId} {fr : Nat × Nat}, w.heap[g]? = some (.cells cur T fr) → T = 64 := by
    intro cur T fr h
    rw [hc] at h
    injection h with h
    injection h with _ h
    exact h.symm
  have hu : ∀ i, i = g → (∀ cur, w.heap[i]? ≠ some (.cells cur 5 (0, 0))) ∨ blk A = some i ∨ ¬ O i := by
    intro i hi
    refine .inl fun cur hcu => ?_
    rw [hi] at hcu
    exact absurd (hT hcu) (by decide)
  refine ⟨⟨h.a.keep hk (fun hs => ?_) (fun i hi hs => ?_), h.fr.trans_new hk ?_, h.up, h.od, h.oA⟩, ⟨B, d, R, rc, ?_, hBd, hdm, hB.keep hk hu (.inl rfl), xs, h5.keep hk ?_, h7, fun j l hj => ?_⟩, h.le⟩
  · have hg : dg = g := hs
    have hce := h.a.cells
    rw [hg] at hce
    exact absurd (hT hce) (by decide)
  · obtain ⟨cur, hcu⟩ := h.a.own.cells_ hi
    have hg : i = g := hs
    rw [hg] at hcu
    exact absurd (hT hcu) (by decide)
  · rintro i rfl _
    exact h.le
  · rw [dk_set hc]
    rfl
  · rintro i hi hs
    obtain ⟨cur, hcu⟩ := h5.cells_ hi
    have hg : i = g := hs
    rw [hg] at hcu
    exact absurd (hT hcu) (by decide)
  · obtain ⟨B', d', g1, g2, g3, g4⟩ := h6 j l hj
    exact ⟨B', d', g1, g2, g3, g4.keep hk hu (.inl rfl)⟩
set_option maxHeartbeats 1000000 in
theorem found_snap {O : Nat → Prop} {w0 w : World} {g dg c : Nat} {A : Option Addr} {σ : St} {snap : List UInt8} {recs : List (List UInt8)} (h : LogAt O w0 w g dg A c σ snap recs) (pg d : Nat) (t : List UInt8) (hd : 1 + t.length ≤ d) (hdm : d ≤ maxLen) (hk : Kept O w A (some ⟨pg, 0, none⟩) (83 :: t)) :
    Calls Try.prog 42 #[.pointer (some ⟨g, 0, none⟩), .slice (some ⟨pg, 0, none⟩) (1 + t.length) d, .bool true] w (FoundAt O w0 g dg A c σ true t recs) := by
  have c0 : w.cell? ⟨pg, 0, none⟩ = some (.int .u8 83) := by
    obtain ⟨ad, e, hc⟩ := hk.1 0 83 rfl
    cases e
    exact hc
  have HFIN : Hid (∀ (B : Option Addr) (d : Nat), Kept O w A B t → t.length ≤ d → d ≤ maxLen → LogAt O w0 (w.setCell ⟨g, 1, none⟩ (.slice B t.length d)) g dg A c σ t recs) :=
    fun B d hB hBd hdm => log_snap h hB hBd hdm
  obtain ⟨S2, sc2, R2, rc2, hc2, _, _, _, _⟩ := h.cells
  have g1 : ∃ v, w.cell? ⟨g, 1, none⟩ = some v := ⟨_, cell_of_row _ _ 1 _ _ _ hc2⟩
  obtain ⟨v1, g1⟩ := g1
  have gf : ∀ j, w.frozen? ⟨g, j, none⟩ = false := fun j => frozen_of_row _ _ j _ _ hc2
  have HKQ := Lib.hid hk
  have HDM := Lib.hid hdm
  have e2 : (1 : Int) + (t.length : Int) ≤ (d : Int) := by omega
  have e1 : (1 : Int) ≤ 1 + (t.length : Int) := by omega
  clear h hc2 hk hdm
  by_cases hpc : d = 1
  · subst hpc
    have ht0 : t = [] := List.eq_nil_of_length_eq_zero (by omega)
    subst ht0
    go_enter Try.func42, Try.ntmps42
    go_wp2_with fail
    go_ret
    exact ⟨rfl, HFIN.out _ _ (HKQ.out.drop1 0 (fun h => absurd rfl h)) (Nat.le_refl _) (Nat.zero_le _)⟩
  · skip
    go_enter Try.func42, Try.ntmps42
    go_wp2_with fail
    go_ret
    exact ⟨rfl, HFIN.out _ _ (HKQ.out.drop1 1 (fun _ => rfl)) (by omega) (by have := HDM.out; omega)⟩
/-- no payload of a journal -/
theorem found_nil (g : Nat) (P : Option Addr) (d : Nat) (fi : Bool) (w : World) :
    Calls Try.prog 42 #[.pointer (some ⟨g, 0, none⟩), .slice P 0 d, .bool fi] w fun e w' => e = .returned (.bool false) ∧ w = w' := by
  go_enter Try.func42, Try.ntmps42
  go_wp2_with fail
  go_ret
  exact ⟨rfl, rfl⟩
set_option maxHeartbeats 1000000 in
theorem found_other (g pg n d : Nat) (x : Nat) (fi : Bool) (w : World) (hc : w.cell? ⟨pg, 0, none⟩ = some (.int .u8 x)) (hx : ¬ (x : Int) = 82) (hxs : ¬ (x : Int) = 83 ∨ fi = false) :
    Calls Try.prog 42 #[.pointer (some ⟨g, 0, none⟩), .slice (some ⟨pg, 0, none⟩) (1 + n) d, .bool fi] w fun e w' => e = .returned (.bool false) ∧ w = w' := by
  have e1 : (1 : Int) ≤ 1 + (n : Int) := by omega
  by_cases h83 : (x : Int) = 83
  · have hfi : fi = false := by
      rcases hxs with h | h
      · exact absurd h83 h
      · exact h
    subst hfi
    have : x = 83 := by omega
    subst this
    clear hx hxs h83
    go_enter Try.func42, Try.ntmps42
    go_wp2_with fail
    go_ret
    exact ⟨rfl, rfl⟩
  · clear hxs
    go_enter Try.func42, Try.ntmps42
    go_wp2_with fail
    go_ret
    exact ⟨rfl, rfl⟩
end Go.Proofs.Ytemgiodakoojiaa
