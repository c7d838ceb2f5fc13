/- journal.Log: Append: what it does. -/
import Derived.Test.YtemgiodakoojiaaLgA
import Derived.Deep.RegionLaw
namespace Go.Proofs.Ytemgiodakoojiaa
open Go.RowKit
open Go.Proofs.Ytemgiodakoojiaa.Frm
/-- a record more in a log -/
def Appended (O : Nat → Prop) (w0 : World) (g dg : Nat) (σ : St) (snap : List UInt8) (recs : List (List UInt8)) (e : Ending) (w' : World) : Prop := ∃ A' c', e = .returned (.int .i64 0) ∧ LogAt O w0 w' g dg A' c' σ snap recs
set_option maxHeartbeats 4000000 in
theorem lg_append {O : Nat → Prop} {w0 w : World} {g dg c : Nat} {A : Option Addr} {l : List UInt8} {s : Nat} {tr : Bool} {k : Int} {snap : List UInt8} {recs : List (List UInt8)} (h : LogAt O w0 w g dg A c ⟨l, s, false, tr, k⟩ snap recs) (B : Option Addr) (m d : Nat) (t : List UInt8) (hm : m = t.length) (hr : RB w B t) (hmd : m ≤ 131071) (hmax : l.length + 9 + m ≤ 140737488355328) (hrn : recs.length ≤ 1000000) :
    Calls Try.prog 13 #[.pointer (some ⟨g, 0, none⟩), .slice B m d] w (Appended O w0 g dg ⟨l ++ seal_ (82 :: t), s, false, tr, k⟩ snap (recs ++ [t])) := by
  have HLY := Lib.hid (lay_yes 82 B m d t w hm hr hmd)
  have H := Lib.hid h
  have HM := Lib.hid hm
  have HAlt : Hid (∀ i, blk A = some i → i < w.heap.size) := fun i hi => (OB.lt h.a.own hi).2
  clear h hm hr
  go_enter Try.func13, Try.ntmps13
  go_wp2_with fail
  refine HLY.out.mono ?_
  rintro e w1 ⟨P, pc, F, fc, rfl, hP, hF, hw1⟩
  have h1 := H.out.also hw1
  obtain ⟨S, sc, R, rc, hc1, _, _, _, _⟩ := h1.cells
  have k0 : w1.cell? ⟨g, 0, none⟩ = some (.pointer (some ⟨dg, 0, none⟩)) := cell_of_row _ _ 0 _ _ _ hc1
  have hKP : Kept O w1 A P (82 :: t) := Kept.own hP HAlt.out H.out.upw
  have hple := hP.le
  obtain ⟨pg, rfl⟩ : ∃ pg, P = some ⟨pg, 0, none⟩ := by
    rcases Own.form hP with ⟨_, h, _⟩ | ⟨pg, h, _⟩
    · omega
    · exact ⟨pg, h⟩
  have hlen : 9 + t.length = (seal_ (82 :: t)).length := by rw [seal_length, List.length_cons]; omega
  have HAP := Lib.hid (append_dk h1.a F (9 + t.length) fc (seal_ (82 :: t)) hlen hF.rb (by show l.length + _ ≤ _; have : m = t.length := HM.out; omega) (Nat.zero_le _) 0 ⟨l ++ seal_ (82 :: t), s, false, tr, k⟩ rfl)
  have H1 := Lib.hid h1
  have HKP := Lib.hid hKP
  clear h1 hc1 hP hF hw1 hKP hlen
  go_wp2_with fail
  refine HAP.out.mono ?_
  intro e w2 hd
  obtain ⟨A2, c2, rfl, k1, hmv⟩ := hd
  have hKq := HKP.out.moved H1.out.a hmv
  have h2 := H1.out.moved k1 hmv
  obtain ⟨S2, sc2, R2, rc2, hc2, hs1, hs2, hs3, xs, hrows⟩ := h2.cells
  have hown := hrows.1
  have HFIN : Hid (∀ (B : Option Addr) (d : Nat) (R3 : Option Addr) (rc3 : Nat) (w3 : World) (o : Obj), Kept O w2 A2 B t → t.length ≤ d → d ≤ maxLen → Own w3 0 30 R3 (recs.length + 1) rc3 (xs ++ [.slice B t.length d]) → ((w2.drew).alloc o).grownBy w3 (blk R2) → (blk R3 = blk R2 ∨ blk R3 = some (w2.drew.heap.size + 1)) → LogAt O w0 (w3.setCell ⟨g, 2, none⟩ (.slice R3 (recs.length + 1) rc3)) g dg A2 c2 ⟨l ++ seal_ (82 :: t), s, false, tr, k⟩ snap (recs ++ [t])) :=
    fun B d R3 rc3 w3 o hB hBd hdm ho3 hg3 hR3 => log_push h2 hc2 hs1 hs2 hs3 hrows hB hBd hdm ho3 hg3 hR3
  obtain ⟨n, hn⟩ : ∃ n, n = recs.length := ⟨_, rfl⟩
  obtain ⟨sn, hsn⟩ : ∃ sn, sn = snap.length := ⟨_, rfl⟩
  rw [← hn, ← hsn] at hc2
  rw [← hn] at hown HFIN
  have g2 : w2.cell? ⟨g, 2, none⟩ = some (.slice R2 n rc2) := cell_of_row _ _ 2 _ _ _ hc2
  have gf : ∀ j, w2.frozen? ⟨g, j, none⟩ = false := fun j => frozen_of_row _ _ j _ _ hc2
  have HC := Lib.hid hc2
  have HN := Lib.hid hn
  have HOW := Lib.hid hown
  have H2 := Lib.hid h2
  have HKQ := Lib.hid hKq
  clear k1 hmv hKq h2 hc2 hs1 hs2 hs3 hown hrows hn hsn k0
  have e1 : (1 : Int) ≤ 1 + (t.length : Int) := by omega
  have HNR : Hid (¬ blk R2 = some g) := by
    intro hb
    obtain ⟨cur, h1⟩ := Own.cells_ HOW.out hb
    rw [HC.out] at h1
    injection h1 with h1
    injection h1 with _ h1
    exact absurd h1 (by decide)
  have HG3 : Hid (∀ (o : Obj) (w3 : World), ((w2.drew).alloc o).grownBy w3 (blk R2) → w3.heap[g]? = some (.cells #[.pointer (some ⟨dg, 0, none⟩), .slice S2 sn sc2, .slice R2 n rc2] 64 (0, 0))) := by
    intro o w3 hg3
    have hlt := (Array.getElem?_eq_some_iff.1 HC.out).1
    refine ((Keep.of_grown hg3).block g (by rw [World.size_alloc]; exact Nat.lt_succ_of_lt hlt) HNR.out).trans ?_
    exact ((Below.alloc (Below.refl w2.drew.heap.size w2.drew) (Nat.le_refl _) o).block g hlt).trans HC.out
  have ga : ∀ o, (w2.alloc o).cell? ⟨g, 2, none⟩ = some (.slice R2 n rc2) := fun o => ((Below.alloc (Below.refl w2.heap.size w2) (Nat.le_refl _) o).cell (World.block_lt_of_cell? _ _ g2)).trans g2
  by_cases hpc : pc = 1
  · subst hpc
    have ht0 : t = [] := List.eq_nil_of_length_eq_zero (by omega)
    subst ht0
    go_wp2_with fail
    go_region_law ((refine step_append_row w2.drew rfl (.tmp 36) (.tmp 39) _ rfl 0 _ u_rows i_bytes R2 n rc2 xs rfl (Own.drew HOW.out) (.slice (some ⟨pg, 0, none⟩) 0 0) rfl rfl rfl (by have : n = recs.length := HN.out; omega) (Nat.zero_le _) ?_; intro R3 rc3 w3 ho3 hg3 hR3; have c3 : w3.cell? ⟨g, 2, none⟩ = some (.slice R2 n rc2) := cell_of_row _ _ 2 _ _ _ (HG3.out _ _ hg3); have f3 : w3.frozen? ⟨g, 2, none⟩ = false := frozen_of_row _ _ 2 _ _ (HG3.out _ _ hg3)))
    all_goals
      have hfin := HFIN.out (some ⟨pg, 0, none⟩) 0 _ _ _ _ (HKQ.out.drop1 0 (fun h => absurd rfl h)) (Nat.le_refl _) (Nat.zero_le _) ho3 hg3 hR3
      have HF := Lib.hid hfin
      clear hfin ho3 hg3 hR3 c3 f3
      go_wp2_with fail
      go_ret
      exact ⟨A2, c2, rfl, HF.out⟩
  · skip
    go_wp2_with fail
    go_region_law ((refine step_append_row w2.drew rfl (.tmp 36) (.tmp 39) _ rfl 0 _ u_rows i_bytes R2 n rc2 xs rfl (Own.drew HOW.out) (.slice (some ⟨pg, 1, none⟩) t.length (pc - 1)) rfl rfl rfl (by have : n = recs.length := HN.out; omega) (Nat.zero_le _) ?_; intro R3 rc3 w3 ho3 hg3 hR3; have c3 : w3.cell? ⟨g, 2, none⟩ = some (.slice R2 n rc2) := cell_of_row _ _ 2 _ _ _ (HG3.out _ _ hg3); have f3 : w3.frozen? ⟨g, 2, none⟩ = false := frozen_of_row _ _ 2 _ _ (HG3.out _ _ hg3)))
    all_goals
      have hfin := HFIN.out _ _ _ _ _ _ (HKQ.out.drop1 1 (fun _ => rfl)) (by omega) (by have := hple.2; omega) ho3 hg3 hR3
      have HF := Lib.hid hfin
      clear hfin ho3 hg3 hR3 c3 f3
      go_wp2_with fail
      go_ret
      exact ⟨A2, c2, rfl, HF.out⟩
end Go.Proofs.Ytemgiodakoojiaa
