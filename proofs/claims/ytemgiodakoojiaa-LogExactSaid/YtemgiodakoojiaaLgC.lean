/- journal.Log: Recs, Snap, Sync; Open of an empty disk: what they do. -/
import Derived.Test.YtemgiodakoojiaaLgB
namespace Go.Proofs.Ytemgiodakoojiaa
open Go.RowKit
open Go.Proofs.Ytemgiodakoojiaa.Frm
/-- what Recs tells: the records, in new memory -/
def Listed (w : World) (recs : List (List UInt8)) (e : Ending) (w' : World) : Prop := ∃ A c, e = .returned (.slice A recs.length c) ∧ ORs w' w.heap.size A recs.length c recs ∧ New w w'
set_option maxHeartbeats 4000000 in
theorem recs_any {O : Nat → Prop} {w0 w : World} {g dg c : Nat} {A : Option Addr} {σ : St} {snap : List UInt8} {recs : List (List UInt8)} (h : LogAt O w0 w g dg A c σ snap recs) (hrn : recs.length ≤ 1000000) (hrb : ∀ l ∈ recs, l.length ≤ 1000000) :
    Calls Try.prog 17 #[.pointer (some ⟨g, 0, none⟩)] w (Listed w recs) := by
  obtain ⟨i, hi, hz0, hz1, hz2⟩ := info_parts i_bytes
  obtain ⟨S, sc, R, rc, hc, _, _, _, xs, hown, _, hrows⟩ := h.cells
  obtain ⟨n, hn⟩ : ∃ n, n = recs.length := ⟨_, rfl⟩
  rw [← hn] at hc hown hrn
  have g2 : w.cell? ⟨g, 2, none⟩ = some (.slice R n rc) := cell_of_row _ _ 2 _ _ _ hc
  have HN := Lib.hid hn
  have HOW := Lib.hid hown
  have HRW := Lib.hid hrows
  have HRB := Lib.hid hrb
  have hglt := (Array.getElem?_eq_some_iff.1 hc).1
  clear h hc hown hrows hrb hn
  go_enter Try.func17, Try.ntmps17
  go_wp2_with (at_make; refine wpList_make_full _ rfl _ _ _ rfl w.heap.size _ i (.slice none 0 0) 1 u_rows hi hz0 hz1 _ _ _ _ n rfl rfl (by omega) (by omega) (by rw [hz2]; omega) (by unfold maxLen; omega) (Nat.le_refl _) ?_; intro w1 hmk hg1; refine stop ?_)
  have hn1 : New w w1 := (Below.refl _ _).grown hg1 (Nat.le_refl _) (by simp)
  have g21 : w1.cell? ⟨g, 2, none⟩ = some (.slice R n rc) := (hn1.cell (World.block_lt_of_cell? _ _ g2)).trans g2
  obtain ⟨nb, hnb⟩ : ∃ nb, nb = w.heap.size := ⟨_, rfl⟩
  obtain ⟨ys0, hys0⟩ : ∃ ys0, ys0 = (madeCells (Value.slice none 0 0).cells (n * 1)).toList := ⟨_, rfl⟩
  rw [← hys0, ← hnb] at hmk
  have hmk' : Own w1 nb 30 (some ⟨nb, 0, none⟩) n n ys0 := hmk
  have HMK := Lib.hid hmk'
  rw [← hnb]
  have HNB := Lib.hid hnb
  refine go ?_
  clear hmk hmk' hg1 hi hz0 hz1 hz2 hys0 hnb g2
  go_wp2_with fail
  go_loopw [17] (fun x wr => ∃ (j : Nat) (ys : List Value), x = .int .i64 j ∧ j ≤ n ∧ Hid (Own wr nb 30 (some ⟨nb, 0, none⟩) n n ys) ∧ Hid (∀ (i : Nat) (l : List UInt8), i < j → recs[i]? = some l → ∃ B d, ys[i]? = some (.slice B l.length d) ∧ OBs wr nb B l.length d l) ∧ New w wr) (fun x _ => n - (intOf x).toNat)
  case atStart => exact ⟨0, ys0, rfl, Nat.zero_le _, HMK, (fun i l hi => absurd hi (by omega)), hn1⟩
  case round =>
    obtain ⟨j, ys, rfl, hj, HO, HD, hnew⟩ := hrel
    by_cases hlt : j < n
    · obtain ⟨l, hl⟩ : ∃ l, recs[j]? = some l := ⟨_, List.getElem?_eq_getElem (by rw [← HN.out]; exact hlt)⟩
      obtain ⟨B, d, hx, hld, hdm, hkp⟩ := HRW.out j l hl
      have hlb := HRB.out l (List.mem_of_getElem? hl)
      obtain ⟨rg, rfl⟩ : ∃ rg, R = some ⟨rg, 0, none⟩ := by
        rcases Own.form HOW.out with ⟨_, h0, _⟩ | ⟨rg, h0, _⟩
        · omega
        · exact ⟨rg, h0⟩
      obtain ⟨q, hq⟩ : ∃ q, q = l.length := ⟨_, rfl⟩
      rw [← hq] at hx hlb
      have hcl0 : w.cell? ⟨rg, j, none⟩ = some (.slice B q d) := by rw [Own.at_ HOW.out rfl hlt]; exact hx
      have hcl : wr.cell? ⟨rg, j, none⟩ = some (.slice B q d) := (hnew.cell (World.block_lt_of_cell? _ _ hcl0)).trans hcl0
      have hrb := hkp.1.new hnew
      have HL := Lib.hid hl
      have HQ := Lib.hid hq
      clear hl hx hld hkp hcl0 hq
      go_wp2_with fail
      refine (clone_any B q d l wr HQ.out hrb (by omega)).mono ?_
      rintro e w3 ⟨C, cc, rfl, hoc, hw3⟩
      have hO3 : Own w3 nb 30 (some ⟨nb, 0, none⟩) n n ys := HO.out.new hw3
      have hcn : ∃ v, w3.cell? ⟨nb, j, none⟩ = some v := by
        rw [Own.at_ hO3 rfl hlt]
        exact ⟨_, List.getElem?_eq_getElem (by rw [hO3.len]; exact hlt)⟩
      obtain ⟨v, hv⟩ := hcn
      have hfn := Own.frozen hO3 rfl j
      have HO4 : Hid (Own (w3.setCell ⟨nb, j, none⟩ (.slice C q cc)) nb 30 (some ⟨nb, 0, none⟩) n n (ys.set j (.slice C q cc))) := Own.set_ hO3 rfl j _
      have hfar : ∀ {B : Option Addr} {m d : Nat} {l : List UInt8}, OBs w3 nb B m d l → OBs (w3.setCell ⟨nb, j, none⟩ (.slice C q cc)) nb B m d l := fun ho => OB.keep ho (Keep.setAt _ _ _ _) fun i hi e => by
        subst e
        exact Own.apart ho hO3 (by decide) _ hi rfl
      have HD4 : Hid (∀ (i : Nat) (l : List UInt8), i < j + 1 → recs[i]? = some l → ∃ B d, (ys.set j (.slice C q cc))[i]? = some (.slice B l.length d) ∧ OBs (w3.setCell ⟨nb, j, none⟩ (.slice C q cc)) nb B l.length d l) := by
        intro i l' hi hl'
        by_cases hij : i = j
        · subst hij
          have hll := HL.out
          rw [hl'] at hll
          cases hll
          refine ⟨C, cc, ?_, ?_⟩
          · rw [List.getElem?_set_self (by rw [hO3.len]; exact hlt), HQ.out]
          · rw [← HQ.out]
            exact hfar (OB.base_le hoc (by rw [HNB.out]; exact hnew.size))
        · obtain ⟨B', d', k1, k2⟩ := HD.out i l' (by omega) hl'
          exact ⟨B', d', by rw [List.getElem?_set_ne (fun e => hij e.symm)]; exact k1, hfar (k2.new hw3)⟩
      have HN4 : Hid (New w (w3.setCell ⟨nb, j, none⟩ (.slice C q cc))) := Below.setCell (New.trans hnew hw3) (by show w.heap.size ≤ nb; rw [HNB.out]; exact Nat.le_refl _) _
      clear hO3 hoc hw3 hrb hcl hfar
      go_wp2_with fail
      go_roundw
      case rel => exact ⟨j + 1, _, by go_num, by omega, HO4, HD4, HN4.out⟩
      case measure => simp [intOf]; omega
    · have hjn : j = n := by omega
      subst hjn
      go_wp2_with fail
      go_ret
      have hb : nb = w.heap.size := HNB.out
      subst hb
      have hnr : j = recs.length := HN.out
      subst hnr
      exact ⟨_, _, rfl, ⟨ys, HO.out, rfl, fun i l hl => HD.out i l (List.getElem?_eq_some_iff.1 hl).1 hl⟩, hnew⟩
end Go.Proofs.Ytemgiodakoojiaa
