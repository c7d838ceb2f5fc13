/- journal.Log: Sync, Snap, Compact, Append of too long a record: what they do. -/
import Derived.Test.YtemgiodakoojiaaLgC
namespace Go.Proofs.Ytemgiodakoojiaa
open Go.RowKit
open Go.Proofs.Ytemgiodakoojiaa.Frm
/-- a log behind something done to it -/
def LogDid (O : Nat → Prop) (w0 : World) (g dg : Nat) (v : Ending) (σ : St) (snap : List UInt8) (recs : List (List UInt8)) (e : Ending) (w' : World) : Prop := ∃ A' c', e = v ∧ LogAt O w0 w' g dg A' c' σ snap recs
theorem lg_sync {O : Nat → Prop} {w0 w : World} {g dg c : Nat} {A : Option Addr} {σ : St} {snap : List UInt8} {recs : List (List UInt8)} (h : LogAt O w0 w g dg A c σ snap recs) (x : Int) (τ : St) (hx : σ.sync = (x, τ)) :
    Calls Try.prog 12 #[.pointer (some ⟨g, 0, none⟩)] w (LogDid O w0 g dg (.returned (.int .i64 x)) τ snap recs) := by
  have hs := Lib.hid (sync_dk h.a x τ hx)
  obtain ⟨S, sc, R, rc, hc, _, _, _, _⟩ := h.cells
  have k0 : w.cell? ⟨g, 0, none⟩ = some (.pointer (some ⟨dg, 0, none⟩)) := cell_of_row _ _ 0 _ _ _ hc
  have H := Lib.hid h
  clear h hc hx
  go_enter Try.func12, Try.ntmps12
  go_wp2_with fail
  refine hs.out.mono ?_
  intro e w2 hd
  obtain ⟨A2, c2, rfl, h2⟩ := H.out.did hd
  have H2 := Lib.hid h2
  clear hd h2
  go_wp2_with fail
  go_ret
  exact ⟨A2, c2, rfl, H2.out⟩
theorem snap_any {O : Nat → Prop} {w0 w : World} {g dg c : Nat} {A : Option Addr} {σ : St} {snap : List UInt8} {recs : List (List UInt8)} (h : LogAt O w0 w g dg A c σ snap recs) (hb : snap.length ≤ 1000000) :
    Calls Try.prog 23 #[.pointer (some ⟨g, 0, none⟩)] w (Copied w snap.length snap) := by
  obtain ⟨S, sc, R, rc, hc, h1, h2, h3, _⟩ := h.cells
  have k1 : w.cell? ⟨g, 1, none⟩ = some (.slice S snap.length sc) := cell_of_row _ _ 1 _ _ _ hc
  have HC := Lib.hid (clone_any S snap.length sc snap w rfl h3.1 (by omega))
  clear h hc h3
  go_enter Try.func23, Try.ntmps23
  go_wp2_with fail
  refine HC.out.mono ?_
  rintro e w2 ⟨C, cc, rfl, ho, hw⟩
  go_wp2_with fail
  go_ret
  exact ⟨C, cc, rfl, ho, hw⟩
theorem lg_append_no (g : Nat) (B : Option Addr) (m d : Nat) (w : World) (hmd : (131071 : Int) < (m : Int)) :
    Calls Try.prog 13 #[.pointer (some ⟨g, 0, none⟩), .slice B m d] w fun e w' => e = .returned (.int .i64 5) ∧ w = w' := by
  have HLY := Lib.hid (lay_no 82 B m d w hmd)
  go_enter Try.func13, Try.ntmps13
  go_wp2_with fail
  refine HLY.out.mono ?_
  rintro e w1 ⟨rfl, rfl⟩
  go_wp2_with fail
  go_ret
  exact ⟨rfl, rfl⟩
theorem lg_compact_no (g : Nat) (B : Option Addr) (m d : Nat) (w : World) (hmd : (131071 : Int) < (m : Int)) :
    Calls Try.prog 26 #[.pointer (some ⟨g, 0, none⟩), .slice B m d] w fun e w' => e = .returned (.int .i64 5) ∧ w = w' := by
  have HLY := Lib.hid (lay_no 83 B m d w hmd)
  go_enter Try.func26, Try.ntmps26
  go_wp2_with fail
  refine HLY.out.mono ?_
  rintro e w1 ⟨rfl, rfl⟩
  go_wp2_with fail
  go_ret
  exact ⟨rfl, rfl⟩
/-- a snapshot in the place of all that a log has -/
theorem log_put {O : Nat → Prop} {w0 w2 : World} {g dg c2 d : Nat} {A2 B : Option Addr} {σ : St} {snap t : List UInt8} {recs : List (List UInt8)} (h : LogAt O w0 w2 g dg A2 c2 σ snap recs) (hB : Kept O w2 A2 B t) (hBd : t.length ≤ d) (hdm : d ≤ maxLen) :
    LogAt O w0 ((w2.setCell ⟨g, 1, none⟩ (.slice B t.length d)).setCell ⟨g, 2, none⟩ (.slice none 0 0)) g dg A2 c2 σ t [] := by
  obtain ⟨S, sc, R, rc, hc, h1, h2, h3, xs, h5⟩ := h.cells
  have hk : Keep (fun i => i = g) w2 ((w2.setCell ⟨g, 1, none⟩ (.slice B t.length d)).setCell ⟨g, 2, none⟩ (.slice none 0 0)) := (Keep.setAt _ _ _ _).trans (Keep.setAt _ _ _ _)
  have hT : ∀ {cur : Array Value} {T : TypeId} {fr : Nat × Nat}, w2.heap[g]? = some (.cells cur T fr) → T = 64 := by
    intro cur T fr h
    rw [hc] at h
    injection h with h
    injection h with _ h
    exact h.symm
  refine ⟨⟨h.a.keep hk (fun hs => ?_) (fun i hi hs => ?_), h.fr.trans_new hk ?_, h.up, h.od, h.oA⟩, ⟨B, d, none, 0, ?_, hBd, hdm, hB.keep hk ?_ (.inl rfl), [], Rows_.nil _ _ _⟩, h.le⟩
  · have hg : dg = g := hs
    have hce := h.a.cells
    rw [hg] at hce
    exact absurd (hT hce) (by decide)
  · obtain ⟨cur, hcu⟩ := h.a.own.cells_ hi
    have hg : i = g := hs
    rw [hg] at hcu
    exact absurd (hT hcu) (by decide)
  · rintro i rfl _
    exact h.le
  · rw [dk_set (dk_set hc 1 _)]
    rfl
  · intro i hi
    refine .inl fun cur hcu => ?_
    have hg : i = g := hi
    rw [hg] at hcu
    exact absurd (hT hcu) (by decide)
set_option maxHeartbeats 1000000 in
theorem lg_compact {O : Nat → Prop} {w0 w : World} {g dg c : Nat} {A : Option Addr} {l : List UInt8} {s : Nat} {k : Int} {snap : List UInt8} {recs : List (List UInt8)} (h : LogAt O w0 w g dg A c ⟨l, s, false, false, k⟩ snap recs) (B : Option Addr) (m d : Nat) (t : List UInt8) (hm : m = t.length) (hr : RB w B t) (hmd : m ≤ 131071) :
    Calls Try.prog 26 #[.pointer (some ⟨g, 0, none⟩), .slice B m d] w (LogDid O w0 g dg (.returned (.int .i64 0)) ⟨seal_ (83 :: t), 9 + t.length, false, false, k⟩ t []) := by
  have HLY := Lib.hid (lay_yes 83 B m d t w hm hr hmd)
  have H := Lib.hid h
  have HM := Lib.hid hm
  have HAlt : Hid (∀ i, blk A = some i → i < w.heap.size) := fun i hi => (OB.lt h.a.own hi).2
  clear h hm hr
  go_enter Try.func26, Try.ntmps26
  go_wp2_with fail
  refine HLY.out.mono ?_
  rintro e w1 ⟨P, pc, F, fc, rfl, hP, hF, hw1⟩
  have h1 := H.out.also hw1
  obtain ⟨S, sc, R, rc, hc1, _, _, _, _⟩ := h1.cells
  have k0 : w1.cell? ⟨g, 0, none⟩ = some (.pointer (some ⟨dg, 0, none⟩)) := cell_of_row _ _ 0 _ _ _ hc1
  have hKP : Kept O w1 A P (83 :: t) := Kept.own hP HAlt.out H.out.upw
  have hple := hP.le
  obtain ⟨pg, rfl⟩ : ∃ pg, P = some ⟨pg, 0, none⟩ := by
    rcases Own.form hP with ⟨_, h, _⟩ | ⟨pg, h, _⟩
    · omega
    · exact ⟨pg, h⟩
  have hlen : 9 + t.length = (seal_ (83 :: t)).length := by rw [seal_length, List.length_cons]; omega
  have HAP := Lib.hid (swap_dk h1.a F (9 + t.length) fc (seal_ (83 :: t)) hlen hF.rb (by have : m = t.length := HM.out; omega) (Nat.zero_le _) 0 ⟨seal_ (83 :: t), 9 + t.length, false, false, k⟩ (by rw [hlen]; rfl))
  have H1 := Lib.hid h1
  have HKP := Lib.hid hKP
  clear h1 hc1 hP hF hw1 hKP hlen
  go_wp2_with fail
  refine HAP.out.mono ?_
  intro e w2 hd
  obtain ⟨A2, c2, rfl, k1, hmv⟩ := hd
  have hKq := HKP.out.moved H1.out.a hmv
  have h2 := H1.out.moved k1 hmv
  obtain ⟨S2, sc2, R2, rc2, hc2, _, _, _, _⟩ := h2.cells
  obtain ⟨n, hn⟩ : ∃ n, n = recs.length := ⟨_, rfl⟩
  obtain ⟨sn, hsn⟩ : ∃ sn, sn = snap.length := ⟨_, rfl⟩
  rw [← hn, ← hsn] at hc2
  have g1 : w2.cell? ⟨g, 1, none⟩ = some (.slice S2 sn sc2) := cell_of_row _ _ 1 _ _ _ hc2
  have g2 : w2.cell? ⟨g, 2, none⟩ = some (.slice R2 n rc2) := cell_of_row _ _ 2 _ _ _ hc2
  have gf : ∀ j, w2.frozen? ⟨g, j, none⟩ = false := fun j => frozen_of_row _ _ j _ _ hc2
  have H2 := Lib.hid h2
  have HKQ := Lib.hid hKq
  clear k1 hmv hKq h2 hc2 hn hsn k0
  have e1 : (1 : Int) ≤ 1 + (t.length : Int) := by omega
  by_cases hpc : pc = 1
  · subst hpc
    have ht0 : t = [] := List.eq_nil_of_length_eq_zero (by omega)
    subst ht0
    go_wp2_with fail
    go_ret
    exact ⟨A2, c2, rfl, log_put H2.out (HKQ.out.drop1 0 (fun h => absurd rfl h)) (Nat.le_refl _) (Nat.zero_le _)⟩
  · skip
    go_wp2_with fail
    go_ret
    exact ⟨A2, c2, rfl, log_put H2.out (HKQ.out.drop1 1 (fun _ => rfl)) (by omega) (by have := hple.2; omega)⟩
set_option maxHeartbeats 1000000 in
theorem lg_compact_off {O : Nat → Prop} {w0 w : World} {g dg c : Nat} {A : Option Addr} {l : List UInt8} {s : Nat} {k : Int} {snap : List UInt8} {recs : List (List UInt8)} (h : LogAt O w0 w g dg A c ⟨l, s, false, true, k⟩ snap recs) (B : Option Addr) (m d : Nat) (t : List UInt8) (hm : m = t.length) (hr : RB w B t) (hmd : m ≤ 131071) :
    Calls Try.prog 26 #[.pointer (some ⟨g, 0, none⟩), .slice B m d] w (LogDid O w0 g dg (.returned (.int .i64 7)) (St.crash ⟨l, s, false, true, k⟩ k) snap recs) := by
  have HLY := Lib.hid (lay_yes 83 B m d t w hm hr hmd)
  have H := Lib.hid h
  have HM := Lib.hid hm
  clear h hm hr
  go_enter Try.func26, Try.ntmps26
  go_wp2_with fail
  refine HLY.out.mono ?_
  rintro e w1 ⟨P, pc, F, fc, rfl, hP, hF, hw1⟩
  have h1 := H.out.also hw1
  obtain ⟨S, sc, R, rc, hc1, _, _, _, _⟩ := h1.cells
  have k0 : w1.cell? ⟨g, 0, none⟩ = some (.pointer (some ⟨dg, 0, none⟩)) := cell_of_row _ _ 0 _ _ _ hc1
  have hlen : 9 + t.length = (seal_ (83 :: t)).length := by rw [seal_length, List.length_cons]; omega
  have HAP := Lib.hid (swap_dk h1.a F (9 + t.length) fc (seal_ (83 :: t)) hlen hF.rb (by have : m = t.length := HM.out; omega) (Nat.zero_le _) 7 (St.crash ⟨l, s, false, true, k⟩ k) rfl)
  have H1 := Lib.hid h1
  clear h1 hc1 hP hF hw1 hlen
  go_wp2_with fail
  refine HAP.out.mono ?_
  intro e w2 hd
  obtain ⟨A2, c2, rfl, h2⟩ := H1.out.did hd
  have H2 := Lib.hid h2
  clear hd h2
  go_wp2_with fail
  go_ret
  exact ⟨A2, c2, rfl, H2.out⟩
end Go.Proofs.Ytemgiodakoojiaa
