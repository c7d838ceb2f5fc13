/- hanseref06.Disk: Crash: what it does. -/
import Derived.Test.YtemgiodakoojiaaDrB
namespace Go.Proofs.Ytemgiodakoojiaa
open Go.RowKit
/-- the page's crash leaves the number of the stroke -/
def St.rcrash (σ : St) (x : Int) : St := if σ.off then σ else ⟨σ.l.take (σ.left x), σ.s, true, false, σ.k⟩
set_option maxHeartbeats 1000000 in
theorem crash_dr {base g c : Nat} {A : Option Addr} {σ : St} {w : World} (h : DKr w base g A c σ) (x : Int) :
    Calls Try.prog 35 #[.pointer (some ⟨g, 0, none⟩), .int .i64 x] w (DidR w base g A (.returned (.tuple #[])) (σ.rcrash x)) := by
  obtain ⟨l, s, off, tr, k⟩ := σ
  have h0 := h.c0
  have h1 := h.c1
  have h2 := h.c2
  have h3 := h.c3
  have h4 := h.c4
  have hf := h.fr
  have HH := Lib.hid h
  obtain ⟨n, hn⟩ : ∃ n, n = l.length := ⟨_, rfl⟩
  have hcs : w.heap[g]? = some (.cells (dkc A n c s off tr k) 53) := by rw [hn]; exact h.cells
  have hsn : s ≤ n := by rw [hn]; exact h.ok
  have hle : n ≤ c ∧ c ≤ maxLen := by rw [hn]; exact h.own.le
  have hc_ := hle.1
  have hm_ := hle.2
  unfold maxLen at hm_
  simp only [← hn] at h0
  have HN := Lib.hid hn
  have HS := Lib.hid hcs
  clear h hn hcs hle
  cases off with
  | true =>
    go_enter Try.func35, Try.ntmps35
    go_wp2_with fail
    go_end0
    exact ⟨A, c, rfl, HH.out, Moved.refl _ _ _⟩
  | false =>
    have hw : IntKind.i64.wrap ((n : Int) - (s : Int)) = (n : Int) - (s : Int) := IntWalk.i64_in _ ⟨by omega, by omega⟩
    have e1 : ∀ v : Int, 0 ≤ v → v ≤ (n : Int) - s → v = min (max x 0) ((n : Int) - s) → ∀ w', w'.heap[g]? = some (.cells (dkc A (s + v.toNat) c s true false k) 53) → Keep (fun i => i = g) w w' → DidR w base g A (.returned (.tuple #[])) (St.rcrash ⟨l, s, false, tr, k⟩ x) (.returned (.tuple #[])) w' := by
      intro v hv0 hv1 hv w' hc hk
      have hl : n = l.length := HN.out
      have e : St.left ⟨l, s, false, tr, k⟩ x = s + v.toNat := by
        unfold St.left
        rw [hv, hl]
      have e2 : (l.take (s + v.toNat)).length = s + v.toNat := by rw [List.length_take]; omega
      refine didr_set (τ := St.rcrash ⟨l, s, false, tr, k⟩ x) HH.out _ ?_ hk ?_ ?_ ?_
      · show _ = some (Obj.cells (dkc A (l.take (St.left ⟨l, s, false, tr, k⟩ x)).length c s true false k) _ _)
        rw [e, e2]
        exact hc
      · show l.take (St.left ⟨l, s, false, tr, k⟩ x) = l.take (l.take (St.left ⟨l, s, false, tr, k⟩ x)).length
        rw [e, e2]
      · show (l.take (St.left ⟨l, s, false, tr, k⟩ x)).length ≤ l.length
        rw [e, e2]
        omega
      · show s ≤ (l.take (St.left ⟨l, s, false, tr, k⟩ x)).length
        rw [e, e2]
        omega
    have HE := Lib.hid e1
    clear e1
    by_cases hx0 : x < 0
    · by_cases hq : (0 : Int) < (n : Int) - (s : Int)
      · have hs0 : IntKind.i64.wrap (s : Int) = (s : Int) := IntWalk.i64_in _ ⟨by omega, by omega⟩
        have hs1 : (s : Int) ≤ (c : Int) := by omega
        go_enter Try.func35, Try.ntmps35
        go_wp2_with fail
        go_quiet (fail)
        go_wp2_with fail
        obtain ⟨wd, hwd⟩ : ∃ wd : World, wd = w.drewN nq := ⟨_, rfl⟩
        have d0 : wd.cell? ⟨g, 0, none⟩ = some (.slice A n c) := by rw [hwd]; exact h0
        have d1 : wd.cell? ⟨g, 1, none⟩ = some (.int .i64 s) := by rw [hwd]; exact h1
        have d2 : wd.cell? ⟨g, 2, none⟩ = some (.bool false) := by rw [hwd]; exact h2
        have d3 : wd.cell? ⟨g, 3, none⟩ = some (.bool tr) := by rw [hwd]; exact h3
        have d4 : wd.cell? ⟨g, 4, none⟩ = some (.int .i64 k) := by rw [hwd]; exact h4
        have df : ∀ j, wd.frozen? ⟨g, j, none⟩ = false := fun j => by rw [hwd]; exact hf j
        have ds : Hid (wd.heap[g]? = some (.cells (dkc A n c s false tr k) 53)) := by rw [hwd]; exact HS
        have dk : Keep (fun i => i = g) w wd := by rw [hwd]; exact (Keep.refl _ w).drewN nq
        rw [← hwd]
        clear h0 h1 h2 h3 h4 hf hwd HS
        go_still_tail 14, (by kernel_rfl)
        obtain ⟨wr, hwr⟩ : ∃ wr : World, wr = wd.drew := ⟨_, rfl⟩
        change wpList _ _ _ _ _ wd.drew
        rw [← hwr]
        have r0 : wr.cell? ⟨g, 0, none⟩ = some (.slice A n c) := by rw [hwr]; exact d0
        have r2 : wr.cell? ⟨g, 2, none⟩ = some (.bool false) := by rw [hwr]; exact d2
        have r3 : wr.cell? ⟨g, 3, none⟩ = some (.bool tr) := by rw [hwr]; exact d3
        have rf : ∀ j, wr.frozen? ⟨g, j, none⟩ = false := fun j => by rw [hwr]; exact df j
        have rs : Hid (wr.heap[g]? = some (.cells (dkc A n c s false tr k) 53)) := by rw [hwr]; exact ds
        have rk : Keep (fun i => i = g) w wr := by rw [hwr]; exact dk.drew
        clear d0 d1 d2 d3 d4 df ds dk hwr
        go_wp2_with fail
        go_end0
        refine HE.out (0) (by omega) (by omega) (by omega) _ ?_ (keep2 (keep2 (keep2 rk _ _) _ _) _ _)
        rw [dk_set (dk_set (dk_set rs.out _ _) _ _) _ _]
        rfl
      · have hqd : decide ((0 : Int) < (n : Int) - (s : Int)) = false := by simpa using hq
        go_enter Try.func35, Try.ntmps35
        go_wp2_with fail
        go_quiet (fail)
        go_wp2_with fail
        go_end0
        refine HE.out ((n : Int) - s) (by omega) (by omega) (by omega) _ ?_ (keep2 (keep2 ((Keep.refl _ w).drewN nq) _ _) _ _)
        rw [dk_set (dk_set (w := w.drewN nq) HS.out _ _) _ _, show s + ((n : Int) - (s : Int)).toNat = n from by omega]
        rfl
    · have hxd : decide (x < 0) = false := by simpa using hx0
      by_cases hq : x < (n : Int) - (s : Int)
      · have hs0 : IntKind.i64.wrap ((s : Int) + x) = (s : Int) + x := IntWalk.i64_in _ ⟨by omega, by omega⟩
        have hs1 : (s : Int) + x ≤ (c : Int) := by omega
        have hs2 : (0 : Int) ≤ (s : Int) + x := by omega
        have hs3 : ((s : Int) + x).toNat = s + x.toNat := by omega
        go_enter Try.func35, Try.ntmps35
        go_wp2_with fail
        go_quiet (fail)
        go_wp2_with fail
        obtain ⟨wd, hwd⟩ : ∃ wd : World, wd = w.drewN nq := ⟨_, rfl⟩
        have d0 : wd.cell? ⟨g, 0, none⟩ = some (.slice A n c) := by rw [hwd]; exact h0
        have d1 : wd.cell? ⟨g, 1, none⟩ = some (.int .i64 s) := by rw [hwd]; exact h1
        have d2 : wd.cell? ⟨g, 2, none⟩ = some (.bool false) := by rw [hwd]; exact h2
        have d3 : wd.cell? ⟨g, 3, none⟩ = some (.bool tr) := by rw [hwd]; exact h3
        have d4 : wd.cell? ⟨g, 4, none⟩ = some (.int .i64 k) := by rw [hwd]; exact h4
        have df : ∀ j, wd.frozen? ⟨g, j, none⟩ = false := fun j => by rw [hwd]; exact hf j
        have ds : Hid (wd.heap[g]? = some (.cells (dkc A n c s false tr k) 53)) := by rw [hwd]; exact HS
        have dk : Keep (fun i => i = g) w wd := by rw [hwd]; exact (Keep.refl _ w).drewN nq
        rw [← hwd]
        clear h0 h1 h2 h3 h4 hf hwd HS
        go_still_tail 14, (by kernel_rfl)
        obtain ⟨wr, hwr⟩ : ∃ wr : World, wr = wd.drew := ⟨_, rfl⟩
        change wpList _ _ _ _ _ wd.drew
        rw [← hwr]
        have r0 : wr.cell? ⟨g, 0, none⟩ = some (.slice A n c) := by rw [hwr]; exact d0
        have r2 : wr.cell? ⟨g, 2, none⟩ = some (.bool false) := by rw [hwr]; exact d2
        have r3 : wr.cell? ⟨g, 3, none⟩ = some (.bool tr) := by rw [hwr]; exact d3
        have rf : ∀ j, wr.frozen? ⟨g, j, none⟩ = false := fun j => by rw [hwr]; exact df j
        have rs : Hid (wr.heap[g]? = some (.cells (dkc A n c s false tr k) 53)) := by rw [hwr]; exact ds
        have rk : Keep (fun i => i = g) w wr := by rw [hwr]; exact dk.drew
        clear d0 d1 d2 d3 d4 df ds dk hwr
        go_wp2_with fail
        go_end0
        refine HE.out (x) (by omega) (by omega) (by omega) _ ?_ (keep2 (keep2 (keep2 rk _ _) _ _) _ _)
        rw [dk_set (dk_set (dk_set rs.out _ _) _ _) _ _]
        rfl
      · have hqd : decide (x < (n : Int) - (s : Int)) = false := by simpa using hq
        go_enter Try.func35, Try.ntmps35
        go_wp2_with fail
        go_quiet (fail)
        go_wp2_with fail
        go_end0
        refine HE.out ((n : Int) - s) (by omega) (by omega) (by omega) _ ?_ (keep2 (keep2 ((Keep.refl _ w).drewN nq) _ _) _ _)
        rw [dk_set (dk_set (w := w.drewN nq) HS.out _ _) _ _, show s + ((n : Int) - (s : Int)).toNat = n from by omega]
        rfl
end Go.Proofs.Ytemgiodakoojiaa
