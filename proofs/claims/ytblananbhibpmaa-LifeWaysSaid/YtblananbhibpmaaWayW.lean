/- life.Way: what it does. -/
import Derived.Test.YtblananbhibpmaaWayA
namespace Go.Proofs.Ytblananbhibpmaa
open Go.RowKit
def Wayed (a b : Int) (w : World) (e : Ending) (w' : World) : Prop := ∃ A c, e = .returned (.tuple #[.slice A (wayL a b).length c, .bool true]) ∧ OIs w' w.heap.size A (wayL a b).length c (wayL a b) ∧ New w w'
/-- what stands in memory while ways are looked for -/
structure WayAt (w0 w : World) (g : Nat) (R : Option Addr) (rc : Nat) (p : List (List Int) × List Int) (N : Nat) : Prop where
  rows : ∃ cs : Array Value, w.heap[g]? = some (.cells cs 46 (0, 0)) ∧ ∀ j, j < 8 → ∃ A c l, cs[j]? = some (.slice A l.length c) ∧ p.1[j]? = some l ∧ OIs w w0.heap.size A l.length c l ∧ (∀ i, blk A = some i → ¬ blk R = some i) ∧ l.length ≤ N
  rch : OIs w w0.heap.size R p.2.length rc p.2
  len : p.2.length ≤ N + 1
  dom : ∀ x ∈ p.2, 0 ≤ x ∧ x ≤ 7
  le : w0.heap.size ≤ g
  new : New w0 w
theorem OIs.lit {w : World} {base g : Nat} {l : List Int} (hh : w.heap[g]? = some (.cells (l.map iv).toArray 3 (0, 0))) (hb : base ≤ g) (hm : l.length ≤ maxLen) : OIs w base (some ⟨g, 0, none⟩) l.length l.length l :=
  ⟨by simp, .inr ⟨g, l.length, _, rfl, hb, hh, Nat.le_refl _, hm, by simp, by simp [List.take_of_length_le]⟩⟩
section
variable {w0 w w' : World} {g : Nat} {R : Option Addr} {rc N : Nat} {p : List (List Int) × List Int}
theorem WayAt.also (h : WayAt w0 w g R rc p N) (hn : New w w') : WayAt w0 w' g R rc p N := by
  obtain ⟨cs, hc, hr⟩ := h.rows
  refine ⟨⟨cs, (hn.block g (Array.getElem?_eq_some_iff.1 hc).1).trans hc, fun j hj => ?_⟩, Own.new h.rch hn, h.len, h.dom, h.le, New.trans h.new hn⟩
  obtain ⟨A, c, l, h1, h2, h3, h4, h5⟩ := hr j hj
  exact ⟨A, c, l, h1, h2, Own.new h3 hn, h4, h5⟩
/-- rows do not lie in the block of slices -/
theorem own_far {A : Option Addr} {n c base : Nat} {l : List Int} {cs : Array Value} (ho : OIs w base A n c l) (hc : w.heap[g]? = some (.cells cs 46 (0, 0))) : ∀ i, blk A = some i → ¬ i = g := by
  rintro i hi rfl
  obtain ⟨cur, h1⟩ := Own.cells_ ho hi
  rw [hc] at h1
  injection h1 with h1
  injection h1 with _ h1
  exact absurd h1 (by decide)
theorem WayAt.store (h : WayAt w0 w g R rc p N) {t c2 : Nat} {A2 : Option Addr} {l2 : List Int} (ho : OIs w w0.heap.size A2 l2.length c2 l2) (hd : ∀ i, blk A2 = some i → ¬ blk R = some i) (hl : l2.length ≤ N + 1) (ht : t < 8) :
    WayAt w0 (w.setCell ⟨g, t, none⟩ (.slice A2 l2.length c2)) g R rc (p.1.set t l2, p.2) (N + 1) := by
  obtain ⟨cs, hc, hr⟩ := h.rows
  have hk : Keep (fun i => i = g) w (w.setCell ⟨g, t, none⟩ (.slice A2 l2.length c2)) := Keep.setAt _ _ _ _
  refine ⟨⟨cs.set! t (.slice A2 l2.length c2), ?_, fun j hj => ?_⟩, Own.keep h.rch hk (own_far h.rch hc), Nat.le_succ_of_le h.len, h.dom, h.le, Below.setCell h.new h.le _⟩
  · rw [heap_setCell_same w g t _ _ _ hc]
    simp
  · obtain ⟨A, c, l, h1, h2, h3, h4, h5⟩ := hr j hj
    by_cases hjt : j = t
    · subst hjt
      refine ⟨A2, c2, l2, ?_, ?_, Own.keep ho hk (own_far ho hc), hd, hl⟩
      · have := (Array.getElem?_eq_some_iff.1 h1).1
        simp [Array.set!_eq_setIfInBounds, this]
      · have := (List.getElem?_eq_some_iff.1 h2).1
        simp [this]
    · refine ⟨A, c, l, ?_, ?_, Own.keep h3 hk (own_far h3 hc), h4, Nat.le_succ_of_le h5⟩
      · rw [Array.set!_eq_setIfInBounds, Array.getElem?_setIfInBounds_ne (fun e => hjt e.symm)]
        exact h1
      · show (p.1.set t l2)[j]? = some l
        rw [List.getElem?_set_ne (fun e => hjt e.symm)]
        exact h2
theorem WayAt.grow (h : WayAt w0 w g R rc p N) {o : Obj} {R' : Option Addr} {rc' : Nat} {t : Int} (ho : OIs w' w0.heap.size R' (p.2.length + 1) rc' (p.2 ++ [t])) (hg : (w.alloc o).grownBy w' (blk R)) (hR : blk R' = blk R ∨ blk R' = some (w.alloc o).heap.size) (ht : 0 ≤ t ∧ t ≤ 7) (hl : p.2.length ≤ N) :
    WayAt w0 w' g R' rc' (p.1, p.2 ++ [t]) N := by
  have ha := h.also ((Below.refl _ _).alloc (Nat.le_refl _) o)
  obtain ⟨cs, hc, hr⟩ := ha.rows
  have hk := Keep.of_grown hg
  refine ⟨⟨cs, (hk.block g (Array.getElem?_eq_some_iff.1 hc).1 (fun e => own_far ha.rch hc g e rfl)).trans hc, fun j hj => ?_⟩, ?_, ?_, ?_, h.le, ?_⟩
  · obtain ⟨A, c, l, h1, h2, h3, h4, h5⟩ := hr j hj
    refine ⟨A, c, l, h1, h2, Own.keep h3 hk h4, fun i hi e => ?_, h5⟩
    rcases hR with e2 | e2
    · exact h4 i hi (e2 ▸ e)
    · rw [e2] at e
      have := (Own.lt h3 hi).2
      injection e with e
      omega
  · show OIs _ _ _ (p.2 ++ [t]).length _ _
    rw [List.length_append]
    exact ho
  · show (p.2 ++ [t]).length ≤ N + 1
    rw [List.length_append]
    simp only [List.length_cons, List.length_nil]
    omega
  · intro x hx
    rcases List.mem_append.1 hx with hx | hx
    · exact h.dom x hx
    · simp only [List.mem_singleton] at hx
      subst hx
      exact ht
  · exact Below.trans ha.new (below_blk (base := w0.heap.size) ha.rch hg ha.new.size)
end
theorem evStep_none {st ev : Int} {q : List (List Int) × List Int} (h : nx st ev = none) : evStep st q ev = q := by unfold evStep; rw [h]
theorem evStep_old {st ev t : Int} {q : List (List Int) × List Int} (h : nx st ev = some t) (ht : t ∈ q.2) : evStep st q ev = q := by unfold evStep; rw [h]; simp only; rw [if_pos ht]
theorem evStep_new {st ev t : Int} {q : List (List Int) × List Int} {l : List Int} (h : nx st ev = some t) (ht : ¬ t ∈ q.2) (hl : q.1[st.toNat]? = some l) : evStep st q ev = (q.1.set t.toNat (l ++ [ev]), q.2 ++ [t]) := by
  unfold evStep
  rw [h]
  simp only
  rw [if_neg ht, hl]
  rfl
set_option maxHeartbeats 8000000 in
theorem way_any (a b : Int) (ha0 : 0 ≤ a) (ha7 : a ≤ 7) (hb0 : 0 ≤ b) (hb7 : b ≤ 7) (w : World) :
    Calls Try.prog 17 #[.int .i64 a, .int .i64 b] w (Wayed a b w) := by
  have HS : Hid (outer b 9 0 (List.replicate 8 [], [a]) = some (wayL a b)) := by
    show _ = _
    have := way_some ⟨a.toNat, by omega⟩ ⟨b.toNat, by omega⟩
    simp only [show ((a.toNat : Nat) : Int) = a from by omega, show ((b.toNat : Nat) : Int) = b from by omega] at this
    exact this
  have d1 : decide (a < 0) = false := by simpa using ha0
  have d2 : decide (7 < a) = false := by simpa using ha7
  have d3 : decide (b < 0) = false := by simpa using hb0
  have d4 : decide (7 < b) = false := by simpa using hb7
  go_enter Try.func17, Try.ntmps17
  go_wp2_with fail
  obtain ⟨g, hg⟩ : ∃ g, g = w.heap.size := ⟨_, rfl⟩
  obtain ⟨wA, hA⟩ : ∃ wA, wA = ((w.alloc (.cells #[.slice none 0 0, .slice none 0 0, .slice none 0 0, .slice none 0 0, .slice none 0 0, .slice none 0 0, .slice none 0 0, .slice none 0 0] 46)).alloc (.cells #[.int .i64 a] 3)) := ⟨_, rfl⟩
  have hW : WayAt w wA g (some ⟨g + 1, 0, none⟩) 1 (List.replicate 8 [], [a]) 0 := by
    have hn : New w wA := by rw [hA]; exact Below.alloc (Below.alloc (Below.refl _ _) (Nat.le_refl _) _) (by simp) _
    have h0 : wA.heap[g]? = some (.cells #[.slice none 0 0, .slice none 0 0, .slice none 0 0, .slice none 0 0, .slice none 0 0, .slice none 0 0, .slice none 0 0, .slice none 0 0] 46 (0, 0)) := by
      rw [hA, hg, (Below.alloc (Below.refl (w.heap.size + 1) _) (by simp) _).block _ (by omega)]
      exact heap_alloc_new w _
    have h1 : wA.heap[w.heap.size + 1]? = some (.cells ([a].map iv).toArray 3 (0, 0)) := by
      rw [hA]
      have := heap_alloc_new (w.alloc (.cells #[.slice none 0 0, .slice none 0 0, .slice none 0 0, .slice none 0 0, .slice none 0 0, .slice none 0 0, .slice none 0 0, .slice none 0 0] 46)) (.cells #[.int .i64 a] 3)
      simpa using this
    refine ⟨⟨_, h0, fun j hj => ?_⟩, OIs.lit (hg ▸ h1) (by omega) (by simp [maxLen]), by simp, by intro x hx; simp only [List.mem_singleton] at hx; omega, by omega, hn⟩
    rcases j with _ | _ | _ | _ | _ | _ | _ | _ | j <;> first | (exact ⟨none, 0, [], rfl, rfl, OIs.nil _ _, (fun i hi => by cases hi), Nat.le_refl _⟩) | omega
  rw [← hA, ← hg]
  have HW := Lib.hid hW
  clear hA hW hg
  go_loopw [7, 8] (fun s7 s8 wr => ∃ (f i m N : Nat) (R : Option Addr) (rc : Nat) (p : List (List Int) × List Int), s7 = .slice R m rc ∧ s8 = .int .i64 i ∧ Hid (m = p.2.length) ∧ f + i = 9 ∧ N ≤ 10 * i ∧ Hid (outer b f i p = some (wayL a b)) ∧ Hid (WayAt w wr g R rc p N)) (fun _ i _ => 9 - (intOf i).toNat)
  case atStart => exact ⟨9, 0, 1, 0, _, 1, (List.replicate 8 [], [a]), rfl, rfl, rfl, rfl, Nat.zero_le _, HS, HW⟩
  case round =>
    obtain ⟨f, i, m, N, R, rc, p, rfl, rfl, HM, hfi, hN, HO, HWA⟩ := hrel
    cases f with
    | zero => exact absurd (show none = some (wayL a b) from HO.out) (by simp)
    | succ f =>
      obtain ⟨st, hst⟩ : ∃ st, p.2[i]? = some st := by
        cases h : p.2[i]? with
        | some st => exact ⟨st, rfl⟩
        | none =>
          have := HO.out
          unfold outer at this
          rw [h] at this
          cases this
      have him : i < m := by rw [HM.out]; exact (List.getElem?_eq_some_iff.1 hst).1
      have hdom := HWA.out.dom st (List.mem_of_getElem? hst)
      obtain ⟨sn, rfl⟩ : ∃ sn : Nat, st = (sn : Int) := ⟨st.toNat, by omega⟩
      obtain ⟨ra, hRa, hcell⟩ := (OIs.rb HWA.out.rch) i _ hst
      subst hRa
      have hout : (if (sn : Int) = b then some ((p.1[sn]?).getD []) else outer b f (i + 1) (inner sn 10 1 p)) = some (wayL a b) := by
        have := HO.out
        unfold outer at this
        rw [hst] at this
        exact this
      have HOU := Lib.hid hout
      have HST := Lib.hid hst
      clear hout hst
      by_cases hsb : (sn : Int) = b
      · obtain ⟨cs, hc, hrows⟩ := HWA.out.rows
        obtain ⟨A, c, l, h1, h2, h3, h4, h5⟩ := hrows sn (by omega)
        have hres : wayL a b = l := by
          have := HOU.out
          rw [if_pos hsb, h2] at this
          cases this
          rfl
        have hcl : wr.cell? ⟨g, sn, none⟩ = some (.slice A l.length c) := (cell_of_row _ _ _ _ _ _ hc).trans h1
        have hq : ((sn : Int) == b) = true := by rw [beq_iff_eq]; exact hsb
        have H3 := Lib.hid h3
        have HR := Lib.hid hres
        have hsn8 : sn < 8 := by omega
        clear hc hrows h1 h2 h3 h4 h5 hres
        subst hsb
        go_wp2_with fail
        go_ret2
        unfold Wayed
        rw [HR.out]
        exact ⟨A, c, rfl, H3.out, HWA.out.new⟩
      · have hq : ((sn : Int) == b) = false := by rw [beq_eq_false_iff_ne]; exact hsb
        have hon : outer b f (i + 1) (inner sn 10 1 p) = some (wayL a b) := by
          have := HOU.out
          rwa [if_neg hsb] at this
        have HON := Lib.hid hon
        clear hon hsb
        obtain ⟨pe, hpe⟩ : ∃ pe, inner sn 10 1 p = pe := ⟨_, rfl⟩
        rw [hpe] at HON
        have HPE := Lib.hid hpe
        have hsn8 : sn < 8 := by omega
        clear hpe
        obtain ⟨w1, hw1⟩ : ∃ w1 : World, w1 = wr := ⟨_, rfl⟩
        rw [← hw1] at HWA hcell ⊢
        clear hw1
        go_wp2_with fail
        go_loopw [7, 10] (fun s7 s10 w2 => ∃ (k ev m N : Nat) (R : Option Addr) (rc : Nat) (q : List (List Int) × List Int), s7 = .slice R m rc ∧ s10 = .int .i64 ev ∧ Hid (m = q.2.length) ∧ ev + k = 11 ∧ 1 ≤ ev ∧ N + 1 ≤ 10 * i + ev ∧ Hid (inner sn k ev q = pe) ∧ Hid (WayAt w w2 g R rc q N)) (fun _ e _ => 11 - (intOf e).toNat)
        case atStart => exact ⟨10, 1, m, N, _, rc, p, rfl, rfl, HM, rfl, by omega, by omega, HPE, HWA⟩
        case round =>
          obtain ⟨k, ev, m, N, R, rc, q, rfl, rfl, HM, hek, he1, hN, HIN, HWA⟩ := hrel
          cases k with
          | zero =>
            have hev : ev = 11 := by omega
            subst hev
            have hqe : q = pe := HIN.out
            subst hqe
            go_wp2_with fail
            go_roundw
            case rel => exact ⟨f, i + 1, m, N, R, rc, q, rfl, by go_num, HM, by omega, by omega, HON, HWA⟩
            case measure => simp [intOf]; omega
          | succ k =>
            have hin : inner sn k (((ev + 1 : Nat) : Int)) (evStep sn q ev) = pe := HIN.out
            have hele : (ev : Int) ≤ 10 := by omega
            cases hx : nx sn ev with
            | none =>
              have h2 : nxp sn ev = (0, false) := by unfold nxp; rw [hx]
              have H2 := Lib.hid h2
              rw [evStep_none hx] at hin
              have HIN2 := Lib.hid hin
              clear h2 hx hin HIN
              go_wp2_with fail
              refine (next_any sn ev wr).mono ?_
              rintro v w2 ⟨rfl, hw2⟩
              rw [H2.out]
              have HW2 := Lib.hid (HWA.out.also hw2)
              clear hw2
              go_wp2_with fail
              go_roundw
              case rel => exact ⟨k, ev + 1, m, N, R, rc, q, rfl, by go_num, HM, by omega, by omega, by omega, HIN2, HW2⟩
              case measure => simp [intOf]; omega
            | some t =>
              have h2 : nxp sn ev = (t, true) := by unfold nxp; rw [hx]
              have H2 := Lib.hid h2
              have hmb : m ≤ 1000000 := by have := HWA.out.len; have : m = q.2.length := HM.out; omega
              by_cases htq : t ∈ q.2
              · rw [evStep_old hx htq] at hin
                have HIN2 := Lib.hid hin
                have HT : Hid (decide (t ∈ q.2) = true) := by show _ = _; simp [htq]
                clear h2 hx hin HIN htq
                go_wp2_with fail
                refine (next_any sn ev wr).mono ?_
                rintro v w2 ⟨rfl, hw2⟩
                rw [H2.out]
                have HW2 := Lib.hid (HWA.out.also hw2)
                clear hw2
                go_wp2_with fail
                refine (contains_is R m rc q.2 t w2 HM.out (OIs.rb HW2.out.rch) hmb true HT.out).mono ?_
                rintro v w3 ⟨rfl, rfl⟩
                go_wp2_with fail
                go_roundw
                case rel => exact ⟨k, ev + 1, m, N, R, rc, q, rfl, by go_num, HM, by omega, by omega, by omega, HIN2, HW2⟩
                case measure => simp [intOf]; omega
              · have HT : Hid (decide (t ∈ q.2) = false) := by show _ = _; simp [htq]
                have ht07 : 0 ≤ t ∧ t ≤ 7 := by have := nx_cases hx; omega
                obtain ⟨tn, rfl⟩ : ∃ tn : Nat, t = (tn : Int) := ⟨t.toNat, by omega⟩
                have htn8 : tn < 8 := by omega
                obtain ⟨cs0, _, hrows0⟩ := HWA.out.rows
                obtain ⟨_, _, l0, _, hl0, _⟩ := hrows0 sn hsn8
                rw [evStep_new hx htq hl0] at hin
                have HIN2 := Lib.hid hin
                have HL0 := Lib.hid hl0
                clear h2 hx hin HIN htq hrows0 hl0
                go_wp2_with fail
                refine (next_any sn ev wr).mono ?_
                rintro v w2 ⟨rfl, hw2⟩
                rw [H2.out]
                have HW2 := Lib.hid (HWA.out.also hw2)
                clear hw2
                go_wp2_with fail
                refine (contains_is R m rc q.2 tn w2 HM.out (OIs.rb HW2.out.rch) hmb false HT.out).mono ?_
                rintro v w3 ⟨rfl, rfl⟩
                obtain ⟨cs, hc, hrows⟩ := HW2.out.rows
                obtain ⟨A, c, l, g1, g2, g3, _, g5⟩ := hrows sn hsn8
                have hll : l = l0 := by have := HL0.out; rw [g2] at this; cases this; rfl
                subst hll
                obtain ⟨n, hn⟩ : ∃ n, n = l.length := ⟨_, rfl⟩
                rw [← hn] at g1 g3 g5
                have HNL := Lib.hid hn
                have hcl : w2.cell? ⟨g, sn, none⟩ = some (.slice A n c) := (cell_of_row _ _ _ _ _ _ hc).trans g1
                have hrbl := OIs.rb g3
                clear hc hrows g1 g2 g3 hn
                go_wp2_with fail
                refine (clone_any A n c l w2 HNL.out hrbl (by omega)).mono ?_
                rintro v w3 ⟨A3, c3, rfl, ho3, hw3⟩
                clear hrbl hcl
                go_wp2_with (at_builtin; refine wpList_append_OI _ rfl (.tmp 66) (.tmp 68) _ rfl w2.heap.size _ u_ints i_int A3 n c3 l rfl (Own.alloc ho3 _) (some ⟨w3.heap.size, 0, none⟩) 1 1 [(ev : Int)] rfl rfl (RI.lit w3 [(ev : Int)] 3 (0, 0) rfl) (by omega) (by rw [World.size_alloc]; have := hw3.size; omega) ?_; intro A4 c4 w4 ho4 hg4 _; refine stop ?_)
                have hn4 : New w2 w4 := Below.trans (Below.alloc hw3 hw3.size _) (below_blk (Own.alloc ho3 _) hg4 (by rw [World.size_alloc]; have := hw3.size; omega))
                have HW4 := Lib.hid (HW2.out.also hn4)
                have hlen4 : n + 1 = (l ++ [(ev : Int)]).length := by rw [List.length_append, ← HNL.out]; rfl
                have hs2 := HW2.out.new.size
                have hown : OIs w4 w.heap.size A4 (l ++ [(ev : Int)]).length c4 (l ++ [(ev : Int)]) := by rw [← hlen4]; exact Own.base_le ho4 hs2
                have hfarR : ∀ i, blk A4 = some i → ¬ blk R = some i := by
                  intro i hi hR
                  have h1 := (Own.lt ho4 hi).1
                  have h2 := (Own.lt HW2.out.rch hR).2
                  omega
                have hst := HW4.out.store (t := tn) (c2 := c4) hown hfarR (by rw [← hlen4]; omega) htn8
                rw [← hlen4] at hst
                have HST4 := Lib.hid hst
                obtain ⟨cs4, hc4, hr4⟩ := HW4.out.rows
                obtain ⟨_, _, _, gg, _⟩ := hr4 tn htn8
                obtain ⟨v4, hv4⟩ : ∃ v4, w4.cell? ⟨g, tn, none⟩ = some v4 := ⟨_, (cell_of_row _ _ _ _ _ _ hc4).trans gg⟩
                have hf4 : w4.frozen? ⟨g, tn, none⟩ = false := frozen_of_row _ _ _ _ _ hc4
                clear hw3 ho3 ho4 hg4 hn4 hown hfarR hst hc4 hr4 gg hlen4
                refine go ?_
                go_wp2_with (at_builtin; refine wpList_append_OI _ rfl (.tmp 71) (.tmp 73) _ rfl w.heap.size _ u_ints i_int R m rc q.2 rfl (by have := HST4.out.rch; rw [HM.out]; exact Own.alloc this _) (some ⟨w4.heap.size, 0, none⟩) 1 1 [(tn : Int)] rfl rfl (RI.lit (w4.setCell ⟨g, tn, none⟩ (.slice A4 (n + 1) c4)) [(tn : Int)] 3 (0, 0) (by simp)) (by omega) (by rw [World.size_alloc]; have := HST4.out.new.size; omega) ?_; intro R5 rc5 w5 ho5 hg5 hR5; refine stop ?_)
                have hm : m = q.2.length := HM.out
                have hw5 := HST4.out.grow (by rw [hm] at ho5; exact ho5) hg5 hR5 ht07 (by have := HW2.out.len; exact this)
                have HW5 := Lib.hid hw5
                have HM5 : Hid (m + 1 = (q.2 ++ [(tn : Int)]).length) := by show _ = _; rw [List.length_append, hm]; rfl
                clear ho5 hg5 hR5 hw5 hm
                refine go ?_
                go_wp2_with fail
                go_roundw
                case rel => exact ⟨k, ev + 1, m + 1, N + 1, R5, rc5, (q.1.set tn (l ++ [(ev : Int)]), q.2 ++ [(tn : Int)]), rfl, by go_num, HM5, by omega, by omega, by omega, HIN2, HW5⟩
                case measure => simp [intOf]; omega
end Go.Proofs.Ytblananbhibpmaa
