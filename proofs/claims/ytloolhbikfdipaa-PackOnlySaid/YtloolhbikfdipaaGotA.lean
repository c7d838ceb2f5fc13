/- hanselaw03: kind, got: what they do to a reader. -/
import Derived.Test.YtloolhbikfdipaaRdE
import Derived.Test.YtloolhbikfdipaaOpenI
import Derived.Deep.RegionHeld3
namespace Go.Proofs.Ytloolhbikfdipaa
open Go.RowKit
/-- from 0 to 4 -/
theorem mod5 (y : Int) : ∃ q : Nat, (IntKind.u64.wrap y).tmod 5 = (q : Int) ∧ (q = 0 ∨ q = 1 ∨ q = 2 ∨ q = 3 ∨ q = 4) := by
  have h : 0 ≤ IntKind.u64.wrap y := by rw [IntKind.wrap_u64]; exact Int.emod_nonneg _ (by decide)
  refine ⟨((IntKind.u64.wrap y).tmod 5).toNat, ?_, ?_⟩
  · have := Int.tmod_nonneg 5 h
    omega
  · have h1 := Int.tmod_nonneg 5 h
    have h2 := Int.tmod_lt_of_pos (IntKind.u64.wrap y) (b := 5) (by omega)
    omega
theorem kind_any (y : Int) (q : Nat) (hq : (IntKind.u64.wrap y).tmod 5 = (q : Int)) (h5 : q < 5) (w : World) :
    Calls Try.prog 22 #[.int .i64 y] w fun e w' => e = .returned (.int .i64 q) ∧ w = w' := by
  have e1 : wrap64 (q : Int) = (q : Int) := IntWalk.wrap64_in _ ⟨by omega, by omega⟩
  go_enter Try.func22, Try.ntmps22
  go_wp2_with fail
  go_ret
  exact ⟨rfl, rfl⟩
/-- an item of which only the kind is told -/
abbrev item0 (y : Int) : Array Value := #[.int .i64 y, .int .u64 0, .int .i64 0, .bool false, .slice none 0 0, .complex .f64 0 0]
/-- what got leaves of a reader that has the error e0 -/
def GotZ (w : World) (lo g : Nat) (e0 : Int) (e : Ending) (w' : World) : Prop := ∃ b l' x, e = .returned (.bool b) ∧ (∃ A c, RKp w' lo g A c l' x) ∧ Keep (fun i => i = g) w w' ∧ (e0 ≠ 0 → b = true ∧ x = e0)
set_option maxHeartbeats 4000000 in
theorem got_any {lo g c : Nat} {A : Option Addr} {l : List UInt8} {e : Int} {w : World} (h : RKp w lo g A c l e) (y : Int) :
    Calls Try.prog 21 #[.pointer (some ⟨g, 0, none⟩), .agg (item0 y)] w (GotZ w lo g e) := by
  obtain ⟨q, hq, hq5⟩ := mod5 y
  have hn : New w (w.alloc (.cells (item0 y) 50)) := (Below.refl _ _).alloc (Nat.le_refl _) _
  have h0 := h.new hn
  have h1 : RKp (w.alloc (.cells (item0 y) 50)).drew lo g A c l e := ⟨h0.cells, h0.rb, h0.low, h0.le, h0.cap⟩
  have hbx := heap_alloc_new w (.cells (item0 y) 50)
  have hlt := h.lt
  have kp : ∀ w', Keep (fun i => i = g) (w.alloc (.cells (item0 y) 50)).drew w' → Keep (fun i => i = g) w w' ∧ w'.heap[w.heap.size]? = some (.cells (item0 y) 50 (0, 0)) := by
    intro w' hk
    refine ⟨(Keep.of_new hn).trans_new (Keep.trans (Keep.drew (Keep.refl _ _)) hk) fun i hi _ => hi, (hk.block _ (by simp) (by omega)).trans hbx⟩
  have HK := Lib.hid kp
  clear kp
  have H1 := Lib.hid h1
  clear h h0 h1 hn hlt
  obtain ⟨V, l1, x1, hu⟩ : ∃ V l1 x1, rdU l e = (V, l1, x1) := ⟨_, _, _, rfl⟩
  have hz := (rdU_lt hu).2.2.1
  have HU := Lib.hid hu
  have HZ := Lib.hid hz
  clear hu hz
  rcases hq5 with rfl | rfl | rfl | rfl | rfl
  · skip
    go_enter Try.func21, Try.ntmps21
    go_wp2_with fail
    refine (kind_any y 0 hq (by omega) _).mono ?_
    rintro e1 w1 ⟨rfl, rfl⟩
    have b1 : (w.alloc (.cells (item0 y) 50)).cell? ⟨w.heap.size, 1, none⟩ = some (.int .u64 0) := by rw [cell_of_row _ _ 1 _ _ _ hbx]; rfl
    go_wp2_with fail
    go_region_held3 (fun v => v.cell? ⟨w.heap.size, 1, none⟩ = some (.int .u64 0)) ((first | exact b1 | exact c1)) ((first
      | (go_at_call 15; refine (uint_rk H1.out V l1 x1 HU.out).mono ?_; rintro e3 w3 ⟨rfl, hr, hk⟩; have c1 : w3.cell? ⟨w.heap.size, 1, none⟩ = some (.int .u64 0) := by rw [cell_of_row _ _ 1 _ _ _ (HK.out _ hk).2]; rfl)))
    go_wp2_with fail
    go_ret
    refine ⟨_, _, _, rfl, hr, (HK.out _ hk).1, ?_⟩
    intro he
    obtain ⟨rfl, _, hx⟩ := HZ.out he
    exact ⟨rfl, hx⟩
  · skip
    go_enter Try.func21, Try.ntmps21
    go_wp2_with fail
    refine (kind_any y 1 hq (by omega) _).mono ?_
    rintro e1 w1 ⟨rfl, rfl⟩
    have b1 : (w.alloc (.cells (item0 y) 50)).cell? ⟨w.heap.size, 2, none⟩ = some (.int .i64 0) := by rw [cell_of_row _ _ 2 _ _ _ hbx]; rfl
    go_wp2_with fail
    go_region_held3 (fun v => v.cell? ⟨w.heap.size, 2, none⟩ = some (.int .i64 0)) ((first | exact b1 | exact c1)) ((first
      | (go_at_call 24; refine (int_rk H1.out V l1 x1 HU.out).mono ?_; rintro e3 w3 ⟨rfl, hr, hk⟩; have c1 : w3.cell? ⟨w.heap.size, 2, none⟩ = some (.int .i64 0) := by rw [cell_of_row _ _ 2 _ _ _ (HK.out _ hk).2]; rfl)))
    go_wp2_with fail
    go_ret
    refine ⟨_, _, _, rfl, hr, (HK.out _ hk).1, ?_⟩
    intro he
    obtain ⟨rfl, _, hx⟩ := HZ.out he
    exact ⟨rfl, hx⟩
  · skip
    go_enter Try.func21, Try.ntmps21
    go_wp2_with fail
    refine (kind_any y 2 hq (by omega) _).mono ?_
    rintro e1 w1 ⟨rfl, rfl⟩
    have b1 : (w.alloc (.cells (item0 y) 50)).cell? ⟨w.heap.size, 3, none⟩ = some (.bool false) := by rw [cell_of_row _ _ 3 _ _ _ hbx]; rfl
    go_wp2_with fail
    go_region_held3 (fun v => v.cell? ⟨w.heap.size, 3, none⟩ = some (.bool false)) ((first | exact b1 | exact c1)) ((first
      | (go_at_call 26; refine (mark_rk H1.out V l1 x1 HU.out).mono ?_; rintro e3 w3 ⟨rfl, hr, hk⟩; have c1 : w3.cell? ⟨w.heap.size, 3, none⟩ = some (.bool false) := by rw [cell_of_row _ _ 3 _ _ _ (HK.out _ hk).2]; rfl)))
    go_wp2_with fail
    go_ret
    refine ⟨_, _, _, rfl, hr, (HK.out _ hk).1, ?_⟩
    intro he
    obtain ⟨rfl, _, hx⟩ := HZ.out he
    exact ⟨rfl, by rw [if_neg (by omega)]; exact hx⟩
  · skip
    obtain ⟨t, l2, x2, ht⟩ : ∃ t l2 x2, rdT l e = (t, l2, x2) := ⟨_, _, _, rfl⟩
    have HT := Lib.hid ht
    clear ht
    go_enter Try.func21, Try.ntmps21
    go_wp2_with fail
    refine (kind_any y 3 hq (by omega) _).mono ?_
    rintro e1 w1 ⟨rfl, rfl⟩
    have b1 : (w.alloc (.cells (item0 y) 50)).cell? ⟨w.heap.size, 4, none⟩ = some (.slice none 0 0) := by rw [cell_of_row _ _ 4 _ _ _ hbx]; rfl
    go_wp2_with fail
    go_region_held3 (fun v => v.cell? ⟨w.heap.size, 4, none⟩ = some (.slice none 0 0)) ((first | exact b1 | exact c1)) ((first
      | (go_at_call 14; refine (textr_rk H1.out t l2 x2 HT.out).mono ?_; rintro e3 w3 ⟨B, d, rfl, ho, hr, hk⟩; have c1 : w3.cell? ⟨w.heap.size, 4, none⟩ = some (.slice none 0 0) := by rw [cell_of_row _ _ 4 _ _ _ (HK.out _ hk).2]; rfl)
      | (go_at_call 13; refine (bytes_is B none t.length d 0 0 t [] _ rfl rfl ho.rb (RB.nil _ _) (t == []) rfl).mono ?_; rintro e4 w4 ⟨rfl, rfl⟩)))
    go_wp2_with fail
    go_ret
    refine ⟨_, _, _, rfl, hr, (HK.out _ hk).1, ?_⟩
    intro he
    have hx := HT.out
    unfold rdT at hx
    rw [rdU_err he, if_neg (by simp), if_neg (by simp), if_pos he] at hx
    cases hx
    exact ⟨rfl, rfl⟩
  · skip
    obtain ⟨o, l2, x2, ht⟩ : ∃ o l2 x2, rdA l e = (o, l2, x2) := ⟨_, _, _, rfl⟩
    rcases o with _ | ⟨n, k⟩
    · skip
      have HT := Lib.hid ht
      clear ht
      go_enter Try.func21, Try.ntmps21
      go_wp2_with fail
      refine (kind_any y 4 hq (by omega) _).mono ?_
      rintro e1 w1 ⟨rfl, rfl⟩
      have b1 : (w.alloc (.cells (item0 y) 50)).cell? ⟨w.heap.size, 5, none⟩ = some (.complex .f64 0 0) := by rw [cell_of_row _ _ 5 _ _ _ hbx]; rfl
      go_wp2_with fail
      go_region_held3 (fun v => v.cell? ⟨w.heap.size, 5, none⟩ = some (.complex .f64 0 0)) ((first | exact b1 | exact c1)) ((first
        | (go_at_call 28; refine (amount_rk H1.out _ l2 x2 HT.out).mono ?_; rintro e3 w3 ⟨he3, hr, hk⟩; rw [show cx none = .complex .f64 0 0 from rfl] at he3; subst he3; have c1 : w3.cell? ⟨w.heap.size, 5, none⟩ = some (.complex .f64 0 0) := by rw [cell_of_row _ _ 5 _ _ _ (HK.out _ hk).2]; rfl)))
      go_wp2_with fail
      go_ret
      refine ⟨_, _, _, rfl, hr, (HK.out _ hk).1, ?_⟩
      intro he
      have hx := HT.out
      unfold rdA at hx
      rw [rdU_err he] at hx
      simp only [rdU_err he] at hx
      rw [if_pos he] at hx
      cases hx
      exact ⟨rfl, rfl⟩
    · skip
      have HT := Lib.hid ht
      clear ht
      go_enter Try.func21, Try.ntmps21
      go_wp2_with fail
      refine (kind_any y 4 hq (by omega) _).mono ?_
      rintro e1 w1 ⟨rfl, rfl⟩
      have b1 : (w.alloc (.cells (item0 y) 50)).cell? ⟨w.heap.size, 5, none⟩ = some (.complex .f64 0 0) := by rw [cell_of_row _ _ 5 _ _ _ hbx]; rfl
      go_wp2_with fail
      go_region_held3 (fun v => v.cell? ⟨w.heap.size, 5, none⟩ = some (.complex .f64 0 0)) ((first | exact b1 | exact c1)) ((first
        | (go_at_call 28; refine (amount_rk H1.out _ l2 x2 HT.out).mono ?_; rintro e3 w3 ⟨he3, hr, hk⟩; rw [show cx (some (n, k)) = .complex .f64 (fl n) (fl k) from rfl] at he3; subst he3; have c1 : w3.cell? ⟨w.heap.size, 5, none⟩ = some (.complex .f64 0 0) := by rw [cell_of_row _ _ 5 _ _ _ (HK.out _ hk).2]; rfl)))
      go_wp2_with fail
      go_ret
      refine ⟨_, _, _, rfl, hr, (HK.out _ hk).1, ?_⟩
      intro he
      have hx := HT.out
      unfold rdA at hx
      rw [rdU_err he] at hx
      simp only [rdU_err he] at hx
      rw [if_pos he] at hx
      cases hx
end Go.Proofs.Ytloolhbikfdipaa
