/- hanselaw06.DiskExact: the walk. -/
import Derived.Test.YtnhoofcllijmiaaDxC
namespace Go.Proofs.Ytnhoofcllijmiaa
open Go.RowKit
/-- a disk of the page's, made -/
theorem two_page {w0 w : World} {g c : Nat} {A : Option Addr} {σ : St} (h : One 52 w0 w g A c σ) : Two 52 44 w0 (w.alloc (.cells (dkc none 0 0 0 false false 0) 44)) g A c σ w.heap.size none 0 St.new := by
  have hn : New w (w.alloc (.cells (dkc none 0 0 0 false false 0) 44)) := (Below.refl _ _).alloc (Nat.le_refl _) _
  refine ⟨h.a.new hn, ⟨heap_alloc_new w _, OB.nil _ _ _, h.size, Nat.le_refl _, by decide⟩, ?_, (fun i hi => by cases hi), New.trans h.new hn⟩
  have := h.a.lt
  omega
set_option maxHeartbeats 4000000 in
theorem exact_law (A : Option Addr) (n c : Nat) (ls : List Actt) (w : World) (hn : n = ls.length) (_ : n ≤ c) (_ : c ≤ maxLen) (hr : RA w A ls) :
    Calls Try.prog 7 #[.slice A n c] w fun e w' => e = .returned (.bool true) ∧ New w w' := by
  have HN := Lib.hid hn
  clear hn
  go_enter Try.func7, Try.ntmps7
  go_wp2_with fail
  refine (heavy_any A n c ls w HN.out hr).mono ?_
  rintro e w' ⟨rfl, b, rfl, hlight⟩
  cases b with
  | true =>
    go_wp2_with fail
    go_ret
    exact ⟨rfl, New.refl _⟩
  | false =>
    have HL := Lib.hid (hlight rfl)
    clear hlight
    go_wp2_with fail
    refine (new_one w).mono ?_
    rintro e w1 ⟨g, rfl, h⟩
    have t := two_page h
    obtain ⟨k, hk⟩ : ∃ k, k = w1.heap.size := ⟨_, rfl⟩
    have HK := Lib.hid hk
    go_wp2_with fail
    rw [← hk] at t ⊢
    clear hk
    refine (same_any t (by simp)).mono ?_
    rintro e w2 ⟨rfl, hw2⟩
    replace t := t.also hw2
    go_wp2_with fail
    go_loopw [5] (fun i wr => ∃ (j : Nat) (A : Option Addr) (c : Nat) (B : Option Addr) (d : Nat) (l : List UInt8) (s : Nat) (off tr : Bool) (x y : Int), i = .int .i64 j ∧ j ≤ n ∧ j ≤ 60 ∧ Two 52 44 w wr g A c ⟨l, s, off, tr, x⟩ k B d ⟨l, s, off, tr, y⟩ ∧ Hid (tr = true → x = y) ∧ Hid (l.length ≤ 65536 * j)) (fun i _ => n - (intOf i).toNat)
    case atStart => exact ⟨0, _, _, _, _, [], 0, false, false, 0, 0, rfl, Nat.zero_le _, by omega, t, (fun _ => rfl), Nat.zero_le _⟩
    case round =>
      obtain ⟨j, A2, c2, B2, d2, l, s, off, tr, x, y, rfl, hj, hj60, h2, HX, HB⟩ := hrel
      by_cases hlt : j < n
      · by_cases h60 : j < 60
        · obtain ⟨r, hl⟩ : ∃ r, ls[j]? = some r := ⟨_, List.getElem?_eq_getElem (by rw [← HN.out]; exact hlt)⟩
          obtain ⟨ad, C, e0, rfl, hc0, hc1, hc2, hd, hdm, hb⟩ := (hr.new h2.new) j r hl
          obtain ⟨_, C', e0', hadd, _, _, hc2', _, _, hb0⟩ := hr j r hl
          cases hadd
          have hsl := hc2
          rw [(h2.new.cell (World.block_lt_of_cell? w _ hc2'))] at hsl
          rw [hc2'] at hsl
          injection hsl with hsl
          injection hsl with hC _ he
          subst hC; subst he
          have hlen := HL.out j r h60 hl
          obtain ⟨a, N, bs⟩ := r
          simp only at hc0 hc1 hc2 hd hb hb0 hlen
          obtain ⟨m, hm⟩ : ∃ m, m = bs.length := ⟨_, rfl⟩
          rw [← hm] at hc2 hd hlen
          have HM := Lib.hid hm
          clear hl hm hc2' hb
          go_wp2_with fail
          refine (do_any h2 HX.out (by have := HB.out; omega) a N C' m e0' bs HM.out hlen hb0).mono ?_
          rintro e w5 ⟨rfl, A3, c3, B3, d3, l3, s3, off3, tr3, x3, y3, h3, HX3, hl3⟩
          have HX4 := Lib.hid HX3
          have HL4 : Hid (l3.length ≤ 65536 * (j + 1)) := by show _ ≤ _; have := HB.out; omega
          clear HX3 hl3
          go_wp2_with fail
          refine (same_any h3 (by have := HL4.out; omega)).mono ?_
          rintro e w6 ⟨rfl, hw6⟩
          have h4 := h3.also hw6
          go_wp2_with fail
          go_roundw
          case rel => exact ⟨j + 1, A3, c3, B3, d3, l3, s3, off3, tr3, x3, y3, by go_num, by omega, by omega, h4, HX4, HL4⟩
          case measure => simp [intOf]; omega
        · have h60d : decide ((j : Int) < 60) = false := by simp; omega
          have hk6 : j = 60 := by omega
          subst hk6
          go_wp2_with fail
          refine (wakes_any _).mono ?_
          rintro e w9 ⟨rfl, hw9⟩
          go_wp2_with fail
          go_ret
          exact ⟨rfl, New.trans h2.new hw9⟩
      · have hkn : j = n := by omega
        subst hkn
        go_wp2_with fail
        refine (wakes_any _).mono ?_
        rintro e w9 ⟨rfl, hw9⟩
        go_wp2_with fail
        go_ret
        exact ⟨rfl, New.trans h2.new hw9⟩
end Go.Proofs.Ytnhoofcllijmiaa
