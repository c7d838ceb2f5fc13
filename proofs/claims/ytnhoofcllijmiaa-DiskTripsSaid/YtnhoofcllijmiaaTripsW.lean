/- hanselaw06.DiskTrips: the walk. -/
import Derived.Test.YtnhoofcllijmiaaDkG
namespace Go.Proofs.Ytnhoofcllijmiaa
open Go.RowKit
theorem mod3 (y : Int) : ∃ q : Nat, (IntKind.u64.wrap y).tmod 3 = (q : Int) ∧ (q = 0 ∨ q = 1 ∨ q = 2) := by
  have h : 0 ≤ IntKind.u64.wrap y := by rw [IntKind.wrap_u64]; exact Int.emod_nonneg _ (by decide)
  refine ⟨((IntKind.u64.wrap y).tmod 3).toNat, ?_, ?_⟩
  · have := Int.tmod_nonneg 3 h
    omega
  · have h1 := Int.tmod_nonneg 3 h
    have h2 := Int.tmod_lt_of_pos (IntKind.u64.wrap y) (b := 3) (by omega)
    omega
set_option maxHeartbeats 4000000 in
theorem trips_law (A : Option Addr) (n c : Nat) (l : List UInt8) (B : Option Addr) (m d : Nat) (r : List UInt8) (C : Option Addr) (p b : Nat) (t : List UInt8) (x y : Int) (w : World) (hn : n = l.length) (_ : n ≤ c) (_ : c ≤ maxLen) (ha : RB w A l) (hm : m = r.length) (hmd : m ≤ d) (_ : d ≤ maxLen) (hb : RB w B r)
    (hp : p = t.length) (_ : p ≤ b) (_ : b ≤ maxLen) (hc : RB w C t) (_ : (Lit.int .i64 x).wf = true) (_ : (Lit.int .i64 y).wf = true) :
    Calls Try.prog 8 #[.slice A n c, .slice B m d, .slice C p b, .int .i64 x, .int .i64 y] w fun e w' => e = .returned (.bool true) ∧ New w w' := by
  have HN := Lib.hid hn
  have HM := Lib.hid hm
  have HP := Lib.hid hp
  clear hn hm hp
  by_cases h1 : (65536 : Int) < (n : Int)
  · skip
    go_enter Try.func8, Try.ntmps8
    go_wp2_with fail
    go_ret
    exact ⟨rfl, New.refl _⟩
  have d1 : decide ((65536 : Int) < (n : Int)) = false := by simpa using h1
  by_cases h2 : (65536 : Int) < (m : Int)
  · skip
    go_enter Try.func8, Try.ntmps8
    go_wp2_with fail
    go_ret
    exact ⟨rfl, New.refl _⟩
  have d2 : decide ((65536 : Int) < (m : Int)) = false := by simpa using h2
  by_cases h3 : (65536 : Int) < (p : Int)
  · skip
    go_enter Try.func8, Try.ntmps8
    go_wp2_with fail
    go_ret
    exact ⟨rfl, New.refl _⟩
  have d3 : decide ((65536 : Int) < (p : Int)) = false := by simpa using h3
  have b1 : Hid (l.length ≤ 65536) := by show _ ≤ _; have : n = l.length := HN.out; omega
  have b2 : Hid (r.length ≤ 65536) := by show _ ≤ _; have : m = r.length := HM.out; omega
  obtain ⟨u, hu⟩ : ∃ u : Int, (if x < 0 then 0 else x) = u := ⟨_, rfl⟩
  obtain ⟨k, hk⟩ : ∃ k : Nat, (if u ≤ (m : Int) then u else (m : Int)) = (k : Int) := ⟨(if u ≤ (m : Int) then u else (m : Int)).toNat, by split <;> split at hu <;> omega⟩
  have hkk : (k : Int) = min (max x 0) (m : Int) := by
    rw [← hk, ← hu]
    split <;> split <;> omega
  have hk2 : (if u ≤ (m : Int) then Value.int .i64 u else Value.int .i64 (m : Int)) = Value.int .i64 (k : Int) := by rw [← hk]; split <;> rfl
  have hk3 : (if (m : Int) < u then Value.int .i64 (m : Int) else Value.int .i64 u) = Value.int .i64 (k : Int) := by rw [← hk]; split <;> split <;> first | rfl | omega
  have hk4 : (if (m : Int) < u then (m : Int) else u) = (k : Int) := by rw [← hk]; split <;> split <;> omega
  have hkm : k ≤ m := by omega
  have hkd : (k : Int) ≤ (d : Int) := by omega
  obtain ⟨z, hz⟩ : ∃ z, z = l ++ r.take k := ⟨_, rfl⟩
  have hcr := crash_lr l r true x x k (by have : m = r.length := HM.out; omega)
  rw [← hz] at hcr
  have HZL : Hid (z.length ≤ l.length + r.length) := by show _ ≤ _; rw [hz, List.length_append, List.length_take]; omega
  have HZ : Hid (z.length ≤ 140737488355328) := by show _ ≤ _; have := HZL.out; have := b1.out; have := b2.out; omega
  have HK : Hid (k = (r.take k).length) := by show _ = _; rw [List.length_take]; have : m = r.length := HM.out; omega
  have HE : Hid ((z == l ++ r.take k) = true) := by show _ = _; rw [hz]; simp
  have HCR := Lib.hid hcr
  clear hcr hz hkk
  obtain ⟨q, hq, hq3⟩ := mod3 y
  rcases hq3 with rfl | rfl | rfl
  · skip
    go_enter Try.func8, Try.ntmps8
    go_wp2_with fail
    refine (new_one w).mono ?_
    rintro e w1 ⟨g, rfl, h⟩
    go_wp2_with fail
    refine (append_dk h.a A n c l HN.out (h.rb ha) (by have := b1.out; have : n = l.length := HN.out; simp [St.new]; omega) h.size 0 ⟨l, 0, false, false, 0⟩ rfl).mono ?_
    intro e v1 hd
    obtain ⟨A1, c1, rfl, h⟩ := h.step hd
    clear hd
    go_wp2_with fail
    refine (sync_dk h.a 0 ⟨l, l.length, false, false, 0⟩ rfl).mono ?_
    intro e v2 hd
    obtain ⟨A2, c2, rfl, h⟩ := h.step hd
    clear hd
    go_wp2_with fail
    refine (trip_at h.a 7 ⟨l, l.length, false, true, 7⟩ rfl).mono ?_
    intro e v3 hd
    obtain ⟨A3, c3, rfl, h⟩ := h.step hd
    clear hd
    go_wp2_with fail
    refine (trip_at h.a x ⟨l, l.length, false, true, x⟩ rfl).mono ?_
    intro e v4 hd
    obtain ⟨A4, c4, rfl, h⟩ := h.step hd
    clear hd
    go_wp2_with fail
    refine (append_dk h.a B m d r HM.out (h.rb hb) (by have := b1.out; have := b2.out; have : m = r.length := HM.out; show l.length + m ≤ _; omega) h.size 0 ⟨l ++ r, l.length, false, true, x⟩ rfl).mono ?_
    intro e v5 hd
    obtain ⟨A5, c5, rfl, h⟩ := h.step hd
    clear hd
    go_wp2_with fail
    refine (sync_dk h.a 7 ⟨z, l.length, true, false, 0⟩ (by show ((7 : Int), St.crash ⟨l ++ r, l.length, false, true, x⟩ x) = _; rw [HCR.out])).mono ?_
    intro e v6 hd
    obtain ⟨A6, c6, rfl, h⟩ := h.step hd
    clear hd
    go_wp2_with fail
    refine (off_dk h.a).mono ?_
    rintro e wb ⟨rfl, rfl⟩
    go_wp2_with fail
    refine (start_at h.a ⟨z, z.length, false, false, 0⟩ rfl).mono ?_
    intro e v7 hd
    obtain ⟨A7, c7, rfl, h⟩ := h.step hd
    clear hd
    go_wp2_with fail
    refine (read_dk h.a z 0 rfl HZ.out).mono ?_
    rintro e wd ⟨X, cx, rfl, ox, hw⟩
    replace h := h.also hw
    clear hw
    obtain ⟨j, hj⟩ : ∃ j, j = z.length := ⟨_, rfl⟩
    rw [← hj] at ox ⊢
    have HJ := Lib.hid hj
    have hsz := Lib.hid h.size
    have rA := h.rb ha
    have rB := h.rb hb
    clear hj
    go_wp2_with fail
    go_region_held3 (fun _ => True) (trivial) ((first
      | (go_at_call 22; refine (twin_any A n c l _ HN.out rA.drew (by have := b1.out; have : n = l.length := HN.out; omega)).mono ?_; rintro e wt ⟨At, ct, rfl, ot, hwt⟩)
      | (rw [if_pos (by rfl)]; refine wp_append_OB _ (.tmp 89) (.tmp 92) _ rfl wd.heap.size _ u_bytes i_byte At n ct l rfl ot B k d (r.take k) rfl (HK.out) ((rB.drew.new hwt).take _) (by have := b1.out; have : n = l.length := HN.out; omega) hwt.size ?_; intro A5 c5 w5 o5 g5 _)
      | (go_at_call 12; refine (bytes_is X A5 j cx _ c5 z (l ++ r.take k) _ HJ.out o5.len.symm (OB.rb (ox.new (Below.trans (New.trans (Below.drew (New.refl wd)) hwt) (below_blk ot g5 hwt.size)))) o5.rb true HE.out).mono ?_; rintro e w6 ⟨rfl, rfl⟩)
      | (go_at_call 15; refine (sync_dk (h.also (Below.trans (New.trans (Below.drew (New.refl wd)) hwt) (below_blk ot g5 hwt.size))).a 0 ⟨z, z.length, false, false, 0⟩ rfl).mono ?_; intro e w7 hd; obtain ⟨A7, c7, rfl, h7⟩ := (h.also (Below.trans (New.trans (Below.drew (New.refl wd)) hwt) (below_blk ot g5 hwt.size))).step hd)
      | (go_at_call 14; refine (wakes_any _).mono ?_; rintro e w9 ⟨rfl, hw9⟩)))
    go_wp2_with fail
    go_ret
    exact ⟨rfl, New.trans h7.new hw9⟩
  · skip
    go_enter Try.func8, Try.ntmps8
    go_wp2_with fail
    refine (new_one w).mono ?_
    rintro e w1 ⟨g, rfl, h⟩
    go_wp2_with fail
    refine (append_dk h.a A n c l HN.out (h.rb ha) (by have := b1.out; have : n = l.length := HN.out; simp [St.new]; omega) h.size 0 ⟨l, 0, false, false, 0⟩ rfl).mono ?_
    intro e v1 hd
    obtain ⟨A1, c1, rfl, h⟩ := h.step hd
    clear hd
    go_wp2_with fail
    refine (sync_dk h.a 0 ⟨l, l.length, false, false, 0⟩ rfl).mono ?_
    intro e v2 hd
    obtain ⟨A2, c2, rfl, h⟩ := h.step hd
    clear hd
    go_wp2_with fail
    refine (trip_at h.a 7 ⟨l, l.length, false, true, 7⟩ rfl).mono ?_
    intro e v3 hd
    obtain ⟨A3, c3, rfl, h⟩ := h.step hd
    clear hd
    go_wp2_with fail
    refine (trip_at h.a x ⟨l, l.length, false, true, x⟩ rfl).mono ?_
    intro e v4 hd
    obtain ⟨A4, c4, rfl, h⟩ := h.step hd
    clear hd
    go_wp2_with fail
    refine (append_dk h.a B m d r HM.out (h.rb hb) (by have := b1.out; have := b2.out; have : m = r.length := HM.out; show l.length + m ≤ _; omega) h.size 0 ⟨l ++ r, l.length, false, true, x⟩ rfl).mono ?_
    intro e v5 hd
    obtain ⟨A5, c5, rfl, h⟩ := h.step hd
    clear hd
    go_wp2_with fail
    refine (cut_dk h.a 0 7 ⟨z, l.length, true, false, 0⟩ (by rw [← show _ = _ from HCR.out]; unfold St.cut; rw [if_neg (by simp), if_neg (by show ¬ ((0 : Int) < 0 ∨ ((l ++ r).length : Int) < 0); omega), if_pos rfl])).mono ?_
    intro e v6 hd
    obtain ⟨A6, c6, rfl, h⟩ := h.step hd
    clear hd
    go_wp2_with fail
    refine (off_dk h.a).mono ?_
    rintro e wb ⟨rfl, rfl⟩
    go_wp2_with fail
    refine (start_at h.a ⟨z, z.length, false, false, 0⟩ rfl).mono ?_
    intro e v7 hd
    obtain ⟨A7, c7, rfl, h⟩ := h.step hd
    clear hd
    go_wp2_with fail
    refine (read_dk h.a z 0 rfl HZ.out).mono ?_
    rintro e wd ⟨X, cx, rfl, ox, hw⟩
    replace h := h.also hw
    clear hw
    obtain ⟨j, hj⟩ : ∃ j, j = z.length := ⟨_, rfl⟩
    rw [← hj] at ox ⊢
    have HJ := Lib.hid hj
    have hsz := Lib.hid h.size
    have rA := h.rb ha
    have rB := h.rb hb
    clear hj
    go_wp2_with fail
    go_region_held3 (fun _ => True) (trivial) ((first
      | (go_at_call 22; refine (twin_any A n c l _ HN.out rA.drew (by have := b1.out; have : n = l.length := HN.out; omega)).mono ?_; rintro e wt ⟨At, ct, rfl, ot, hwt⟩)
      | (rw [if_pos (by rfl)]; refine wp_append_OB _ (.tmp 89) (.tmp 92) _ rfl wd.heap.size _ u_bytes i_byte At n ct l rfl ot B k d (r.take k) rfl (HK.out) ((rB.drew.new hwt).take _) (by have := b1.out; have : n = l.length := HN.out; omega) hwt.size ?_; intro A5 c5 w5 o5 g5 _)
      | (go_at_call 12; refine (bytes_is X A5 j cx _ c5 z (l ++ r.take k) _ HJ.out o5.len.symm (OB.rb (ox.new (Below.trans (New.trans (Below.drew (New.refl wd)) hwt) (below_blk ot g5 hwt.size)))) o5.rb true HE.out).mono ?_; rintro e w6 ⟨rfl, rfl⟩)
      | (go_at_call 15; refine (sync_dk (h.also (Below.trans (New.trans (Below.drew (New.refl wd)) hwt) (below_blk ot g5 hwt.size))).a 0 ⟨z, z.length, false, false, 0⟩ rfl).mono ?_; intro e w7 hd; obtain ⟨A7, c7, rfl, h7⟩ := (h.also (Below.trans (New.trans (Below.drew (New.refl wd)) hwt) (below_blk ot g5 hwt.size))).step hd)
      | (go_at_call 14; refine (wakes_any _).mono ?_; rintro e w9 ⟨rfl, hw9⟩)))
    go_wp2_with fail
    go_ret
    exact ⟨rfl, New.trans h7.new hw9⟩
  · skip
    go_enter Try.func8, Try.ntmps8
    go_wp2_with fail
    refine (new_one w).mono ?_
    rintro e w1 ⟨g, rfl, h⟩
    go_wp2_with fail
    refine (append_dk h.a A n c l HN.out (h.rb ha) (by have := b1.out; have : n = l.length := HN.out; simp [St.new]; omega) h.size 0 ⟨l, 0, false, false, 0⟩ rfl).mono ?_
    intro e v1 hd
    obtain ⟨A1, c1, rfl, h⟩ := h.step hd
    clear hd
    go_wp2_with fail
    refine (sync_dk h.a 0 ⟨l, l.length, false, false, 0⟩ rfl).mono ?_
    intro e v2 hd
    obtain ⟨A2, c2, rfl, h⟩ := h.step hd
    clear hd
    go_wp2_with fail
    refine (trip_at h.a 7 ⟨l, l.length, false, true, 7⟩ rfl).mono ?_
    intro e v3 hd
    obtain ⟨A3, c3, rfl, h⟩ := h.step hd
    clear hd
    go_wp2_with fail
    refine (trip_at h.a x ⟨l, l.length, false, true, x⟩ rfl).mono ?_
    intro e v4 hd
    obtain ⟨A4, c4, rfl, h⟩ := h.step hd
    clear hd
    go_wp2_with fail
    refine (append_dk h.a B m d r HM.out (h.rb hb) (by have := b1.out; have := b2.out; have : m = r.length := HM.out; show l.length + m ≤ _; omega) h.size 0 ⟨l ++ r, l.length, false, true, x⟩ rfl).mono ?_
    intro e v5 hd
    obtain ⟨A5, c5, rfl, h⟩ := h.step hd
    clear hd
    go_wp2_with fail
    refine (swap_dk h.a C p b t HP.out (h.rb hc) (by omega) h.size 7 ⟨z, l.length, true, false, 0⟩ (by show ((7 : Int), St.crash ⟨l ++ r, l.length, false, true, x⟩ x) = _; rw [HCR.out])).mono ?_
    intro e v6 hd
    obtain ⟨A6, c6, rfl, h⟩ := h.step hd
    clear hd
    go_wp2_with fail
    refine (off_dk h.a).mono ?_
    rintro e wb ⟨rfl, rfl⟩
    go_wp2_with fail
    refine (start_at h.a ⟨z, z.length, false, false, 0⟩ rfl).mono ?_
    intro e v7 hd
    obtain ⟨A7, c7, rfl, h⟩ := h.step hd
    clear hd
    go_wp2_with fail
    refine (read_dk h.a z 0 rfl HZ.out).mono ?_
    rintro e wd ⟨X, cx, rfl, ox, hw⟩
    replace h := h.also hw
    clear hw
    obtain ⟨j, hj⟩ : ∃ j, j = z.length := ⟨_, rfl⟩
    rw [← hj] at ox ⊢
    have HJ := Lib.hid hj
    have hsz := Lib.hid h.size
    have rA := h.rb ha
    have rB := h.rb hb
    clear hj
    go_wp2_with fail
    go_region_held3 (fun _ => True) (trivial) ((first
      | (go_at_call 22; refine (twin_any A n c l _ HN.out rA.drew (by have := b1.out; have : n = l.length := HN.out; omega)).mono ?_; rintro e wt ⟨At, ct, rfl, ot, hwt⟩)
      | (rw [if_pos (by rfl)]; refine wp_append_OB _ (.tmp 89) (.tmp 92) _ rfl wd.heap.size _ u_bytes i_byte At n ct l rfl ot B k d (r.take k) rfl (HK.out) ((rB.drew.new hwt).take _) (by have := b1.out; have : n = l.length := HN.out; omega) hwt.size ?_; intro A5 c5 w5 o5 g5 _)
      | (go_at_call 12; refine (bytes_is X A5 j cx _ c5 z (l ++ r.take k) _ HJ.out o5.len.symm (OB.rb (ox.new (Below.trans (New.trans (Below.drew (New.refl wd)) hwt) (below_blk ot g5 hwt.size)))) o5.rb true HE.out).mono ?_; rintro e w6 ⟨rfl, rfl⟩)
      | (go_at_call 15; refine (sync_dk (h.also (Below.trans (New.trans (Below.drew (New.refl wd)) hwt) (below_blk ot g5 hwt.size))).a 0 ⟨z, z.length, false, false, 0⟩ rfl).mono ?_; intro e w7 hd; obtain ⟨A7, c7, rfl, h7⟩ := (h.also (Below.trans (New.trans (Below.drew (New.refl wd)) hwt) (below_blk ot g5 hwt.size))).step hd)
      | (go_at_call 14; refine (wakes_any _).mono ?_; rintro e w9 ⟨rfl, hw9⟩)))
    go_wp2_with fail
    go_ret
    exact ⟨rfl, New.trans h7.new hw9⟩
end Go.Proofs.Ytnhoofcllijmiaa
