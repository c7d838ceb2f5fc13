/- hanselaw06.DiskLasts: the walk. -/
import Derived.Test.YtnhoofcllijmiaaDkG
namespace Go.Proofs.Ytnhoofcllijmiaa
open Go.RowKit
set_option maxHeartbeats 4000000 in
theorem lasts_law (A : Option Addr) (n c : Nat) (l : List UInt8) (B : Option Addr) (m d : Nat) (r : List UInt8) (x : Int) (w : World) (hn : n = l.length) (_ : n ≤ c) (_ : c ≤ maxLen) (ha : RB w A l) (hm : m = r.length) (hmd : m ≤ d) (_ : d ≤ maxLen) (hb : RB w B r)
    (_ : (Lit.int .i64 x).wf = true) :
    Calls Try.prog 6 #[.slice A n c, .slice B m d, .int .i64 x] w fun e w' => e = .returned (.bool true) ∧ New w w' := by
  have HN := Lib.hid hn
  have HM := Lib.hid hm
  clear hn hm
  by_cases h1 : (65536 : Int) < (n : Int)
  · skip
    go_enter Try.func6, Try.ntmps6
    go_wp2_with fail
    go_ret
    exact ⟨rfl, New.refl _⟩
  have d1 : decide ((65536 : Int) < (n : Int)) = false := by simpa using h1
  by_cases h2 : (65536 : Int) < (m : Int)
  · skip
    go_enter Try.func6, Try.ntmps6
    go_wp2_with fail
    go_ret
    exact ⟨rfl, New.refl _⟩
  have d2 : decide ((65536 : Int) < (m : Int)) = false := by simpa using h2
  have b1 : Hid (l.length ≤ 65536) := by show _ ≤ _; have : n = l.length := HN.out; omega
  have b2 : Hid (r.length ≤ 65536) := by show _ ≤ _; have : m = r.length := HM.out; omega
  by_cases hx0 : x < 0
  · skip
    have hmm : (0 : Int) ≤ (m : Int) := by omega
    obtain ⟨z, hz⟩ : ∃ z, z = l ++ r.take (0) := ⟨_, rfl⟩
    have hcr := crash_lr l r false 0 x (0) (by have : m = r.length := HM.out; omega)
    rw [← hz] at hcr
    have HZL : Hid (z.length ≤ l.length + r.length) := by show _ ≤ _; rw [hz, List.length_append, List.length_take]; omega
    have HZ : Hid (z.length ≤ 140737488355328) := by show _ ≤ _; have := HZL.out; have := b1.out; have := b2.out; omega
    have HK : Hid ((0) = (r.take (0)).length) := by show _ = _; rw [List.length_take]; have : m = r.length := HM.out; omega
    have HE : Hid ((z == l ++ r.take (0)) = true) := by show _ = _; rw [hz]; simp
    have HCR := Lib.hid hcr
    clear hcr hz
    go_enter Try.func6, Try.ntmps6
    go_wp2_with fail
    refine (new_one w).mono ?_
    rintro e w1 ⟨g, rfl, h⟩
    go_wp2_with fail
    refine (append_dk h.a A n c l HN.out (h.rb ha) (by have := b1.out; have : n = l.length := HN.out; simp [St.new]; omega) h.size 0 ⟨l, 0, false, false, 0⟩ rfl).mono ?_
    intro e v1 hd
    obtain ⟨A1, c1, rfl, h⟩ := h.step hd
    clear hd
    go_wp2_with fail
    refine (sync_dk h.a 0 ⟨l, l.length, false, false, 0⟩ rfl).mono ?_
    intro e v2 hd
    obtain ⟨A2, c2, rfl, h⟩ := h.step hd
    clear hd
    go_wp2_with fail
    refine (append_dk h.a B m d r HM.out (h.rb hb) (by have := b1.out; have := b2.out; have : m = r.length := HM.out; show l.length + m ≤ _; omega) h.size 0 ⟨l ++ r, l.length, false, false, 0⟩ rfl).mono ?_
    intro e v3 hd
    obtain ⟨A3, c3, rfl, h⟩ := h.step hd
    clear hd
    go_wp2_with fail
    refine (crash_at h.a x ⟨z, l.length, true, false, 0⟩ HCR.out).mono ?_
    intro e v4 hd
    obtain ⟨A4, c4, rfl, h⟩ := h.step hd
    clear hd
    go_wp2_with fail
    refine (read_dk h.a [] 7 rfl HZ.out).mono ?_
    rintro e wa ⟨X0, cx0, rfl, ox0, hw⟩
    replace h := h.also hw
    clear hw ox0
    go_wp2_with fail
    refine (off_dk h.a).mono ?_
    rintro e wb ⟨rfl, rfl⟩
    go_wp2_with fail
    refine (append_dk h.a B m d r HM.out (h.rb hb) (by have := HZL.out; have := b1.out; have := b2.out; have : m = r.length := HM.out; show z.length + m ≤ _; omega) h.size 7 ⟨z, l.length, true, false, 0⟩ rfl).mono ?_
    intro e v5 hd
    obtain ⟨A5, c5, rfl, h⟩ := h.step hd
    clear hd
    go_wp2_with fail
    refine (sync_dk h.a 7 ⟨z, l.length, true, false, 0⟩ rfl).mono ?_
    intro e v6 hd
    obtain ⟨A6, c6, rfl, h⟩ := h.step hd
    clear hd
    go_wp2_with fail
    refine (swap_dk h.a A n c l HN.out (h.rb ha) (by have := b1.out; have : n = l.length := HN.out; omega) h.size 7 ⟨z, l.length, true, false, 0⟩ rfl).mono ?_
    intro e v7 hd
    obtain ⟨A7, c7, rfl, h⟩ := h.step hd
    clear hd
    go_wp2_with fail
    refine (cut_dk h.a 0 7 ⟨z, l.length, true, false, 0⟩ rfl).mono ?_
    intro e v8 hd
    obtain ⟨A8, c8, rfl, h⟩ := h.step hd
    clear hd
    have hs := synced_dk h.a
    have hs' : ∀ W : World, W = v8 → Calls Try.prog 13 #[.pointer (some ⟨g, 0, none⟩)] W fun e w' => e = .returned (.int .i64 n) ∧ W = w' := by
      rintro W rfl
      rw [show n = l.length from HN.out]
      exact hs
    clear hs
    go_wp2_with fail
    refine (hs' _ rfl).mono ?_
    rintro e wc ⟨rfl, rfl⟩
    clear hs'
    go_wp2_with fail
    refine (start_at h.a ⟨z, z.length, false, false, 0⟩ rfl).mono ?_
    intro e v9 hd
    obtain ⟨A9, c9, rfl, h⟩ := h.step hd
    clear hd
    go_wp2_with fail
    refine (read_dk h.a z 0 rfl HZ.out).mono ?_
    rintro e wd ⟨X, cx, rfl, ox, hw⟩
    replace h := h.also hw
    clear hw
    obtain ⟨q, hq⟩ : ∃ q, q = z.length := ⟨_, rfl⟩
    rw [← hq] at ox ⊢
    have HQ := Lib.hid hq
    have hsz := Lib.hid h.size
    have rA := h.rb ha
    have rB := h.rb hb
    clear hq
    go_wp2_with fail
    go_region_held3 (fun _ => True) (trivial) ((first
      | (go_at_call 22; refine (twin_any A n c l _ HN.out rA.drew (by have := b1.out; have : n = l.length := HN.out; omega)).mono ?_; rintro e wt ⟨At, ct, rfl, ot, hwt⟩)
      | (rw [if_pos (by rfl)]; refine wp_append_OB _ (.tmp 101) (.tmp 104) _ rfl wd.heap.size _ u_bytes i_byte At n ct l rfl ot B (0) d (r.take (0)) rfl (HK.out) ((rB.drew.new hwt).take _) (by have := b1.out; have : n = l.length := HN.out; omega) hwt.size ?_; intro A5 c5 w5 o5 g5 _)
      | (go_at_call 12; refine (bytes_is X A5 q cx _ c5 z (l ++ r.take (0)) _ HQ.out o5.len.symm (OB.rb (ox.new (Below.trans (New.trans (Below.drew (New.refl wd)) hwt) (below_blk ot g5 hwt.size)))) o5.rb true HE.out).mono ?_; rintro e w6 ⟨rfl, rfl⟩)
      | (go_at_call 13; refine (synced_dk (h.also (Below.trans (New.trans (Below.drew (New.refl wd)) hwt) (below_blk ot g5 hwt.size))).a).mono ?_; rintro e w7 ⟨rfl, rfl⟩; rw [show ((z.length : Nat) : Int) = (q : Int) from by rw [HQ.out]])
      | (go_at_call 21; refine (off_dk (h.also (Below.trans (New.trans (Below.drew (New.refl wd)) hwt) (below_blk ot g5 hwt.size))).a).mono ?_; rintro e w8 ⟨rfl, rfl⟩)
      | (go_at_call 14; refine (wakes_any _).mono ?_; rintro e w9 ⟨rfl, hw9⟩)))
    go_wp2_with fail
    go_ret
    exact ⟨rfl, New.trans (h.also (Below.trans (New.trans (Below.drew (New.refl wd)) hwt) (below_blk ot g5 hwt.size))).new hw9⟩
  by_cases hx1 : x ≤ (m : Int)
  · skip
    have hq0 : (0 : Int) ≤ x := by omega
    have hq1 : x ≤ (d : Int) := by omega
    obtain ⟨z, hz⟩ : ∃ z, z = l ++ r.take (x.toNat) := ⟨_, rfl⟩
    have hcr := crash_lr l r false 0 x (x.toNat) (by have : m = r.length := HM.out; omega)
    rw [← hz] at hcr
    have HZL : Hid (z.length ≤ l.length + r.length) := by show _ ≤ _; rw [hz, List.length_append, List.length_take]; omega
    have HZ : Hid (z.length ≤ 140737488355328) := by show _ ≤ _; have := HZL.out; have := b1.out; have := b2.out; omega
    have HK : Hid ((x.toNat) = (r.take (x.toNat)).length) := by show _ = _; rw [List.length_take]; have : m = r.length := HM.out; omega
    have HE : Hid ((z == l ++ r.take (x.toNat)) = true) := by show _ = _; rw [hz]; simp
    have HCR := Lib.hid hcr
    clear hcr hz
    go_enter Try.func6, Try.ntmps6
    go_wp2_with fail
    refine (new_one w).mono ?_
    rintro e w1 ⟨g, rfl, h⟩
    go_wp2_with fail
    refine (append_dk h.a A n c l HN.out (h.rb ha) (by have := b1.out; have : n = l.length := HN.out; simp [St.new]; omega) h.size 0 ⟨l, 0, false, false, 0⟩ rfl).mono ?_
    intro e v1 hd
    obtain ⟨A1, c1, rfl, h⟩ := h.step hd
    clear hd
    go_wp2_with fail
    refine (sync_dk h.a 0 ⟨l, l.length, false, false, 0⟩ rfl).mono ?_
    intro e v2 hd
    obtain ⟨A2, c2, rfl, h⟩ := h.step hd
    clear hd
    go_wp2_with fail
    refine (append_dk h.a B m d r HM.out (h.rb hb) (by have := b1.out; have := b2.out; have : m = r.length := HM.out; show l.length + m ≤ _; omega) h.size 0 ⟨l ++ r, l.length, false, false, 0⟩ rfl).mono ?_
    intro e v3 hd
    obtain ⟨A3, c3, rfl, h⟩ := h.step hd
    clear hd
    go_wp2_with fail
    refine (crash_at h.a x ⟨z, l.length, true, false, 0⟩ HCR.out).mono ?_
    intro e v4 hd
    obtain ⟨A4, c4, rfl, h⟩ := h.step hd
    clear hd
    go_wp2_with fail
    refine (read_dk h.a [] 7 rfl HZ.out).mono ?_
    rintro e wa ⟨X0, cx0, rfl, ox0, hw⟩
    replace h := h.also hw
    clear hw ox0
    go_wp2_with fail
    refine (off_dk h.a).mono ?_
    rintro e wb ⟨rfl, rfl⟩
    go_wp2_with fail
    refine (append_dk h.a B m d r HM.out (h.rb hb) (by have := HZL.out; have := b1.out; have := b2.out; have : m = r.length := HM.out; show z.length + m ≤ _; omega) h.size 7 ⟨z, l.length, true, false, 0⟩ rfl).mono ?_
    intro e v5 hd
    obtain ⟨A5, c5, rfl, h⟩ := h.step hd
    clear hd
    go_wp2_with fail
    refine (sync_dk h.a 7 ⟨z, l.length, true, false, 0⟩ rfl).mono ?_
    intro e v6 hd
    obtain ⟨A6, c6, rfl, h⟩ := h.step hd
    clear hd
    go_wp2_with fail
    refine (swap_dk h.a A n c l HN.out (h.rb ha) (by have := b1.out; have : n = l.length := HN.out; omega) h.size 7 ⟨z, l.length, true, false, 0⟩ rfl).mono ?_
    intro e v7 hd
    obtain ⟨A7, c7, rfl, h⟩ := h.step hd
    clear hd
    go_wp2_with fail
    refine (cut_dk h.a 0 7 ⟨z, l.length, true, false, 0⟩ rfl).mono ?_
    intro e v8 hd
    obtain ⟨A8, c8, rfl, h⟩ := h.step hd
    clear hd
    have hs := synced_dk h.a
    have hs' : ∀ W : World, W = v8 → Calls Try.prog 13 #[.pointer (some ⟨g, 0, none⟩)] W fun e w' => e = .returned (.int .i64 n) ∧ W = w' := by
      rintro W rfl
      rw [show n = l.length from HN.out]
      exact hs
    clear hs
    go_wp2_with fail
    refine (hs' _ rfl).mono ?_
    rintro e wc ⟨rfl, rfl⟩
    clear hs'
    go_wp2_with fail
    refine (start_at h.a ⟨z, z.length, false, false, 0⟩ rfl).mono ?_
    intro e v9 hd
    obtain ⟨A9, c9, rfl, h⟩ := h.step hd
    clear hd
    go_wp2_with fail
    refine (read_dk h.a z 0 rfl HZ.out).mono ?_
    rintro e wd ⟨X, cx, rfl, ox, hw⟩
    replace h := h.also hw
    clear hw
    obtain ⟨q, hq⟩ : ∃ q, q = z.length := ⟨_, rfl⟩
    rw [← hq] at ox ⊢
    have HQ := Lib.hid hq
    have hsz := Lib.hid h.size
    have rA := h.rb ha
    have rB := h.rb hb
    clear hq
    go_wp2_with fail
    go_region_held3 (fun _ => True) (trivial) ((first
      | (go_at_call 22; refine (twin_any A n c l _ HN.out rA.drew (by have := b1.out; have : n = l.length := HN.out; omega)).mono ?_; rintro e wt ⟨At, ct, rfl, ot, hwt⟩)
      | (rw [if_pos (by rfl)]; refine wp_append_OB _ (.tmp 101) (.tmp 104) _ rfl wd.heap.size _ u_bytes i_byte At n ct l rfl ot B (x.toNat) d (r.take (x.toNat)) rfl (HK.out) ((rB.drew.new hwt).take _) (by have := b1.out; have : n = l.length := HN.out; omega) hwt.size ?_; intro A5 c5 w5 o5 g5 _)
      | (go_at_call 12; refine (bytes_is X A5 q cx _ c5 z (l ++ r.take (x.toNat)) _ HQ.out o5.len.symm (OB.rb (ox.new (Below.trans (New.trans (Below.drew (New.refl wd)) hwt) (below_blk ot g5 hwt.size)))) o5.rb true HE.out).mono ?_; rintro e w6 ⟨rfl, rfl⟩)
      | (go_at_call 13; refine (synced_dk (h.also (Below.trans (New.trans (Below.drew (New.refl wd)) hwt) (below_blk ot g5 hwt.size))).a).mono ?_; rintro e w7 ⟨rfl, rfl⟩; rw [show ((z.length : Nat) : Int) = (q : Int) from by rw [HQ.out]])
      | (go_at_call 21; refine (off_dk (h.also (Below.trans (New.trans (Below.drew (New.refl wd)) hwt) (below_blk ot g5 hwt.size))).a).mono ?_; rintro e w8 ⟨rfl, rfl⟩)
      | (go_at_call 14; refine (wakes_any _).mono ?_; rintro e w9 ⟨rfl, hw9⟩)))
    go_wp2_with fail
    go_ret
    exact ⟨rfl, New.trans (h.also (Below.trans (New.trans (Below.drew (New.refl wd)) hwt) (below_blk ot g5 hwt.size))).new hw9⟩
  have hq1 : (m : Int) ≤ (d : Int) := by omega
  obtain ⟨z, hz⟩ : ∃ z, z = l ++ r.take (m) := ⟨_, rfl⟩
  have hcr := crash_lr l r false 0 x (m) (by have : m = r.length := HM.out; omega)
  rw [← hz] at hcr
  have HZL : Hid (z.length ≤ l.length + r.length) := by show _ ≤ _; rw [hz, List.length_append, List.length_take]; omega
  have HZ : Hid (z.length ≤ 140737488355328) := by show _ ≤ _; have := HZL.out; have := b1.out; have := b2.out; omega
  have HK : Hid ((m) = (r.take (m)).length) := by show _ = _; rw [List.length_take]; have : m = r.length := HM.out; omega
  have HE : Hid ((z == l ++ r.take (m)) = true) := by show _ = _; rw [hz]; simp
  have HCR := Lib.hid hcr
  clear hcr hz
  go_enter Try.func6, Try.ntmps6
  go_wp2_with fail
  refine (new_one w).mono ?_
  rintro e w1 ⟨g, rfl, h⟩
  go_wp2_with fail
  refine (append_dk h.a A n c l HN.out (h.rb ha) (by have := b1.out; have : n = l.length := HN.out; simp [St.new]; omega) h.size 0 ⟨l, 0, false, false, 0⟩ rfl).mono ?_
  intro e v1 hd
  obtain ⟨A1, c1, rfl, h⟩ := h.step hd
  clear hd
  go_wp2_with fail
  refine (sync_dk h.a 0 ⟨l, l.length, false, false, 0⟩ rfl).mono ?_
  intro e v2 hd
  obtain ⟨A2, c2, rfl, h⟩ := h.step hd
  clear hd
  go_wp2_with fail
  refine (append_dk h.a B m d r HM.out (h.rb hb) (by have := b1.out; have := b2.out; have : m = r.length := HM.out; show l.length + m ≤ _; omega) h.size 0 ⟨l ++ r, l.length, false, false, 0⟩ rfl).mono ?_
  intro e v3 hd
  obtain ⟨A3, c3, rfl, h⟩ := h.step hd
  clear hd
  go_wp2_with fail
  refine (crash_at h.a x ⟨z, l.length, true, false, 0⟩ HCR.out).mono ?_
  intro e v4 hd
  obtain ⟨A4, c4, rfl, h⟩ := h.step hd
  clear hd
  go_wp2_with fail
  refine (read_dk h.a [] 7 rfl HZ.out).mono ?_
  rintro e wa ⟨X0, cx0, rfl, ox0, hw⟩
  replace h := h.also hw
  clear hw ox0
  go_wp2_with fail
  refine (off_dk h.a).mono ?_
  rintro e wb ⟨rfl, rfl⟩
  go_wp2_with fail
  refine (append_dk h.a B m d r HM.out (h.rb hb) (by have := HZL.out; have := b1.out; have := b2.out; have : m = r.length := HM.out; show z.length + m ≤ _; omega) h.size 7 ⟨z, l.length, true, false, 0⟩ rfl).mono ?_
  intro e v5 hd
  obtain ⟨A5, c5, rfl, h⟩ := h.step hd
  clear hd
  go_wp2_with fail
  refine (sync_dk h.a 7 ⟨z, l.length, true, false, 0⟩ rfl).mono ?_
  intro e v6 hd
  obtain ⟨A6, c6, rfl, h⟩ := h.step hd
  clear hd
  go_wp2_with fail
  refine (swap_dk h.a A n c l HN.out (h.rb ha) (by have := b1.out; have : n = l.length := HN.out; omega) h.size 7 ⟨z, l.length, true, false, 0⟩ rfl).mono ?_
  intro e v7 hd
  obtain ⟨A7, c7, rfl, h⟩ := h.step hd
  clear hd
  go_wp2_with fail
  refine (cut_dk h.a 0 7 ⟨z, l.length, true, false, 0⟩ rfl).mono ?_
  intro e v8 hd
  obtain ⟨A8, c8, rfl, h⟩ := h.step hd
  clear hd
  have hs := synced_dk h.a
  have hs' : ∀ W : World, W = v8 → Calls Try.prog 13 #[.pointer (some ⟨g, 0, none⟩)] W fun e w' => e = .returned (.int .i64 n) ∧ W = w' := by
    rintro W rfl
    rw [show n = l.length from HN.out]
    exact hs
  clear hs
  go_wp2_with fail
  refine (hs' _ rfl).mono ?_
  rintro e wc ⟨rfl, rfl⟩
  clear hs'
  go_wp2_with fail
  refine (start_at h.a ⟨z, z.length, false, false, 0⟩ rfl).mono ?_
  intro e v9 hd
  obtain ⟨A9, c9, rfl, h⟩ := h.step hd
  clear hd
  go_wp2_with fail
  refine (read_dk h.a z 0 rfl HZ.out).mono ?_
  rintro e wd ⟨X, cx, rfl, ox, hw⟩
  replace h := h.also hw
  clear hw
  obtain ⟨q, hq⟩ : ∃ q, q = z.length := ⟨_, rfl⟩
  rw [← hq] at ox ⊢
  have HQ := Lib.hid hq
  have hsz := Lib.hid h.size
  have rA := h.rb ha
  have rB := h.rb hb
  clear hq
  go_wp2_with fail
  go_region_held3 (fun _ => True) (trivial) ((first
    | (go_at_call 22; refine (twin_any A n c l _ HN.out rA.drew (by have := b1.out; have : n = l.length := HN.out; omega)).mono ?_; rintro e wt ⟨At, ct, rfl, ot, hwt⟩)
    | (rw [if_pos (by rfl)]; refine wp_append_OB _ (.tmp 101) (.tmp 104) _ rfl wd.heap.size _ u_bytes i_byte At n ct l rfl ot B (m) d (r.take (m)) rfl (HK.out) ((rB.drew.new hwt).take _) (by have := b1.out; have : n = l.length := HN.out; omega) hwt.size ?_; intro A5 c5 w5 o5 g5 _)
    | (go_at_call 12; refine (bytes_is X A5 q cx _ c5 z (l ++ r.take (m)) _ HQ.out o5.len.symm (OB.rb (ox.new (Below.trans (New.trans (Below.drew (New.refl wd)) hwt) (below_blk ot g5 hwt.size)))) o5.rb true HE.out).mono ?_; rintro e w6 ⟨rfl, rfl⟩)
    | (go_at_call 13; refine (synced_dk (h.also (Below.trans (New.trans (Below.drew (New.refl wd)) hwt) (below_blk ot g5 hwt.size))).a).mono ?_; rintro e w7 ⟨rfl, rfl⟩; rw [show ((z.length : Nat) : Int) = (q : Int) from by rw [HQ.out]])
    | (go_at_call 21; refine (off_dk (h.also (Below.trans (New.trans (Below.drew (New.refl wd)) hwt) (below_blk ot g5 hwt.size))).a).mono ?_; rintro e w8 ⟨rfl, rfl⟩)
    | (go_at_call 14; refine (wakes_any _).mono ?_; rintro e w9 ⟨rfl, hw9⟩)))
  go_wp2_with fail
  go_ret
  exact ⟨rfl, New.trans (h.also (Below.trans (New.trans (Below.drew (New.refl wd)) hwt) (below_blk ot g5 hwt.size))).new hw9⟩
end Go.Proofs.Ytnhoofcllijmiaa
