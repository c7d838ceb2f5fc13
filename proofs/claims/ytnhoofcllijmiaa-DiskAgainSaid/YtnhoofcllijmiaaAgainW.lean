/- hanselaw06.DiskAgain: the walk. -/
import Derived.Test.YtnhoofcllijmiaaDkF
namespace Go.Proofs.Ytnhoofcllijmiaa
open Go.RowKit
set_option maxHeartbeats 2000000 in
theorem again_law (A : Option Addr) (n c : Nat) (l : List UInt8) (B : Option Addr) (m d : Nat) (r : List UInt8) (x y : Int) (w : World) (hn : n = l.length) (_ : n ≤ c) (_ : c ≤ maxLen) (ha : RB w A l) (hm : m = r.length) (_ : m ≤ d) (_ : d ≤ maxLen) (hb : RB w B r)
    (_ : (Lit.int .i64 x).wf = true) (_ : (Lit.int .i64 y).wf = true) :
    Calls Try.prog 4 #[.slice A n c, .slice B m d, .int .i64 x, .int .i64 y] w fun e w' => e = .returned (.bool true) ∧ New w w' := by
  have HN := Lib.hid hn
  have HM := Lib.hid hm
  clear hn hm
  by_cases h1 : (65536 : Int) < (n : Int)
  · go_enter Try.func4, Try.ntmps4
    go_wp2_with fail
    go_ret
    exact ⟨rfl, New.refl _⟩
  have d1 : decide ((65536 : Int) < (n : Int)) = false := by simpa using h1
  by_cases h2 : (65536 : Int) < (m : Int)
  · go_enter Try.func4, Try.ntmps4
    go_wp2_with fail
    go_ret
    exact ⟨rfl, New.refl _⟩
  have d2 : decide ((65536 : Int) < (m : Int)) = false := by simpa using h2
  have b1 : Hid (l.length ≤ 65536) := by show _ ≤ _; have : n = l.length := HN.out; omega
  have b2 : Hid (r.length ≤ 65536) := by show _ ≤ _; have : m = r.length := HM.out; omega
  go_enter Try.func4, Try.ntmps4
  go_wp2_with fail
  refine (new_one w).mono ?_
  rintro e w1 ⟨g, rfl, h⟩
  go_wp2_with fail
  refine (new_two h).mono ?_
  rintro e w2 ⟨k, rfl, h⟩
  go_wp2_with fail
  refine (append_dk h.a A n c l HN.out (h.rb ha) (by have := b1.out; have : n = l.length := HN.out; simp [St.new]; omega) h.size 0 ⟨l, 0, false, false, 0⟩ rfl).mono ?_
  intro e w3 hd
  obtain ⟨A3, c3, rfl, h⟩ := h.left hd
  clear hd
  go_wp2_with fail
  refine (append_dk h.b A n c l HN.out (h.rb ha) (by have := b1.out; have : n = l.length := HN.out; simp [St.new]; omega) h.size 0 ⟨l, 0, false, false, 0⟩ rfl).mono ?_
  intro e w4 hd
  obtain ⟨B4, d4, rfl, h⟩ := h.right hd
  clear hd
  go_wp2_with fail
  refine (sync_dk h.a 0 ⟨l, l.length, false, false, 0⟩ rfl).mono ?_
  intro e w5 hd
  obtain ⟨A5, c5, rfl, h⟩ := h.left hd
  clear hd
  go_wp2_with fail
  refine (sync_dk h.b 0 ⟨l, l.length, false, false, 0⟩ rfl).mono ?_
  intro e w6 hd
  obtain ⟨B6, d6, rfl, h⟩ := h.right hd
  clear hd
  go_wp2_with fail
  refine (append_dk h.a B m d r HM.out (h.rb hb) (by have := b1.out; have := b2.out; have : m = r.length := HM.out; show l.length + m ≤ _; omega) h.size 0 ⟨l ++ r, l.length, false, false, 0⟩ rfl).mono ?_
  intro e w7 hd
  obtain ⟨A7, c7, rfl, h⟩ := h.left hd
  clear hd
  go_wp2_with fail
  refine (append_dk h.b B m d r HM.out (h.rb hb) (by have := b1.out; have := b2.out; have : m = r.length := HM.out; show l.length + m ≤ _; omega) h.size 0 ⟨l ++ r, l.length, false, false, 0⟩ rfl).mono ?_
  intro e w8 hd
  obtain ⟨B8, d8, rfl, h⟩ := h.right hd
  clear hd
  go_wp2_with fail
  refine (start_at h.b ⟨l ++ r, l.length, false, false, 0⟩ rfl).mono ?_
  intro e w9 hd
  obtain ⟨B9, d9, rfl, h⟩ := h.right hd
  clear hd
  have hs := synced_dk h.b
  have hs' : Calls Try.prog 13 #[.pointer (some ⟨k, 0, none⟩)] w9 fun e w' => e = .returned (.int .i64 n) ∧ w9 = w' := by
    rw [show n = l.length from HN.out]
    exact hs
  clear hs
  go_wp2_with fail
  refine hs'.mono ?_
  rintro e w10 ⟨rfl, rfl⟩
  clear hs'
  go_wp2_with fail
  obtain ⟨z, hz⟩ : ∃ z, z = (l ++ r).take (St.left ⟨l ++ r, l.length, false, false, 0⟩ x) := ⟨_, rfl⟩
  have hcr : (⟨l ++ r, l.length, false, false, 0⟩ : St).crash x = ⟨z, l.length, true, false, 0⟩ := by rw [hz]; rfl
  have hzl : Hid (z.length ≤ 140737488355328) := by
    show _ ≤ _
    rw [hz, List.length_take, List.length_append]
    have := b1.out
    have := b2.out
    omega
  have HCR := Lib.hid hcr
  clear hcr hz
  refine (crash_at h.a x _ HCR.out).mono ?_
  intro e w11 hd
  obtain ⟨A11, c11, rfl, h⟩ := h.left hd
  clear hd
  go_wp2_with fail
  refine (crash_at h.b x _ HCR.out).mono ?_
  intro e w12 hd
  obtain ⟨B12, d12, rfl, h⟩ := h.right hd
  clear hd
  go_wp2_with fail
  refine (crash_at h.b y ⟨z, l.length, true, false, 0⟩ rfl).mono ?_
  intro e w13 hd
  obtain ⟨B13, d13, rfl, h⟩ := h.right hd
  clear hd
  go_wp2_with fail
  refine (trip_at h.b y ⟨z, l.length, true, false, 0⟩ rfl).mono ?_
  intro e w14 hd
  obtain ⟨B14, d14, rfl, h⟩ := h.right hd
  clear hd
  go_wp2_with fail
  refine (start_at h.a ⟨z, z.length, false, false, 0⟩ rfl).mono ?_
  intro e w15 hd
  obtain ⟨A15, c15, rfl, h⟩ := h.left hd
  clear hd
  go_wp2_with fail
  refine (start_at h.b ⟨z, z.length, false, false, 0⟩ rfl).mono ?_
  intro e w16 hd
  obtain ⟨B16, d16, rfl, h⟩ := h.right hd
  clear hd
  go_wp2_with fail
  refine (read_dk h.a z 0 rfl hzl.out).mono ?_
  rintro e w17 ⟨X, cx, rfl, ox, hw⟩
  replace h := h.also hw
  clear hw
  go_wp2_with fail
  refine (read_dk h.b z 0 rfl hzl.out).mono ?_
  rintro e w18 ⟨Y, cy, rfl, oy, hw⟩
  replace h := h.also hw
  have ox := ox.new hw
  clear hw
  go_wp2_with fail
  refine (bytes_is X Y z.length cx z.length cy z z w18 rfl rfl ox.rb oy.rb true (by simp)).mono ?_
  rintro e w19 ⟨rfl, rfl⟩
  go_wp2_with fail
  refine (synced_dk h.a).mono ?_
  rintro e w20 ⟨rfl, rfl⟩
  go_wp2_with fail
  refine (synced_dk h.b).mono ?_
  rintro e w21 ⟨rfl, rfl⟩
  go_wp2_with fail
  refine (sync_dk h.b 0 ⟨z, z.length, false, false, 0⟩ rfl).mono ?_
  intro e w22 hd
  obtain ⟨B22, d22, rfl, h⟩ := h.right hd
  clear hd
  go_wp2_with fail
  refine (wakes_any _).mono ?_
  rintro e w23 ⟨rfl, hw⟩
  go_wp2_with fail
  go_ret
  exact ⟨rfl, New.trans h.new hw⟩
end Go.Proofs.Ytnhoofcllijmiaa
