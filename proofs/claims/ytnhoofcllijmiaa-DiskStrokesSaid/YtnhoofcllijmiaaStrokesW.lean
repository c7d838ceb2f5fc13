/- hanselaw06.DiskStrokes: the walk. -/
import Derived.Test.YtnhoofcllijmiaaDkF
namespace Go.Proofs.Ytnhoofcllijmiaa
open Go.RowKit
set_option maxHeartbeats 4000000 in
theorem strokes_law (A : Option Addr) (n c : Nat) (l : List UInt8) (B : Option Addr) (m d : Nat) (r : List UInt8) (x : Int) (w : World) (hn : n = l.length) (_ : n ≤ c) (_ : c ≤ maxLen) (ha : RB w A l) (hm : m = r.length) (_ : m ≤ d) (_ : d ≤ maxLen) (hb : RB w B r)
    (_ : (Lit.int .i64 x).wf = true) :
    Calls Try.prog 5 #[.slice A n c, .slice B m d, .int .i64 x] w fun e w' => e = .returned (.bool true) ∧ New w w' := by
  have HN := Lib.hid hn
  have HM := Lib.hid hm
  clear hn hm
  by_cases h1 : (65536 : Int) < (n : Int)
  · skip
    go_enter Try.func5, Try.ntmps5
    go_wp2_with fail
    go_ret
    exact ⟨rfl, New.refl _⟩
  have d1 : decide ((65536 : Int) < (n : Int)) = false := by simpa using h1
  by_cases h2 : (65536 : Int) < (m : Int)
  · skip
    go_enter Try.func5, Try.ntmps5
    go_wp2_with fail
    go_ret
    exact ⟨rfl, New.refl _⟩
  have d2 : decide ((65536 : Int) < (m : Int)) = false := by simpa using h2
  have b1 : Hid (l.length ≤ 65536) := by show _ ≤ _; have : n = l.length := HN.out; omega
  have b2 : Hid (r.length ≤ 65536) := by show _ ≤ _; have : m = r.length := HM.out; omega
  by_cases hx0 : x < 0
  · skip
    have q0 : decide (0 ≤ x) = false := by simp; omega
    have hx : (⟨l, 0, false, false, 0⟩ : St).cut x = (9, ⟨l, 0, false, false, 0⟩) := by unfold St.cut; rw [if_neg (by simp), if_pos (.inl hx0)]
    have HX := Lib.hid hx
    clear hx
    go_enter Try.func5, Try.ntmps5
    go_wp2_with fail
    refine (new_one w).mono ?_
    rintro e w1 ⟨g, rfl, h⟩
    go_wp2_with fail
    refine (append_dk h.a A n c l HN.out (h.rb ha) (by have := b1.out; have : n = l.length := HN.out; simp [St.new]; omega) h.size 0 ⟨l, 0, false, false, 0⟩ rfl).mono ?_
    intro e w3 hd
    obtain ⟨A3, c3, rfl, h⟩ := h.step hd
    clear hd
    go_wp2_with fail
    refine (cut_dk h.a x 9 ⟨l, 0, false, false, 0⟩ HX.out).mono ?_
    intro e w4 hd
    obtain ⟨A4, c4, rfl, h⟩ := h.step hd
    clear hd
    go_wp2_with fail
    refine (read_dk h.a l 0 rfl (by have := b1.out; show l.length ≤ _; omega)).mono ?_
    rintro e wx ⟨X, cx, rfl, ox, hw⟩
    replace h := h.also hw
    clear hw
    go_wp2_with fail
    refine (bytes_is X A l.length cx n c l l wx rfl HN.out ox.rb (h.rb ha) true (by simp)).mono ?_
    rintro e wy ⟨rfl, rfl⟩
    go_wp2_with fail
    refine (swap_dk h.a B m d r HM.out (h.rb hb) (by have := b2.out; have : m = r.length := HM.out; omega) h.size 0 ⟨r, r.length, false, false, 0⟩ rfl).mono ?_
    intro e w5 hd
    obtain ⟨A5, c5, rfl, h⟩ := h.step hd
    clear hd
    have hs := synced_dk h.a
    have hs' : Calls Try.prog 13 #[.pointer (some ⟨g, 0, none⟩)] w5 fun e w' => e = .returned (.int .i64 m) ∧ w5 = w' := by
      rw [show m = r.length from HM.out]
      exact hs
    clear hs
    go_wp2_with fail
    refine hs'.mono ?_
    rintro e w6 ⟨rfl, rfl⟩
    clear hs'
    go_wp2_with fail
    refine (crash_at h.a 0 ⟨r, r.length, true, false, 0⟩ (by simp [St.crash, St.left])).mono ?_
    intro e w7 hd
    obtain ⟨A7, c7, rfl, h⟩ := h.step hd
    clear hd
    go_wp2_with fail
    refine (start_at h.a ⟨r, r.length, false, false, 0⟩ rfl).mono ?_
    intro e w8 hd
    obtain ⟨A8, c8, rfl, h⟩ := h.step hd
    clear hd
    go_wp2_with fail
    refine (read_dk h.a r 0 rfl (by have := b2.out; show r.length ≤ _; omega)).mono ?_
    rintro e w9 ⟨Y, cy, rfl, oy, hw⟩
    replace h := h.also hw
    clear hw
    go_wp2_with fail
    refine (bytes_is Y B r.length cy m d r r w9 rfl HM.out oy.rb (h.rb hb) true (by simp)).mono ?_
    rintro e w10 ⟨rfl, rfl⟩
    go_wp2_with fail
    refine (wakes_any _).mono ?_
    rintro e w11 ⟨rfl, hw⟩
    go_wp2_with fail
    go_ret
    exact ⟨rfl, New.trans h.new hw⟩
  by_cases hx1 : (n : Int) < x
  · skip
    have q0 : decide (0 ≤ x) = true := by simp; omega
    have q1 : decide (x ≤ (n : Int)) = false := by simp; omega
    have hx : (⟨l, 0, false, false, 0⟩ : St).cut x = (9, ⟨l, 0, false, false, 0⟩) := by
      have : n = l.length := HN.out
      unfold St.cut; rw [if_neg (by simp), if_pos (.inr (by show (l.length : Int) < x; omega))]
    have HX := Lib.hid hx
    clear hx
    go_enter Try.func5, Try.ntmps5
    go_wp2_with fail
    refine (new_one w).mono ?_
    rintro e w1 ⟨g, rfl, h⟩
    go_wp2_with fail
    refine (append_dk h.a A n c l HN.out (h.rb ha) (by have := b1.out; have : n = l.length := HN.out; simp [St.new]; omega) h.size 0 ⟨l, 0, false, false, 0⟩ rfl).mono ?_
    intro e w3 hd
    obtain ⟨A3, c3, rfl, h⟩ := h.step hd
    clear hd
    go_wp2_with fail
    refine (cut_dk h.a x 9 ⟨l, 0, false, false, 0⟩ HX.out).mono ?_
    intro e w4 hd
    obtain ⟨A4, c4, rfl, h⟩ := h.step hd
    clear hd
    go_wp2_with fail
    refine (read_dk h.a l 0 rfl (by have := b1.out; show l.length ≤ _; omega)).mono ?_
    rintro e wx ⟨X, cx, rfl, ox, hw⟩
    replace h := h.also hw
    clear hw
    go_wp2_with fail
    refine (bytes_is X A l.length cx n c l l wx rfl HN.out ox.rb (h.rb ha) true (by simp)).mono ?_
    rintro e wy ⟨rfl, rfl⟩
    go_wp2_with fail
    refine (swap_dk h.a B m d r HM.out (h.rb hb) (by have := b2.out; have : m = r.length := HM.out; omega) h.size 0 ⟨r, r.length, false, false, 0⟩ rfl).mono ?_
    intro e w5 hd
    obtain ⟨A5, c5, rfl, h⟩ := h.step hd
    clear hd
    have hs := synced_dk h.a
    have hs' : Calls Try.prog 13 #[.pointer (some ⟨g, 0, none⟩)] w5 fun e w' => e = .returned (.int .i64 m) ∧ w5 = w' := by
      rw [show m = r.length from HM.out]
      exact hs
    clear hs
    go_wp2_with fail
    refine hs'.mono ?_
    rintro e w6 ⟨rfl, rfl⟩
    clear hs'
    go_wp2_with fail
    refine (crash_at h.a 0 ⟨r, r.length, true, false, 0⟩ (by simp [St.crash, St.left])).mono ?_
    intro e w7 hd
    obtain ⟨A7, c7, rfl, h⟩ := h.step hd
    clear hd
    go_wp2_with fail
    refine (start_at h.a ⟨r, r.length, false, false, 0⟩ rfl).mono ?_
    intro e w8 hd
    obtain ⟨A8, c8, rfl, h⟩ := h.step hd
    clear hd
    go_wp2_with fail
    refine (read_dk h.a r 0 rfl (by have := b2.out; show r.length ≤ _; omega)).mono ?_
    rintro e w9 ⟨Y, cy, rfl, oy, hw⟩
    replace h := h.also hw
    clear hw
    go_wp2_with fail
    refine (bytes_is Y B r.length cy m d r r w9 rfl HM.out oy.rb (h.rb hb) true (by simp)).mono ?_
    rintro e w10 ⟨rfl, rfl⟩
    go_wp2_with fail
    refine (wakes_any _).mono ?_
    rintro e w11 ⟨rfl, hw⟩
    go_wp2_with fail
    go_ret
    exact ⟨rfl, New.trans h.new hw⟩
  have q0 : decide (0 ≤ x) = true := by simp; omega
  have q1 : decide (x ≤ (n : Int)) = true := by simp; omega
  have q2 : (0 : Int) ≤ x := by omega
  have q3 : x ≤ (c : Int) := by omega
  have hx : (⟨l, 0, false, false, 0⟩ : St).cut x = (0, ⟨l.take x.toNat, x.toNat, false, false, 0⟩) := by
    have : n = l.length := HN.out
    unfold St.cut; rw [if_neg (by simp), if_neg (by show ¬ (x < 0 ∨ (l.length : Int) < x); omega), if_neg (by simp)]
  obtain ⟨z, hz⟩ : ∃ z, z = l.take x.toNat := ⟨_, rfl⟩
  rw [← hz] at hx
  have raz : RB w A z := by rw [hz]; exact ha.take _
  have HX := Lib.hid hx
  have HX2 : Hid (((x.toNat : Nat) : Int) = x) := by show _ = _; omega
  have HL : Hid (z.length = x.toNat) := by
    have : n = l.length := HN.out
    show _ = _
    rw [hz, List.length_take]; omega
  clear hx hz
  go_enter Try.func5, Try.ntmps5
  go_wp2_with fail
  refine (new_one w).mono ?_
  rintro e w1 ⟨g, rfl, h⟩
  go_wp2_with fail
  refine (append_dk h.a A n c l HN.out (h.rb ha) (by have := b1.out; have : n = l.length := HN.out; simp [St.new]; omega) h.size 0 ⟨l, 0, false, false, 0⟩ rfl).mono ?_
  intro e w3 hd
  obtain ⟨A3, c3, rfl, h⟩ := h.step hd
  clear hd
  go_wp2_with fail
  refine (cut_dk h.a x 0 ⟨z, x.toNat, false, false, 0⟩ HX.out).mono ?_
  intro e w4 hd
  obtain ⟨A4, c4, rfl, h⟩ := h.step hd
  clear hd
  go_wp2_with fail
  refine (read_dk h.a (z) 0 rfl (by have := b1.out; have : z.length = x.toNat := HL.out; have : n = l.length := HN.out; show z.length ≤ _; omega)).mono ?_
  rintro e wx ⟨X, cx, rfl, ox, hw⟩
  replace h := h.also hw
  clear hw
  have hs := synced_dk h.a
  have hs' : Calls Try.prog 13 #[.pointer (some ⟨g, 0, none⟩)] wx fun e w' => e = .returned (.int .i64 x) ∧ wx = w' := by
    have e1 : ((x.toNat : Nat) : Int) = x := HX2.out
    rw [← e1]
    exact hs
  clear hs
  go_wp2_with fail
  refine (bytes_is X A (z).length cx x.toNat c _ _ wx rfl HL.out.symm ox.rb (h.rb raz) true (by simp)).mono ?_
  rintro e wy ⟨rfl, rfl⟩
  go_wp2_with fail
  refine hs'.mono ?_
  rintro e wz ⟨rfl, rfl⟩
  clear hs'
  go_wp2_with fail
  refine (swap_dk h.a B m d r HM.out (h.rb hb) (by have := b2.out; have : m = r.length := HM.out; omega) h.size 0 ⟨r, r.length, false, false, 0⟩ rfl).mono ?_
  intro e w5 hd
  obtain ⟨A5, c5, rfl, h⟩ := h.step hd
  clear hd
  have hs := synced_dk h.a
  have hs' : Calls Try.prog 13 #[.pointer (some ⟨g, 0, none⟩)] w5 fun e w' => e = .returned (.int .i64 m) ∧ w5 = w' := by
    rw [show m = r.length from HM.out]
    exact hs
  clear hs
  go_wp2_with fail
  refine hs'.mono ?_
  rintro e w6 ⟨rfl, rfl⟩
  clear hs'
  go_wp2_with fail
  refine (crash_at h.a 0 ⟨r, r.length, true, false, 0⟩ (by simp [St.crash, St.left])).mono ?_
  intro e w7 hd
  obtain ⟨A7, c7, rfl, h⟩ := h.step hd
  clear hd
  go_wp2_with fail
  refine (start_at h.a ⟨r, r.length, false, false, 0⟩ rfl).mono ?_
  intro e w8 hd
  obtain ⟨A8, c8, rfl, h⟩ := h.step hd
  clear hd
  go_wp2_with fail
  refine (read_dk h.a r 0 rfl (by have := b2.out; show r.length ≤ _; omega)).mono ?_
  rintro e w9 ⟨Y, cy, rfl, oy, hw⟩
  replace h := h.also hw
  clear hw
  go_wp2_with fail
  refine (bytes_is Y B r.length cy m d r r w9 rfl HM.out oy.rb (h.rb hb) true (by simp)).mono ?_
  rintro e w10 ⟨rfl, rfl⟩
  go_wp2_with fail
  refine (wakes_any _).mono ?_
  rintro e w11 ⟨rfl, hw⟩
  go_wp2_with fail
  go_ret
  exact ⟨rfl, New.trans h.new hw⟩
end Go.Proofs.Ytnhoofcllijmiaa
