/- A log on a new disk; hanselaw07.wakes: what it answers. -/
import Derived.Test.YtemgiodakoojiaaLgG
namespace Go.Proofs.Ytemgiodakoojiaa
open Go.RowKit
open Go.Proofs.Ytemgiodakoojiaa.Frm
open Go.Proofs.Ytemgiodakoojiaa.Jr
/-- all that is made since w -/
abbrev Since (w : World) : Nat → Prop := fun i => w.heap.size ≤ i
theorem Keep.since {w w' : World} (h : Keep (Since w) w w') : New w w' := h.below (Nat.le_refl _) (fun _ hi => hi)
/-- what a call of Open tells that goes well -/
def Logged (O : Nat → Prop) (w0 : World) (dg : Nat) (τ : St) (snap : List UInt8) (rs : List (List UInt8)) (e : Ending) (w' : World) : Prop := ∃ g A' c', e = .returned (.tuple #[.pointer (some ⟨g, 0, none⟩), .int .i64 0]) ∧ LogAt O w0 w' g dg A' c' τ snap rs
theorem disk_new (w : World) : Calls Try.prog 10 #[] w fun e w' => ∃ dg, e = .returned (.pointer (some ⟨dg, 0, none⟩)) ∧ DiskAt (Since w) w w' dg none 0 St.new := by
  refine (new_dk w).mono ?_
  rintro e w' ⟨rfl, hd, hn⟩
  exact ⟨_, rfl, ⟨hd.base_le (Nat.zero_le _), .of_new hn, fun _ h => h, Nat.le_refl _, fun i hi => by cases hi⟩⟩
theorem open_log {O : Nat → Prop} {w0 w : World} {dg c : Nat} {A : Option Addr} {l : List UInt8} {s : Nat} {tr : Bool} {k : Int} {snap : List UInt8} {rs : List (List UInt8)} (h : DiskAt O w0 w dg A c ⟨l, s, false, tr, k⟩) (hmax : l.length ≤ 5000000) (hp : parts l = (snap, rs, l.length)) :
    Calls Try.prog 11 #[.pointer (some ⟨dg, 0, none⟩)] w (Logged O w0 dg ⟨l, s, false, tr, k⟩ snap rs) := by
  refine (open_on h hmax).mono ?_
  rintro e w' (⟨_, h2, _⟩ | ⟨_, g, A', c', rfl, h2⟩)
  · rw [hp] at h2
    exact absurd h2 (by simp)
  · refine ⟨g, A', c', rfl, ?_⟩
    unfold opened_ at h2
    rw [if_neg (by rw [hp]; simp), hp] at h2
    exact h2
theorem open_short {O : Nat → Prop} {w0 w : World} {dg c en : Nat} {A : Option Addr} {l : List UInt8} {s : Nat} {k : Int} {snap : List UInt8} {rs : List (List UInt8)} (h : DiskAt O w0 w dg A c ⟨l, s, false, false, k⟩) (hmax : l.length ≤ 5000000) (hp : parts l = (snap, rs, en)) (hen : en < l.length) :
    Calls Try.prog 11 #[.pointer (some ⟨dg, 0, none⟩)] w (Logged O w0 dg ⟨l.take en, en, false, false, k⟩ snap rs) := by
  refine (open_on h hmax).mono ?_
  rintro e w' (⟨h1, _⟩ | ⟨_, g, A', c', rfl, h2⟩)
  · cases h1
  · refine ⟨g, A', c', rfl, ?_⟩
    unfold opened_ at h2
    rw [if_pos (by rw [hp]; exact hen), hp] at h2
    exact h2
set_option maxHeartbeats 1000000 in
theorem wakes7_any (w : World) : Calls Try.prog 18 #[] w fun e w' => e = .returned (.bool true) ∧ New w w' := by
  have kc := fun w C n c => Lib.run_convert_bytes_const (P := Try.prog) w _ _ C n c u_bytes u_byte
  have hlen := seal_length [82, 120]
  obtain ⟨z, hz⟩ : ∃ z, z = seal_ [82, 120] := ⟨_, rfl⟩
  rw [← hz] at hlen
  have HZ := Lib.hid hz
  have HZL : Hid (z.length ≤ 1000) := by show _ ≤ _; rw [hlen]; decide
  clear hz hlen
  go_enter Try.func18, Try.ntmps18
  go_wp2_with fail
  refine (disk_new w).mono ?_
  rintro e w1 ⟨dg, rfl, hd1⟩
  go_wp2_with fail
  refine (open_log hd1 (Nat.zero_le _) parts_nil).mono ?_
  rintro e w2 ⟨g, A2, c2, rfl, h2⟩
  clear hd1
  have H2 := Lib.hid h2
  clear h2
  go_wp2_with fail
  have r1 := RB.lit w2 [120] 5 (1, 2) rfl
  have h2' := H2.out.also (Below.alloc (Below.refl _ _) (Nat.le_refl _) (.cells (List.map bv [120]).toArray 5 (1, 2)))
  refine (lg_append h2' _ 1 1 [120] rfl r1 (by decide) (by decide) (by decide)).mono ?_
  rintro e w3 ⟨A3, c3, rfl, h3⟩
  rw [List.nil_append, List.nil_append, ← HZ.out] at h3
  have H3 := Lib.hid h3
  clear h3 h2' r1
  go_wp2_with fail
  refine (lg_sync H3.out 0 ⟨z, z.length, false, false, 0⟩ rfl).mono ?_
  rintro e w4 ⟨A4, c4, rfl, h4⟩
  have H4 := Lib.hid h4
  clear h4
  go_wp2_with fail
  refine (recs_any H4.out (by decide) (by decide)).mono ?_
  rintro e w5 ⟨R, rc, rfl, hR, hw5⟩
  have H5 := Lib.hid (H4.out.also hw5)
  have HR := Lib.hid hR
  clear hR hw5
  go_wp2_with fail
  have rl := RB.lit w5 [120] 5 (1, 2) rfl
  have hwA : New w5 (w5.alloc (.cells (List.map bv [120]).toArray 5 (1, 2))) := Below.alloc (Below.refl _ _) (Nat.le_refl _) _
  have rr := RR.one (g := w5.heap.size + 1) 30 rfl rl (Nat.le_refl 1) (by decide) (by rw [World.size_alloc])
  have hwB := New.trans hwA (Below.alloc (Below.refl (w5.alloc (.cells (List.map bv [120]).toArray 5 (1, 2))).heap.size _) (Nat.le_refl _) (.cells #[.slice (some ⟨w5.heap.size, 0, none⟩) 1 1] 30))
  refine (rows_any R _ 1 rc 1 1 [[120]] [[120]] _ rfl rfl (by decide) (HR.out.new hwB).rr rr).mono ?_
  rintro e w6 ⟨rfl, hdr⟩
  have hfin := (H5.out.also (New.trans hwB hdr.new)).fr.since
  have HF := Lib.hid hfin
  clear hdr rr hwB hwA rl
  have hb : ([[(120 : UInt8)]] == [[120]]) = true := rfl
  go_wp2_with fail
  go_ret
  exact ⟨by simp, HF.out⟩
end Go.Proofs.Ytemgiodakoojiaa
