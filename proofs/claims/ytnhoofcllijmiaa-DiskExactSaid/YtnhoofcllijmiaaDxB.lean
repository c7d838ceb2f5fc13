/- hanselaw06.same: two disks alike tell the same. -/
import Derived.Test.YtnhoofcllijmiaaDxA
import Derived.BigQuiet
namespace Go.Proofs.Ytnhoofcllijmiaa
open Go.RowKit
set_option maxHeartbeats 2000000 in
theorem same_any {w0 w : World} {g c k d : Nat} {A B : Option Addr} {l : List UInt8} {s : Nat} {off tr tr' : Bool} {x y : Int} (h : Two 52 44 w0 w g A c ⟨l, s, off, tr, x⟩ k B d ⟨l, s, off, tr', y⟩) (hl : l.length ≤ 140737488355328) :
    Calls Try.prog 24 #[.pointer (some ⟨g, 0, none⟩), .pointer (some ⟨k, 0, none⟩)] w fun e w' => e = .returned (.bool true) ∧ New w w' := by
  obtain ⟨r, z, hr⟩ : ∃ r z, (if off then (([] : List UInt8), (7 : Int)) else (l, 0)) = (r, z) := ⟨_, _, rfl⟩
  have HR := Lib.hid hr
  have HL := Lib.hid hl
  clear hr hl
  obtain ⟨n, hn⟩ : ∃ n, n = r.length := ⟨_, rfl⟩
  have HN := Lib.hid hn
  clear hn
  go_enter Try.func24, Try.ntmps24
  go_wp2_with fail
  refine (read_dk h.a r z HR.out HL.out).mono ?_
  rintro e w1 ⟨X, cx, rfl, ox, hw1⟩
  have h1 := h.also hw1
  rw [← HN.out] at ox ⊢
  go_wp2_with fail
  refine (read_dr h1.b r z HR.out HL.out).mono ?_
  rintro e w2 ⟨Y, cy, rfl, oy, hw2⟩
  have h2 := h1.also hw2
  have ox2 := ox.new hw2
  rw [← HN.out] at oy ⊢
  have c1 := h2.b.c1
  have c2 := h2.b.c2
  have hb : (r == r) = true := by simp
  have HB := Lib.hid hb
  clear hb h1
  go_wp2_with fail
  go_quiet ((first
    | (go_at_call 12; exact quiet_id (bytes_is X Y n cx n cy r r _ HN.out HN.out (ox2.rb.drewN _) (oy.rb.drewN _) true HB.out))
    | (go_at_call 13; exact quiet_id (synced_dk (h2.a.drewN _)))
    | (go_at_call 21; exact quiet_id (off_dk (h2.a.drewN _)))))
  go_wp2_with fail
  refine (spoil_any X n cx _ r _ (ox2.drewN _)).mono ?_
  rintro e w4 ⟨rfl, _, hk, _⟩
  go_wp2_with fail
  go_ret
  refine ⟨rfl, ?_⟩
  have hw : New w w2 := New.trans hw1 hw2
  exact Below.trans (hw.drewN _) (hk.below hw.size fun i hi => (OB.lt ox hi).1)
end Go.Proofs.Ytnhoofcllijmiaa
