/- hanseref06.Disk: stroke, Sync: what they do. -/
import Derived.Test.YtemgiodakoojiaaDrC
namespace Go.Proofs.Ytemgiodakoojiaa
open Go.RowKit
namespace St
def rsync (σ : St) : Int × St := if σ.off then (7, σ) else if σ.tr then (7, σ.rcrash σ.k) else (0, { σ with s := σ.l.length })
def rcut (σ : St) (n : Int) : Int × St := if σ.off then (7, σ) else if n < 0 ∨ (σ.l.length : Int) < n then (9, σ) else if σ.tr then (7, σ.rcrash σ.k) else (0, { σ with l := σ.l.take n.toNat, s := n.toNat })
def rswap (σ : St) (r : List UInt8) : Int × St := if σ.off then (7, σ) else if σ.tr then (7, σ.rcrash σ.k) else (0, { σ with l := r, s := r.length })
end St
set_option maxHeartbeats 1000000 in
theorem stroke_dr {base g c : Nat} {A : Option Addr} {σ : St} {w : World} (h : DKr w base g A c σ) (hx : σ.tr = true) :
    Calls Try.prog 53 #[.pointer (some ⟨g, 0, none⟩)] w (DidR w base g A (.returned (.bool false)) (σ.rcrash σ.k)) := by
  obtain ⟨l, s, off, tr, k⟩ := σ
  have h3 := h.c3
  have h4 := h.c4
  have HC := Lib.hid (crash_dr h k)
  cases hx
  clear h
  go_enter Try.func53, Try.ntmps53
  go_wp2_with fail
  refine HC.out.mono ?_
  rintro e w' ⟨A', c', rfl, hd, hm⟩
  go_wp2_with fail
  go_ret
  exact ⟨A', c', rfl, hd, hm⟩
theorem stroke_dr_no {base g c : Nat} {A : Option Addr} {σ : St} {w : World} (h : DKr w base g A c σ) (hx : σ.tr = false) :
    Calls Try.prog 53 #[.pointer (some ⟨g, 0, none⟩)] w fun e w' => e = .returned (.bool true) ∧ w = w' := by
  have h3 := h.c3
  rw [hx] at h3
  clear h hx
  go_enter Try.func53, Try.ntmps53
  go_wp2_with fail
  go_ret
  exact ⟨rfl, rfl⟩
end Go.Proofs.Ytemgiodakoojiaa
