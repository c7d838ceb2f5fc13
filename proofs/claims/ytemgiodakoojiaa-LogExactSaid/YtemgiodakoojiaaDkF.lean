/- One disk, two disks: step by step. -/
import Derived.Test.YtemgiodakoojiaaDkE
namespace Go.Proofs.Ytemgiodakoojiaa
open Go.RowKit
/-- a disk made since w0, and nothing of w0's is changed -/
structure One (T : TypeId) (w0 w : World) (g : Nat) (A : Option Addr) (c : Nat) (σ : St) : Prop where
  a : DK T w w0.heap.size g A c σ
  new : New w0 w
/-- two of them -/
structure Two (T U : TypeId) (w0 w : World) (g : Nat) (A : Option Addr) (c : Nat) (σ : St) (k : Nat) (B : Option Addr) (d : Nat) (τ : St) : Prop where
  a : DK T w w0.heap.size g A c σ
  b : DK U w w0.heap.size k B d τ
  ne : k ≠ g
  ap : ∀ i, blk B = some i → ¬ blk A = some i
  new : New w0 w
section
variable {T U : TypeId} {w0 w w' : World} {g k c d : Nat} {A B : Option Addr} {σ τ υ : St} {v e : Ending}
theorem One.size (h : One T w0 w g A c σ) : w0.heap.size ≤ w.heap.size := h.new.size
theorem Two.size (h : Two T U w0 w g A c σ k B d τ) : w0.heap.size ≤ w.heap.size := h.new.size
theorem One.step (h : One T w0 w g A c σ) (hd : DidT T w w0.heap.size g A v υ e w') : ∃ A' c', e = v ∧ One T w0 w' g A' c' υ := by
  obtain ⟨A', c', he, h1, h2⟩ := hd
  exact ⟨A', c', he, h1, Below.trans h.new (h2.below h.a (Nat.le_refl _) h.size)⟩
theorem One.also (h : One T w0 w g A c σ) (hn : New w w') : One T w0 w' g A c σ := ⟨h.a.new hn, New.trans h.new hn⟩
theorem Two.also (h : Two T U w0 w g A c σ k B d τ) (hn : New w w') : Two T U w0 w' g A c σ k B d τ := ⟨h.a.new hn, h.b.new hn, h.ne, h.ap, New.trans h.new hn⟩
theorem Two.left (h : Two T U w0 w g A c σ k B d τ) (hd : DidT T w w0.heap.size g A v υ e w') : ∃ A' c', e = v ∧ Two T U w0 w' g A' c' υ k B d τ := by
  obtain ⟨A', c', he, h1, h2⟩ := hd
  exact ⟨A', c', he, h1, h.b.other h.a h2 h.ne h.ap, h.ne, h2.apart h.b.own h.ap, Below.trans h.new (h2.below h.a (Nat.le_refl _) h.size)⟩
theorem Two.swap (h : Two T U w0 w g A c σ k B d τ) : Two U T w0 w k B d τ g A c σ := ⟨h.b, h.a, fun e => h.ne e.symm, fun i hi e => h.ap i e hi, h.new⟩
theorem Two.right (h : Two T U w0 w g A c σ k B d τ) (hd : DidT U w w0.heap.size k B v υ e w') : ∃ B' d', e = v ∧ Two T U w0 w' g A c σ k B' d' υ := by
  obtain ⟨B', d', he, h1⟩ := h.swap.left hd
  exact ⟨B', d', he, h1.swap⟩
/-- bytes made before stay -/
theorem Two.rb {C : Option Addr} {l : List UInt8} (h : Two T U w0 w g A c σ k B d τ) (hr : RB w0 C l) : RB w C l := hr.new h.new
theorem One.rb {C : Option Addr} {l : List UInt8} (h : One T w0 w g A c σ) (hr : RB w0 C l) : RB w C l := hr.new h.new
end
/-- a new one -/
theorem new_one (w0 : World) : Calls Try.prog 10 #[] w0 fun e w' => ∃ g, e = .returned (.pointer (some ⟨g, 0, none⟩)) ∧ One 62 w0 w' g none 0 St.new := by
  refine (new_dk w0).mono ?_
  rintro e w' ⟨rfl, hd, hn⟩
  exact ⟨_, rfl, hd, hn⟩
/-- a second one -/
theorem new_two {T : TypeId} {w0 w : World} {g c : Nat} {A : Option Addr} {σ : St} (h : One T w0 w g A c σ) : Calls Try.prog 10 #[] w fun e w' => ∃ k, e = .returned (.pointer (some ⟨k, 0, none⟩)) ∧ Two T 62 w0 w' g A c σ k none 0 St.new := by
  refine (new_dk w).mono ?_
  rintro e w' ⟨rfl, hd, hn⟩
  refine ⟨_, rfl, h.a.new hn, hd.base_le h.size, ?_, (fun i hi => by cases hi), New.trans h.new hn⟩
  have := h.a.lt
  omega
section
variable {base g c : Nat} {A : Option Addr} {σ : St} {w : World}
theorem start_at (h : DKd w base g A c σ) (τ : St) (hx : σ.start = τ) : Calls Try.prog 25 #[.pointer (some ⟨g, 0, none⟩)] w (Did w base g A (.returned (.tuple #[])) τ) := by
  subst hx
  exact start_dk h
theorem crash_at (h : DKd w base g A c σ) (x : Int) (τ : St) (hx : σ.crash x = τ) : Calls Try.prog 24 #[.pointer (some ⟨g, 0, none⟩), .int .i64 x] w (Did w base g A (.returned (.tuple #[])) τ) := by
  subst hx
  exact crash_dk h x
theorem trip_at (h : DKd w base g A c σ) (x : Int) (τ : St) (hx : σ.trip x = τ) : Calls Try.prog 27 #[.pointer (some ⟨g, 0, none⟩), .int .i64 x] w (Did w base g A (.returned (.tuple #[])) τ) := by
  subst hx
  exact trip_dk h x
end
end Go.Proofs.Ytemgiodakoojiaa
