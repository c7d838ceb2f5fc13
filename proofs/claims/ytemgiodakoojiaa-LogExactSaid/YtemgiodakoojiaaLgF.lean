/- journal.Open of a disk that is on: what it does. -/
import Derived.Test.YtemgiodakoojiaaLgE
import Derived.Test.YtemgiodakoojiaaJr
namespace Go.Proofs.Ytemgiodakoojiaa
open Go.RowKit
open Go.Proofs.Ytemgiodakoojiaa.Frm
open Go.Proofs.Ytemgiodakoojiaa.Jr
/-- what is left on the disk by Open -/
def opened_ (l : List UInt8) (s : Nat) (tr : Bool) (k : Int) : St := if (parts l).2.2 < l.length then ⟨l.take (parts l).2.2, (parts l).2.2, false, tr, k⟩ else ⟨l, s, false, tr, k⟩
/-- what Open tells, and the log -/
def Opened (O : Nat → Prop) (w0 : World) (dg : Nat) (l : List UInt8) (s : Nat) (tr : Bool) (k : Int) (e : Ending) (w' : World) : Prop :=
  (tr = true ∧ (parts l).2.2 < l.length ∧ e = .returned (.tuple #[.pointer none, .int .i64 7]) ∧ ∃ A' c', DiskAt O w0 w' dg A' c' (St.crash ⟨l, s, false, tr, k⟩ k)) ∨
  ((tr = false ∨ (parts l).2.2 = l.length) ∧ ∃ g A' c', e = .returned (.tuple #[.pointer (some ⟨g, 0, none⟩), .int .i64 0]) ∧ LogAt O w0 w' g dg A' c' (opened_ l s tr k) (parts l).1 (parts l).2.1)
theorem LogAt.mono {O O' : Nat → Prop} {w0 w1 w : World} {g dg c : Nat} {A : Option Addr} {σ : St} {snap : List UInt8} {recs : List (List UInt8)} (h : LogAt O' w1 w g dg A c σ snap recs) (hO : ∀ i, i < w.heap.size → O' i → O i) (hfr : Keep O w0 w1) (hup : ∀ i, w0.heap.size ≤ i → O i) : LogAt O w0 w g dg A c σ snap recs :=
  h.far (S := fun _ => False) (Keep.refl _ w) (fun _ h _ _ => h.elim) w0 O hO (hfr.trans_new h.fr (fun i hi hlt => hO i (Nat.lt_of_lt_of_le hlt (Nat.le_trans hfr.size h.size)) hi)) hup
theorem DiskAt.mono {O O' : Nat → Prop} {w0 w1 w : World} {dg c : Nat} {A : Option Addr} {σ : St} (h : DiskAt O' w1 w dg A c σ) (hO : ∀ i, i < w.heap.size → O' i → O i) (hfr : Keep O w0 w1) (hup : ∀ i, w0.heap.size ≤ i → O i) : DiskAt O w0 w dg A c σ :=
  ⟨h.a, hfr.trans_new h.fr (fun i hi hlt => hO i (Nat.lt_of_lt_of_le hlt (Nat.le_trans hfr.size h.size)) hi), hup, hO _ h.a.lt h.od, fun i hi => hO _ (OB.lt h.a.own hi).2 (h.oA i hi)⟩
/-- a log without a record, on its disk -/
theorem log_new {O : Nat → Prop} {w0 w : World} {dg c : Nat} {A : Option Addr} {σ : St} (h : DiskAt O w0 w dg A c σ) : LogAt O w0 (w.alloc (.cells #[.pointer (some ⟨dg, 0, none⟩), .slice none 0 0, .slice none 0 0] 64)) w.heap.size dg A c σ [] [] :=
  ⟨h.also (Below.alloc (Below.refl _ _) (Nat.le_refl _) _), ⟨none, 0, none, 0, heap_alloc_new w _, Nat.le_refl _, Nat.zero_le _, Kept.nil _ _ _, [], Rows_.nil _ _ _⟩, h.upw _ (Nat.le_refl _)⟩
theorem open_off {base dg c : Nat} {A : Option Addr} {σ : St} {w : World} (h : DKd w base dg A c σ) (ho : σ.off = true) (hmax : σ.l.length ≤ 5000000) :
    Calls Try.prog 11 #[.pointer (some ⟨dg, 0, none⟩)] w fun e w' => e = .returned (.tuple #[.pointer none, .int .i64 7]) ∧ New w w' := by
  have HR := Lib.hid (read_dk h [] 7 (by unfold St.read; rw [ho]; rfl) (by omega))
  clear h ho hmax
  go_enter Try.func11, Try.ntmps11
  go_wp2_with fail
  refine HR.out.mono ?_
  rintro e w1 ⟨B, d, rfl, hob, hw1⟩
  clear hob
  go_wp2_with fail
  go_ret2
  exact ⟨rfl, hw1⟩
/-- how a round of Open's loop goes on -/
theorem At.next {b : List UInt8} {en : Nat} {snap : List UInt8} {rs : List (List UInt8)} (h : At b en snap rs) :
    (∃ t, first (b.drop en) = some (82 :: t)) ∨ (en = 0 ∧ ∃ t, first (b.drop en) = some (83 :: t)) ∨ (parts b = (snap, rs, en) ∧ (first (b.drop en) = none ∨ first (b.drop en) = some [] ∨ ∃ x t, first (b.drop en) = some (x :: t) ∧ ¬ (x.toNat : Int) = 82 ∧ (¬ (x.toNat : Int) = 83 ∨ en ≠ 0))) := by
  have hx : ∀ (x : UInt8) (m : Nat) (hm : m < 256), (x.toNat : Int) = m → x = UInt8.ofNat m := fun x m hm h => by
    have : x.toNat = m := by omega
    rw [← this]
    simp
  by_cases h1 : ∃ t, first (b.drop en) = some (82 :: t)
  · exact .inl h1
  by_cases h2 : en = 0 ∧ ∃ t, first (b.drop en) = some (83 :: t)
  · exact .inr (.inl h2)
  refine .inr (.inr ⟨h.end_ (fun t e => h1 ⟨t, e⟩) (fun h0 t e => h2 ⟨h0, t, e⟩), ?_⟩)
  cases hf : first (b.drop en) with
  | none => exact .inl rfl
  | some p =>
    cases p with
    | nil => exact .inr (.inl rfl)
    | cons x t =>
      refine .inr (.inr ⟨x, t, rfl, fun e => h1 ⟨t, by rw [hf, hx x 82 (by omega) e]; rfl⟩, ?_⟩)
      by_cases h0 : en = 0
      · exact .inl fun e => h2 ⟨h0, t, by rw [hf, hx x 83 (by omega) e]; rfl⟩
      · exact .inr h0
end Go.Proofs.Ytemgiodakoojiaa
