/- A journal whose end is cut off, opened; rows that are the same; remainders. -/
import Derived.Test.YtemgiodakoojiaaLgH
namespace Go.Proofs.Ytemgiodakoojiaa
open Go.RowKit
open Go.Proofs.Ytemgiodakoojiaa.Frm
open Go.Proofs.Ytemgiodakoojiaa.Jr
theorem open_torn {O : Nat → Prop} {w0 w : World} {dg c en : Nat} {A : Option Addr} {l : List (List UInt8)} {k : Nat} (h : DiskAt O w0 w dg A c ⟨(rows l).take en, en, false, false, 0⟩) (hen : en ≤ (rows l).length) (hb : en ≤ 5000000)
    (hp : parts ((rows l).take en) = ([], l.take k, (rows (l.take k)).length)) (hz : (rows (l.take k)).length ≤ en) (hpre : rows (l.take k) = (rows l).take (rows (l.take k)).length) :
    Calls Try.prog 11 #[.pointer (some ⟨dg, 0, none⟩)] w (Logged O w0 dg ⟨rows (l.take k), (rows (l.take k)).length, false, false, 0⟩ [] (l.take k)) := by
  have hl : ((rows l).take en).length = en := by rw [List.length_take]; omega
  by_cases hq : (rows (l.take k)).length = en
  · have := open_log h (by rw [hl]; exact hb) (by rw [hp, hl, hq])
    rw [hq] at hpre ⊢
    rw [hpre]
    exact this
  · have := open_short h (by rw [hl]; exact hb) hp (by rw [hl]; omega)
    rw [List.take_take, Nat.min_eq_left hz, ← hpre] at this
    exact this
theorem rows_same (A B : Option Addr) (n c m d : Nat) (ls : List (List UInt8)) (w : World) (hn : n = ls.length) (hm : m = ls.length) (hmax : n ≤ maxLen) (hl : RR w A ls) (hk : RR w B ls) :
    Calls Try.prog 16 #[.slice A n c, .slice B m d] w fun e w' => e = .returned (.bool true) ∧ New w w' := by
  refine (rows_any A B n c m d ls ls w hn hm hmax hl hk).mono ?_
  rintro e w' ⟨rfl, hd⟩
  exact ⟨by rw [beq_self_eq_true], hd.new⟩
theorem uint_mod (x : Int) (q : Nat) (hq : q ≤ 1000000000) : ∃ en : Nat, wrap64 ((IntKind.u64.wrap x).tmod ((q : Int) + 1)) = (en : Int) ∧ en ≤ q := by
  have h : 0 ≤ IntKind.u64.wrap x := by rw [IntKind.wrap_u64]; exact Int.emod_nonneg _ (by decide)
  have h1 := Int.tmod_nonneg ((q : Int) + 1) h
  have h2 := Int.tmod_lt_of_pos (IntKind.u64.wrap x) (b := (q : Int) + 1) (by omega)
  refine ⟨((IntKind.u64.wrap x).tmod ((q : Int) + 1)).toNat, ?_, by omega⟩
  rw [IntWalk.wrap64_in _ (by omega)]
  omega
theorem cut_to {l : List UInt8} {s : Nat} {k : Int} {en : Nat} (h : en ≤ l.length) : St.cut ⟨l, s, false, false, k⟩ en = (0, ⟨l.take en, en, false, false, k⟩) := by
  unfold St.cut
  rw [if_neg Bool.false_ne_true, if_neg (by show ¬ ((en : Int) < 0 ∨ (l.length : Int) < en); omega), if_neg Bool.false_ne_true]
  rfl
/-- the blocks of a disk, and all that is new -/
def Foot (dg : Nat) (A : Option Addr) (w : World) : Nat → Prop := fun i => i = dg ∨ blk A = some i ∨ w.heap.size ≤ i
section
variable {O : Nat → Prop} {w0 w w' : World} {g dg c c' b : Nat} {A A' : Option Addr} {σ τ : St} {snap : List UInt8} {rs : List (List UInt8)}
theorem DiskAt.rebase (h : DiskAt O w0 w dg A c σ) : DiskAt (Foot dg A w) w w dg A c σ :=
  ⟨h.a, Keep.refl _ _, fun _ hi => .inr (.inr hi), .inl rfl, fun _ hi => .inr (.inl hi)⟩
theorem LogAt.back (h : DiskAt O w0 w dg A c σ) (k : LogAt (Foot dg A w) w w' g dg A' c' τ snap rs) : LogAt O w0 w' g dg A' c' τ snap rs := by
  refine k.mono (fun i _ hi => ?_) h.fr h.up
  rcases hi with rfl | hi | hi
  · exact h.od
  · exact h.oA i hi
  · exact h.upw i hi
theorem Foot.keep (h : Keep (Foot dg A w) w w') (hd : dg < b) (hA : ∀ i, blk A = some i → i < b) : Keep (fun i => i < b) w w' := by
  refine ⟨h.os, h.tape, h.output, h.size, fun i hi hs => h.block i hi ?_⟩
  rintro (rfl | hq | hq)
  · exact hs hd
  · exact hs (hA i hq)
  · omega
theorem DiskAt.lt (h : DiskAt O w0 w dg A c σ) : dg < w.heap.size ∧ ∀ i, blk A = some i → i < w.heap.size := ⟨h.a.lt, fun _ hi => (OB.lt h.a.own hi).2⟩
end
end Go.Proofs.Ytemgiodakoojiaa
