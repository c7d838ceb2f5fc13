/- What is done to a log and the page's disk that are alike: the plain part. -/
import Derived.Test.YtemgiodakoojiaaEqH
namespace Go.Proofs.Ytemgiodakoojiaa
set_option linter.unusedVariables false
open Go.RowKit
open Go.Proofs.Ytemgiodakoojiaa.Frm
open Go.Proofs.Ytemgiodakoojiaa.Jr
theorem markOf_append {m : UInt8} {b t : List UInt8} (h : markOf m b = some t) (s : List UInt8) : markOf m (b ++ s) = some t := markOf_some.2 (first_append (markOf_some.1 h) s)
theorem recs_more (b s : List UInt8) (h : (recs b).2 = b.length) : recs (b ++ s) = ((recs b).1 ++ (recs s).1, b.length + (recs s).2) := by
  generalize hn : b.length = n at h ⊢
  induction n using Nat.strongRecOn generalizing b with
  | _ n ih =>
    cases hm : markOf 82 b with
    | none =>
      rw [recs_none hm] at h ⊢
      have hb : b = [] := List.eq_nil_of_length_eq_zero (by rw [hn]; exact h.symm)
      subst hb
      rw [List.nil_append, List.nil_append, ← h]
      simp
    | some p =>
      have hs := markOf_le hm
      have h2 : (recs b).2 = 9 + p.length + (recs (b.drop (9 + p.length))).2 := by rw [recs_some hm]
      have e := ih (b.drop (9 + p.length)).length (by simp only [List.length_drop]; omega) (b.drop (9 + p.length)) rfl (by rw [List.length_drop]; omega)
      rw [recs_some (markOf_append hm s), recs_some hm, List.drop_append_of_le_length (by omega), e, List.length_drop]
      simp only [List.cons_append, Prod.mk.injEq, true_and]
      omega
theorem parts_more (b s : List UInt8) (h : (parts b).2.2 = b.length) (h83 : markOf 83 s = none) : parts (b ++ s) = ((parts b).1, (parts b).2.1 ++ (recs s).1, b.length + (recs s).2) := by
  cases hm : markOf 83 b with
  | some t =>
    have hs := markOf_le hm
    have h2 : (parts b).2.2 = 9 + t.length + (recs (b.drop (9 + t.length))).2 := by rw [parts_some hm]
    rw [parts_some (markOf_append hm s), parts_some hm, List.drop_append_of_le_length (by omega), recs_more _ _ (by rw [List.length_drop]; omega), List.length_drop]
    simp only [Prod.mk.injEq, true_and]
    omega
  | none =>
    have h2 : (parts b).2.2 = (recs b).2 := by rw [parts_none hm]
    have h83' : markOf 83 (b ++ s) = none := by
      cases h82 : markOf 82 b with
      | none =>
        have hb : b = [] := List.eq_nil_of_length_eq_zero (by rw [← h, h2, recs_none h82])
        subst hb
        exact h83
      | some p => exact markOf_other (first_append (markOf_some.1 h82) s) (by decide)
    rw [parts_none h83', parts_none hm, recs_more b s (by rw [← h2, h])]
/-- a record more -/
theorem parts_add (b t : List UInt8) (h : (parts b).2.2 = b.length) (ht : t.length ≤ 131071) : parts (b ++ seal_ (82 :: t)) = ((parts b).1, (parts b).2.1 ++ [t], (b ++ seal_ (82 :: t)).length) := by
  have hr : recs (seal_ (82 :: t)) = ([t], (seal_ (82 :: t)).length) := by
    have := recs_rows [t] (fun q hq => by rw [List.mem_singleton.1 hq]; exact ht) []
    rw [rows_cons, rows_nil, List.append_nil, List.append_nil, recs_nil] at this
    simpa using this
  have hf : first (seal_ (82 :: t)) = some (82 :: t) := by
    have := first_of_seal (short_ (x := 82) ht) []
    rwa [List.append_nil] at this
  rw [parts_more b _ h (markOf_other hf (by decide)), hr, List.length_append]
/-- a snapshot alone -/
theorem parts_one (t : List UInt8) (ht : t.length ≤ 131071) : parts (seal_ (83 :: t)) = (t, [], (seal_ (83 :: t)).length) := by
  have := parts_snap t [] ht (fun t h => by cases h)
  rwa [rows_nil, List.append_nil] at this
/-- behind an act the log goes on -/
def Goes (E : Nat → Prop) (w0 w w7 : World) (gj dg k m : Nat) : Prop := ∃ (F G : Nat → Prop) (A : Option Addr) (c : Nat) (B : Option Addr) (d : Nat) (b : List UInt8) (s : Nat) (tr : Bool) (x y : Int),
  LogB F w0 w7 gj dg A c ⟨b, s, false, tr, x⟩ (parts b).1 (parts b).2.1 ∧ RefB G w0 w7 k B d ⟨b, s, false, tr, y⟩ ∧ (∀ i, F i → ¬ G i) ∧ (tr = true → x = y) ∧ (parts b).2.2 = b.length ∧ b.length ≤ m ∧ Keep (fun i => ¬ E i) w w7 ∧ Off E F w7 ∧ Off E G w7
/-- behind an act the log must be opened again -/
def Stops (E : Nat → Prop) (w0 w w7 : World) (dg k : Nat) (off : Bool) (m : Nat) : Prop := ∃ (F G : Nat → Prop) (A : Option Addr) (c : Nat) (B : Option Addr) (d : Nat) (b : List UInt8) (s : Nat) (tr : Bool) (x y : Int),
  DiskB F w0 w7 dg A c ⟨b, s, off, tr, x⟩ ∧ RefB G w0 w7 k B d ⟨b, s, off, tr, y⟩ ∧ (∀ i, F i → ¬ G i) ∧ (tr = true → x = y) ∧ (off = true → tr = false) ∧ b.length ≤ m ∧ Keep (fun i => ¬ E i) w w7 ∧ Off E F w7 ∧ Off E G w7
section
variable {E S F G F1 : Nat → Prop} {w0 w w7 w8 : World} {g gj dg k m c d : Nat} {A B : Option Addr} {off tr : Bool} {σ : St} {snap : List UInt8} {rs : List (List UInt8)} {v e : Ending}
theorem Goes.spoil (h : Goes E w0 w w7 gj dg k m) (hk : Keep S w7 w8) (hS : ∀ i, S i → E i ∧ w0.heap.size ≤ i) : Alike w0 w8 gj dg k m := by
  obtain ⟨F, G, A, c, B, d, b, s, tr, x, y, h1, h2, h3, h4, h5, h6, h7, h8, h9⟩ := h
  have hn : New w0 w8 := Below.trans h1.new (hk.below h1.new.size fun i hi => (hS i hi).2)
  exact ⟨F, G, A, c, B, d, b, s, tr, x, y, h1.other hk (fun i hi => h8.ap i (hS i hi).1) hn, h2.other hk (fun i hi => h9.ap i (hS i hi).1) hn, h3, h4, h5, h6⟩
theorem Stops.spoil (h : Stops E w0 w w7 dg k off m) (hk : Keep S w7 w8) (hS : ∀ i, S i → E i ∧ w0.heap.size ≤ i) : ∃ F G tr, Twins F G w0 w8 dg k off tr m := by
  obtain ⟨F, G, A, c, B, d, b, s, tr, x, y, h1, h2, h3, h4, h5, h6, h7, h8, h9⟩ := h
  have hn : New w0 w8 := Below.trans h1.new (hk.below h1.new.size fun i hi => (hS i hi).2)
  exact ⟨F, G, tr, A, c, B, d, b, s, x, y, h1.other hk (fun i hi => h8.ap i (hS i hi).1) hn, h2.other hk (fun i hi => h9.ap i (hS i hi).1) hn, h3, h4, h5, h6⟩
/-- a log and the page's disk beside it, and things that stay -/
structure Duo (E F G : Nat → Prop) (w0 w1 w : World) (gj dg : Nat) (A : Option Addr) (c : Nat) (σ : St) (snap : List UInt8) (rs : List (List UInt8)) (k : Nat) (B : Option Addr) (d : Nat) (ρ : St) : Prop where
  l : LogB F w0 w gj dg A c σ snap rs
  r : RefB G w0 w k B d ρ
  ap : ∀ i, F i → ¬ G i
  keep : Keep (fun i => ¬ E i) w1 w
  oF : Off E F w
  oG : Off E G w
variable {w1 w' : World} {ρ τ υ : St} {A' : Option Addr} {c' : Nat} {snap' : List UInt8} {rs' : List (List UInt8)}
theorem Duo.log (h : Duo E F G w0 w1 w gj dg A c σ snap rs k B d ρ) (hk : LogAt (Plus F w) w w' gj dg A' c' τ snap' rs') : Duo E (After F w w') G w0 w1 w' gj dg A' c' τ snap' rs' k B d ρ := by
  obtain ⟨h1, hg⟩ := LogB.step h.l.toDisk hk
  obtain ⟨h2, h3⟩ := h.r.beside h.ap hg h1.new
  exact ⟨h1, h2, h3, h.keep.trans (h.oF.keep hg), h.oF.step hg, ⟨fun i hi => Nat.lt_of_lt_of_le (h.oG.lt i hi) hg.keep.size, h.oG.ap⟩⟩
theorem Duo.ref (h : Duo E F G w0 w1 w gj dg A c σ snap rs k B d ρ) (hd : DidR w 0 k B v υ e w') : ∃ B' d', e = v ∧ Duo E F (After G w w') w0 w1 w' gj dg A c σ snap rs k B' d' υ := by
  obtain ⟨B', d', he, h2, hg⟩ := h.r.did hd
  obtain ⟨h1, h3⟩ := h.l.beside (fun i hi hs => h.ap i hs hi) hg h2.new
  exact ⟨B', d', he, h1, h2, fun i hi hs => h3 i hs hi, h.keep.trans (h.oG.keep hg), ⟨fun i hi => Nat.lt_of_lt_of_le (h.oF.lt i hi) hg.keep.size, h.oF.ap⟩, h.oG.step hg⟩
theorem Duo.also (h : Duo E F G w0 w1 w gj dg A c σ snap rs k B d ρ) (hn : New w w') : Duo E F G w0 w1 w' gj dg A c σ snap rs k B d ρ :=
  ⟨h.l.also hn, h.r.also hn, h.ap, h.keep.trans (.of_new hn), h.oF.also hn, h.oG.also hn⟩
theorem Duo.drew (h : Duo E F G w0 w1 w gj dg A c σ snap rs k B d ρ) : Duo E F G w0 w1 w.drew gj dg A c σ snap rs k B d ρ := h.also (Below.drew (New.refl w))
/-- a log and the page's disk, on, and alike -/
theorem Duo.goes {b : List UInt8} {s : Nat} {x y : Int} (h : Duo E F G w0 w1 w gj dg A c ⟨b, s, false, tr, x⟩ (parts b).1 (parts b).2.1 k B d ⟨b, s, false, tr, y⟩) (hxy : tr = true → x = y) (hp : (parts b).2.2 = b.length) (hm : b.length ≤ m) : Goes E w0 w1 w gj dg k m :=
  ⟨F, G, A, c, B, d, b, s, tr, x, y, h.l, h.r, h.ap, hxy, hp, hm, h.keep, h.oF, h.oG⟩
theorem Duo.goes2 {b : List UInt8} {s : Nat} {x y : Int} (h : Duo E F G w0 w1 w gj dg A c ⟨b, s, false, tr, x⟩ snap rs k B d ⟨b, s, false, tr, y⟩) (h1 : snap = (parts b).1) (h2 : rs = (parts b).2.1) (hxy : tr = true → x = y) (hp : (parts b).2.2 = b.length) (hm : b.length ≤ m) : Goes E w0 w1 w gj dg k m := by
  subst h1; subst h2
  exact h.goes hxy hp hm
theorem Duo.stops {b : List UInt8} {s : Nat} {x y : Int} (h : Duo E F G w0 w1 w gj dg A c ⟨b, s, off, tr, x⟩ snap rs k B d ⟨b, s, off, tr, y⟩) (hxy : tr = true → x = y) (ho : off = true → tr = false) (hm : b.length ≤ m) : Stops E w0 w1 w dg k off m :=
  ⟨F, G, A, c, B, d, b, s, tr, x, y, h.l.toDisk, h.r, h.ap, hxy, ho, hm, h.keep, h.oF, h.oG⟩
end
end Go.Proofs.Ytemgiodakoojiaa
