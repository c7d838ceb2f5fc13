/- A journal's bytes as the page has them: the snapshot, the records, the place behind. No program here. -/
import Derived.Test.YtemgiodakoojiaaFrm
namespace Go.Proofs.Ytemgiodakoojiaa.Jr
open Go.Proofs.Ytemgiodakoojiaa.Frm
/-- the text behind a mark, if a frame of it is first -/
def markOf (m : UInt8) (b : List UInt8) : Option (List UInt8) := match first b with
  | some (x :: t) => if x = m then some t else none
  | _ => none
def recsF : Nat → List UInt8 → List (List UInt8) × Nat
  | 0, _ => ([], 0)
  | f + 1, b => match markOf 82 b with
    | none => ([], 0)
    | some t => (t :: (recsF f (b.drop (9 + t.length))).1, 9 + t.length + (recsF f (b.drop (9 + t.length))).2)
def recs (b : List UInt8) : List (List UInt8) × Nat := recsF b.length b
def parts (b : List UInt8) : List UInt8 × List (List UInt8) × Nat := match markOf 83 b with
  | some t => (t, (recs (b.drop (9 + t.length))).1, 9 + t.length + (recs (b.drop (9 + t.length))).2)
  | none => ([], (recs b).1, (recs b).2)
theorem markOf_some {m : UInt8} {b t : List UInt8} : markOf m b = some t ↔ first b = some (m :: t) := by
  unfold markOf
  constructor
  · intro h
    split at h
    · rename_i x t' hf
      split at h
      · rename_i hx
        cases h
        rw [hf, hx]
      · cases h
    · cases h
  · intro h
    rw [h]
    simp
theorem markOf_le {m : UInt8} {b t : List UInt8} (h : markOf m b = some t) : 9 + t.length ≤ b.length := by
  have h1 := (first_some (markOf_some.1 h)).1
  simp only [List.length_cons] at h1
  omega
theorem recsF_enough (b : List UInt8) (f g : Nat) (hf : b.length ≤ f) (hg : b.length ≤ g) : recsF f b = recsF g b := by
  induction f generalizing b g with
  | zero =>
    have : b = [] := List.eq_nil_of_length_eq_zero (by omega)
    subst this
    cases g with
    | zero => rfl
    | succ g =>
      have h0 : markOf 82 [] = none := rfl
      simp [recsF, h0]
  | succ f ih =>
    cases g with
    | zero =>
      have : b = [] := List.eq_nil_of_length_eq_zero (by omega)
      subst this
      have h0 : markOf 82 [] = none := rfl
      simp [recsF, h0]
    | succ g =>
      unfold recsF
      cases h : markOf 82 b with
      | none => rfl
      | some p =>
        have hs := markOf_le h
        have e := ih (b.drop (9 + p.length)) g (by simp only [List.length_drop]; omega) (by simp only [List.length_drop]; omega)
        simp only [e]
theorem recs_none {b : List UInt8} (h : markOf 82 b = none) : recs b = ([], 0) := by
  unfold recs
  cases hb : b.length with
  | zero => rfl
  | succ n => simp [recsF, h]
theorem recs_some {b t : List UInt8} (h : markOf 82 b = some t) : recs b = (t :: (recs (b.drop (9 + t.length))).1, 9 + t.length + (recs (b.drop (9 + t.length))).2) := by
  have hs := markOf_le h
  have e : recs b = recsF (b.length - 1 + 1) b := by
    unfold recs
    rw [show b.length - 1 + 1 = b.length from by omega]
  have e2 : recsF (b.length - 1) (b.drop (9 + t.length)) = recs (b.drop (9 + t.length)) :=
    recsF_enough _ _ _ (by simp only [List.length_drop]; omega) (Nat.le_refl _)
  rw [e]
  unfold recsF
  rw [h]
  simp only [e2]
theorem recs_le (b : List UInt8) : (recs b).2 ≤ b.length ∧ 9 * (recs b).1.length ≤ (recs b).2 := by
  generalize hn : b.length = n
  induction n using Nat.strongRecOn generalizing b with
  | _ n ih =>
    cases h : markOf 82 b with
    | none => rw [recs_none h]; exact ⟨Nat.zero_le _, by simp⟩
    | some p =>
      have hs := markOf_le h
      rw [recs_some h]
      have := ih (b.drop (9 + p.length)).length (by simp only [List.length_drop]; omega) _ rfl
      simp only [List.length_drop, List.length_cons] at this ⊢
      omega
theorem recs_nil : recs [] = ([], 0) := rfl
theorem markOf_none {m : UInt8} {b : List UInt8} (h : first b = none) : markOf m b = none := by unfold markOf; rw [h]
theorem markOf_other {m x : UInt8} {b t : List UInt8} (h : first b = some (x :: t)) (hx : x ≠ m) : markOf m b = none := by
  unfold markOf
  rw [h]
  exact if_neg hx
theorem parts_none {b : List UInt8} (h : markOf 83 b = none) : parts b = ([], (recs b).1, (recs b).2) := by unfold parts; rw [h]
theorem parts_some {b t : List UInt8} (h : markOf 83 b = some t) : parts b = (t, (recs (b.drop (9 + t.length))).1, 9 + t.length + (recs (b.drop (9 + t.length))).2) := by unfold parts; rw [h]
theorem parts_nil : parts [] = ([], [], 0) := rfl
/-- a place on the way through a journal's bytes -/
structure At (b : List UInt8) (e : Nat) (snap : List UInt8) (rs : List (List UInt8)) : Prop where
  le : e ≤ b.length
  start : e = 0 → snap = [] ∧ rs = []
  rest : 0 < e → parts b = (snap, rs ++ (recs (b.drop e)).1, e + (recs (b.drop e)).2)
  many : 9 * rs.length ≤ e
theorem At.zero (b : List UInt8) : At b 0 [] [] := ⟨Nat.zero_le _, fun _ => ⟨rfl, rfl⟩, fun h => absurd h (by omega), by simp⟩
theorem At.rec_ {b : List UInt8} {e : Nat} {snap t : List UInt8} {rs : List (List UInt8)} (h : At b e snap rs) (hf : first (b.drop e) = some (82 :: t)) : At b (e + (9 + t.length)) snap (rs ++ [t]) := by
  have hm := markOf_some.2 hf
  have hl := markOf_le hm
  have hs := recs_some hm
  simp only [List.length_drop] at hl
  have h2 := h.many
  have h1 := h.le
  refine ⟨by omega, fun h => by omega, fun _ => ?_, by simp only [List.length_append, List.length_cons, List.length_nil]; omega⟩
  by_cases h0 : e = 0
  · subst h0
    obtain ⟨rfl, rfl⟩ := h.start rfl
    have hn : markOf 83 b = none := markOf_other (by rw [List.drop_zero] at hf; exact hf) (by decide)
    rw [parts_none hn]
    rw [List.drop_zero] at hs
    simp only [hs, Nat.zero_add, List.nil_append, List.cons_append]
  · rw [h.rest (by omega), hs, List.drop_drop]
    simp only [List.append_assoc, List.cons_append, List.nil_append, Prod.mk.injEq, true_and]
    omega
theorem At.snap_ {b : List UInt8} {snap t : List UInt8} {rs : List (List UInt8)} (h : At b 0 snap rs) (hf : first (b.drop 0) = some (83 :: t)) : At b (0 + (9 + t.length)) t rs := by
  have hm := markOf_some.2 hf
  rw [List.drop_zero] at hm
  have hl := markOf_le hm
  obtain ⟨rfl, rfl⟩ := h.start rfl
  refine ⟨by omega, fun h => by omega, fun _ => ?_, by simp⟩
  rw [parts_some hm, Nat.zero_add]
  rfl
theorem At.end_ {b : List UInt8} {e : Nat} {snap : List UInt8} {rs : List (List UInt8)} (h : At b e snap rs) (hno : ∀ t, first (b.drop e) ≠ some (82 :: t)) (hns : e = 0 → ∀ t, first (b.drop e) ≠ some (83 :: t)) : parts b = (snap, rs, e) := by
  have h82 : markOf 82 (b.drop e) = none := by
    cases h : markOf 82 (b.drop e) with
    | none => rfl
    | some t => exact absurd (markOf_some.1 h) (hno t)
  by_cases h0 : e = 0
  · subst h0
    obtain ⟨rfl, rfl⟩ := h.start rfl
    have h83 : markOf 83 b = none := by
      cases hq : markOf 83 b with
      | none => rfl
      | some t => exact absurd (markOf_some.1 (by rw [List.drop_zero]; exact hq)) (hns rfl t)
    rw [List.drop_zero] at h82
    rw [parts_none h83, recs_none h82]
  · rw [h.rest (by omega), recs_none h82]
    simp
theorem At.all {b : List UInt8} {e : Nat} {snap : List UInt8} {rs : List (List UInt8)} (h : At b e snap rs) (he : b.length ≤ e) : parts b = (snap, rs, e) := by
  have hd : b.drop e = [] := List.drop_eq_nil_of_le he
  have h0 : ∀ p, first [] ≠ some p := fun p h => by cases h
  exact h.end_ (fun t => by rw [hd]; exact h0 _) (fun _ t => by rw [hd]; exact h0 _)
/-- the frames of records -/
def rows (l : List (List UInt8)) : List UInt8 := seals (l.map fun t => 82 :: t)
theorem rows_nil : rows [] = [] := rfl
theorem rows_cons (t : List UInt8) (l : List (List UInt8)) : rows (t :: l) = seal_ (82 :: t) ++ rows l := rfl
theorem rows_append (a b : List (List UInt8)) : rows (a ++ b) = rows a ++ rows b := by simp [rows, seals_append]
theorem rows_snoc (a : List (List UInt8)) (t : List UInt8) : rows (a ++ [t]) = rows a ++ seal_ (82 :: t) := by
  rw [rows_append, rows_cons, rows_nil, List.append_nil]
theorem rows_length (l : List (List UInt8)) : (rows l).length = l.flatten.length + 9 * l.length := by
  induction l with
  | nil => rfl
  | cons p l ih => rw [rows_cons, List.length_append, seal_length, ih]; simp; omega
theorem rows_bound (l : List (List UInt8)) (h : ∀ t ∈ l, t.length ≤ 4096) : (rows l).length ≤ 4105 * l.length := by
  induction l with
  | nil => simp [rows_nil]
  | cons p l ih =>
    have h1 := ih (fun t ht => h t (by simp [ht]))
    have h2 := h p (by simp)
    rw [rows_cons, List.length_append, seal_length]
    simp only [List.length_cons] at h1 ⊢
    omega
theorem markOf_at {m x : UInt8} {t b : List UInt8} (h : first b = some (x :: t)) : markOf m b = if x = m then some t else none := by
  unfold markOf
  rw [h]
theorem short_ {x : UInt8} {t : List UInt8} (ht : t.length ≤ 131071) : (x :: t).length ≤ 131072 := by simp only [List.length_cons]; omega
theorem markOf_seal (m x : UInt8) (t s : List UInt8) (ht : t.length ≤ 131071) : markOf m (seal_ (x :: t) ++ s) = if x = m then some t else none :=
  markOf_at (first_of_seal (short_ ht) s)
theorem recs_rows (l : List (List UInt8)) (hl : ∀ t ∈ l, t.length ≤ 131071) (s : List UInt8) : recs (rows l ++ s) = (l ++ (recs s).1, (rows l).length + (recs s).2) := by
  induction l with
  | nil => simp [rows_nil]
  | cons p l ih =>
    have h1 : markOf 82 (rows (p :: l) ++ s) = some p := by
      rw [rows_cons, List.append_assoc, markOf_seal _ _ _ _ (hl p (by simp)), if_pos rfl]
    have h2 : (rows (p :: l) ++ s).drop (9 + p.length) = rows l ++ s := by
      rw [rows_cons, List.append_assoc]
      refine List.drop_left' ?_
      rw [seal_length, List.length_cons]
      omega
    rw [recs_some h1, h2, ih (fun q hq => hl q (by simp [hq]))]
    simp only [List.cons_append, rows_cons, List.length_append, seal_length, Prod.mk.injEq, true_and, List.length_cons]
    omega
theorem parts_rows (l : List (List UInt8)) (hl : ∀ t ∈ l, t.length ≤ 131071) (s : List UInt8) (h : l ≠ [] ∨ markOf 83 s = none) : parts (rows l ++ s) = ([], l ++ (recs s).1, (rows l).length + (recs s).2) := by
  have h83 : markOf 83 (rows l ++ s) = none := by
    cases l with
    | nil =>
      rcases h with h | h
      · exact absurd rfl h
      · rw [rows_nil]; exact h
    | cons p l =>
      have hp := hl p (List.mem_cons_self ..)
      rw [rows_cons, List.append_assoc]
      exact markOf_other (first_of_seal (by simp only [List.length_cons]; omega) _) (by decide)
  rw [parts_none h83, recs_rows l hl s]
theorem parts_all (l : List (List UInt8)) (hl : ∀ t ∈ l, t.length ≤ 131071) : parts (rows l) = ([], l, (rows l).length) := by
  have h := parts_rows l hl [] (.inr rfl)
  rw [List.append_nil, recs_nil, List.append_nil, Nat.add_zero] at h
  exact h
theorem parts_snap (t : List UInt8) (l : List (List UInt8)) (ht : t.length ≤ 131071) (hl : ∀ t ∈ l, t.length ≤ 131071) : parts (seal_ (83 :: t) ++ rows l) = (t, l, (seal_ (83 :: t) ++ rows l).length) := by
  have hm : markOf 83 (seal_ (83 :: t) ++ rows l) = some t := by rw [markOf_seal _ _ _ _ ht, if_pos rfl]
  have hd : (seal_ (83 :: t) ++ rows l).drop (9 + t.length) = rows l := by
    refine List.drop_left' ?_
    rw [seal_length, List.length_cons]
    omega
  have hr := recs_rows l hl []
  rw [List.append_nil] at hr
  rw [parts_some hm]
  simp only [hd, hr, recs_nil, List.append_nil, List.length_append, seal_length, List.length_cons, Prod.mk.injEq, true_and]
  omega
/-- cut off anywhere: a beginning of the records, and where it ends -/
theorem recs_cut (l : List (List UInt8)) (hl : ∀ t ∈ l, t.length ≤ 131071) (n : Nat) : ∃ k, k ≤ l.length ∧ recs ((rows l).take n) = (l.take k, (rows (l.take k)).length) ∧ (rows (l.take k)).length ≤ n ∧ (rows (l.take k)) = (rows l).take (rows (l.take k)).length ∧ (∀ j, j ≤ l.length → (rows (l.take j)).length ≤ n → j ≤ k) := by
  induction l generalizing n with
  | nil => exact ⟨0, Nat.le_refl _, by rw [rows_nil, List.take_nil]; rfl, Nat.zero_le _, rfl, fun j hj _ => hj⟩
  | cons p l ih =>
    have hp := hl p (by simp)
    have h1 : first (rows (p :: l)) = some (82 :: p) := first_of_seal (by simp only [List.length_cons]; omega) _
    by_cases hn : 9 + p.length ≤ n
    · obtain ⟨k, hk, hr, hle, hpre, hmax⟩ := ih (fun q hq => hl q (by simp [hq])) (n - (9 + p.length))
      have h2 : markOf 82 ((rows (p :: l)).take n) = some p := markOf_some.2 (first_prefix h1 n (by simp only [List.length_cons]; omega))
      have h3 : ((rows (p :: l)).take n).drop (9 + p.length) = (rows l).take (n - (9 + p.length)) := by
        rw [List.drop_take, rows_cons, List.drop_left' (by rw [seal_length, List.length_cons]; omega)]
      have h4 : (rows (p :: l.take k)).length = 9 + p.length + (rows (l.take k)).length := by
        rw [rows_cons, List.length_append, seal_length, List.length_cons]; omega
      refine ⟨k + 1, by rw [List.length_cons]; omega, ?_, ?_, ?_, ?_⟩
      · rw [recs_some h2, h3, hr, List.take_succ_cons, h4]
      · rw [List.take_succ_cons, h4]; omega
      · have h5 : (seal_ (82 :: p)).length = 9 + p.length := by rw [seal_length, List.length_cons]; omega
        have h6 : (seal_ (82 :: p) ++ rows l).take (9 + p.length + (rows (l.take k)).length) = seal_ (82 :: p) ++ (rows l).take (rows (l.take k)).length := by
          rw [← h5, List.take_length_add_append]
        rw [List.take_succ_cons, h4, rows_cons, rows_cons, h6]
        exact congrArg _ hpre
      · intro j hj hjn
        cases j with
        | zero => omega
        | succ j =>
          rw [List.take_succ_cons, rows_cons, List.length_append, seal_length, List.length_cons] at hjn
          have := hmax j (by rw [List.length_cons] at hj; omega) (by omega)
          omega
    · refine ⟨0, Nat.zero_le _, ?_, by simp [rows_nil], by simp [rows_nil], ?_⟩
      · have h2 : first ((rows (p :: l)).take n) = none := first_short h1 n (by simp only [List.length_cons]; omega)
        have h3 : markOf 82 ((rows (p :: l)).take n) = none := markOf_none h2
        rw [recs_none h3]
        simp [rows_nil]
      · intro j hj hjn
        cases j with
        | zero => omega
        | succ j =>
          rw [List.take_succ_cons, rows_cons, List.length_append, seal_length, List.length_cons] at hjn
          omega
theorem parts_cut (l : List (List UInt8)) (hl : ∀ t ∈ l, t.length ≤ 131071) (n : Nat) : ∃ k, k ≤ l.length ∧ parts ((rows l).take n) = ([], l.take k, (rows (l.take k)).length) ∧ (rows (l.take k)).length ≤ n ∧ (rows (l.take k)) = (rows l).take (rows (l.take k)).length ∧ (∀ j, j ≤ l.length → (rows (l.take j)).length ≤ n → j ≤ k) := by
  obtain ⟨k, h1, h2, h3⟩ := recs_cut l hl n
  have h83 : markOf 83 ((rows l).take n) = none := by
    cases l with
    | nil => rw [rows_nil, List.take_nil]; exact markOf_none rfl
    | cons p l =>
      have hp := hl p (List.mem_cons_self ..)
      have hf : first (rows (p :: l)) = some (82 :: p) := first_of_seal (by simp only [List.length_cons]; omega) _
      by_cases hn : 9 + p.length ≤ n
      · exact markOf_other (first_prefix hf n (by simp only [List.length_cons]; omega)) (by decide)
      · exact markOf_none (first_short hf n (by simp only [List.length_cons]; omega))
  refine ⟨k, h1, ?_, h3⟩
  rw [parts_none h83, h2]
end Go.Proofs.Ytemgiodakoojiaa.Jr
