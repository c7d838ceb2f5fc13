/- The frames of chapter 4 on lists of bytes: sealed, first, scan, and what follows of them. No program here. -/
import Derived.Test.YtemgiodakoojiaaCrc
namespace Go.Proofs.Ytemgiodakoojiaa.Frm
open Go.Proofs.Ytemgiodakoojiaa.Crc

def be4 (n : Nat) : List UInt8 := [UInt8.ofNat (n / 16777216), UInt8.ofNat (n / 65536), UInt8.ofNat (n / 256), UInt8.ofNat n]
def at_ (b : List UInt8) (i : Nat) : Nat := (b.getD i 0).toNat
def num (b : List UInt8) : Nat := at_ b 0 * 16777216 + at_ b 1 * 65536 + at_ b 2 * 256 + at_ b 3
def seal_ (p : List UInt8) : List UInt8 := be4 p.length ++ (be4 (crc (be4 p.length ++ p)) ++ p)
def first (b : List UInt8) : Option (List UInt8) :=
  if b.length < 8 then none
  else if 131072 < num b ∨ b.length - 8 < num b then none
  else if crc (b.take 4 ++ (b.drop 8).take (num b)) = num (b.drop 4) then some ((b.drop 8).take (num b)) else none
def scanF : Nat → List UInt8 → List (List UInt8) × Nat
  | 0, _ => ([], 0)
  | f + 1, b => match first b with
    | none => ([], 0)
    | some p => (p :: (scanF f (b.drop (8 + p.length))).1, 8 + p.length + (scanF f (b.drop (8 + p.length))).2)
def scan (b : List UInt8) : List (List UInt8) × Nat := scanF b.length b

theorem at_lt (b : List UInt8) (i : Nat) : at_ b i < 256 := UInt8.toNat_lt _
theorem num_lt (b : List UInt8) : num b < 4294967296 := by
  have h0 := at_lt b 0; have h1 := at_lt b 1; have h2 := at_lt b 2; have h3 := at_lt b 3
  unfold num; omega
theorem be4_length (n : Nat) : (be4 n).length = 4 := rfl
theorem num_be4 (n : Nat) (h : n < 4294967296) (s : List UInt8) : num (be4 n ++ s) = n := by
  unfold num at_ be4
  simp only [List.cons_append, List.nil_append, List.getD_cons_zero, List.getD_cons_succ, UInt8.toNat_ofNat']
  omega
theorem be4_num (b : List UInt8) (h : 4 ≤ b.length) : be4 (num b) = b.take 4 := by
  match b, h with
  | x :: y :: z :: t :: r, _ =>
    have hx := x.toNat_lt; have hy := y.toNat_lt; have hz := z.toNat_lt; have ht := t.toNat_lt
    have e : num (x :: y :: z :: t :: r) = x.toNat * 16777216 + y.toNat * 65536 + z.toNat * 256 + t.toNat := rfl
    rw [e]
    unfold be4
    simp only [List.take_succ_cons, List.take_zero, List.cons.injEq, and_true]
    refine ⟨?_, ?_, ?_, ?_⟩ <;> apply UInt8.toNat_inj.1 <;> rw [UInt8.toNat_ofNat'] <;> omega
theorem be4_inj {n m : Nat} (hn : n < 4294967296) (hm : m < 4294967296) (h : be4 n = be4 m) : n = m := by
  have h1 := num_be4 n hn []
  have h2 := num_be4 m hm []
  rw [h, h2] at h1
  exact h1.symm
theorem seal_length (p : List UInt8) : (seal_ p).length = 8 + p.length := by
  unfold seal_
  simp only [List.length_append, be4_length]
  omega
theorem first_lt {b : List UInt8} (h : b.length < 8) : first b = none := by unfold first; rw [if_pos h]
theorem first_big {b : List UInt8} (h8 : 8 ≤ b.length) (h : 131072 < num b ∨ b.length - 8 < num b) : first b = none := by
  unfold first
  rw [if_neg (by omega), if_pos h]
theorem first_crc {b : List UInt8} (h8 : 8 ≤ b.length) (h : num b ≤ 131072) (h' : num b ≤ b.length - 8) :
    first b = if crc (b.take 4 ++ (b.drop 8).take (num b)) = num (b.drop 4) then some ((b.drop 8).take (num b)) else none := by
  conv => lhs; unfold first
  rw [if_neg (by omega), if_neg (by omega)]
theorem first_some {b p : List UInt8} (h : first b = some p) : 8 + p.length ≤ b.length ∧ p.length ≤ 131072 ∧ p.length = num b ∧ p = (b.drop 8).take (num b) := by
  unfold first at h
  split at h
  · cases h
  · split at h
    · cases h
    · split at h
      · cases h
        have hl : ((b.drop 8).take (num b)).length = num b := by simp only [List.length_take, List.length_drop]; omega
        exact ⟨by omega, by omega, hl, rfl⟩
      · cases h
/-- the first frame is the one made of its payload -/
theorem first_seal {b p : List UInt8} (h : first b = some p) : b.take (8 + p.length) = seal_ p := by
  have hs := first_some h
  unfold first at h
  split at h
  · cases h
  · rename_i h8
    split at h
    · cases h
    · split at h
      · rename_i hc
        have h4 : 4 ≤ b.length := by omega
        have h4' : 4 ≤ (b.drop 4).length := by simp only [List.length_drop]; omega
        have e1 : be4 p.length = b.take 4 := by rw [hs.2.2.1, be4_num b h4]
        have e2 : crc (be4 p.length ++ p) = num (b.drop 4) := by
          rw [e1, hs.2.2.2]
          exact hc
        have e3 : be4 (num (b.drop 4)) = (b.drop 4).take 4 := be4_num _ h4'
        unfold seal_
        rw [e2, e3, e1]
        have e4 : (b.drop 8).take p.length = p := by rw [hs.2.2.1]; exact hs.2.2.2.symm
        have e5 : b.take (8 + p.length) = b.take 4 ++ ((b.drop 4).take 4 ++ (b.drop 8).take p.length) := by
          rw [show 8 + p.length = 4 + (4 + p.length) from by omega, List.take_add, List.take_add, List.drop_drop]
        rw [e5, e4]
      · cases h
theorem first_of_seal {p : List UInt8} (hp : p.length ≤ 131072) (s : List UInt8) : first (seal_ p ++ s) = some p := by
  have hl : (seal_ p ++ s).length = 8 + p.length + s.length := by rw [List.length_append, seal_length]
  have hn : num (seal_ p ++ s) = p.length := by
    unfold seal_
    rw [List.append_assoc]
    exact num_be4 _ (by omega) _
  have hd4 : (seal_ p ++ s).drop 4 = be4 (crc (be4 p.length ++ p)) ++ (p ++ s) := by
    unfold seal_
    rw [List.append_assoc, List.drop_left' (be4_length _), List.append_assoc]
  have hd8 : (seal_ p ++ s).drop 8 = p ++ s := by
    rw [show 8 = 4 + 4 from rfl, ← List.drop_drop, hd4, List.drop_left' (be4_length _)]
  have ht4 : (seal_ p ++ s).take 4 = be4 p.length := by
    unfold seal_
    rw [List.append_assoc, List.take_left' (be4_length _)]
  have hn4 : num ((seal_ p ++ s).drop 4) = crc (be4 p.length ++ p) := by
    rw [hd4]
    exact num_be4 _ (crc_lt _) _
  have htp : (p ++ s).take p.length = p := List.take_left
  unfold first
  rw [if_neg (by omega), hn, if_neg (by omega), hn4, ht4, hd8, htp, if_pos rfl]
theorem first_iff {b p : List UInt8} : first b = some p ↔ p.length ≤ 131072 ∧ b.take (8 + p.length) = seal_ p := by
  constructor
  · intro h
    exact ⟨(first_some h).2.1, first_seal h⟩
  · rintro ⟨hp, h⟩
    have := first_of_seal hp (b.drop (8 + p.length))
    rwa [← h, List.take_append_drop] at this
theorem first_prefix {b p : List UInt8} (h : first b = some p) (n : Nat) (hn : 8 + p.length ≤ n) : first (b.take n) = some p := by
  rw [first_iff] at h ⊢
  refine ⟨h.1, ?_⟩
  rw [List.take_take, Nat.min_eq_left hn]
  exact h.2
theorem first_append {b p : List UInt8} (h : first b = some p) (s : List UInt8) : first (b ++ s) = some p := by
  have hl := (first_some h).1
  rw [first_iff] at h ⊢
  refine ⟨h.1, ?_⟩
  rw [List.take_append_of_le_length hl]
  exact h.2
theorem first_short {b p : List UInt8} (h : first b = some p) (n : Nat) (hn : n < 8 + p.length) : first (b.take n) = none := by
  have hs := first_some h
  cases hq : first (b.take n) with
  | none => rfl
  | some q =>
    exfalso
    have hq' := first_some hq
    simp only [List.length_take] at hq'
    have h4 : num (b.take n) = num b := by
      unfold num at_
      have g : ∀ i, i < 4 → (b.take n).getD i 0 = b.getD i 0 := by
        intro i hi
        simp only [List.getD_eq_getElem?_getD]
        rw [List.getElem?_take_of_lt (by omega)]
      rw [g 0 (by omega), g 1 (by omega), g 2 (by omega), g 3 (by omega)]
    rw [h4, ← hs.2.2.1] at hq'
    omega
theorem scanF_enough (b : List UInt8) (f g : Nat) (hf : b.length ≤ f) (hg : b.length ≤ g) : scanF f b = scanF g b := by
  induction f generalizing b g with
  | zero =>
    have : b = [] := List.eq_nil_of_length_eq_zero (by omega)
    subst this
    cases g with
    | zero => rfl
    | succ g =>
      have h0 : first [] = none := rfl
      simp [scanF, h0]
  | succ f ih =>
    cases g with
    | zero =>
      have : b = [] := List.eq_nil_of_length_eq_zero (by omega)
      subst this
      have h0 : first [] = none := rfl
      simp [scanF, h0]
    | succ g =>
      unfold scanF
      cases h : first b with
      | none => rfl
      | some p =>
        have hs := (first_some h).1
        have e := ih (b.drop (8 + p.length)) g (by simp only [List.length_drop]; omega) (by simp only [List.length_drop]; omega)
        simp only [e]
theorem scan_none {b : List UInt8} (h : first b = none) : scan b = ([], 0) := by
  unfold scan
  cases hb : b.length with
  | zero => rfl
  | succ n => simp [scanF, h]
theorem scan_some {b p : List UInt8} (h : first b = some p) : scan b = (p :: (scan (b.drop (8 + p.length))).1, 8 + p.length + (scan (b.drop (8 + p.length))).2) := by
  have hs := (first_some h).1
  have e : scan b = scanF (b.length - 1 + 1) b := by
    unfold scan
    rw [show b.length - 1 + 1 = b.length from by omega]
  have e2 : scanF (b.length - 1) (b.drop (8 + p.length)) = scan (b.drop (8 + p.length)) :=
    scanF_enough _ _ _ (by simp only [List.length_drop]; omega) (Nat.le_refl _)
  rw [e]
  unfold scanF
  rw [h]
  simp only [e2]
theorem scan_le (b : List UInt8) : (scan b).2 ≤ b.length := by
  generalize hn : b.length = n
  induction n using Nat.strongRecOn generalizing b with
  | _ n ih =>
    cases h : first b with
    | none => rw [scan_none h]; exact Nat.zero_le _
    | some p =>
      have hs := (first_some h).1
      rw [scan_some h]
      have := ih (b.drop (8 + p.length)).length (by simp only [List.length_drop]; omega) _ rfl
      simp only [List.length_drop] at this ⊢
      omega
theorem scan_count (b : List UInt8) : 8 * (scan b).1.length ≤ (scan b).2 := by
  generalize hn : b.length = n
  induction n using Nat.strongRecOn generalizing b with
  | _ n ih =>
    cases h : first b with
    | none => rw [scan_none h]; exact Nat.zero_le _
    | some p =>
      have hs := (first_some h).1
      rw [scan_some h]
      have := ih (b.drop (8 + p.length)).length (by simp only [List.length_drop]; omega) _ rfl
      simp only [List.length_cons] at this ⊢
      omega
/-- the frames of payloads, one behind the other -/
def seals (l : List (List UInt8)) : List UInt8 := l.flatMap seal_
theorem seals_cons (p : List UInt8) (l : List (List UInt8)) : seals (p :: l) = seal_ p ++ seals l := rfl
theorem seals_append (a b : List (List UInt8)) : seals (a ++ b) = seals a ++ seals b := by simp [seals]
theorem seals_take {l : List (List UInt8)} {k : Nat} {p : List UInt8} (h : l[k]? = some p) : seals (l.take (k + 1)) = seals (l.take k) ++ seal_ p := by
  rw [List.take_add_one, h, seals_append]
  simp [seals]
theorem seals_length (l : List (List UInt8)) : (seals l).length = l.flatten.length + 8 * l.length := by
  induction l with
  | nil => rfl
  | cons p l ih => rw [seals_cons, List.length_append, seal_length, ih]; simp; omega
/-- where each frame ends -/
def ends (l : List (List UInt8)) (k : Nat) : List Nat := (List.range k).map fun j => (seals (l.take (j + 1))).length
theorem ends_succ (l : List (List UInt8)) (k : Nat) : ends l (k + 1) = ends l k ++ [(seals (l.take (k + 1))).length] := by simp [ends, List.range_succ]
theorem scan_seals (l : List (List UInt8)) (hl : ∀ p ∈ l, p.length ≤ 131072) (s : List UInt8) : scan (seals l ++ s) = (l ++ (scan s).1, (seals l).length + (scan s).2) := by
  induction l with
  | nil => simp [seals]
  | cons p l ih =>
    have hp := hl p (by simp)
    have h1 : first (seals (p :: l) ++ s) = some p := by
      rw [seals_cons, List.append_assoc]
      exact first_of_seal hp _
    have h2 : (seals (p :: l) ++ s).drop (8 + p.length) = seals l ++ s := by
      rw [seals_cons, List.append_assoc]
      exact List.drop_left' (seal_length p)
    rw [scan_some h1, h2, ih (fun q hq => hl q (by simp [hq]))]
    simp only [List.cons_append, seals_cons, List.length_append, seal_length, Prod.mk.injEq, true_and]
    omega
theorem scan_nil : scan [] = ([], 0) := rfl
theorem scan_seals_all (l : List (List UInt8)) (hl : ∀ p ∈ l, p.length ≤ 131072) : scan (seals l) = (l, (seals l).length) := by
  have := scan_seals l hl []
  simpa [scan_nil] using this
/-- how many whole frames lie within the first n bytes, and where the last of them ends -/
def whole : List (List UInt8) → Nat → Nat × Nat
  | [], _ => (0, 0)
  | p :: l, n => if 8 + p.length ≤ n then ((whole l (n - (8 + p.length))).1 + 1, 8 + p.length + (whole l (n - (8 + p.length))).2) else (0, 0)
theorem scan_cut (l : List (List UInt8)) (hl : ∀ p ∈ l, p.length ≤ 131072) (n : Nat) : scan ((seals l).take n) = (l.take (whole l n).1, (whole l n).2) := by
  induction l generalizing n with
  | nil => simp [seals, whole, scan_nil]
  | cons p l ih =>
    have hp := hl p (by simp)
    have h1 : first (seals (p :: l)) = some p := first_of_seal hp _
    unfold whole
    by_cases hn : 8 + p.length ≤ n
    · rw [if_pos hn]
      have h2 := first_prefix h1 n hn
      have h3 : ((seals (p :: l)).take n).drop (8 + p.length) = (seals l).take (n - (8 + p.length)) := by
        rw [List.drop_take, seals_cons, List.drop_left' (seal_length p)]
      rw [scan_some h2, h3, ih (fun q hq => hl q (by simp [hq]))]
      simp
    · rw [if_neg hn, scan_none (first_short h1 n (by omega))]
      simp
theorem whole_is (l : List (List UInt8)) (n k : Nat) (hk : k ≤ l.length) (h1 : (seals (l.take k)).length ≤ n) (h2 : k = l.length ∨ n < (seals (l.take (k + 1))).length) : whole l n = (k, (seals (l.take k)).length) := by
  induction l generalizing n k with
  | nil =>
    have : k = 0 := by simpa using hk
    subst this
    rfl
  | cons p l ih =>
    unfold whole
    cases k with
    | zero =>
      rcases h2 with h2 | h2
      · simp at h2
      · rw [List.take_succ_cons, List.take_zero, seals_cons, List.length_append, seal_length] at h2
        rw [if_neg (by simp [seals] at h2; omega)]
        rfl
    | succ k =>
      rw [List.take_succ_cons, seals_cons, List.length_append, seal_length] at h1
      have hih := ih (n - (8 + p.length)) k (by simpa using hk) (by omega) (by
        rcases h2 with h2 | h2
        · left; simpa using h2
        · right
          rw [List.take_succ_cons, seals_cons, List.length_append, seal_length] at h2
          omega)
      rw [if_pos (by omega), hih, List.take_succ_cons, seals_cons, List.length_append, seal_length]
theorem seal_inj {a b : List UInt8} (ha : a.length ≤ 131072) (hb : b.length ≤ 131072) (h : seal_ a = seal_ b) : a = b := by
  have h1 := first_of_seal ha []
  have h2 := first_of_seal hb []
  rw [h, h2] at h1
  cases h1
  rfl
/-- a payload changed in at most four bytes in a row under its old head: no frame -/
theorem first_spoilt (u l k v : List UInt8) (hl : l.length = k.length) (h4 : l.length ≤ 4) (hp : (u ++ (l ++ v)).length ≤ 131072) :
    first (be4 (u ++ (l ++ v)).length ++ (be4 (crc (be4 (u ++ (l ++ v)).length ++ (u ++ (l ++ v)))) ++ (u ++ (k ++ v)))) = if l = k then some (u ++ (l ++ v)) else none := by
  have hlen : (u ++ (k ++ v)).length = (u ++ (l ++ v)).length := by simp [hl]
  by_cases h : l = k
  · subst h
    rw [if_pos rfl]
    have := first_of_seal hp []
    rwa [List.append_nil] at this
  · rw [if_neg h]
    generalize hL : be4 (u ++ (l ++ v)).length ++ (be4 (crc (be4 (u ++ (l ++ v)).length ++ (u ++ (l ++ v)))) ++ (u ++ (k ++ v))) = b
    cases hq : first b with
    | none => rfl
    | some q =>
      exfalso
      have hs := first_some hq
      have hse := first_seal hq
      have hbl : b.length = 8 + (u ++ (l ++ v)).length := by
        rw [← hL]
        simp only [List.length_append, be4_length] at hlen ⊢
        omega
      have hn : num b = (u ++ (l ++ v)).length := by rw [← hL]; exact num_be4 _ (by omega) _
      have hqe : q = u ++ (k ++ v) := by
        rw [hs.2.2.2, hn, ← hL, show 8 = 4 + 4 from rfl, ← List.drop_drop, List.drop_left' (be4_length _), List.drop_left' (be4_length _), ← hlen, List.take_length]
      have hqn : q.length = (u ++ (l ++ v)).length := by rw [hqe, hlen]
      rw [List.take_of_length_le (by omega), ← hL] at hse
      unfold seal_ at hse
      rw [hqn, hqe] at hse
      have e2 := List.append_inj_left (List.append_cancel_left hse) rfl
      have e3 := be4_inj (crc_lt _) (crc_lt _) e2
      rw [crc_eq_iff] at e3
      have e4 : reg 4294967295 ((be4 (u ++ (l ++ v)).length ++ u) ++ (l ++ v)) = reg 4294967295 ((be4 (u ++ (l ++ v)).length ++ u) ++ (k ++ v)) := by
        rw [List.append_assoc, List.append_assoc]; exact e3
      exact h (reg_told _ l k v hl h4 (show (4294967295 : Nat) < 4294967296 by omega) e4)
end Go.Proofs.Ytemgiodakoojiaa.Frm
