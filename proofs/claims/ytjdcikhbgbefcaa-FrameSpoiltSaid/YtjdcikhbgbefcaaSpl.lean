/- Bytes changed at a place: what the first frame of a changed frame is. No program here. -/
import Derived.Test.YtjdcikhbgbefcaaFrm
namespace Go.Proofs.Ytjdcikhbgbefcaa
open Go.Proofs.Ytjdcikhbgbefcaa.Crc Go.Proofs.Ytjdcikhbgbefcaa.Frm
/-- the bytes from o on, i of them, changed by those of es -/
def spl (l : List UInt8) (o : Nat) (es : List UInt8) (i : Nat) : List UInt8 := l.mapIdx fun j b => if o ≤ j ∧ j < o + i then b ^^^ es.getD (j - o) 0 else b
theorem spl_zero (l : List UInt8) (o : Nat) (es : List UInt8) : spl l o es 0 = l := by
  apply List.ext_getElem?
  intro j
  unfold spl
  rw [List.getElem?_mapIdx]
  have : ¬ (o ≤ j ∧ j < o) := by omega
  simp [this]
theorem spl_succ {l : List UInt8} {o : Nat} {es : List UInt8} {i : Nat} {b e : UInt8} (hb : (spl l o es i)[o + i]? = some b) (he : es[i]? = some e) : (spl l o es i).set (o + i) (b ^^^ e) = spl l o es (i + 1) := by
  unfold spl at hb ⊢
  rw [List.getElem?_mapIdx] at hb
  obtain ⟨y, hy, hy2⟩ := Option.map_eq_some_iff.1 hb
  rw [if_neg (by omega)] at hy2
  subst hy2
  apply List.ext_getElem?
  intro j
  rw [List.getElem?_mapIdx]
  by_cases hj : j = o + i
  · subst hj
    rw [List.getElem?_set_self (by rw [List.length_mapIdx]; exact (List.getElem?_eq_some_iff.1 hy).1), hy]
    simp [he]
  · rw [List.getElem?_set_ne (by omega), List.getElem?_mapIdx]
    have : (o ≤ j ∧ j < o + i) ↔ (o ≤ j ∧ j < o + (i + 1)) := by omega
    simp only [this]
theorem spl_length (l : List UInt8) (o : Nat) (es : List UInt8) (i : Nat) : (spl l o es i).length = l.length := by unfold spl; rw [List.length_mapIdx]
theorem spl_append (a t : List UInt8) (o : Nat) (es : List UInt8) (i : Nat) (h : a.length ≤ o) : spl (a ++ t) o es i = a ++ spl t (o - a.length) es i := by
  apply List.ext_getElem?
  intro j
  unfold spl
  rw [List.getElem?_mapIdx]
  by_cases hj : j < a.length
  · rw [List.getElem?_append_left hj, List.getElem?_append_left hj]
    have : ¬ (o ≤ j ∧ j < o + i) := by omega
    simp [this]
  · rw [List.getElem?_append_right (by omega), List.getElem?_append_right (by omega), List.getElem?_mapIdx]
    have h1 : (o ≤ j ∧ j < o + i) ↔ (o - a.length ≤ j - a.length ∧ j - a.length < o - a.length + i) := by omega
    have h2 : j - o = j - a.length - (o - a.length) := by omega
    simp only [h1, h2]
theorem spl_front (a t : List UInt8) (es : List UInt8) : spl (a ++ t) 0 es a.length = spl a 0 es a.length ++ t := by
  apply List.ext_getElem?
  intro j
  unfold spl
  rw [List.getElem?_mapIdx]
  by_cases hj : j < a.length
  · rw [List.getElem?_append_left hj, List.getElem?_append_left (by rw [List.length_mapIdx]; exact hj), List.getElem?_mapIdx]
  · rw [List.getElem?_append_right (by omega), List.getElem?_append_right (by rw [List.length_mapIdx]; omega), List.length_mapIdx]
    simp [hj]
theorem xor_zero_of {b e : UInt8} (h : b = b ^^^ e) : e = 0 := by
  apply UInt8.toNat_inj.1
  have h1 := congrArg UInt8.toNat h
  rw [UInt8.toNat_xor] at h1
  have h2 := congrArg (b.toNat ^^^ ·) h1
  simp only [← Nat.xor_assoc, Nat.xor_self, Nat.zero_xor] at h2
  exact h2.symm
theorem spl_same (l es : List UInt8) (h4 : l.length ≤ es.length) : l = spl l 0 es l.length ↔ (es.take l.length).any (· != 0) = false := by
  rw [List.any_eq_false]
  constructor
  · intro h x hx
    obtain ⟨j, hj, rfl⟩ := List.mem_iff_getElem.1 hx
    rw [List.length_take] at hj
    have hjl : j < l.length := by omega
    have h1 : l[j]? = (spl l 0 es l.length)[j]? := by rw [← h]
    unfold spl at h1
    rw [List.getElem?_mapIdx, List.getElem?_eq_getElem hjl] at h1
    have h2 : 0 ≤ j ∧ j < 0 + l.length := by omega
    rw [Option.map_some, if_pos h2] at h1
    injection h1 with h1
    have h3 := xor_zero_of h1
    rw [List.getElem_take]
    rw [List.getD_eq_getElem?_getD, Nat.sub_zero, List.getElem?_eq_getElem (by omega)] at h3
    simpa using h3
  · intro h
    apply List.ext_getElem?
    intro j
    unfold spl
    rw [List.getElem?_mapIdx]
    by_cases hj : j < l.length
    · rw [List.getElem?_eq_getElem hj, Option.map_some]
      have h2 : 0 ≤ j ∧ j < 0 + l.length := by omega
      have h3 := h (es[j]'(by omega)) (List.mem_iff_getElem.2 ⟨j, by rw [List.length_take]; omega, by rw [List.getElem_take]⟩)
      have h4 : es[j]'(by omega) = 0 := by simpa using h3
      rw [if_pos h2, List.getD_eq_getElem?_getD, Nat.sub_zero, List.getElem?_eq_getElem (by omega), Option.getD_some, h4, UInt8.xor_zero]
    · rw [List.getElem?_eq_none (by omega)]
      rfl
theorem first_spl (p es : List UInt8) (r k : Nat) (hp : p.length ≤ 131072) (hk : k ≤ es.length) (hk4 : k ≤ 4) (hr : r + k ≤ p.length) :
    first (spl (seal_ p) (8 + r) es k) = if (es.take k).any (· != 0) then none else some p := by
  have hu : (p.take r).length = r := by rw [List.length_take]; omega
  have hl : ((p.drop r).take k).length = k := by rw [List.length_take, List.length_drop]; omega
  have hpe : p.take r ++ ((p.drop r).take k ++ (p.drop r).drop k) = p := by rw [List.take_append_drop, List.take_append_drop]
  generalize hU : p.take r = u at *
  generalize hL : (p.drop r).take k = l at *
  generalize hV : (p.drop r).drop k = v at *
  have he : spl (seal_ p) (8 + r) es k = be4 (u ++ (l ++ v)).length ++ (be4 (crc (be4 (u ++ (l ++ v)).length ++ (u ++ (l ++ v)))) ++ (u ++ (spl l 0 es l.length ++ v))) := by
    rw [← hpe]
    unfold seal_
    rw [spl_append _ _ _ _ _ (by rw [be4_length]; omega), spl_append _ _ _ _ _ (by rw [be4_length, be4_length]; omega), spl_append _ _ _ _ _ (by rw [be4_length, be4_length, hu]; omega)]
    have e0 : 8 + r - (be4 (u ++ (l ++ v)).length).length - (be4 (crc (be4 (u ++ (l ++ v)).length ++ (u ++ (l ++ v))))).length - u.length = 0 := by rw [be4_length, be4_length, hu]; omega
    rw [e0]
    have := spl_front l v es
    rw [hl] at this ⊢
    rw [this]
  rw [he, first_spoilt u l _ v (spl_length _ _ _ _).symm (by omega) (by rw [hpe]; exact hp), hpe]
  have hs := spl_same l es (by omega)
  rw [hl] at hs ⊢
  by_cases hq : (es.take k).any (· != 0) = true
  · rw [if_pos hq, if_neg (by rw [hs, hq]; simp)]
  · have hq' : (es.take k).any (· != 0) = false := by simpa using hq
    rw [if_neg hq, if_pos (hs.2 hq')]
end Go.Proofs.Ytjdcikhbgbefcaa
