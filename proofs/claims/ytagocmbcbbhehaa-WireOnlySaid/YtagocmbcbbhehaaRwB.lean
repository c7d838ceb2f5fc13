/- A wire.reader's calls of the pack.Reader: what they tell. -/
import Derived.Test.YtagocmbcbbhehaaRwA
namespace Go.Proofs.Ytagocmbcbbhehaa
set_option linter.unusedVariables false
open Go.RowKit
theorem rdA_le5 {l l' : List UInt8} {e x : Int} {n k : Nat} (h : rdA l e = (some (n, k), l', x)) : n ≤ 1048576 ∧ k ≤ 1048576 := by
  unfold rdA at h
  by_cases c1 : (rdU (rdU l e).2.1 (rdU l e).2.2).2.2 ≠ 0
  · rw [if_pos c1] at h; cases h
  · rw [if_neg c1] at h
    by_cases c2 : 1048576 < (rdU l e).1 ∨ 1048576 < (rdU (rdU l e).2.1 (rdU l e).2.2).1
    · rw [if_pos c2] at h; cases h
    · rw [if_neg c2] at h
      cases h
      omega
/-- one cell v, whose bytes are bs -/
def Red1 (v : Value) (bs : List UInt8) (w : World) (lo g R : Nat) (l : List UInt8) (e : Int) (lg : Bool) (w' : World) : Prop :=
  ∃ A c l' e', RW w' lo g R A c l' e' lg ∧ Keep (S2 g R) w w' ∧ (e' = 0 → e = 0 ∧ l = bs ++ l')
def RedI (w : World) (lo g R : Nat) (l : List UInt8) (e : Int) (lg : Bool) (en : Ending) (w' : World) : Prop :=
  ∃ z : Int, en = .returned (.int .i64 z) ∧ I64 z ∧ Red1 (.int .i64 z) (iv z) w lo g R l e lg w'
def RedM (w : World) (lo g R : Nat) (l : List UInt8) (e : Int) (lg : Bool) (en : Ending) (w' : World) : Prop :=
  ∃ b : Bool, en = .returned (.bool b) ∧ Red1 (.bool b) (uv (if b then 1 else 0)) w lo g R l e lg w'
def RedA (w : World) (lo g R : Nat) (l : List UInt8) (e : Int) (lg : Bool) (en : Ending) (w' : World) : Prop :=
  ∃ n k : Nat, en = .returned (.complex .f64 (fl n) (fl k)) ∧ n ≤ 1048576 ∧ k ≤ 1048576 ∧ Red1 (.complex .f64 (fl n) (fl k)) (uv n ++ uv k) w lo g R l e lg w'
def RedU (w : World) (lo g R : Nat) (l : List UInt8) (e : Int) (lg : Bool) (en : Ending) (w' : World) : Prop :=
  ∃ V : Nat, en = .returned (.int .u64 V) ∧ V < 18446744073709551616 ∧ Red1 (.int .u64 V) (uv V) w lo g R l e lg w'
section
variable {w : World} {lo g R c : Nat} {A : Option Addr} {l : List UInt8} {e : Int} {lg : Bool}
theorem int_rw (h : RW w lo g R A c l e lg) : Calls Try.prog 53 #[.pointer (some ⟨g, 0, none⟩)] w (RedI w lo g R l e lg) := by
  obtain ⟨V, l', x, hx⟩ : ∃ V l' x, rdU l e = (V, l', x) := ⟨_, _, _, rfl⟩
  refine (int_rk h.rk V l' x hx).mono ?_
  rintro en w' ⟨rfl, ⟨A', c', hr⟩, hk⟩
  obtain ⟨h1, h2⟩ := h.got hr hk
  refine ⟨zz V, rfl, zz_i64 (rdU_lt hx).1, A', c', l', x, h1, h2, fun h0 => ?_⟩
  subst h0
  have he := stay_U hx rfl
  subst he
  exact ⟨rfl, by rw [iv_zz]; exact canon_U hx⟩
theorem uint_rw (h : RW w lo g R A c l e lg) : Calls Try.prog 83 #[.pointer (some ⟨g, 0, none⟩)] w (RedU w lo g R l e lg) := by
  obtain ⟨V, l', x, hx⟩ : ∃ V l' x, rdU l e = (V, l', x) := ⟨_, _, _, rfl⟩
  refine (uint_rk h.rk V l' x hx).mono ?_
  rintro en w' ⟨rfl, ⟨A', c', hr⟩, hk⟩
  obtain ⟨h1, h2⟩ := h.got hr hk
  refine ⟨V, rfl, (rdU_lt hx).1, A', c', l', x, h1, h2, fun h0 => ?_⟩
  subst h0
  have he := stay_U hx rfl
  subst he
  exact ⟨rfl, canon_U hx⟩
theorem text_rw (h : RW w lo g R A c l e lg) : Calls Try.prog 64 #[.pointer (some ⟨g, 0, none⟩)] w (RedL FText w lo g R l e lg) := by
  obtain ⟨t, l', x, hx⟩ : ∃ t l' x, rdT l e = (t, l', x) := ⟨_, _, _, rfl⟩
  refine (textr_rk h.rk t l' x hx).mono ?_
  rintro en w' ⟨B, d, rfl, ho, ⟨A', c', hr⟩, hk⟩
  obtain ⟨h1, h2⟩ := h.got hr hk
  have ht : t.length ≤ 131072 := by
    unfold rdT at hx
    split at hx
    · cases hx; simp
    · split at hx
      · cases hx; simp
      · split at hx
        · cases hx; simp
        · cases hx; rw [List.length_take]; omega
  refine ⟨_, rfl, [some (uv t.length ++ t)], A', c', l', x, lg, h1, h2, fun w'' hk' => ⟨B, d, t, ?_, ?_, ht, rfl, rfl⟩, by simp, fun h0 hl => ?_⟩
  · refine ho.rb.kept hk' fun ad e => ?_
    subst e
    have := (OB.lt ho (k := ad.block) rfl).1
    show ¬ ad.block < w.heap.size
    omega
  · rintro ad rfl
    have := (OB.lt ho (k := ad.block) rfl).2
    exact Nat.lt_of_lt_of_le this hk'.size
  · subst h0
    have he := stay_T hx rfl
    subst he
    refine ⟨rfl, hl, ?_⟩
    rw [(canon_T hx).1]
    simp [flat]
theorem mark_rw (h : RW w lo g R A c l e lg) : Calls Try.prog 55 #[.pointer (some ⟨g, 0, none⟩)] w (RedM w lo g R l e lg) := by
  obtain ⟨V, l', x, hx⟩ : ∃ V l' x, rdU l e = (V, l', x) := ⟨_, _, _, rfl⟩
  refine (mark_rk h.rk V l' x hx).mono ?_
  rintro en w' ⟨rfl, ⟨A', c', hr⟩, hk⟩
  obtain ⟨h1, h2⟩ := h.got hr hk
  refine ⟨V == 1, rfl, A', c', l', _, h1, h2, fun h0 => ?_⟩
  by_cases hV : 1 < V
  · rw [if_pos hV] at h0; cases h0
  · rw [if_neg hV] at h0
    subst h0
    have he := stay_U hx rfl
    subst he
    refine ⟨rfl, (canon_U hx).trans ?_⟩
    congr 2
    rcases (show V = 0 ∨ V = 1 by omega) with rfl | rfl <;> rfl
theorem amount_rw (h : RW w lo g R A c l e lg) : Calls Try.prog 66 #[.pointer (some ⟨g, 0, none⟩)] w (RedA w lo g R l e lg) := by
  obtain ⟨o, l', x, hx⟩ : ∃ o l' x, rdA l e = (o, l', x) := ⟨_, _, _, rfl⟩
  refine (amount_rk h.rk o l' x hx).mono ?_
  rintro en w' ⟨rfl, ⟨A', c', hr⟩, hk⟩
  obtain ⟨h1, h2⟩ := h.got hr hk
  have hcan : x = 0 → e = 0 ∧ ∃ n k, o = some (n, k) ∧ l = uv n ++ (uv k ++ l') := by
    intro h0
    subst h0
    have he := stay_A hx rfl
    subst he
    obtain ⟨n, k, h3, h4, _⟩ := canon_A hx
    exact ⟨rfl, n, k, h3, h4⟩
  cases o with
  | none =>
    refine ⟨0, 0, by rw [show fl 0 = 0 from fl_zero]; rfl, by omega, by omega, A', c', l', x, h1, h2, fun h0 => ?_⟩
    obtain ⟨_, n, k, h3, _⟩ := hcan h0
    cases h3
  | some nk =>
    obtain ⟨n, k⟩ := nk
    obtain ⟨h5, h6⟩ := rdA_le5 hx
    refine ⟨n, k, rfl, h5, h6, A', c', l', x, h1, h2, fun h0 => ?_⟩
    obtain ⟨he, n', k', h3, h4⟩ := hcan h0
    cases h3
    exact ⟨he, by rw [h4, List.append_assoc]⟩
end
end Go.Proofs.Ytagocmbcbbhehaa
