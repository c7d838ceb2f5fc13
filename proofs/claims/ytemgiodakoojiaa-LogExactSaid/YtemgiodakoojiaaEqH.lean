/- hanselaw07.heavy: what it tells of acts; a slice of acts. -/
import Derived.Test.YtemgiodakoojiaaEqO
namespace Go.Proofs.Ytemgiodakoojiaa
set_option linter.unusedVariables false
open Go.RowKit
/-- an act: what, with which number, with which bytes -/
abbrev Actt := Int × Int × List UInt8
/-- a slice of acts, three cells each -/
def RA (w : World) (A : Option Addr) (ls : List Actt) : Prop :=
  ∀ j r, ls[j]? = some r → ∃ ad B d, A = some ad ∧ w.cell? (ad.add (j * 3)) = some (.int .i64 r.1) ∧ w.cell? ⟨(ad.add (j * 3)).block, (ad.add (j * 3)).off + 1, none⟩ = some (.int .i64 r.2.1) ∧ w.cell? ⟨(ad.add (j * 3)).block, (ad.add (j * 3)).off + 2, none⟩ = some (.slice B r.2.2.length d) ∧ r.2.2.length ≤ d ∧ d ≤ maxLen ∧ RB w B r.2.2
theorem RA.new {w w' : World} {A : Option Addr} {ls : List Actt} (h : RA w A ls) (hn : New w w') : RA w' A ls := fun j l hl => by
  obtain ⟨ad, B, d, rfl, h1, h2, h3, h4, h5, hb⟩ := h j l hl
  exact ⟨ad, B, d, rfl, (hn.cell (World.block_lt_of_cell? w _ h1)).trans h1, (hn.cell (World.block_lt_of_cell? w _ h2)).trans h2, (hn.cell (World.block_lt_of_cell? w _ h3)).trans h3, h4, h5, hb.new hn⟩
/-- how many bytes the first k acts have -/
def tot (ls : List Actt) (k : Nat) : Nat := ((ls.take k).map fun r => r.2.2.length).sum
theorem tot_zero (ls : List Actt) : tot ls 0 = 0 := rfl
theorem tot_succ {ls : List Actt} {k : Nat} {r : Actt} (h : ls[k]? = some r) : tot ls (k + 1) = tot ls k + r.2.2.length := by
  unfold tot
  rw [List.take_add_one, h, List.map_append, List.sum_append]
  simp
theorem tot_end {ls : List Actt} {k : Nat} (h : ls.length ≤ k) : tot ls (k + 1) = tot ls k := by
  unfold tot
  rw [List.take_of_length_le h, List.take_of_length_le (by omega)]
theorem tot_le (ls : List Actt) (k : Nat) : tot ls k ≤ tot ls (k + 1) := by
  by_cases h : k < ls.length
  · rw [tot_succ (List.getElem?_eq_getElem h)]; omega
  · rw [tot_end (by omega)]; exact Nat.le_refl _
theorem tot_mono (ls : List Actt) {j k : Nat} (h : j ≤ k) : tot ls j ≤ tot ls k := by
  induction k with
  | zero => have : j = 0 := by omega
            subst this; exact Nat.le_refl _
  | succ k ih =>
    by_cases hj : j = k + 1
    · subst hj; exact Nat.le_refl _
    · exact Nat.le_trans (ih (by omega)) (tot_le ls k)
theorem tot_all {ls : List Actt} {k : Nat} (h : ls.length ≤ k) : tot ls k = tot ls ls.length := by
  unfold tot
  rw [List.take_of_length_le h, List.take_of_length_le (Nat.le_refl _)]
/-- what heavy tells -/
def Light (ls : List Actt) (w : World) (e : Ending) (w' : World) : Prop := w = w' ∧ ∃ b, e = .returned (.bool b) ∧ (b = false → tot ls 50 ≤ 262144)
set_option maxHeartbeats 2000000 in
theorem heavy_any (A : Option Addr) (n c : Nat) (ls : List Actt) (w : World) (hn : n = ls.length) (hr : RA w A ls) :
    Calls Try.prog 28 #[.slice A n c] w (Light ls w) := by
  have HN := Lib.hid hn
  clear hn
  by_cases h1 : (1000 : Int) < (n : Int)
  · go_enter Try.func28, Try.ntmps28
    go_wp2_with fail
    go_ret
    exact ⟨rfl, true, rfl, fun h => by cases h⟩
  have d1 : decide ((1000 : Int) < (n : Int)) = false := by simpa using h1
  go_enter Try.func28, Try.ntmps28
  go_wp2_with fail
  go_loopw [3, 4] (fun s i wr => ∃ (k m : Nat), s = .int .i64 m ∧ i = .int .i64 k ∧ k ≤ n ∧ k ≤ 50 ∧ m ≤ 262144 + 262144 ∧ Hid (m = tot ls k) ∧ w = wr) (fun _ i _ => n - (intOf i).toNat)
  case atStart => exact ⟨0, 0, rfl, rfl, Nat.zero_le _, by omega, by omega, rfl, rfl⟩
  case round =>
    obtain ⟨k, m, rfl, rfl, hk, hk50, hm, hsm, rfl⟩ := hrel
    by_cases hlt : k < n
    · by_cases h50 : k < 50
      · by_cases hmm : (m : Int) ≤ 262144
        · obtain ⟨r, hl⟩ : ∃ r, ls[k]? = some r := ⟨_, List.getElem?_eq_getElem (by rw [← HN.out]; exact hlt)⟩
          obtain ⟨ad, B, d, rfl, hc0, hc1, hc2, hd, hdm, hb⟩ := hr k r hl
          obtain ⟨q, hq⟩ : ∃ q, q = r.2.2.length := ⟨_, rfl⟩
          rw [← hq] at hc2 hd
          have HS2 : Hid (m + q = tot ls (k + 1)) := by show _ = _; rw [tot_succ hl, ← hsm.out, hq]
          clear hl hq
          by_cases hbig : (262144 : Int) < (q : Int)
          · go_wp2_with fail
            go_ret
            exact ⟨rfl, true, rfl, fun h => by cases h⟩
          · have hw1 : IntKind.i64.wrap ((m : Int) + (q : Int)) = (m : Int) + (q : Int) := IntWalk.i64_in _ ⟨by omega, by omega⟩
            go_wp2_with fail
            go_roundw
            case rel => exact ⟨k + 1, m + q, by go_num, by go_num, by omega, by omega, by omega, HS2, by trivial⟩
            case measure => simp [intOf]; omega
        · have hmd : decide ((m : Int) ≤ 262144) = false := by simpa using hmm
          have hmg : (262144 : Int) < (m : Int) := by omega
          go_wp2_with fail
          go_ret
          exact ⟨rfl, true, by simp, fun h => by cases h⟩
      · have h50d : decide ((k : Int) < 50) = false := by simp; omega
        have hk5 : k = 50 := by omega
        subst hk5
        go_wp2_with fail
        go_ret
        refine ⟨rfl, _, rfl, fun hb => ?_⟩
        have hmt : m = tot ls 50 := hsm.out
        simp at hb
        omega
    · have hkn : k = n := by omega
      subst hkn
      have hke : tot ls 50 = m := by
        rw [tot_all (show ls.length ≤ 50 by rw [← HN.out]; exact hk50), ← HN.out]
        exact hsm.out.symm
      have HKE := Lib.hid hke
      clear hke
      go_wp2_with fail
      go_ret
      refine ⟨rfl, _, rfl, fun hb => ?_⟩
      rw [HKE.out]
      simp at hb
      omega
end Go.Proofs.Ytemgiodakoojiaa
