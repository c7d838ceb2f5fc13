/- slices.Contains; the plain search for a shortest way. -/
import Derived.Test.YtblananbhibpmaaLsW
namespace Go.Proofs.Ytblananbhibpmaa
open Go.RowKit
set_option maxHeartbeats 1000000 in
theorem index_is (A : Option Addr) (n c : Nat) (l : List Int) (x : Int) (w : World) (hn : n = l.length) (hr : RI w A l) (hnb : n ≤ 1000000) :
    Calls Try.prog 29 #[.slice A n c, .int .i64 x] w fun e w' => w = w' ∧ ∃ y : Int, e = .returned (.int .i64 y) ∧ (decide (0 ≤ y) = decide (x ∈ l)) := by
  have HN := Lib.hid hn
  clear hn
  go_enter Try.func29, Try.ntmps29
  go_wp2_with fail
  go_loopw [8] (fun i wr => ∃ j : Nat, i = .int .i64 j ∧ j ≤ n ∧ Hid (¬ x ∈ l.take j) ∧ wr = w) (fun i _ => n - (intOf i).toNat)
  case atStart => exact ⟨0, rfl, Nat.zero_le _, (by show ¬ _; simp), rfl⟩
  case round =>
    obtain ⟨j, rfl, hj, HT, rfl⟩ := hrel
    by_cases hlt : j < n
    · obtain ⟨y, hy⟩ : ∃ y, l[j]? = some y := ⟨_, List.getElem?_eq_getElem (by rw [← HN.out]; exact hlt)⟩
      obtain ⟨ad, rfl, hc⟩ := hr j y hy
      by_cases hxy : x = y
      · subst hxy
        have hm : x ∈ l := List.mem_of_getElem? hy
        have HM := Lib.hid hm
        clear hm hy
        go_wp2_with fail
        go_ret
        exact ⟨rfl, j, rfl, by simp [HM.out]⟩
      · have hq : (x == y) = false := by rw [beq_eq_false_iff_ne]; exact hxy
        have hnm : Hid (¬ x ∈ l.take (j + 1)) := by
          show ¬ _
          rw [List.take_add_one, hy, List.mem_append]
          rintro (h | h)
          · exact HT.out h
          · simp at h; exact hxy h
        clear hxy hy
        go_wp2_with fail
        go_roundw
        case rel => exact ⟨j + 1, by go_num, by omega, hnm, by first | rfl | trivial⟩
        case measure => simp [intOf]; omega
    · have hjn : j = n := by omega
      subst hjn
      have hm : ¬ x ∈ l := by have := HT.out; rwa [HN.out, List.take_length] at this
      have HM := Lib.hid hm
      clear hm
      go_wp2_with fail
      go_ret
      exact ⟨rfl, -1, rfl, by simp [HM.out]⟩
theorem contains_is (A : Option Addr) (n c : Nat) (l : List Int) (x : Int) (w : World) (hn : n = l.length) (hr : RI w A l) (hnb : n ≤ 1000000) (b : Bool) (hb : decide (x ∈ l) = b) :
    Calls Try.prog 24 #[.slice A n c, .int .i64 x] w fun e w' => e = .returned (.bool b) ∧ w = w' := by
  have HB := Lib.hid hb
  have HI := Lib.hid (index_is A n c l x w hn hr hnb)
  clear hb hn hr
  go_enter Try.func24, Try.ntmps24
  go_wp2_with fail
  refine HI.out.mono ?_
  rintro e w' ⟨rfl, y, rfl, hy⟩
  have hyb : decide (0 ≤ y) = b := hy.trans HB.out
  have HY := Lib.hid hyb
  clear hy hyb
  go_wp2_with fail
  go_ret
  exact ⟨ret_bool HY.out, rfl⟩
/-- an event out of a state: is another state reached? -/
def evStep (st : Int) (p : List (List Int) × List Int) (ev : Int) : List (List Int) × List Int := match nx st ev with
  | none => p
  | some t => if t ∈ p.2 then p else (p.1.set t.toNat ((p.1[st.toNat]?).getD [] ++ [ev]), p.2 ++ [t])
def inner (st : Int) : Nat → Int → List (List Int) × List Int → List (List Int) × List Int
  | 0, _, p => p
  | k + 1, ev, p => inner st k (ev + 1) (evStep st p ev)
def outer (to : Int) : Nat → Nat → List (List Int) × List Int → Option (List Int)
  | 0, _, _ => none
  | f + 1, i, p => match p.2[i]? with
    | none => none
    | some st => if st = to then some ((p.1[st.toNat]?).getD []) else outer to f (i + 1) (inner st 10 1 p)
def wayL (a b : Int) : List Int := (outer b 9 0 (List.replicate 8 [], [a])).getD []
theorem way_some : ∀ a b : Fin 8, outer (b.val : Int) 9 0 (List.replicate 8 [], [(a.val : Int)]) = some (wayL a.val b.val) := by decide +kernel
theorem way_leads : ∀ a b : Fin 8, wk (a.val : Int) (wayL a.val b.val) = ((b.val : Int), (wayL a.val b.val).length) := by decide +kernel
theorem way_short : ∀ a b : Fin 8, (wayL (a.val : Int) b.val).length ≤ 7 := by decide +kernel
theorem way_tri : ∀ (a b : Fin 8) (e : Fin 11), (match nx (a.val : Int) e.val with | none => true | some u => decide ((wayL (a.val : Int) b.val).length ≤ (wayL u b.val).length + 1)) = true := by decide +kernel
theorem way_self : ∀ a : Fin 8, wayL (a.val : Int) a.val = [] := by decide +kernel
end Go.Proofs.Ytblananbhibpmaa
