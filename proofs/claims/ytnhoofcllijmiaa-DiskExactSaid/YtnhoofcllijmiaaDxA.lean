/- hanselaw06.heavy: what it tells of acts; a slice of acts. -/
import Derived.Test.YtnhoofcllijmiaaDrE
import Derived.Deep.LoopGhost
namespace Go.Proofs.Ytnhoofcllijmiaa
open Go.RowKit
/-- an act: what, with which number, with which bytes -/
abbrev Actt := Int × Int × List UInt8
/-- a slice of acts, three cells each -/
def RA (w : World) (A : Option Addr) (ls : List Actt) : Prop :=
  ∀ j r, ls[j]? = some r → ∃ ad B d, A = some ad ∧ w.cell? (ad.add (j * 3)) = some (.int .i64 r.1) ∧ w.cell? ⟨(ad.add (j * 3)).block, (ad.add (j * 3)).off + 1, none⟩ = some (.int .i64 r.2.1) ∧ w.cell? ⟨(ad.add (j * 3)).block, (ad.add (j * 3)).off + 2, none⟩ = some (.slice B r.2.2.length d) ∧ r.2.2.length ≤ d ∧ d ≤ maxLen ∧ RB w B r.2.2
theorem RA.new {w w' : World} {A : Option Addr} {ls : List Actt} (h : RA w A ls) (hn : New w w') : RA w' A ls := fun j l hl => by
  obtain ⟨ad, B, d, rfl, h1, h2, h3, h4, h5, hb⟩ := h j l hl
  exact ⟨ad, B, d, rfl, (hn.cell (World.block_lt_of_cell? w _ h1)).trans h1, (hn.cell (World.block_lt_of_cell? w _ h2)).trans h2, (hn.cell (World.block_lt_of_cell? w _ h3)).trans h3, h4, h5, hb.new hn⟩
/-- what heavy tells -/
def Light (ls : List Actt) (w : World) (e : Ending) (w' : World) : Prop := w = w' ∧ ∃ b, e = .returned (.bool b) ∧ (b = false → ∀ j r, j < 60 → ls[j]? = some r → r.2.2.length ≤ 65536)
set_option maxHeartbeats 2000000 in
theorem heavy_any (A : Option Addr) (n c : Nat) (ls : List Actt) (w : World) (hn : n = ls.length) (hr : RA w A ls) :
    Calls Try.prog 23 #[.slice A n c] w (Light ls w) := by
  have HN := Lib.hid hn
  clear hn
  by_cases h1 : (1000 : Int) < (n : Int)
  · go_enter Try.func23, Try.ntmps23
    go_wp2_with fail
    go_ret
    exact ⟨rfl, true, rfl, fun h => by cases h⟩
  have d1 : decide ((1000 : Int) < (n : Int)) = false := by simpa using h1
  go_enter Try.func23, Try.ntmps23
  go_wp2_with fail
  go_loopw [3, 4] (fun s i wr => ∃ (k m : Nat), s = .int .i64 m ∧ i = .int .i64 k ∧ k ≤ n ∧ k ≤ 60 ∧ m ≤ 65536 + 65536 ∧ Hid (∀ j r, j < k → ls[j]? = some r → r.2.2.length ≤ 65536) ∧ w = wr) (fun _ i _ => n - (intOf i).toNat)
  case atStart => exact ⟨0, 0, rfl, rfl, Nat.zero_le _, by omega, by omega, fun j r h => by omega, rfl⟩
  case round =>
    obtain ⟨k, m, rfl, rfl, hk, hk60, hm, hsm, rfl⟩ := hrel
    by_cases hlt : k < n
    · by_cases h60 : k < 60
      · by_cases hmm : (m : Int) ≤ 65536
        · obtain ⟨r, hl⟩ : ∃ r, ls[k]? = some r := ⟨_, List.getElem?_eq_getElem (by rw [← HN.out]; exact hlt)⟩
          obtain ⟨ad, B, d, rfl, hc0, hc1, hc2, hd, hdm, hb⟩ := hr k r hl
          obtain ⟨q, hq⟩ : ∃ q, q = r.2.2.length := ⟨_, rfl⟩
          rw [← hq] at hc2 hd
          have HL := Lib.hid hl
          have HQ := Lib.hid hq
          clear hl hq
          by_cases hbig : (65536 : Int) < (q : Int)
          · go_wp2_with fail
            go_ret
            exact ⟨rfl, true, rfl, fun h => by cases h⟩
          · have hs2 : Hid (∀ j r, j < k + 1 → ls[j]? = some r → r.2.2.length ≤ 65536) := by
              intro j l' hj hl'
              by_cases hjk : j = k
              · subst hjk
                rw [show ls[j]? = some r from HL.out] at hl'
                cases hl'
                have : q = r.2.2.length := HQ.out
                omega
              · exact hsm.out j l' (by omega) hl'
            have hw1 : IntKind.i64.wrap ((m : Int) + (q : Int)) = (m : Int) + (q : Int) := IntWalk.i64_in _ ⟨by omega, by omega⟩
            go_wp2_with fail
            go_roundw
            case rel => exact ⟨k + 1, m + q, by go_num, by go_num, by omega, by omega, by omega, hs2, by trivial⟩
            case measure => simp [intOf]; omega
        · have hmd : decide ((m : Int) ≤ 65536) = false := by simpa using hmm
          have hmg : (65536 : Int) < (m : Int) := by omega
          go_wp2_with fail
          go_ret
          exact ⟨rfl, true, by simp, fun h => by cases h⟩
      · have h60d : decide ((k : Int) < 60) = false := by simp; omega
        have hk6 : k = 60 := by omega
        subst hk6
        go_wp2_with fail
        go_ret
        refine ⟨rfl, _, rfl, fun _ j r hj hl => hsm.out j r hj hl⟩
    · have hkn : k = n := by omega
      subst hkn
      go_wp2_with fail
      go_ret
      refine ⟨rfl, _, rfl, fun _ j r _ hl => hsm.out j r (by have : k = ls.length := HN.out; have := (List.getElem?_eq_some_iff.1 hl).1; omega) hl⟩
end Go.Proofs.Ytnhoofcllijmiaa
