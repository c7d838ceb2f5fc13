/- hanselaw04.FrameSeals: the walk. -/
import Derived.Test.YtjdcikhbgbefcaaFrD
import Derived.Test.YtjdcikhbgbefcaaFrI
namespace Go.Proofs.Ytjdcikhbgbefcaa
open Go.RowKit
open Go.Proofs.Ytjdcikhbgbefcaa.Frm
/-- both answers of a call that seals, or finds a first frame, in one form: bytes, a number, a code -/
theorem Sealed.one {w w' : World} {p : List UInt8} {e : Ending} (h : Sealed w p e w') :
    (∃ A c, e = .returned (.tuple #[.slice A (if p.length ≤ 131072 then seal_ p else []).length c, .int .i64 (if p.length ≤ 131072 then 0 else 5)]) ∧ OBs w' w.heap.size A (if p.length ≤ 131072 then seal_ p else []).length c (if p.length ≤ 131072 then seal_ p else [])) ∧ New w w' := by
  by_cases hp : p.length ≤ 131072
  · obtain ⟨A, c, h1, h2, h3⟩ := h.yes hp
    simp only [if_pos hp]
    rw [seal_length]
    exact ⟨⟨A, c, h1, h2⟩, h3⟩
  · obtain ⟨h1, rfl⟩ := h.no hp
    simp only [if_neg hp]
    exact ⟨⟨none, 0, h1, OB.nil _ _ _⟩, New.refl _⟩
def firstN (b : List UInt8) : Nat := match first b with | some p => 8 + p.length | none => 0
def firstC (b : List UInt8) : Int := match first b with | some _ => 0 | none => 4
theorem Firsted.one {w w' : World} {b : List UInt8} {e : Ending} (h : Firsted w b e w') :
    (∃ A c, e = .returned (.tuple #[.slice A ((first b).getD []).length c, .int .i64 (firstN b : Nat), .int .i64 (firstC b)]) ∧ OBs w' w.heap.size A ((first b).getD []).length c ((first b).getD [])) ∧ New w w' := by
  unfold Firsted at h
  unfold firstN firstC
  cases hf : first b with
  | none =>
    rw [hf] at h
    obtain ⟨h1, h2⟩ := h
    exact ⟨⟨none, 0, h1, OB.nil _ _ _⟩, h2⟩
  | some p =>
    rw [hf] at h
    obtain ⟨A, c, h1, h2, h3⟩ := h
    exact ⟨⟨A, c, h1, h2⟩, h3⟩
set_option maxHeartbeats 1000000 in
theorem seals_law (A : Option Addr) (n c : Nat) (p : List UInt8) (B : Option Addr) (m d : Nat) (b : List UInt8) (w : World) (hn : n = p.length) (_ : n ≤ c) (_ : c ≤ maxLen) (ha : RB w A p) (hm : m = b.length) (hmd : m ≤ d) (hmax' : d ≤ maxLen) (hb : RB w B b) :
    Calls Try.prog 7 #[.slice A n c, .slice B m d] w fun e w' => e = .returned (.bool true) ∧ New w w' := by
  have HN := Lib.hid hn
  have HM := Lib.hid hm
  by_cases hbig : (262144 : Int) < (n : Int)
  · clear hn hm
    go_enter Try.func7, Try.ntmps7
    go_wp2_with fail
    go_ret
    exact ⟨rfl, New.refl _⟩
  by_cases hbig2 : (262144 : Int) < (m : Int)
  · clear hn hm
    go_enter Try.func7, Try.ntmps7
    go_wp2_with fail
    go_ret
    exact ⟨rfl, New.refl _⟩
  obtain ⟨s, hs⟩ : ∃ s : List UInt8, s = if p.length ≤ 131072 then seal_ p else [] := ⟨_, rfl⟩
  obtain ⟨x, hx⟩ : ∃ x : Int, x = if p.length ≤ 131072 then 0 else 5 := ⟨_, rfl⟩
  obtain ⟨q, hq⟩ : ∃ q : List UInt8, q = (first b).getD [] := ⟨_, rfl⟩
  obtain ⟨z, hz⟩ : ∃ z : Nat, z = firstN b := ⟨_, rfl⟩
  obtain ⟨y, hy⟩ : ∃ y : Int, y = firstC b := ⟨_, rfl⟩
  have hseal : Hid (∀ X C W, n ≤ C → C ≤ maxLen → RB W X p → Calls Try.prog 17 #[.slice X n C] W fun e w' => (∃ A c, e = .returned (.tuple #[.slice A s.length c, .int .i64 x]) ∧ OBs w' W.heap.size A s.length c s) ∧ New W w') := fun X C W h1 h2 h3 => by
    rw [hs, hx]; exact (seal_any X n C p W hn h3 h1 h2).mono fun _ _ h => h.one
  have hrseal : Hid (∀ X C W, RB W X p → Calls Try.prog 24 #[.slice X n C] W fun e w' => (∃ A c, e = .returned (.tuple #[.slice A s.length c, .int .i64 x]) ∧ OBs w' W.heap.size A s.length c s) ∧ New W w') := fun X C W h3 => by
    rw [hs, hx]; exact (rseal_any X n C p W hn h3).mono fun _ _ h => h.one
  have hfirst : Hid (∀ X C W, m ≤ C → C ≤ maxLen → RB W X b → Calls Try.prog 23 #[.slice X m C] W fun e w' => (∃ A c, e = .returned (.tuple #[.slice A q.length c, .int .i64 (z : Int), .int .i64 y]) ∧ OBs w' W.heap.size A q.length c q) ∧ New W w') := fun X C W h1 h2 h3 => by
    rw [hq, hy, hz]; exact (first_any X m C b W hm h3 h1 h2).mono fun _ _ h => h.one
  have hrfirst : Hid (∀ X C W, m ≤ C → C ≤ maxLen → RB W X b → Calls Try.prog 25 #[.slice X m C] W fun e w' => (∃ A c, e = .returned (.tuple #[.slice A q.length c, .int .i64 (z : Int), .int .i64 y]) ∧ OBs w' W.heap.size A q.length c q) ∧ New W w') := fun X C W h1 h2 h3 => by
    rw [hq, hy, hz]; exact (rfirst_any X m C b W hm h3 h1 h2).mono fun _ _ h => h.one
  clear hn hm hs hx hq hz hy
  go_enter Try.func7, Try.ntmps7
  go_wp2_with fail
  refine (twin_any A n c p w HN.out ha (by omega)).mono ?_
  rintro e w1 ⟨A1, c1, rfl, ho1, hw1⟩
  have hl1 := ho1.le
  go_wp2_with fail
  refine (hseal.out A1 c1 w1 hl1.1 hl1.2 ho1.rb).mono ?_
  rintro e w2 ⟨⟨A2, c2, rfl, ho2⟩, hw2⟩
  go_wp2_with fail
  refine (hrseal.out A c w2 (ha.new (New.trans hw1 hw2))).mono ?_
  rintro e w3 ⟨⟨A3, c3, rfl, ho3⟩, hw3⟩
  go_wp2_with fail
  refine (bytes_is A2 A3 _ c2 _ c3 s s w3 rfl rfl (ho2.rb.new hw3) ho3.rb true (by simp)).mono ?_
  rintro e w4 ⟨rfl, rfl⟩
  go_wp2_with fail
  refine (bytes_is A1 A n c1 n c p p w3 HN.out HN.out (ho1.rb.new (New.trans hw2 hw3)) (ha.new (New.trans hw1 (New.trans hw2 hw3))) true (by simp)).mono ?_
  rintro e w4 ⟨rfl, rfl⟩
  go_wp2_with fail
  refine (spoil_any A2 _ c2 w1.heap.size s w3 (ho2.new hw3)).mono ?_
  rintro e w4 ⟨rfl, _, hk4, _⟩
  have hw14 : New w1 w4 := Below.trans (New.trans hw2 hw3) (hk4.below (Nat.le_trans hw2.size hw3.size) (fun i hi => (ho2.lt hi).1))
  clear hk4
  go_wp2_with fail
  refine (bytes_is A1 A n c1 n c p p w4 HN.out HN.out (ho1.rb.new hw14) (ha.new (New.trans hw1 hw14)) true (by simp)).mono ?_
  rintro e w5 ⟨rfl, rfl⟩
  have hw04 := New.trans hw1 hw14
  clear hw14 ho1 ho2 ho3 hw2 hw3 hw1
  go_wp2_with fail
  refine (twin_any B m d b w4 HM.out (hb.new hw04) (by omega)).mono ?_
  rintro e w5 ⟨A5, c5, rfl, ho5, hw5⟩
  have hl5 := ho5.le
  go_wp2_with fail
  refine (hfirst.out A5 c5 w5 hl5.1 hl5.2 ho5.rb).mono ?_
  rintro e w6 ⟨⟨A6, c6, rfl, ho6⟩, hw6⟩
  go_wp2_with fail
  refine (hrfirst.out B d w6 hmd hmax' (hb.new (New.trans hw04 (New.trans hw5 hw6)))).mono ?_
  rintro e w7 ⟨⟨A7, c7, rfl, ho7⟩, hw7⟩
  go_wp2_with fail
  refine (bytes_is A6 A7 _ c6 _ c7 q q w7 rfl rfl (ho6.rb.new hw7) ho7.rb true (by simp)).mono ?_
  rintro e w8 ⟨rfl, rfl⟩
  go_wp2_with fail
  refine (spoil_any A6 _ c6 w5.heap.size q w7 (ho6.new hw7)).mono ?_
  rintro e w8 ⟨rfl, _, hk8, _⟩
  have hw58 : New w5 w8 := Below.trans (New.trans hw6 hw7) (hk8.below (Nat.le_trans hw6.size hw7.size) (fun i hi => (ho6.lt hi).1))
  clear hk8
  go_wp2_with fail
  refine (bytes_is A5 B m c5 m d b b w8 HM.out HM.out (ho5.rb.new hw58) (hb.new (New.trans hw04 (New.trans hw5 hw58))) true (by simp)).mono ?_
  rintro e w9 ⟨rfl, rfl⟩
  go_wp2_with fail
  refine (wakes_any _).mono ?_
  rintro e w9 ⟨rfl, hw9⟩
  go_wp2_with fail
  go_ret
  exact ⟨rfl, New.trans hw04 (New.trans hw5 (New.trans hw58 hw9))⟩
end Go.Proofs.Ytjdcikhbgbefcaa
