/- hanseref10.way, Way; hanselaw10.LifeWays: the walks. -/
import Derived.Test.YtblananbhibpmaaWayB
import Derived.Test.YtblananbhibpmaaLifeB
namespace Go.Proofs.Ytblananbhibpmaa
open Go.RowKit
def rtry (f : Int → Option (List Int)) (a : Int) : Nat → Int → Option (List Int)
  | 0, _ => none
  | k + 1, ev => match nx a ev with
    | none => rtry f a k (ev + 1)
    | some u => match f u with
      | some l => some (ev :: l)
      | none => rtry f a k (ev + 1)
/-- a way of n events -/
def rway (b : Int) : Nat → Int → Option (List Int)
  | 0, a => if a = b then some [] else none
  | n + 1, a => rtry (rway b n) a 10 1
def rall (b a : Int) : Nat → Nat → Option (List Int)
  | 0, _ => none
  | k + 1, n => match rway b n a with
    | some l => some l
    | none => rall b a k (n + 1)
theorem rall_way : ∀ a b : Fin 8, rall (b.val : Int) (a.val : Int) 9 0 = some (wayL a.val b.val) := by decide +kernel
theorem rtry_len {f : Int → Option (List Int)} {n : Nat} (hf : ∀ u l, f u = some l → l.length ≤ n) (a : Int) : ∀ (k : Nat) (ev : Int) (l : List Int), rtry f a k ev = some l → l.length ≤ n + 1 := by
  intro k
  induction k with
  | zero => intro ev l h; cases h
  | succ k ih =>
    intro ev l h
    unfold rtry at h
    split at h
    · exact ih _ _ h
    · rename_i u _
      split at h
      · rename_i l' hl'
        cases h
        have := hf _ _ hl'
        simp only [List.length_cons]
        omega
      · exact ih _ _ h
theorem rway_len (b : Int) : ∀ (n : Nat) (a : Int) (l : List Int), rway b n a = some l → l.length ≤ n := by
  intro n
  induction n with
  | zero =>
    intro a l h
    unfold rway at h
    split at h
    · cases h; exact Nat.le_refl _
    · cases h
  | succ n ih => intro a l h; exact rtry_len (fun u l h => ih u l h) a _ _ _ h
/-- what way tells -/
def Told (o : Option (List Int)) (w : World) (e : Ending) (w' : World) : Prop := ∃ A c l, e = .returned (.tuple #[.slice A l.length c, .bool o.isSome]) ∧ o.getD [] = l ∧ OIs w' w.heap.size A l.length c l ∧ New w w'
set_option maxHeartbeats 4000000 in
theorem rway_any (b : Int) : ∀ (n : Nat), n ≤ 8 → ∀ (a : Int) (w : World), Calls Try.prog 26 #[.int .i64 a, .int .i64 b, .int .i64 n] w (Told (rway b n a) w) := by
  intro n
  induction n with
  | zero =>
    intro _ a w
    by_cases hab : a = b
    · have hq : (a == b) = true := by rw [beq_iff_eq]; exact hab
      have hr : rway b 0 a = some [] := by unfold rway; rw [if_pos hab]
      have HR := Lib.hid hr
      clear hr hab
      go_enter Try.func26, Try.ntmps26
      go_wp2_with fail
      go_ret2
      rw [HR.out]
      exact ⟨none, 0, [], rfl, rfl, OIs.nil _ _, New.refl _⟩
    · have hq : (a == b) = false := by rw [beq_eq_false_iff_ne]; exact hab
      have hr : rway b 0 a = none := by unfold rway; rw [if_neg hab]
      have HR := Lib.hid hr
      clear hr hab
      go_enter Try.func26, Try.ntmps26
      go_wp2_with fail
      go_ret2
      rw [HR.out]
      exact ⟨none, 0, [], rfl, rfl, OIs.nil _ _, New.refl _⟩
  | succ n ih =>
    intro hn8 a w
    have HI := Lib.hid (ih (by omega))
    have HLn := Lib.hid (rway_len b n)
    clear ih
    obtain ⟨z, hz⟩ : ∃ z : Int, z = ((n + 1 : Nat) : Int) := ⟨_, rfl⟩
    have hz0 : (z == 0) = false := by rw [beq_eq_false_iff_ne]; omega
    have hzm : IntKind.i64.wrap (z - 1) = (n : Int) := by rw [show z - 1 = (n : Int) from by omega]; exact IntWalk.i64_in _ ⟨by omega, by omega⟩
    rw [← hz]
    obtain ⟨o, ho⟩ : ∃ o, rway b (n + 1) a = o := ⟨_, rfl⟩
    rw [ho]
    have HO : Hid (rtry (rway b n) a 10 1 = o) := ho
    clear hz ho
    go_enter Try.func26, Try.ntmps26
    go_wp2_with fail
    go_loopw [8] (fun i wr => ∃ (k ev : Nat), i = .int .i64 ev ∧ ev + k = 11 ∧ 1 ≤ ev ∧ Hid (rtry (rway b n) a k ev = o) ∧ New w wr) (fun i _ => 11 - (intOf i).toNat)
    case atStart => exact ⟨10, 1, rfl, rfl, by omega, HO, New.refl _⟩
    case round =>
      obtain ⟨k, ev, rfl, hek, he1, HT, hnew⟩ := hrel
      cases k with
      | zero =>
        have hev : ev = 11 := by omega
        subst hev
        have hoe : o = none := HT.out.symm
        subst hoe
        go_wp2_with fail
        go_ret2
        exact ⟨none, 0, [], rfl, rfl, OIs.nil _ _, hnew⟩
      | succ k =>
        have hele : (ev : Int) ≤ 10 := by omega
        have ht := HT.out
        unfold rtry at ht
        rw [show (ev : Int) + 1 = ((ev + 1 : Nat) : Int) from by omega] at ht
        cases hx : nx a ev with
        | none =>
          have h2 : nxp a ev = (0, false) := by unfold nxp; rw [hx]
          have H2 := Lib.hid h2
          rw [hx] at ht
          have HT2 := Lib.hid ht
          clear h2 hx ht
          go_wp2_with fail
          refine (rnext_any a ev wr).mono ?_
          rintro v w2 ⟨rfl, hw2⟩
          rw [H2.out]
          have hnew2 := New.trans hnew hw2
          clear hw2
          go_wp2_with fail
          go_roundw
          case rel => exact ⟨k, ev + 1, by go_num, by omega, by omega, HT2, hnew2⟩
          case measure => simp [intOf]; omega
        | some u =>
          have h2 : nxp a ev = (u, true) := by unfold nxp; rw [hx]
          have H2 := Lib.hid h2
          rw [hx] at ht
          simp only at ht
          cases hf : rway b n u with
          | none =>
            rw [hf] at ht
            have HT2 := Lib.hid ht
            have HF := Lib.hid hf
            clear h2 hx ht hf
            go_wp2_with fail
            refine (rnext_any a ev wr).mono ?_
            rintro v w2 ⟨rfl, hw2⟩
            rw [H2.out]
            have hnew2 := New.trans hnew hw2
            clear hw2
            go_wp2_with fail
            refine (HI.out u w2).mono ?_
            rintro v w3 ⟨A, c, l, rfl, _, _, hw3⟩
            rw [HF.out]
            have hnew3 := New.trans hnew2 hw3
            clear hw3
            go_wp2_with fail
            go_roundw
            case rel => exact ⟨k, ev + 1, by go_num, by omega, by omega, HT2, hnew3⟩
            case measure => simp [intOf]; omega
          | some l0 =>
            rw [hf] at ht
            simp only at ht
            subst ht
            have hl0 := HLn.out u l0 hf
            have HF := Lib.hid hf
            clear h2 hx hf
            go_wp2_with fail
            refine (rnext_any a ev wr).mono ?_
            rintro v w2 ⟨rfl, hw2⟩
            rw [H2.out]
            have hnew2 := New.trans hnew hw2
            clear hw2
            go_wp2_with fail
            refine (HI.out u w2).mono ?_
            rintro v w3 ⟨A, c, l, rfl, hl, hol, hw3⟩
            rw [HF.out] at hl ⊢
            have hll : l0 = l := hl
            subst hll
            have hnew3 := New.trans hnew2 hw3
            obtain ⟨m, hm⟩ : ∃ m, m = l0.length := ⟨_, rfl⟩
            rw [← hm] at hol hl0 ⊢
            have HML := Lib.hid hm
            have hrl := OIs.rb hol
            have hal : New w3 (w3.alloc (.cells ([(ev : Int)].map iv).toArray 3)) := (Below.refl _ _).alloc (Nat.le_refl _) _
            have hlit : OIs (w3.alloc (.cells ([(ev : Int)].map iv).toArray 3)) w.heap.size (some ⟨w3.heap.size, 0, none⟩) 1 1 [(ev : Int)] := OIs.lit (heap_alloc_new w3 _) hnew3.size (by simp [maxLen])
            have hrl4 := hrl.new hal
            have hn4 := New.trans hnew3 hal
            clear hw3 hl hm hol hrl hal
            go_wp2_with (at_builtin; refine wpList_append_OI _ rfl (.tmp 39) (.tmp 40) _ rfl w.heap.size _ u_ints i_int _ 1 1 [(ev : Int)] rfl hlit A m c l0 rfl HML.out hrl4 (by omega) hn4.size ?_; intro B d w5 ho5 hg5 _; refine stop ?_)
            have hn5 : New w w5 := Below.trans hn4 (below_blk hlit hg5 hn4.size)
            have hlen : 1 + m = ((ev : Int) :: l0).length := by rw [List.length_cons, ← HML.out]; omega
            have HO5 : Hid (OIs w5 w.heap.size B ((ev : Int) :: l0).length d ((ev : Int) :: l0)) := by show OIs _ _ _ _ _ _; rw [← hlen]; exact ho5
            have HLN := Lib.hid hlen
            refine go ?_
            clear ho5 hg5 hlit hrl4 hlen
            go_wp2_with fail
            go_ret2
            exact ⟨B, d, (ev : Int) :: l0, by rw [← show 1 + m = _ from HLN.out]; rfl, rfl, HO5.out, hn5⟩
theorem rWay_no (a b : Int) (h : ¬ (0 ≤ a ∧ a ≤ 7 ∧ 0 ≤ b ∧ b ≤ 7)) (w : World) :
    Calls Try.prog 18 #[.int .i64 a, .int .i64 b] w fun e w' => e = .returned (.tuple #[.slice none 0 0, .bool false]) ∧ w = w' := by
  by_cases h1 : a < 0
  · clear h
    go_enter Try.func18, Try.ntmps18
    go_wp2_with fail
    go_ret2
    exact ⟨rfl, rfl⟩
  have d1 : decide (a < 0) = false := by simpa using h1
  by_cases h2 : 7 < a
  · clear h
    go_enter Try.func18, Try.ntmps18
    go_wp2_with fail
    go_ret2
    exact ⟨rfl, rfl⟩
  have d2 : decide (7 < a) = false := by simpa using h2
  by_cases h3 : b < 0
  · clear h
    go_enter Try.func18, Try.ntmps18
    go_wp2_with fail
    go_ret2
    exact ⟨rfl, rfl⟩
  have d3 : decide (b < 0) = false := by simpa using h3
  have h4 : 7 < b := by omega
  clear h
  go_enter Try.func18, Try.ntmps18
  go_wp2_with fail
  go_ret2
  exact ⟨rfl, rfl⟩
set_option maxHeartbeats 4000000 in
theorem rWay_any (a b : Int) (ha0 : 0 ≤ a) (ha7 : a ≤ 7) (hb0 : 0 ≤ b) (hb7 : b ≤ 7) (w : World) :
    Calls Try.prog 18 #[.int .i64 a, .int .i64 b] w (Wayed a b w) := by
  have HS : Hid (rall b a 9 0 = some (wayL a b)) := by
    show _ = _
    have := rall_way ⟨a.toNat, by omega⟩ ⟨b.toNat, by omega⟩
    simp only [show ((a.toNat : Nat) : Int) = a from by omega, show ((b.toNat : Nat) : Int) = b from by omega] at this
    exact this
  have d1 : decide (a < 0) = false := by simpa using ha0
  have d2 : decide (7 < a) = false := by simpa using ha7
  have d3 : decide (b < 0) = false := by simpa using hb0
  have d4 : decide (7 < b) = false := by simpa using hb7
  go_enter Try.func18, Try.ntmps18
  go_wp2_with fail
  go_loopw [6] (fun i wr => ∃ (k n : Nat), i = .int .i64 n ∧ n + k = 9 ∧ Hid (rall b a k n = some (wayL a b)) ∧ New w wr) (fun i _ => 9 - (intOf i).toNat)
  case atStart => exact ⟨9, 0, rfl, rfl, HS, New.refl _⟩
  case round =>
    obtain ⟨k, n, rfl, hk, HT, hnew⟩ := hrel
    cases k with
    | zero => exact absurd (show none = some (wayL a b) from HT.out) (by simp)
    | succ k =>
      have ht := HT.out
      unfold rall at ht
      have hn8 : (n : Int) ≤ 8 := by omega
      have HW := Lib.hid (rway_any b n (by omega) a)
      cases hf : rway b n a with
      | none =>
        rw [hf] at ht
        have HT2 := Lib.hid ht
        have HF := Lib.hid hf
        clear ht hf
        go_wp2_with fail
        refine (HW.out wr).mono ?_
        rintro v w3 ⟨A, c, l, rfl, _, _, hw3⟩
        rw [HF.out]
        have hnew3 := New.trans hnew hw3
        clear hw3
        go_wp2_with fail
        go_roundw
        case rel => exact ⟨k, n + 1, by go_num, by omega, HT2, hnew3⟩
        case measure => simp [intOf]; omega
      | some l0 =>
        rw [hf] at ht
        simp only [Option.some.injEq] at ht
        have HF := Lib.hid hf
        have HL := Lib.hid ht
        clear ht hf
        go_wp2_with fail
        refine (HW.out wr).mono ?_
        rintro v w3 ⟨A, c, l, rfl, hl, hol, hw3⟩
        rw [HF.out] at hl ⊢
        have hll : l0 = l := hl
        subst hll
        have hnew3 := New.trans hnew hw3
        have HOL : Hid (OIs w3 w.heap.size A l0.length c l0) := Own.base_le hol hnew.size
        clear hw3 hl hol
        go_wp2_with fail
        go_ret2
        unfold Wayed
        rw [← HL.out]
        exact ⟨A, c, rfl, HOL.out, hnew3⟩
set_option maxHeartbeats 4000000 in
theorem lways_law (a b : Int) (w : World) (_ : (Lit.int .i64 a).wf = true) (_ : (Lit.int .i64 b).wf = true) :
    Calls Try.prog 6 #[.int .i64 a, .int .i64 b] w fun e w' => e = .returned (.bool true) ∧ New w w' := by
  by_cases h : 0 ≤ a ∧ a ≤ 7 ∧ 0 ≤ b ∧ b ≤ 7
  · obtain ⟨a0, a7, b0, b7⟩ := h
    have hsh := short a0 a7 b0 b7
    have HW := Lib.hid (way_any a b a0 a7 b0 b7)
    have HR := Lib.hid (rWay_any a b a0 a7 b0 b7)
    obtain ⟨z, hz⟩ : ∃ z, z = wayL a b := ⟨_, rfl⟩
    obtain ⟨n, hn⟩ : ∃ n, n = z.length := ⟨_, rfl⟩
    have HZ := Lib.hid hz
    have HN := Lib.hid hn
    rw [← hz, ← hn] at hsh
    have hmx : n ≤ maxLen := by unfold maxLen; omega
    clear a0 a7 b0 b7 hz hn
    go_enter Try.func6, Try.ntmps6
    go_wp2_with fail
    refine (HW.out w).mono ?_
    rintro e w1 ⟨A, c, rfl, ho, hw1⟩
    rw [← HZ.out, ← HN.out] at ho ⊢
    go_wp2_with fail
    refine (HR.out w1).mono ?_
    rintro e w2 ⟨B, d, rfl, hob, hw2⟩
    rw [← HZ.out, ← HN.out] at hob ⊢
    have ho2 := Own.new ho hw2
    have hsz := hw1.size
    go_wp2_with fail
    refine (ints_is A B n c n d z z w2 HN.out HN.out (OIs.rb ho2) (OIs.rb hob) hmx true (by simp)).mono ?_
    rintro e w3 ⟨rfl, hw3⟩
    have ho3 := Own.new ho2 hw3
    have hob3 := Own.new hob hw3
    go_wp2_with fail
    refine (spoil_any A n c _ z w3 ho3).mono ?_
    rintro e w4 ⟨rfl, hk4⟩
    have hw14 : New w w4 := Below.trans (New.trans hw1 (New.trans hw2 hw3)) (hk4.below (New.trans hw1 (New.trans hw2 hw3)).size fun i hi => (Own.lt ho3 hi).1)
    have hob4 : OIs w4 w1.heap.size B n d z := Own.keep hob3 hk4 (by
      intro i hi hA
      have := (Own.lt hob3 hi).1
      have := (Own.lt ho hA).2
      omega)
    clear ho2 ho3 hob3 hk4 ho hob
    go_wp2_with fail
    refine (HW.out w4).mono ?_
    rintro e w5 ⟨C, cc, rfl, hoc, hw5⟩
    rw [← HZ.out, ← HN.out] at hoc ⊢
    have hob5 := Own.new hob4 hw5
    go_wp2_with fail
    refine (ints_is C B n cc n d z z w5 HN.out HN.out (OIs.rb hoc) (OIs.rb hob5) hmx true (by simp)).mono ?_
    rintro e w6 ⟨rfl, hw6⟩
    go_wp2_with fail
    refine (wakes_any _).mono ?_
    rintro e w7 ⟨rfl, hw7⟩
    go_wp2_with fail
    go_ret
    exact ⟨rfl, New.trans hw14 (New.trans hw5 (New.trans hw6 hw7))⟩
  · have HW := Lib.hid (way_no a b h)
    have HR := Lib.hid (rWay_no a b h)
    clear h
    go_enter Try.func6, Try.ntmps6
    go_wp2_with fail
    refine (HW.out w).mono ?_
    rintro e w1 ⟨rfl, rfl⟩
    go_wp2_with fail
    refine (HR.out w).mono ?_
    rintro e w1 ⟨rfl, rfl⟩
    go_wp2_with fail
    refine (ints_is none none 0 0 0 0 [] [] w rfl rfl (RI.nil _ _) (RI.nil _ _) (Nat.zero_le _) true (by simp)).mono ?_
    rintro e w3 ⟨rfl, hw3⟩
    go_wp2_with fail
    refine (spoil_any none 0 0 w3.heap.size [] w3 (OIs.nil _ _)).mono ?_
    rintro e w4 ⟨rfl, hk4⟩
    have hw4 : New w3 w4 := hk4.new (fun i hi => by cases hi)
    go_wp2_with fail
    refine (HW.out w4).mono ?_
    rintro e w5 ⟨rfl, rfl⟩
    go_wp2_with fail
    refine (ints_is none none 0 0 0 0 [] [] w4 rfl rfl (RI.nil _ _) (RI.nil _ _) (Nat.zero_le _) true (by simp)).mono ?_
    rintro e w6 ⟨rfl, hw6⟩
    go_wp2_with fail
    refine (wakes_any _).mono ?_
    rintro e w7 ⟨rfl, hw7⟩
    go_wp2_with fail
    go_ret
    exact ⟨rfl, New.trans hw3 (New.trans hw4 (New.trans hw6 hw7))⟩
end Go.Proofs.Ytblananbhibpmaa
