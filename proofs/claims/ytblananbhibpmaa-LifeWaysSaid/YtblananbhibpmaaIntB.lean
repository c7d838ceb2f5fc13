/- hansekeep.Ints, Spoil; slices.Grow of nothing, slices.Concat of two: what they do. -/
import Derived.Test.YtblananbhibpmaaIntA
import Derived.BigQuiet
import Derived.Lib.AppendZeros
namespace Go.Proofs.Ytblananbhibpmaa
open Go.RowKit
set_option maxHeartbeats 1000000 in
theorem ints_is (A B : Option Addr) (n c m d : Nat) (l k : List Int) (w : World) (hn : n = l.length) (hm : m = k.length) (hl : RI w A l) (hk : RI w B k) (hnm : n ≤ maxLen) (b : Bool) (hb : (l == k) = b) :
    Calls Try.prog 16 #[.slice A n c, .slice B m d] w fun e w' => e = .returned (.bool b) ∧ New w w' := by
  have HN := Lib.hid hn
  have HM := Lib.hid hm
  have HB := Lib.hid hb
  unfold maxLen at hnm
  clear hn hm hb
  by_cases hne : n = m
  · subst hne
    go_enter Try.func16, Try.ntmps16
    go_wp2_with fail
    go_loopw [5] (fun i wr => ∃ j : Nat, i = .int .i64 j ∧ j ≤ n ∧ Hid (l.take j = k.take j) ∧ Drawn w wr) (fun i _ => n - (intOf i).toNat)
    case atStart => exact ⟨0, rfl, Nat.zero_le _, by show _ = _; simp, Drawn.refl _⟩
    case round =>
      obtain ⟨j, rfl, hj, HT, ⟨nd, rfl⟩⟩ := hrel
      by_cases hlt : j < n
      · obtain ⟨x, hx⟩ : ∃ x, l[j]? = some x := ⟨_, List.getElem?_eq_getElem (by rw [← HN.out]; exact hlt)⟩
        obtain ⟨y, hy⟩ : ∃ y, k[j]? = some y := ⟨_, List.getElem?_eq_getElem (by rw [← HM.out]; exact hlt)⟩
        obtain ⟨ad, rfl, hca⟩ := hl j x hx
        obtain ⟨bd, rfl, hcb⟩ := hk j y hy
        have HXX := Lib.hid hx
        have HYY := Lib.hid hy
        clear hx hy
        by_cases hxy : x = y
        · have hq : (x != y) = false := by rw [hxy]; simp
          have hq2 : (x == y) = true := by rw [hxy]; simp
          have HTT : Hid (l.take (j + 1) = k.take (j + 1)) := by
            show _ = _
            rw [List.take_add_one, List.take_add_one, HT.out, HXX.out, HYY.out, hxy]
          clear hxy
          go_wp2_with fail
          go_quiet (fail)
          go_wp2_with fail
          go_roundw
          case rel => exact ⟨j + 1, by go_num, by omega, HTT, by first | exact ⟨_, rfl⟩ | exact ⟨_, World.drewN_drewN _ _ _⟩⟩
          case measure => simp [intOf]; omega
        · have hq : (x != y) = true := by rw [bne_iff_ne]; exact hxy
          have hq2 : (x == y) = false := by rw [beq_eq_false_iff_ne]; exact hxy
          have hbf : b = false := by
            rw [← HB.out, beq_eq_false_iff_ne]
            rintro rfl
            have h1 := HXX.out
            have h2 := HYY.out
            rw [h1] at h2
            cases h2
            exact hxy rfl
          subst hbf
          clear hxy
          go_wp2_with fail
          go_quiet (fail)
          go_wp2_with fail
          go_ret
          exact ⟨rfl, New.drewN (New.drewN (New.refl _) _) _⟩
      · have hjn : j = n := by omega
        subst hjn
        have hbt : b = true := by
          rw [← HB.out, beq_iff_eq]
          have := HT.out
          rw [HN.out, List.take_length] at this
          rw [this, ← HN.out, HM.out, List.take_length]
        subst hbt
        go_wp2_with fail
        go_ret
        exact ⟨rfl, New.drewN (New.refl _) _⟩
  · have hbf : b = false := by
      rw [← HB.out, beq_eq_false_iff_ne]
      rintro rfl
      exact hne (HN.out.trans HM.out.symm)
    subst hbf
    have hd : ((n : Int) != (m : Int)) = true := by rw [bne_iff_ne]; omega
    have hd2 : ((n : Int) == (m : Int)) = false := by rw [beq_eq_false_iff_ne]; omega
    go_enter Try.func16, Try.ntmps16
    go_wp2_with fail
    go_ret
    exact ⟨rfl, New.refl _⟩
theorem OIs.set_ {w : World} {base n c g : Nat} {l : List Int} (h : OIs w base (some ⟨g, 0, none⟩) n c l) (j : Nat) (z : Int) : OIs (w.setCell ⟨g, j, none⟩ (iv z)) base (some ⟨g, 0, none⟩) n c (l.set j z) := by
  have := Own.set_ h rfl j (iv z)
  unfold OIs
  rw [List.map_set]
  exact this
set_option maxHeartbeats 400000 in
theorem spoil_any (A : Option Addr) (n c base : Nat) (l : List Int) (w : World) (ho : OIs w base A n c l) :
    Calls Try.prog 19 #[.slice A n c] w fun e w' => e = .returned (.tuple #[]) ∧ Keep (fun j => blk A = some j) w w' := by
  have hle := ho.le
  unfold maxLen at hle
  go_enter Try.func19, Try.ntmps19
  go_wp2
  go_loopw [2] (fun i wr => ∃ (k : Nat) (l' : List Int), i = .int .i64 k ∧ k ≤ n ∧ OIs wr base A n c l' ∧ Keep (fun j => blk A = some j) w wr) (fun i _ => n - (intOf i).toNat)
  case atStart => exact ⟨0, l, rfl, Nat.zero_le _, ho, Keep.refl _ _⟩
  case round =>
    obtain ⟨k, l', rfl, hk, ho', hkeep⟩ := hrel
    by_cases hlt : k < n
    · rcases Own.form ho' with ⟨_, h, _⟩ | ⟨g, rfl, hb, hg⟩
      · omega
      · have hc : wr.cell? ⟨g, k, none⟩ = some (iv (l'[k]'(by rw [ho'.len]; exact hlt))) := by
          rw [Own.at_ ho' rfl hlt, List.getElem?_map, List.getElem?_eq_getElem (by rw [ho'.len]; exact hlt)]
          rfl
        have hf := Own.frozen ho' rfl k
        go_wp2
        go_roundw
        case rel => exact ⟨k + 1, _, by go_num, by omega, OIs.set_ ho' k _, hkeep.trans ((Keep.setCell _ _ _).mono (by rintro i rfl; rfl))⟩
        case measure => simp [intOf]; omega
    · go_wp2
      go_end0
      exact ⟨rfl, hkeep⟩
set_option maxHeartbeats 400000 in
theorem grow_nil (k : Nat) (hk : k ≤ 1099511627776) (z : Int) (hz : z = (k : Int)) (w : World) :
    Calls Try.prog 28 #[.slice none 0 0, .int .i64 z] w fun e w' => ∃ A c, e = .returned (.slice A 0 c) ∧ OIs w' w.heap.size A 0 c [] ∧ New w w' := by
  subst hz
  obtain ⟨i, hi, hz0, hz1, hz2⟩ := info_parts i_int
  by_cases h0 : k = 0
  · subst h0
    go_enter Try.func28, Try.ntmps28
    go_wp2_with fail
    go_ret
    exact ⟨none, 0, rfl, OIs.nil _ _, New.refl _⟩
  · have hk0 : (0 : Int) < (k : Int) := by omega
    have hneg : decide ((k : Int) < 0) = false := by simp
    have hw1 : IntKind.i64.wrap (k : Int) = (k : Int) := IntWalk.i64_in _ ⟨by omega, by omega⟩
    have hr := Lib.run_append_nil_zeros (P := Try.prog) w 22 3 22 3 i _ .i64 .i64 u_ints u_int hi hz0 k (by omega) (by omega) (by omega) (by rw [hz2]; omega)
    have hge := grownCap_ge w k 0 3
    have hmx := grownCap_le_maxLen w k 0 3 (by unfold maxLen; omega)
    obtain ⟨cp, hcp⟩ : ∃ cp, cp = grownCap w k 0 3 := ⟨_, rfl⟩
    rw [← hcp] at hr hge hmx
    have hM := hmx
    unfold maxLen at hM
    have ho : OIs (w.drew.alloc (.cells (Builtin.zeroCells (Value.int .i64 0).cells k ++ Builtin.zeroCells (Value.int .i64 0).cells (cp - k)) 3)) w.heap.size (some ⟨w.heap.size, 0, none⟩) 0 cp [] :=
      World.ownsRow_made w.drew _ cp (Nat.le_refl _) hmx (by rw [Array.size_append, size_zeroCells, size_zeroCells]; simp [Value.cells]; omega)
    have HO := Lib.hid ho
    have hw : New w (w.drew.alloc (.cells (Builtin.zeroCells (Value.int .i64 0).cells k ++ Builtin.zeroCells (Value.int .i64 0).cells (cp - k)) 3)) := Below.alloc (Below.drew (New.refl w)) (Nat.le_refl _) _
    obtain ⟨w2, hw2⟩ : ∃ w2, w2 = (w.drew.alloc (.cells (Builtin.zeroCells (Value.int .i64 0).cells k ++ Builtin.zeroCells (Value.int .i64 0).cells (cp - k)) 3)) := ⟨_, rfl⟩
    rw [← hw2] at HO hw hr
    have HR := Lib.hid hr
    clear hw2 ho hr hcp hi hz0 hz1 hz2 h0
    go_enter Try.func28, Try.ntmps28
    go_wp2_with (at_builtin; refine Lib.wpList_append_run _ rfl (.tmp 20) (.tmp 21) _ _ rfl _ _ rfl rfl _ _ HR.out ?_; refine stop ?_)
    refine go ?_
    go_wp2_with fail
    go_ret
    exact ⟨_, cp, rfl, HO.out, hw⟩
/-- what two rows behind one another are -/
def Joined (w : World) (l : List Int) (e : Ending) (w' : World) : Prop := ∃ A c, e = .returned (.slice A l.length c) ∧ OIs w' w.heap.size A l.length c l ∧ New w w'
set_option maxHeartbeats 2000000 in
theorem concat_two (G : Nat) (A B : Option Addr) (n c m d : Nat) (l k : List Int) (w : World) (hn : n = l.length) (hm : m = k.length) (hl : RI w A l) (hk : RI w B k) (hnb : n ≤ 1000000) (hmb : m ≤ 1000000)
    (h0 : w.cell? ⟨G, 0, none⟩ = some (.slice A n c)) (h1 : w.cell? ⟨G, 1, none⟩ = some (.slice B m d)) :
    Calls Try.prog 22 #[.slice (some ⟨G, 0, none⟩) 2 2] w (Joined w (l ++ k)) := by
  have HN := Lib.hid hn
  have HM := Lib.hid hm
  clear hn hm
  go_enter Try.func22, Try.ntmps22
  go_wp2_with fail
  go_loopw [3, 11] (fun s i wr => ∃ j t : Nat, i = .int .i64 j ∧ s = .int .i64 t ∧ ((j = 0 ∧ 0 = t) ∨ (j = 1 ∧ n = t) ∨ (j = 2 ∧ n + m = t)) ∧ wr = w) (fun _ i _ => 3 - (intOf i).toNat)
  case atStart => exact ⟨0, 0, rfl, rfl, .inl ⟨rfl, rfl⟩, rfl⟩
  case round =>
    obtain ⟨j, t, rfl, rfl, hjt, rfl⟩ := hrel
    rcases hjt with ⟨rfl, rfl⟩ | ⟨rfl, rfl⟩ | ⟨rfl, rfl⟩
    · have e1 : IntKind.i64.wrap (n : Int) = (n : Int) := IntWalk.i64_in _ ⟨by omega, by omega⟩
      go_wp2_with fail
      go_roundw
      case rel => exact ⟨1, n, rfl, by first | rfl | go_num, .inr (.inl ⟨rfl, rfl⟩), by first | rfl | trivial⟩
      case measure => simp [intOf]
    · have e1 : IntKind.i64.wrap ((n : Int) + (m : Int)) = (n : Int) + (m : Int) := IntWalk.i64_in _ ⟨by omega, by omega⟩
      go_wp2_with fail
      go_roundw
      case rel => exact ⟨2, n + m, rfl, by first | rfl | go_num, .inr (.inr ⟨rfl, rfl⟩), by first | rfl | trivial⟩
      case measure => simp [intOf]
    · obtain ⟨w0, hw0⟩ : ∃ w0 : World, w0 = wr := ⟨_, rfl⟩
      subst hw0
      go_wp2_with fail
      refine (grow_nil (n + m) (by omega) _ (by omega) w0).mono ?_
      rintro e w1 ⟨A0, c0, rfl, ho, hw1⟩
      have HO := Lib.hid ho
      clear ho
      go_wp2_with fail
      go_loopw [6, 27] (fun s i w2 => ∃ (j z : Nat) (A' : Option Addr) (c' : Nat) (y : List Int), i = .int .i64 j ∧ s = .slice A' z c' ∧ ((j = 0 ∧ 0 = z ∧ [] = y) ∨ (j = 1 ∧ n = z ∧ l = y) ∨ (j = 2 ∧ n + m = z ∧ l ++ k = y)) ∧ Hid (OIs w2 w0.heap.size A' z c' y) ∧ New w0 w2) (fun _ i _ => 3 - (intOf i).toNat)
      case atStart => exact ⟨0, 0, A0, c0, [], rfl, rfl, .inl ⟨rfl, rfl, rfl⟩, HO, hw1⟩
      case round =>
        obtain ⟨j, z, A', c', y, rfl, rfl, hjt, ho, hnew⟩ := hrel
        have g0 := (hnew.cell (World.block_lt_of_cell? _ _ h0)).trans h0
        have g1 := (hnew.cell (World.block_lt_of_cell? _ _ h1)).trans h1
        have rl := hl.new hnew
        have rk := hk.new hnew
        rcases hjt with ⟨rfl, rfl, rfl⟩ | ⟨rfl, rfl, rfl⟩ | ⟨rfl, rfl, rfl⟩
        · go_wp2_with (at_builtin; refine wpList_append_OI _ rfl (.tmp 31) (.tmp 32) _ rfl w0.heap.size _ u_ints i_int A' 0 c' [] rfl ho.out A n c l rfl HN.out rl (by omega) hnew.size ?_; intro A2 c2 w3 ho2 hg2 _; refine stop ?_)
          have hn3 : New w0 w3 := Below.trans hnew (below_blk ho.out hg2 hnew.size)
          have ho3 : Hid (OIs w3 w0.heap.size A2 n c2 l) := by show OIs _ _ _ _ _ _; simpa using ho2
          refine go ?_
          clear ho2 hg2 ho rl rk g0 g1
          go_wp2_with fail
          go_roundw
          case rel => exact ⟨1, n, A2, c2, l, rfl, by first | rfl | simp, .inr (.inl ⟨rfl, rfl, rfl⟩), ho3, hn3⟩
          case measure => simp [intOf]
        · go_wp2_with (at_builtin; refine wpList_append_OI _ rfl (.tmp 31) (.tmp 32) _ rfl w0.heap.size _ u_ints i_int A' n c' l rfl ho.out B m d k rfl HM.out rk (by omega) hnew.size ?_; intro A2 c2 w3 ho2 hg2 _; refine stop ?_)
          have hn3 : New w0 w3 := Below.trans hnew (below_blk ho.out hg2 hnew.size)
          have ho3 : Hid (OIs w3 w0.heap.size A2 (n + m) c2 (l ++ k)) := ho2
          refine go ?_
          clear ho2 hg2 ho rl rk g0 g1
          go_wp2_with fail
          go_roundw
          case rel => exact ⟨2, n + m, A2, c2, l ++ k, rfl, rfl, .inr (.inr ⟨rfl, rfl, rfl⟩), ho3, hn3⟩
          case measure => simp [intOf]
        · go_wp2_with fail
          go_ret
          have e : n + m = (l ++ k).length := by rw [List.length_append, HN.out, HM.out]
          refine ⟨A', c', by rw [← e]; rfl, ?_, hnew⟩
          rw [← e]
          exact ho.out
end Go.Proofs.Ytblananbhibpmaa
