/- wire.writer: a block of three cells and bytes of the call's own; pack.Writer's Uint, Bytes on it. -/
import Derived.Test.YtagocmbcbbhehaaPkA
import Derived.Test.YtagocmbcbbhehaaUv
import Derived.BigQuiet
import Derived.Deep.QuietTactic
import Derived.Deep.LoopGhost
namespace Go.Proofs.Ytagocmbcbbhehaa
open Go.RowKit
/-- block g is a writer of the bytes l, without an error; long: was a list too long? Its bytes are the call's own, at A -/
structure PW (w : World) (base g : Nat) (A : Option Addr) (c : Nat) (l : List UInt8) (lg : Bool) : Prop where
  cells : w.heap[g]? = some (.cells #[.slice A l.length c, .int .i64 0, .bool lg] 66)
  own : OBs w base A l.length c l
  le : base ≤ g
section
variable {w w' w'' : World} {base g c : Nat} {A A' A'' : Option Addr} {l : List UInt8} {lg : Bool}
theorem PW.lt (h : PW w base g A c l lg) : g < w.heap.size := (Array.getElem?_eq_some_iff.1 h.cells).1
theorem PW.c0 (h : PW w base g A c l lg) : w.cell? ⟨g, 0, none⟩ = some (.slice A l.length c) := cell_of_row w g 0 _ _ _ h.cells
theorem PW.c1 (h : PW w base g A c l lg) : w.cell? ⟨g, 1, none⟩ = some (.int .i64 0) := cell_of_row w g 1 _ _ _ h.cells
theorem PW.c2 (h : PW w base g A c l lg) : w.cell? ⟨g, 2, none⟩ = some (.bool lg) := cell_of_row w g 2 _ _ _ h.cells
theorem PW.fr (h : PW w base g A c l lg) (j : Nat) : w.frozen? ⟨g, j, none⟩ = false := frozen_of_row w g j _ _ h.cells
theorem PW.apart (h : PW w base g A c l lg) {i : Nat} (hi : blk A = some i) : i ≠ g := by
  rintro rfl
  obtain ⟨cur, h1⟩ := h.own.cells_ hi
  rw [h.cells] at h1
  injection h1 with h1
  injection h1 with _ h1
  exact absurd h1 (by decide)
theorem PW.new (h : PW w base g A c l lg) (hn : New w w') : PW w' base g A c l lg := ⟨(hn.block g h.lt).trans h.cells, h.own.new hn, h.le⟩
theorem PW.alloc (h : PW w base g A c l lg) (o : Obj) : PW (w.alloc o) base g A c l lg := h.new ((Below.refl _ _).alloc (Nat.le_refl _) o)
theorem PW.drew (h : PW w base g A c l lg) : PW w.drew base g A c l lg := ⟨h.cells, h.own, h.le⟩
theorem PW.drewN (h : PW w base g A c l lg) (n : Nat) : PW (w.drewN n) base g A c l lg := ⟨h.cells, h.own, h.le⟩
theorem Moved.belowW (h : Moved w w' g A A') (hd : PW w base g A c l lg) {b : Nat} (hb : b ≤ base) (hw : b ≤ w.heap.size) : Below b w w' := by
  refine h.keep.below hw ?_
  rintro i (rfl | hi)
  · exact Nat.le_trans hb hd.le
  · have := (OB.lt hd.own hi).1; omega
end
abbrev WK (w : World) (base g : Nat) (A : Option Addr) (c : Nat) (l : List UInt8) (e : Bool) : Prop := PW w base g A c l e
/-- it holds l now, and nothing else was changed -/
def Put (w : World) (base g : Nat) (A : Option Addr) (v : Ending) (l : List UInt8) (x : Bool) (e : Ending) (w' : World) : Prop := ∃ A' c', e = v ∧ PW w' base g A' c' l x ∧ Moved w w' g A A'
/-- bytes appended to those of a writer, behind the append and the store -/
theorem put_app {w w1 : World} {base g c c' : Nat} {A A' : Option Addr} {l r : List UInt8} {x : Bool} {n : Nat} (h : WK w base g A c l x) (hn : n = l.length) (ho : OBs w1 base A' (n + r.length) c' (l ++ r)) (hg : w.grownBy w1 (blk A)) (hA : blk A' = blk A ∨ blk A' = some w.heap.size) :
    WK (w1.setCell ⟨g, 0, none⟩ (.slice A' (n + r.length) c')) base g A' c' (l ++ r) x ∧ Moved w (w1.setCell ⟨g, 0, none⟩ (.slice A' (n + r.length) c')) g A A' := by
  subst hn
  have hk : Keep (fun i => blk A = some i) w w1 := .of_grown hg
  have hlt : g < w.heap.size := h.lt
  have hcs := (hk.block g hlt (fun e => h.apart e rfl)).trans h.cells
  refine ⟨⟨?_, ?_, h.le⟩, ?_⟩
  · rw [dk_set hcs, List.length_append]
    rfl
  · rw [← List.length_append] at ho
    refine ho.keep (Keep.setAt _ _ _ _) ?_
    rintro i hi rfl
    rcases hA with e | e
    · exact h.apart (e ▸ hi) rfl
    · rw [e] at hi; injection hi with hi; omega
  · refine (Moved.mk (hk.mono fun i hi => .inr hi) ?_).store 0 _
    rcases hA with e | e
    · exact .inl e
    · exact .inr fun i hi => by rw [e] at hi; injection hi with hi; omega
set_option maxHeartbeats 1000000 in
theorem uint_pk {base g c : Nat} {A : Option Addr} {l : List UInt8} {x : Bool} {w : World} (h : WK w base g A c l x) (v : Nat) (hv : v < 18446744073709551616) (hmax : l.length + (uv v).length ≤ 140737488355328) (hb : base ≤ w.heap.size) :
    Calls Try.prog 40 #[.pointer (some ⟨g, 0, none⟩), .int .u64 v] w (Put w base g A (.returned (.tuple #[])) (l ++ uv v) x) := by
  have HV := Lib.hid hv
  have HMX := Lib.hid hmax
  have HH := Lib.hid h
  clear hv hmax h
  go_enter Try.func40, Try.ntmps40
  go_wp2_with fail
  go_loopw [1] (fun i wr => ∃ (k : Nat) (A' : Option Addr) (c' : Nat) (l' : List UInt8), i = .int .u64 k ∧ k < 18446744073709551616 ∧ WK wr base g A' c' l' x ∧ Hid (l' ++ uv k = l ++ uv v) ∧ Moved w wr g A A' ∧ base ≤ wr.heap.size) (fun i _ => (intOf i).toNat)
  case atStart => exact ⟨v, A, c, l, rfl, HV.out, HH.out, rfl, Moved.refl _ _ _, hb⟩
  case round =>
    obtain ⟨k, A', c', l', rfl, hk, hw, hl, hm, hbs⟩ := hrel
    have hlen : l'.length + (uv k).length ≤ 140737488355328 := by
      have := congrArg List.length hl.out
      simp only [List.length_append] at this
      have := HMX.out
      omega
    have hup := uv_pos k
    obtain ⟨n, hn⟩ : ∃ n, n = l'.length := ⟨_, rfl⟩
    have h0 := hw.c0
    have hf := hw.fr
    have ho := hw.own
    rw [← hn] at h0 hlen ho
    have HN := Lib.hid hn
    clear hn
    by_cases hbig : (127 : Int) < (k : Int)
    · obtain ⟨ub, hub⟩ : ∃ ub, ub = UInt8.ofNat (k % 128 + 128) := ⟨_, rfl⟩
      have hor : bits .or .u8 ((k : Int) % 256) 128 = (ub.toNat : Int) := by
        have := or128 k
        rw [← hub] at this
        exact this
      have HU := Lib.hid hub
      clear hub
      go_wp2_with (at_builtin; refine wpList_append_OB _ rfl (.tmp 10) (.tmp 14) _ rfl base _ u_bytes i_byte A' n c' l' rfl (OB.alloc ho _) (some ⟨wr.heap.size, 0, none⟩) 1 1 [ub] rfl rfl (RB.lit wr [ub] 5 (0, 0) rfl) (by omega) (by rw [World.size_alloc]; omega) ?_; intro A2 c2 w2 ho2 hg2 hA2; refine stop ?_)
      have hp := put_app (r := [ub]) (hw.alloc (.cells #[bv ub] 5)) HN.out ho2 hg2 hA2
      have hq : (w2.cell? ⟨g, 0, none⟩).isSome = true ∧ ∀ j, w2.frozen? ⟨g, j, none⟩ = false := by
        have hk : Keep (fun i => blk A' = some i) _ w2 := .of_grown hg2
        have hcs := (hk.block g (hw.alloc (.cells #[bv ub] 5)).lt (fun e => hw.apart e rfl)).trans (hw.alloc (.cells #[bv ub] 5)).cells
        exact ⟨by rw [cell_of_row w2 g 0 _ _ _ hcs]; rfl, fun j => frozen_of_row w2 g j _ _ hcs⟩
      obtain ⟨u2, hu2⟩ := Option.isSome_iff_exists.1 hq.1
      have hf2 := hq.2
      have hm2 : Moved w _ g A A2 := hm.trans (Moved.trans (Moved.of_new (Below.alloc (Below.refl _ _) (Nat.le_refl _) (.cells #[bv ub] 5))) hp.2)
      have HP := Lib.hid hp.1
      have HM2 := Lib.hid hm2
      refine go ?_
      clear hp hq h0 hf ho ho2 hg2 hA2 hm2 hw hm
      go_wp2_with fail
      go_roundw
      case rel =>
        refine ⟨k / 128, A2, c2, l' ++ [ub], by go_num, by omega, HP.out, ?_, HM2.out, Nat.le_trans hb HM2.out.keep.size⟩
        show (l' ++ [ub]) ++ uv (k / 128) = l ++ uv v
        rw [← hl.out, uv_big (v := k) (by omega), ← show ub = _ from HU.out, List.append_assoc]
        rfl
      case measure => simp [intOf]; omega
    · obtain ⟨ub, rfl⟩ : ∃ ub : UInt8, k = ub.toNat := ⟨UInt8.ofNat k, by simp; omega⟩
      have hub := UInt8.toNat_lt ub
      go_wp2_with (at_builtin; refine wpList_append_OB _ rfl (.tmp 24) (.tmp 27) _ rfl base _ u_bytes i_byte A' n c' l' rfl (OB.alloc ho _) (some ⟨wr.heap.size, 0, none⟩) 1 1 [ub] rfl rfl (RB.lit wr [ub] 5 (0, 0) rfl) (by omega) (by rw [World.size_alloc]; omega) ?_; intro A2 c2 w2 ho2 hg2 hA2; refine stop ?_)
      have hp := put_app (r := [ub]) (hw.alloc (.cells #[bv ub] 5)) HN.out ho2 hg2 hA2
      have hq : (w2.cell? ⟨g, 0, none⟩).isSome = true ∧ ∀ j, w2.frozen? ⟨g, j, none⟩ = false := by
        have hk : Keep (fun i => blk A' = some i) _ w2 := .of_grown hg2
        have hcs := (hk.block g (hw.alloc (.cells #[bv ub] 5)).lt (fun e => hw.apart e rfl)).trans (hw.alloc (.cells #[bv ub] 5)).cells
        exact ⟨by rw [cell_of_row w2 g 0 _ _ _ hcs]; rfl, fun j => frozen_of_row w2 g j _ _ hcs⟩
      obtain ⟨u2, hu2⟩ := Option.isSome_iff_exists.1 hq.1
      have hf2 := hq.2
      have hm2 : Moved w _ g A A2 := hm.trans (Moved.trans (Moved.of_new (Below.alloc (Below.refl _ _) (Nat.le_refl _) (.cells #[bv ub] 5))) hp.2)
      have HP := Lib.hid hp.1
      have HM2 := Lib.hid hm2
      refine go ?_
      clear hp hq h0 hf ho ho2 hg2 hA2 hm2 hw hm
      go_wp2_with fail
      go_end0
      refine ⟨A2, c2, rfl, ?_, HM2.out⟩
      have e : l' ++ [ub] = l ++ uv v := by
        rw [← hl.out, uv_small (v := ub.toNat) (by omega)]
        simp
      rw [← e]
      exact HP.out
set_option maxHeartbeats 1000000 in
theorem bytes_pk {base g c : Nat} {A : Option Addr} {l : List UInt8} {w : World} {x : Bool} (h : WK w base g A c l x) (hmax : l.length ≤ 140737488355328) :
    Calls Try.prog 39 #[.pointer (some ⟨g, 0, none⟩)] w fun e w' => ∃ B d, e = .returned (.tuple #[.slice B l.length d, .int .i64 0]) ∧ OBs w' w.heap.size B l.length d l ∧ New w w' := by
  have h0 := h.c0
  have h1 := h.c1
  have HH := Lib.hid h
  obtain ⟨n, hn⟩ : ∃ n, n = l.length := ⟨_, rfl⟩
  have hr := h.own.rb
  rw [← hn] at h0 hmax
  have HN := Lib.hid hn
  clear h hn
  go_enter Try.func39, Try.ntmps39
  go_wp2_with fail
  refine (clone_any A n c l w HN.out hr hmax).mono ?_
  rintro e w' ⟨B, d, rfl, ho, hw⟩
  go_wp2_with fail
  go_ret2
  have : n = l.length := HN.out
  subst this
  exact ⟨B, d, rfl, ho, hw⟩
end Go.Proofs.Ytagocmbcbbhehaa
