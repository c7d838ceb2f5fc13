/- pack.Writer: Uint, Bytes; hanselaw03.wakes: what they do. -/
import Derived.Test.YtloolhbikfdipaaPkA
import Derived.Test.YtloolhbikfdipaaUv
import Derived.BigQuiet
import Derived.Deep.QuietTactic
import Derived.Deep.LoopGhost
namespace Go.Proofs.Ytloolhbikfdipaa
open Go.RowKit
abbrev WK (w : World) (base g : Nat) (A : Option Addr) (c : Nat) (l : List UInt8) (e : Int) : Prop := PK 27 w base g A c l e
/-- it holds l and e now, and nothing else was changed -/
def PutT (T : TypeId) (w : World) (base g : Nat) (A : Option Addr) (v : Ending) (l : List UInt8) (x : Int) (e : Ending) (w' : World) : Prop := ∃ A' c', e = v ∧ PK T w' base g A' c' l x ∧ Moved w w' g A A'
abbrev Put (w : World) (base g : Nat) (A : Option Addr) (v : Ending) (l : List UInt8) (x : Int) (e : Ending) (w' : World) : Prop := PutT 27 w base g A v l x e w'
/-- bytes appended to those of a writer, behind the append and the store -/
theorem put_app {w w1 : World} {base g c c' : Nat} {A A' : Option Addr} {l r : List UInt8} {x : Int} {n : Nat} (h : WK w base g A c l x) (hn : n = l.length) (ho : OBs w1 base A' (n + r.length) c' (l ++ r)) (hg : w.grownBy w1 (blk A)) (hA : blk A' = blk A ∨ blk A' = some w.heap.size) :
    WK (w1.setCell ⟨g, 0, none⟩ (.slice A' (n + r.length) c')) base g A' c' (l ++ r) x ∧ Moved w (w1.setCell ⟨g, 0, none⟩ (.slice A' (n + r.length) c')) g A A' := by
  subst hn
  have hk : Keep (fun i => blk A = some i) w w1 := .of_grown hg
  have hlt : g < w.heap.size := h.lt
  have hcs := (hk.block g hlt (fun e => h.apart e rfl)).trans h.cells
  refine ⟨⟨?_, ?_, h.le, h.ty⟩, ?_⟩
  · rw [dk_set hcs, List.length_append]
    rfl
  · rw [← List.length_append] at ho
    refine ho.keep (Keep.setAt _ _ _ _) ?_
    rintro i hi rfl
    rcases hA with e | e
    · exact h.apart (e ▸ hi) rfl
    · rw [e] at hi; injection hi with hi; omega
  · refine (Moved.mk (hk.mono fun i hi => .inr hi) ?_).store 0 _
    rcases hA with e | e
    · exact .inl e
    · exact .inr fun i hi => by rw [e] at hi; injection hi with hi; omega
set_option maxHeartbeats 1000000 in
theorem uint_pk {base g c : Nat} {A : Option Addr} {l : List UInt8} {x : Int} {w : World} (h : WK w base g A c l x) (v : Nat) (hv : v < 18446744073709551616) (hmax : l.length + (uv v).length ≤ 140737488355328) (hb : base ≤ w.heap.size) :
    Calls Try.prog 8 #[.pointer (some ⟨g, 0, none⟩), .int .u64 v] w (Put w base g A (.returned (.tuple #[])) (l ++ uv v) x) := by
  have HV := Lib.hid hv
  have HMX := Lib.hid hmax
  have HH := Lib.hid h
  clear hv hmax h
  go_enter Try.func8, Try.ntmps8
  go_wp2_with fail
  go_loopw [1] (fun i wr => ∃ (k : Nat) (A' : Option Addr) (c' : Nat) (l' : List UInt8), i = .int .u64 k ∧ k < 18446744073709551616 ∧ WK wr base g A' c' l' x ∧ Hid (l' ++ uv k = l ++ uv v) ∧ Moved w wr g A A' ∧ base ≤ wr.heap.size) (fun i _ => (intOf i).toNat)
  case atStart => exact ⟨v, A, c, l, rfl, HV.out, HH.out, rfl, Moved.refl _ _ _, hb⟩
  case round =>
    obtain ⟨k, A', c', l', rfl, hk, hw, hl, hm, hbs⟩ := hrel
    have hlen : l'.length + (uv k).length ≤ 140737488355328 := by
      have := congrArg List.length hl.out
      simp only [List.length_append] at this
      have := HMX.out
      omega
    have hup := uv_pos k
    obtain ⟨n, hn⟩ : ∃ n, n = l'.length := ⟨_, rfl⟩
    have h0 := hw.c0
    have hf := hw.fr
    have ho := hw.own
    rw [← hn] at h0 hlen ho
    have HN := Lib.hid hn
    clear hn
    by_cases hbig : (127 : Int) < (k : Int)
    · obtain ⟨ub, hub⟩ : ∃ ub, ub = UInt8.ofNat (k % 128 + 128) := ⟨_, rfl⟩
      have hor : bits .or .u8 ((k : Int) % 256) 128 = (ub.toNat : Int) := by
        have := or128 k
        rw [← hub] at this
        exact this
      have HU := Lib.hid hub
      clear hub
      go_wp2_with (at_builtin; refine wpList_append_OB _ rfl (.tmp 10) (.tmp 14) _ rfl base _ u_bytes i_byte A' n c' l' rfl (OB.alloc ho _) (some ⟨wr.heap.size, 0, none⟩) 1 1 [ub] rfl rfl (RB.lit wr [ub] 5 (0, 0) rfl) (by omega) (by rw [World.size_alloc]; omega) ?_; intro A2 c2 w2 ho2 hg2 hA2; refine stop ?_)
      have hp := put_app (r := [ub]) (hw.alloc (.cells #[bv ub] 5)) HN.out ho2 hg2 hA2
      have hq : (w2.cell? ⟨g, 0, none⟩).isSome = true ∧ ∀ j, w2.frozen? ⟨g, j, none⟩ = false := by
        have hk : Keep (fun i => blk A' = some i) _ w2 := .of_grown hg2
        have hcs := (hk.block g (hw.alloc (.cells #[bv ub] 5)).lt (fun e => hw.apart e rfl)).trans (hw.alloc (.cells #[bv ub] 5)).cells
        exact ⟨by rw [cell_of_row w2 g 0 _ _ _ hcs]; rfl, fun j => frozen_of_row w2 g j _ _ hcs⟩
      obtain ⟨u2, hu2⟩ := Option.isSome_iff_exists.1 hq.1
      have hf2 := hq.2
      have hm2 : Moved w _ g A A2 := hm.trans (Moved.trans (Moved.of_new (Below.alloc (Below.refl _ _) (Nat.le_refl _) (.cells #[bv ub] 5))) hp.2)
      have HP := Lib.hid hp.1
      have HM2 := Lib.hid hm2
      refine go ?_
      clear hp hq h0 hf ho ho2 hg2 hA2 hm2 hw hm
      go_wp2_with fail
      go_roundw
      case rel =>
        refine ⟨k / 128, A2, c2, l' ++ [ub], by go_num, by omega, HP.out, ?_, HM2.out, Nat.le_trans hb HM2.out.keep.size⟩
        show (l' ++ [ub]) ++ uv (k / 128) = l ++ uv v
        rw [← hl.out, uv_big (v := k) (by omega), ← show ub = _ from HU.out, List.append_assoc]
        rfl
      case measure => simp [intOf]; omega
    · obtain ⟨ub, rfl⟩ : ∃ ub : UInt8, k = ub.toNat := ⟨UInt8.ofNat k, by simp; omega⟩
      have hub := UInt8.toNat_lt ub
      go_wp2_with (at_builtin; refine wpList_append_OB _ rfl (.tmp 24) (.tmp 27) _ rfl base _ u_bytes i_byte A' n c' l' rfl (OB.alloc ho _) (some ⟨wr.heap.size, 0, none⟩) 1 1 [ub] rfl rfl (RB.lit wr [ub] 5 (0, 0) rfl) (by omega) (by rw [World.size_alloc]; omega) ?_; intro A2 c2 w2 ho2 hg2 hA2; refine stop ?_)
      have hp := put_app (r := [ub]) (hw.alloc (.cells #[bv ub] 5)) HN.out ho2 hg2 hA2
      have hq : (w2.cell? ⟨g, 0, none⟩).isSome = true ∧ ∀ j, w2.frozen? ⟨g, j, none⟩ = false := by
        have hk : Keep (fun i => blk A' = some i) _ w2 := .of_grown hg2
        have hcs := (hk.block g (hw.alloc (.cells #[bv ub] 5)).lt (fun e => hw.apart e rfl)).trans (hw.alloc (.cells #[bv ub] 5)).cells
        exact ⟨by rw [cell_of_row w2 g 0 _ _ _ hcs]; rfl, fun j => frozen_of_row w2 g j _ _ hcs⟩
      obtain ⟨u2, hu2⟩ := Option.isSome_iff_exists.1 hq.1
      have hf2 := hq.2
      have hm2 : Moved w _ g A A2 := hm.trans (Moved.trans (Moved.of_new (Below.alloc (Below.refl _ _) (Nat.le_refl _) (.cells #[bv ub] 5))) hp.2)
      have HP := Lib.hid hp.1
      have HM2 := Lib.hid hm2
      refine go ?_
      clear hp hq h0 hf ho ho2 hg2 hA2 hm2 hw hm
      go_wp2_with fail
      go_end0
      refine ⟨A2, c2, rfl, ?_, HM2.out⟩
      have e : l' ++ [ub] = l ++ uv v := by
        rw [← hl.out, uv_small (v := ub.toNat) (by omega)]
        simp
      rw [← e]
      exact HP.out
set_option maxHeartbeats 1000000 in
theorem bytes_pk {base g c : Nat} {A : Option Addr} {l : List UInt8} {w : World} (h : WK w base g A c l 0) (hmax : l.length ≤ 140737488355328) :
    Calls Try.prog 9 #[.pointer (some ⟨g, 0, none⟩)] w fun e w' => ∃ B d, e = .returned (.tuple #[.slice B l.length d, .int .i64 0]) ∧ OBs w' w.heap.size B l.length d l ∧ New w w' := by
  have h0 := h.c0
  have h1 := h.c1
  have HH := Lib.hid h
  obtain ⟨n, hn⟩ : ∃ n, n = l.length := ⟨_, rfl⟩
  have hr := h.own.rb
  rw [← hn] at h0 hmax
  have HN := Lib.hid hn
  clear h hn
  go_enter Try.func9, Try.ntmps9
  go_wp2_with fail
  refine (clone_any A n c l w HN.out hr hmax).mono ?_
  rintro e w' ⟨B, d, rfl, ho, hw⟩
  go_wp2_with fail
  go_ret2
  have : n = l.length := HN.out
  subst this
  exact ⟨B, d, rfl, ho, hw⟩
theorem new_pk (w : World) : WK (w.alloc (.cells #[.slice none 0 0, .int .i64 0] 27)) w.heap.size w.heap.size none 0 [] 0 := ⟨heap_alloc_new w _, OB.nil _ _ _, Nat.le_refl _, by decide⟩
theorem uv128 : uv 128 = [128, 1] := by rw [uv_big (by omega), uv_small (by omega)]; rfl
set_option maxHeartbeats 1000000 in
theorem wakes_any (w : World) : Calls Try.prog 10 #[] w fun e w' => e = .returned (.bool true) ∧ New w w' := by
  go_enter Try.func10, Try.ntmps10
  go_wp2_with fail
  refine (uint_pk (new_pk w) 128 (by omega) (by rw [uv128]; decide) (by rw [World.size_alloc]; omega)).mono ?_
  rintro e w2 ⟨A2, c2, rfl, hd, hm⟩
  have hw2 : New w w2 := Below.trans (Below.alloc (Below.refl _ _) (Nat.le_refl _) _) (hm.below (new_pk w) (Nat.le_refl _) (by rw [World.size_alloc]; omega))
  rw [uv128] at hd
  go_wp2_with fail
  refine (bytes_pk hd (by decide)).mono ?_
  rintro e w3 ⟨B, d, rfl, ho, hw3⟩
  have r1 : Sem.run Try.prog (convert 24 9 (.slice B 2 d)) w3 = Result.ok (.string ⟨#[128, 1]⟩) w3 := run_convert_RB (P := Try.prog) w3 _ _ u_bytes u_byte 2 d rfl ho.rb _ u_string
  clear hd hm ho
  go_wp2_with fail
  go_ret
  exact ⟨rfl, New.trans hw2 hw3⟩
end Go.Proofs.Ytloolhbikfdipaa
