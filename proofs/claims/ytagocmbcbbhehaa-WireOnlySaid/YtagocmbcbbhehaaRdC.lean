/- pack.Writer.Text: what they do. -/
import Derived.Test.YtagocmbcbbhehaaRdB
namespace Go.Proofs.Ytagocmbcbbhehaa
open Go.RowKit
set_option maxHeartbeats 1000000 in
theorem text_pk {base g c : Nat} {A : Option Addr} {l : List UInt8} {e : Bool} {w : World} (h : WK w base g A c l e) (B : Option Addr) (m d : Nat) (r : List UInt8) (hm : m = r.length) (hr : RB w B r) (hB : ∀ ad, B = some ad → ad.block ≠ g ∧ ¬ blk A = some ad.block ∧ ad.block < w.heap.size)
    (hm1 : m ≤ 131072) (hmax : l.length + 10 + m ≤ 140737488355328) (hb : base ≤ w.heap.size) :
    Calls Try.prog 65 #[.pointer (some ⟨g, 0, none⟩), .slice B m d] w (Put w base g A (.returned (.tuple #[])) (l ++ (uv m ++ r)) e) := by
  have hu := uv_ten (v := m) (by omega)
  have HC := Lib.hid (uint_pk h m (by omega) (by omega) hb)
  have HH := Lib.hid h
  have HM := Lib.hid hm
  have hd1 : decide ((131072 : Int) < (m : Int)) = false := by simp; omega
  have hw1 : IntKind.u64.wrap (m : Int) = (m : Int) := by rw [IntKind.wrap_u64]; omega
  clear h hm
  go_enter Try.func65, Try.ntmps65
  go_wp2_with fail
  refine HC.out.mono ?_
  rintro e1 w1 ⟨A1, c1, rfl, hd, hm⟩
  obtain ⟨n, hn⟩ : ∃ n, n = (l ++ uv m).length := ⟨_, rfl⟩
  have hnm : n ≤ l.length + 10 := by rw [hn, List.length_append]; omega
  have h0 := hd.c0
  have hf := hd.fr
  have ho := hd.own
  rw [← hn] at h0 ho
  have HN := Lib.hid hn
  have HD := Lib.hid hd
  have hr1 : RB w1 B r := hr.kept hm.keep fun ad e => by
    rintro (e1 | e1)
    · exact (hB ad e).1 e1
    · exact (hB ad e).2.1 e1
  have hb1 : base ≤ w1.heap.size := Nat.le_trans hb hm.keep.size
  clear hn hd
  go_wp2_with (at_builtin; refine wpList_append_OB _ rfl (.tmp 18) (.tmp 19) _ rfl base _ u_bytes i_byte A1 n c1 _ rfl ho B m d r rfl HM.out hr1 (by omega) hb1 ?_; intro A2 c2 w2 ho2 hg2 hA2; refine stop ?_)
  have hrm : m = r.length := HM.out
  have hp := put_app (r := r) HD.out HN.out (by rw [← hrm]; exact ho2) hg2 hA2
  rw [← hrm] at hp
  have hq : (w2.cell? ⟨g, 0, none⟩).isSome = true ∧ ∀ j, w2.frozen? ⟨g, j, none⟩ = false := by
    have hk : Keep (fun i => blk A1 = some i) _ w2 := .of_grown hg2
    have hcs := (hk.block g HD.out.lt (fun e => HD.out.apart e rfl)).trans HD.out.cells
    exact ⟨by rw [cell_of_row w2 g 0 _ _ _ hcs]; rfl, fun j => frozen_of_row w2 g j _ _ hcs⟩
  obtain ⟨u2, hu2⟩ := Option.isSome_iff_exists.1 hq.1
  have hf2 := hq.2
  have hm2 := hm.trans hp.2
  have HP := Lib.hid hp.1
  refine go ?_
  clear hp hq h0 hf ho ho2 hg2 hA2 hrm
  go_wp2_with fail
  go_end0
  refine ⟨A2, c2, rfl, ?_, hm2⟩
  rw [← List.append_assoc]
  exact HP.out
end Go.Proofs.Ytagocmbcbbhehaa
