/- hansekeep.Bytes, Twin, SpoilBytes, bytes.Clone: what they do. -/
import Derived.Test.YtagocmbcbbhehaaBase
import Derived.Outline
import Derived.Deep.LoopGhost
namespace Go.Proofs.Ytagocmbcbbhehaa
open Go.RowKit

set_option maxHeartbeats 400000 in
theorem bytes_any (A B : Option Addr) (n c m d : Nat) (l k : List UInt8) (w : World) (hn : n = l.length) (hm : m = k.length) (hl : RB w A l) (hk : RB w B k) :
    Calls Try.prog 10 #[.slice A n c, .slice B m d] w fun e w' => e = .returned (.bool (l == k)) ∧ w = w' := by
  have r1 := run_convert_RB (P := Try.prog) w _ _ u_bytes u_byte n c hn hl _ u_string
  have r2 := run_convert_RB (P := Try.prog) w _ _ u_bytes u_byte m d hm hk _ u_string
  clear hl hk hn hm
  go_enter Try.func10, Try.ntmps10
  go_wp2
  go_ret
  exact ⟨rfl, rfl⟩

theorem bytes_is (A B : Option Addr) (n c m d : Nat) (l k : List UInt8) (w : World) (hn : n = l.length) (hm : m = k.length) (hl : RB w A l) (hk : RB w B k) (b : Bool) (hb : (l == k) = b) :
    Calls Try.prog 10 #[.slice A n c, .slice B m d] w fun e w' => e = .returned (.bool b) ∧ w = w' := by
  rw [← hb]
  exact bytes_any A B n c m d l k w hn hm hl hk
/-- what a copy is: bytes in new memory -/
def Copied (w : World) (n : Nat) (l : List UInt8) (e : Ending) (w' : World) : Prop := ∃ A c, e = .returned (.slice A n c) ∧ OBs w' w.heap.size A n c l ∧ New w w'

set_option maxHeartbeats 400000 in
theorem clone_any (B : Option Addr) (m d : Nat) (k : List UInt8) (w : World) (hm : m = k.length) (hk : RB w B k) (hb : m ≤ 140737488355328) :
    Calls Try.prog 76 #[.slice B m d] w (Copied w m k) := by
  have h0 := fun w => Lib.run_eql_slice_nil (P := Try.prog) w 35 _ B m d 0 0 u_bytes
  have HM := Lib.hid hm
  clear hm
  cases B with
  | none =>
    go_enter Try.func76, Try.ntmps76
    go_wp2
    go_ret
    have : k = [] := by
      cases k with
      | nil => rfl
      | cons u l => obtain ⟨ad, h, _⟩ := hk.at_ (j := 0) (by simp); cases h
    subst this
    have : m = 0 := HM.out
    subst this
    exact ⟨none, 0, rfl, OB.nil _ _ _, New.refl w⟩
  | some b =>
    go_enter Try.func76, Try.ntmps76
    have h1 : OBs (w.alloc (.cells #[] 5)) w.heap.size (some ⟨w.heap.size, 0, none⟩) 0 0 [] := World.ownsRow_made w #[] 0 (Nat.le_refl _) (Nat.zero_le _) rfl
    go_wp2_with (at_builtin; refine wpList_append_OB _ rfl _ _ _ rfl w.heap.size _ u_bytes i_byte _ 0 0 [] rfl h1 (some b) m d k rfl HM.out (hk.alloc _) (by omega) (by simp) ?_; intro A c w1 hown hg _)
    go_ret
    exact ⟨A, c, rfl, by simpa using hown, ((Below.refl _ _).alloc (Nat.le_refl _) _).grown hg (by simp) (by simp [blk])⟩

end Go.Proofs.Ytagocmbcbbhehaa
