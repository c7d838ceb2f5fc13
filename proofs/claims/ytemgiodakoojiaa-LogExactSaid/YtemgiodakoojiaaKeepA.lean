/- hansekeep.Bytes, Twin, SpoilBytes, bytes.Clone: what they do. -/
import Derived.Test.YtemgiodakoojiaaBase
import Derived.Outline
import Derived.Deep.LoopGhost
namespace Go.Proofs.Ytemgiodakoojiaa
open Go.RowKit

set_option maxHeartbeats 400000 in
theorem bytes_any (A B : Option Addr) (n c m d : Nat) (l k : List UInt8) (w : World) (hn : n = l.length) (hm : m = k.length) (hl : RB w A l) (hk : RB w B k) :
    Calls Try.prog 15 #[.slice A n c, .slice B m d] w fun e w' => e = .returned (.bool (l == k)) ∧ w = w' := by
  have r1 := run_convert_RB (P := Try.prog) w _ _ u_bytes u_byte n c hn hl _ u_string
  have r2 := run_convert_RB (P := Try.prog) w _ _ u_bytes u_byte m d hm hk _ u_string
  clear hl hk hn hm
  go_enter Try.func15, Try.ntmps15
  go_wp2
  go_ret
  exact ⟨rfl, rfl⟩

theorem bytes_is (A B : Option Addr) (n c m d : Nat) (l k : List UInt8) (w : World) (hn : n = l.length) (hm : m = k.length) (hl : RB w A l) (hk : RB w B k) (b : Bool) (hb : (l == k) = b) :
    Calls Try.prog 15 #[.slice A n c, .slice B m d] w fun e w' => e = .returned (.bool b) ∧ w = w' := by
  rw [← hb]
  exact bytes_any A B n c m d l k w hn hm hl hk
/-- what a copy is: bytes in new memory -/
def Copied (w : World) (n : Nat) (l : List UInt8) (e : Ending) (w' : World) : Prop := ∃ A c, e = .returned (.slice A n c) ∧ OBs w' w.heap.size A n c l ∧ New w w'

set_option maxHeartbeats 400000 in
theorem twin_any (B : Option Addr) (m d : Nat) (k : List UInt8) (w : World) (hm : m = k.length) (hk : RB w B k) (hb : m ≤ 140737488355328) :
    Calls Try.prog 31 #[.slice B m d] w (Copied w m k) := by
  have HM := Lib.hid hm
  clear hm
  go_enter Try.func31, Try.ntmps31
  go_wp2_with (at_builtin; refine wpList_append_OB _ rfl _ _ _ rfl w.heap.size _ u_bytes i_byte none 0 0 [] rfl (OB.nil _ _ _) B m d k rfl HM.out hk (by omega) (Nat.le_refl _) ?_; intro A c w1 hown hg _)
  go_ret
  exact ⟨A, c, rfl, by simpa using hown, (Below.refl _ _).grown hg (Nat.le_refl _) (by simp [blk])⟩

set_option maxHeartbeats 400000 in
theorem clone_any (B : Option Addr) (m d : Nat) (k : List UInt8) (w : World) (hm : m = k.length) (hk : RB w B k) (hb : m ≤ 140737488355328) :
    Calls Try.prog 45 #[.slice B m d] w (Copied w m k) := by
  have h0 := fun w => Lib.run_eql_slice_nil (P := Try.prog) w 30 _ B m d 0 0 u_bytes
  have HM := Lib.hid hm
  clear hm
  cases B with
  | none =>
    go_enter Try.func45, Try.ntmps45
    go_wp2
    go_ret
    have : k = [] := by
      cases k with
      | nil => rfl
      | cons u l => obtain ⟨ad, h, _⟩ := hk.at_ (j := 0) (by simp); cases h
    subst this
    have : m = 0 := HM.out
    subst this
    exact ⟨none, 0, rfl, OB.nil _ _ _, New.refl w⟩
  | some b =>
    go_enter Try.func45, Try.ntmps45
    have h1 : OBs (w.alloc (.cells #[] 5)) w.heap.size (some ⟨w.heap.size, 0, none⟩) 0 0 [] := World.ownsRow_made w #[] 0 (Nat.le_refl _) (Nat.zero_le _) rfl
    go_wp2_with (at_builtin; refine wpList_append_OB _ rfl _ _ _ rfl w.heap.size _ u_bytes i_byte _ 0 0 [] rfl h1 (some b) m d k rfl HM.out (hk.alloc _) (by omega) (by simp) ?_; intro A c w1 hown hg _)
    go_ret
    exact ⟨A, c, rfl, by simpa using hown, ((Below.refl _ _).alloc (Nat.le_refl _) _).grown hg (by simp) (by simp [blk])⟩

/-- what was a row of bytes is one, if with other bytes -/
def SameRows (w w' : World) : Prop := ∀ base B m d l, OBs w base B m d l → ∃ l', OBs w' base B m d l'
theorem SameRows.refl (w : World) : SameRows w w := fun _ _ _ _ l h => ⟨l, h⟩
theorem SameRows.trans {a b c : World} (h : SameRows a b) (k : SameRows b c) : SameRows a c := fun base B m d l ho => by
  obtain ⟨l', h'⟩ := h base B m d l ho
  exact k base B m d l' h'
theorem SameRows.set_ (w : World) (g j : Nat) (b : UInt8) : SameRows w (w.setCell ⟨g, j, none⟩ (bv b)) := fun base B m d l ho => by
  by_cases hB : blk B = some g
  · rcases ho.form with ⟨rfl, _⟩ | ⟨g', rfl, _, _⟩
    · cases hB
    · injection hB with hB
      have : g' = g := hB
      subst this
      exact ⟨_, OB.set_ ho j b⟩
  · exact ⟨l, ho.keep (Keep.setAt w g j _) (fun k hk hkg => hB (by rw [hk, hkg]))⟩
set_option maxHeartbeats 400000 in
theorem spoil_any (A : Option Addr) (n c base : Nat) (l : List UInt8) (w : World) (ho : OBs w base A n c l) :
    Calls Try.prog 38 #[.slice A n c] w fun e w' => e = .returned (.tuple #[]) ∧ (∃ l', OBs w' base A n c l') ∧ Keep (fun j => blk A = some j) w w' ∧ SameRows w w' := by
  have hle := ho.le
  unfold maxLen at hle
  go_enter Try.func38, Try.ntmps38
  go_wp2
  go_loopw [2] (fun i wr => ∃ (k : Nat) (l' : List UInt8), i = .int .i64 k ∧ k ≤ n ∧ OBs wr base A n c l' ∧ Keep (fun j => blk A = some j) w wr ∧ SameRows w wr) (fun i _ => n - (intOf i).toNat)
  case atStart => exact ⟨0, l, rfl, Nat.zero_le _, ho, Keep.refl _ _, SameRows.refl _⟩
  case round =>
    obtain ⟨k, l', rfl, hk, ho', hkeep, hsame⟩ := hrel
    by_cases hlt : k < n
    · rcases ho'.form with ⟨_, h, _⟩ | ⟨g, rfl, hb, hg⟩
      · omega
      · have hc := OB.at_ ho' hlt
        have hf := OB.frozen ho' k
        have hx := UInt8.toNat_lt (l'[k]'(by rw [ho'.len]; exact hlt))
        go_wp2
        go_roundw
        case rel =>
          rw [bv_of _ (by omega) (by omega)]
          exact ⟨k + 1, _, by go_num, by omega, OB.set_ ho' k _, hkeep.trans ((Keep.setCell _ _ _).mono (by rintro i rfl; rfl)), hsame.trans (SameRows.set_ _ _ _ _)⟩
        case measure => simp [intOf]; omega
    · go_wp2
      go_end0
      exact ⟨rfl, ⟨l', ho'⟩, hkeep, hsame⟩
end Go.Proofs.Ytemgiodakoojiaa
