/- disk: New, Append, Read, Synced, Off, Start, Trip: what they do to a disk of the call's own. -/
import Derived.Test.YtemgiodakoojiaaDkA
import Derived.BigQuiet
import Derived.Deep.QuietTactic
import Derived.RegionTactic
import Derived.StillTailTactics
namespace Go.Proofs.Ytemgiodakoojiaa
open Go.RowKit
abbrev DKd (w : World) (base g : Nat) (A : Option Addr) (c : Nat) (σ : St) : Prop := DK 62 w base g A c σ
/-- the disk is in state τ now, and nothing else was changed -/
def DidT (T : TypeId) (w : World) (base g : Nat) (A : Option Addr) (v : Ending) (τ : St) (e : Ending) (w' : World) : Prop := ∃ A' c', e = v ∧ DK T w' base g A' c' τ ∧ Moved w w' g A A'
abbrev Did (w : World) (base g : Nat) (A : Option Addr) (v : Ending) (τ : St) (e : Ending) (w' : World) : Prop := DidT 62 w base g A v τ e w'
theorem new_dk (w : World) : Calls Try.prog 10 #[] w fun e w' => e = .returned (.pointer (some ⟨w.heap.size, 0, none⟩)) ∧ DKd w' w.heap.size w.heap.size none 0 St.new ∧ New w w' := by
  go_enter Try.func10, Try.ntmps10
  go_wp2
  go_ret
  exact ⟨rfl, ⟨heap_alloc_new w _, OB.nil _ _ _, Nat.le_refl _, Nat.le_refl _, by decide⟩, Below.alloc (Below.refl _ _) (Nat.le_refl _) _⟩
set_option maxHeartbeats 1000000 in
theorem append_dk {base g c : Nat} {A : Option Addr} {σ : St} {w : World} (h : DKd w base g A c σ) (B : Option Addr) (m d : Nat) (r : List UInt8) (hm : m = r.length) (hr : RB w B r) (hmax : σ.l.length + m ≤ 140737488355328) (hb : base ≤ w.heap.size)
    (x : Int) (τ : St) (hx : σ.append r = (x, τ)) :
    Calls Try.prog 22 #[.pointer (some ⟨g, 0, none⟩), .slice B m d] w (Did w base g A (.returned (.int .i64 x)) τ) := by
  obtain ⟨l, s, off, tr, k⟩ := σ
  have h0 := h.c0
  have h2 := h.c2
  have hf := h.fr
  have HX := Lib.hid hx
  have HM := Lib.hid hm
  have HH := Lib.hid h
  obtain ⟨n, hn⟩ : ∃ n, n = l.length := ⟨_, rfl⟩
  have hown : OBs w base A n c l := by rw [hn]; exact h.own
  simp only [← hn] at h0 hmax
  have HN := Lib.hid hn
  clear hx hm h hn
  cases off with
  | true =>
    go_enter Try.func22, Try.ntmps22
    go_wp2
    go_ret
    cases HX.out
    exact ⟨A, c, rfl, HH.out, Moved.refl _ _ _⟩
  | false =>
    have hlt : g < w.heap.size := HH.out.lt
    go_enter Try.func22, Try.ntmps22
    go_wp2_with (at_builtin; refine wpList_append_OB _ rfl (.tmp 13) (.tmp 14) _ rfl base _ u_bytes i_byte A n c l rfl hown B m d r rfl HM.out hr (by omega) hb ?_; intro A' c' w1 ho hg hA'; refine stop ?_)
    have hk : Keep (fun i => blk A = some i) w w1 := .of_grown hg
    have hcs : w1.heap[g]? = some (.cells (dkc A n c s false tr k) 62) := (hk.block g hlt (fun e => HH.out.apart e rfl)).trans (by rw [HH.out.cells]; show some (Obj.cells (dkc A l.length c s false tr k) _ _) = _; rw [← HN.out])
    have hc0 : w1.cell? ⟨g, 0, none⟩ = some (.slice A n c) := by rw [cell_of_row w1 g 0 _ _ _ hcs]; rfl
    have hf1 := fun j => frozen_of_row w1 g j _ _ hcs
    refine go ?_
    clear h0 h2 hf
    go_wp2_with fail
    go_ret
    cases HX.out
    refine ⟨A', c', rfl, ?_, ?_⟩
    · refine ⟨?_, ?_, HH.out.le, ?_, HH.out.ty⟩
      · rw [dk_set hcs]
        show some (Obj.cells (dkc A' (n + m) c' s false tr k) _ _) = some (Obj.cells (dkc A' (l ++ r).length c' s false tr k) _ _)
        rw [HN.out, HM.out, List.length_append]
      · have e : n + m = (l ++ r).length := by rw [HN.out, HM.out, List.length_append]
        rw [e] at ho
        refine ho.keep (Keep.setAt _ _ _ _) ?_
        rintro i hi rfl
        rcases hA' with e | e
        · exact HH.out.apart (e ▸ hi) rfl
        · rw [e] at hi; injection hi with hi; omega
      · have := HH.out.ok
        show s ≤ (l ++ r).length
        rw [List.length_append]
        exact Nat.le_trans this (Nat.le_add_right _ _)
    · refine (Moved.mk (hk.mono fun i hi => .inr hi) ?_).store 0 _
      rcases hA' with e | e
      · exact .inl e
      · exact .inr fun i hi => by rw [e] at hi; injection hi with hi; omega
set_option maxHeartbeats 1000000 in
theorem read_dk {base g c : Nat} {A : Option Addr} {σ : St} {w : World} (h : DKd w base g A c σ) (r : List UInt8) (x : Int) (hx : σ.read = (r, x)) (hmax : σ.l.length ≤ 140737488355328) :
    Calls Try.prog 14 #[.pointer (some ⟨g, 0, none⟩)] w fun e w' => ∃ B d, e = .returned (.tuple #[.slice B r.length d, .int .i64 x]) ∧ OBs w' w.heap.size B r.length d r ∧ New w w' := by
  obtain ⟨l, s, off, tr, k⟩ := σ
  have h0 := h.c0
  have h2 := h.c2
  have HX := Lib.hid hx
  have HH := Lib.hid h
  obtain ⟨n, hn⟩ : ∃ n, n = l.length := ⟨_, rfl⟩
  have hown : OBs w base A n c l := by rw [hn]; exact h.own
  simp only [← hn] at h0 hmax
  have HN := Lib.hid hn
  clear hx h hn
  cases off with
  | true =>
    cases HX.out
    go_enter Try.func14, Try.ntmps14
    go_wp2_with fail
    go_ret2
    exact ⟨none, 0, rfl, OB.nil _ _ _, New.refl _⟩
  | false =>
    cases HX.out
    go_enter Try.func14, Try.ntmps14
    go_wp2_with fail
    refine (clone_any A n c _ w HN.out hown.rb hmax).mono ?_
    rintro e w' ⟨B, d, rfl, ho, hw⟩
    go_wp2_with fail
    go_ret2
    have : n = l.length := HN.out
    subst this
    exact ⟨B, d, rfl, ho, hw⟩
theorem synced_dk {base g c : Nat} {A : Option Addr} {σ : St} {w : World} (h : DKd w base g A c σ) :
    Calls Try.prog 20 #[.pointer (some ⟨g, 0, none⟩)] w fun e w' => e = .returned (.int .i64 σ.s) ∧ w = w' := by
  have h1 := h.c1
  clear h
  go_enter Try.func20, Try.ntmps20
  go_wp2_with fail
  go_ret
  exact ⟨rfl, rfl⟩
theorem off_dk {base g c : Nat} {A : Option Addr} {σ : St} {w : World} (h : DKd w base g A c σ) :
    Calls Try.prog 39 #[.pointer (some ⟨g, 0, none⟩)] w fun e w' => e = .returned (.bool σ.off) ∧ w = w' := by
  have h1 := h.c2
  clear h
  go_enter Try.func39, Try.ntmps39
  go_wp2_with fail
  go_ret
  exact ⟨rfl, rfl⟩
end Go.Proofs.Ytemgiodakoojiaa
