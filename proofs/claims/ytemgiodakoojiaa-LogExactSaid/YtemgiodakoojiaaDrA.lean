/- hanseref06.Disk: code, Append, Read, Start, Trip: what they do. -/
import Derived.Test.YtemgiodakoojiaaDkG
namespace Go.Proofs.Ytemgiodakoojiaa
open Go.RowKit
abbrev DKr (w : World) (base g : Nat) (A : Option Addr) (c : Nat) (σ : St) : Prop := DK 53 w base g A c σ
abbrev DidR (w : World) (base g : Nat) (A : Option Addr) (v : Ending) (τ : St) (e : Ending) (w' : World) : Prop := DidT 53 w base g A v τ e w'
theorem code_dr {base g c : Nat} {A : Option Addr} {σ : St} {w : World} (h : DKr w base g A c σ) (x : Int) (hx : (if σ.off then 7 else 0) = x) :
    Calls Try.prog 56 #[.pointer (some ⟨g, 0, none⟩)] w fun e w' => e = .returned (.int .i64 x) ∧ w = w' := by
  obtain ⟨l, s, off, tr, k⟩ := σ
  have h2 := h.c2
  clear h
  cases off with
  | true =>
    cases hx
    go_enter Try.func56, Try.ntmps56
    go_wp2_with fail
    go_ret
    exact ⟨rfl, rfl⟩
  | false =>
    cases hx
    go_enter Try.func56, Try.ntmps56
    go_wp2_with fail
    go_ret
    exact ⟨rfl, rfl⟩
set_option maxHeartbeats 1000000 in
theorem append_dr {base g c : Nat} {A : Option Addr} {σ : St} {w : World} (h : DKr w base g A c σ) (B : Option Addr) (m d : Nat) (r : List UInt8) (hm : m = r.length) (hr : RB w B r) (hmax : σ.l.length + m ≤ 140737488355328) (hb : base ≤ w.heap.size)
    (x : Int) (τ : St) (hx : σ.append r = (x, τ)) :
    Calls Try.prog 36 #[.pointer (some ⟨g, 0, none⟩), .slice B m d] w (DidR w base g A (.returned (.int .i64 x)) τ) := by
  obtain ⟨l, s, off, tr, k⟩ := σ
  have h0 := h.c0
  have h2 := h.c2
  have hf := h.fr
  have HX := Lib.hid hx
  have HM := Lib.hid hm
  have HH := Lib.hid h
  obtain ⟨n, hn⟩ : ∃ n, n = l.length := ⟨_, rfl⟩
  have hown : OBs w base A n c l := by rw [hn]; exact h.own
  simp only [← hn] at h0 hmax
  have HN := Lib.hid hn
  clear hx hm h hn
  cases off with
  | true =>
    go_enter Try.func36, Try.ntmps36
    go_wp2_with fail
    refine (code_dr HH.out 7 rfl).mono ?_
    rintro e w2 ⟨rfl, rfl⟩
    go_wp2_with fail
    go_ret
    cases HX.out
    exact ⟨A, c, rfl, HH.out, Moved.refl _ _ _⟩
  | false =>
    have hlt : g < w.heap.size := HH.out.lt
    go_enter Try.func36, Try.ntmps36
    go_wp2_with (at_builtin; refine wpList_append_OB _ rfl (.tmp 14) (.tmp 15) _ rfl base _ u_bytes i_byte A n c l rfl hown B m d r rfl HM.out hr (by omega) hb ?_; intro A' c' w1 ho hg hA'; refine stop ?_)
    have hk : Keep (fun i => blk A = some i) w w1 := .of_grown hg
    have hcs : w1.heap[g]? = some (.cells (dkc A n c s false tr k) 53) := (hk.block g hlt (fun e => HH.out.apart e rfl)).trans (by rw [HH.out.cells]; show some (Obj.cells (dkc A l.length c s false tr k) _ _) = _; rw [← HN.out])
    have hc0 : w1.cell? ⟨g, 0, none⟩ = some (.slice A n c) := by rw [cell_of_row w1 g 0 _ _ _ hcs]; rfl
    have hf1 := fun j => frozen_of_row w1 g j _ _ hcs
    have HD : Hid (DKr (w1.setCell ⟨g, 0, none⟩ (.slice A' (n + m) c')) base g A' c' ⟨l ++ r, s, false, tr, k⟩ ∧ Moved w (w1.setCell ⟨g, 0, none⟩ (.slice A' (n + m) c')) g A A') := by
      refine ⟨?_, ?_⟩
      · refine ⟨?_, ?_, HH.out.le, ?_, HH.out.ty⟩
        · rw [dk_set hcs]
          show some (Obj.cells (dkc A' (n + m) c' s false tr k) _ _) = some (Obj.cells (dkc A' (l ++ r).length c' s false tr k) _ _)
          rw [HN.out, HM.out, List.length_append]
        · have e : n + m = (l ++ r).length := by rw [HN.out, HM.out, List.length_append]
          rw [e] at ho
          refine ho.keep (Keep.setAt _ _ _ _) ?_
          rintro i hi rfl
          rcases hA' with e | e
          · exact HH.out.apart (e ▸ hi) rfl
          · rw [e] at hi; injection hi with hi; omega
        · have := HH.out.ok
          show s ≤ (l ++ r).length
          rw [List.length_append]
          exact Nat.le_trans this (Nat.le_add_right _ _)
      · refine (Moved.mk (hk.mono fun i hi => .inr hi) ?_).store 0 _
        rcases hA' with e | e
        · exact .inl e
        · exact .inr fun i hi => by rw [e] at hi; injection hi with hi; omega
    refine go ?_
    clear h0 h2 hf
    go_wp2_with fail
    refine (code_dr HD.out.1 0 rfl).mono ?_
    rintro e w9 ⟨rfl, rfl⟩
    go_wp2_with fail
    go_ret
    cases HX.out
    exact ⟨A', c', rfl, HD.out.1, HD.out.2⟩
end Go.Proofs.Ytemgiodakoojiaa
