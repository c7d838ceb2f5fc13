/- hanseref06.Disk: Read, Start, Trip: what they do. -/
import Derived.Test.YtemgiodakoojiaaDrA
namespace Go.Proofs.Ytemgiodakoojiaa
open Go.RowKit
/-- a disk after its cells were written, its bytes as they were but for their end -/
theorem didr_set {w w' : World} {base g c : Nat} {A : Option Addr} {σ τ : St} (h : DKr w base g A c σ) (v : Ending) (hc : w'.heap[g]? = some (.cells (dkc A τ.l.length c τ.s τ.off τ.tr τ.k) 53)) (hk : Keep (fun i => i = g) w w') (hl : τ.l = σ.l.take τ.l.length) (hn : τ.l.length ≤ σ.l.length) (ho : τ.ok) :
    DidR w base g A v τ v w' := by
  refine ⟨A, c, rfl, ⟨hc, ?_, h.le, ho, h.ty⟩, ⟨hk.mono fun i hi => .inl hi, .inl rfl⟩⟩
  have := OB.take_ h.own hn
  rw [← hl] at this
  exact this.keep hk fun i hi e => h.apart hi e
set_option maxHeartbeats 1000000 in
theorem start_dr {base g c : Nat} {A : Option Addr} {σ : St} {w : World} (h : DKr w base g A c σ) :
    Calls Try.prog 50 #[.pointer (some ⟨g, 0, none⟩)] w (DidR w base g A (.returned (.tuple #[])) σ.start) := by
  obtain ⟨l, s, off, tr, k⟩ := σ
  have h0 := h.c0
  have h1 := h.c1
  have h2 := h.c2
  have h3 := h.c3
  have h4 := h.c4
  have hf := h.fr
  have HH := Lib.hid h
  obtain ⟨n, hn⟩ : ∃ n, n = l.length := ⟨_, rfl⟩
  have hcs : w.heap[g]? = some (.cells (dkc A n c s off tr k) 53) := by rw [hn]; exact h.cells
  have hsn : s ≤ n := by rw [hn]; exact h.ok
  have hle : n ≤ c ∧ c ≤ maxLen := by rw [hn]; exact h.own.le
  have hc_ := hle.1
  have hm_ := hle.2
  unfold maxLen at hm_
  simp only [← hn] at h0
  have HN := Lib.hid hn
  have HS := Lib.hid hcs
  clear h hn hcs hle
  cases off with
  | false =>
    go_enter Try.func50, Try.ntmps50
    go_wp2_with fail
    go_end0
    exact ⟨A, c, rfl, HH.out, Moved.refl _ _ _⟩
  | true =>
    go_enter Try.func50, Try.ntmps50
    go_wp2_with fail
    go_end0
    refine didr_set (τ := ⟨l, l.length, false, tr, k⟩) HH.out _ ?_ (keep2 (keep1 _ _ _ _) _ _) (by simp) (Nat.le_refl _) (Nat.le_refl _)
    rw [dk_set (dk_set HS.out _ _) _ _]
    show some (Obj.cells (dkc A n c n false tr k) _ _) = some (Obj.cells (dkc A l.length c l.length false tr k) _ _)
    rw [HN.out]
set_option maxHeartbeats 1000000 in
theorem trip_dr {base g c : Nat} {A : Option Addr} {σ : St} {w : World} (h : DKr w base g A c σ) (x : Int) :
    Calls Try.prog 34 #[.pointer (some ⟨g, 0, none⟩), .int .i64 x] w (DidR w base g A (.returned (.tuple #[])) (σ.trip x)) := by
  obtain ⟨l, s, off, tr, k⟩ := σ
  have h0 := h.c0
  have h1 := h.c1
  have h2 := h.c2
  have h3 := h.c3
  have h4 := h.c4
  have hf := h.fr
  have HH := Lib.hid h
  obtain ⟨n, hn⟩ : ∃ n, n = l.length := ⟨_, rfl⟩
  have hcs : w.heap[g]? = some (.cells (dkc A n c s off tr k) 53) := by rw [hn]; exact h.cells
  have hsn : s ≤ n := by rw [hn]; exact h.ok
  have hle : n ≤ c ∧ c ≤ maxLen := by rw [hn]; exact h.own.le
  have hc_ := hle.1
  have hm_ := hle.2
  unfold maxLen at hm_
  simp only [← hn] at h0
  have HN := Lib.hid hn
  have HS := Lib.hid hcs
  clear h hn hcs hle
  cases off with
  | true =>
    go_enter Try.func34, Try.ntmps34
    go_wp2_with fail
    go_end0
    exact ⟨A, c, rfl, HH.out, Moved.refl _ _ _⟩
  | false =>
    go_enter Try.func34, Try.ntmps34
    go_wp2_with fail
    go_end0
    refine didr_set (τ := ⟨l, s, false, true, x⟩) HH.out _ ?_ (keep2 (keep1 _ _ _ _) _ _) (by simp) (Nat.le_refl _) HH.out.ok
    rw [dk_set (dk_set HS.out _ _) _ _]
    show some (Obj.cells (dkc A n c s false true x) _ _) = some (Obj.cells (dkc A l.length c s false true x) _ _)
    rw [HN.out]
set_option maxHeartbeats 1000000 in
theorem read_dr {base g c : Nat} {A : Option Addr} {σ : St} {w : World} (h : DKr w base g A c σ) (r : List UInt8) (x : Int) (hx : σ.read = (r, x)) (hmax : σ.l.length ≤ 140737488355328) :
    Calls Try.prog 40 #[.pointer (some ⟨g, 0, none⟩)] w fun e w' => ∃ B d, e = .returned (.tuple #[.slice B r.length d, .int .i64 x]) ∧ OBs w' w.heap.size B r.length d r ∧ New w w' := by
  obtain ⟨l, s, off, tr, k⟩ := σ
  have h0 := h.c0
  have h2 := h.c2
  have HX := Lib.hid hx
  obtain ⟨n, hn⟩ : ∃ n, n = l.length := ⟨_, rfl⟩
  have hr : RB w A l := h.own.rb
  simp only [← hn] at h0 hmax
  have HN := Lib.hid hn
  clear hx h hn
  cases off with
  | true =>
    cases HX.out
    go_enter Try.func40, Try.ntmps40
    go_wp2_with fail
    go_ret2
    exact ⟨none, 0, rfl, OB.nil _ _ _, New.refl _⟩
  | false =>
    cases HX.out
    go_enter Try.func40, Try.ntmps40
    go_wp2_with (at_builtin; refine wpList_append_OB _ rfl (.tmp 9) (.tmp 13) _ rfl w.heap.size _ u_bytes i_byte none 0 0 [] rfl (OB.nil _ _ _) A n c l rfl HN.out hr (by omega) (Nat.le_refl _) ?_; intro B d w1 hown hg _)
    go_ret2
    have : n = l.length := HN.out
    subst this
    exact ⟨B, d, by simp, by simpa using hown, (Below.refl _ _).grown hg (Nat.le_refl _) (by simp [blk])⟩
end Go.Proofs.Ytemgiodakoojiaa
