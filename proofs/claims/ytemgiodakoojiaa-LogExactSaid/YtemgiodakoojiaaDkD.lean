/- disk: stroke, Sync, Cut, Swap: what they do to a disk of the call's own. -/
import Derived.Test.YtemgiodakoojiaaDkC
namespace Go.Proofs.Ytemgiodakoojiaa
open Go.RowKit
set_option maxHeartbeats 1000000 in
theorem stroke_dk {base g c : Nat} {A : Option Addr} {σ : St} {w : World} (h : DKd w base g A c σ) (x : Int) (τ : St) (hx : σ.stroke = (x, τ)) :
    Calls Try.prog 46 #[.pointer (some ⟨g, 0, none⟩)] w (Did w base g A (.returned (.int .i64 x)) τ) := by
  obtain ⟨l, s, off, tr, k⟩ := σ
  have h3 := h.c3
  have h4 := h.c4
  have HH := Lib.hid h
  have HC := Lib.hid (crash_dk h k)
  clear h
  cases tr with
  | false =>
    cases hx
    go_enter Try.func46, Try.ntmps46
    go_wp2_with fail
    go_ret
    exact ⟨A, c, rfl, HH.out, Moved.refl _ _ _⟩
  | true =>
    cases hx
    go_enter Try.func46, Try.ntmps46
    go_wp2_with fail
    refine HC.out.mono ?_
    rintro e w' ⟨A', c', rfl, hd, hm⟩
    go_wp2_with fail
    go_ret
    exact ⟨A', c', rfl, hd, hm⟩
theorem stroke_no {base g c : Nat} {A : Option Addr} {σ : St} {w : World} (h : DKd w base g A c σ) (hx : σ.tr = false) :
    Calls Try.prog 46 #[.pointer (some ⟨g, 0, none⟩)] w fun e w' => e = .returned (.int .i64 0) ∧ w = w' := by
  have h3 := h.c3
  rw [hx] at h3
  clear h hx
  go_enter Try.func46, Try.ntmps46
  go_wp2_with fail
  go_ret
  exact ⟨rfl, rfl⟩
set_option maxHeartbeats 1000000 in
theorem sync_dk {base g c : Nat} {A : Option Addr} {σ : St} {w : World} (h : DKd w base g A c σ) (x : Int) (τ : St) (hx : σ.sync = (x, τ)) :
    Calls Try.prog 43 #[.pointer (some ⟨g, 0, none⟩)] w (Did w base g A (.returned (.int .i64 x)) τ) := by
  obtain ⟨l, s, off, tr, k⟩ := σ
  have h0 := h.c0
  have h1 := h.c1
  have h2 := h.c2
  have h3 := h.c3
  have h4 := h.c4
  have hf := h.fr
  have HH := Lib.hid h
  obtain ⟨n, hn⟩ : ∃ n, n = l.length := ⟨_, rfl⟩
  have hcs : w.heap[g]? = some (.cells (dkc A n c s off tr k) 62) := by rw [hn]; exact h.cells
  have hsn : s ≤ n := by rw [hn]; exact h.ok
  have hle : n ≤ c ∧ c ≤ maxLen := by rw [hn]; exact h.own.le
  have hc_ := hle.1
  have hm_ := hle.2
  unfold maxLen at hm_
  simp only [← hn] at h0
  have HN := Lib.hid hn
  have HS := Lib.hid hcs
  have HK := Lib.hid (stroke_dk h)
  clear h hn hcs hle
  cases off with
  | true =>
    cases hx
    go_enter Try.func43, Try.ntmps43
    go_wp2_with fail
    go_ret
    exact ⟨A, c, rfl, HH.out, Moved.refl _ _ _⟩
  | false =>
    cases tr with
    | true =>
      cases hx
      go_enter Try.func43, Try.ntmps43
      go_wp2_with fail
      refine (HK.out 7 _ rfl).mono ?_
      rintro e w' ⟨A', c', rfl, hd, hm⟩
      go_wp2_with fail
      go_ret
      exact ⟨A', c', rfl, hd, hm⟩
    | false =>
      cases hx
      go_enter Try.func43, Try.ntmps43
      go_wp2_with fail
      refine (HK.out 0 _ rfl).mono ?_
      rintro e w1 ⟨A', c', rfl, hd, hm⟩
      have d0 := hd.c0
      have d1 := hd.c1
      have df := hd.fr
      have hn : n = l.length := HN.out
      simp only [← hn] at d0
      have HN2 := Lib.hid hn
      have HD := Lib.hid hd
      clear hn hd h0 h1 h2 h3 h4 hf
      go_wp2_with fail
      go_ret
      refine ⟨A', c', rfl, ⟨?_, ?_, HD.out.le, Nat.le_refl _, HD.out.ty⟩, hm.store _ _⟩
      · rw [dk_set HD.out.cells]
        show some (Obj.cells (dkc A' l.length c' n false false k) _ _) = some (Obj.cells (dkc A' l.length c' l.length false false k) _ _)
        rw [HN2.out]
      · exact HD.out.own.keep (Keep.setAt _ _ _ _) fun i hi e => HD.out.apart hi e
set_option maxHeartbeats 1000000 in
theorem cut_dk {base g c : Nat} {A : Option Addr} {σ : St} {w : World} (h : DKd w base g A c σ) (y : Int) (x : Int) (τ : St) (hx : σ.cut y = (x, τ)) :
    Calls Try.prog 19 #[.pointer (some ⟨g, 0, none⟩), .int .i64 y] w (Did w base g A (.returned (.int .i64 x)) τ) := by
  obtain ⟨l, s, off, tr, k⟩ := σ
  have h0 := h.c0
  have h1 := h.c1
  have h2 := h.c2
  have h3 := h.c3
  have h4 := h.c4
  have hf := h.fr
  have HH := Lib.hid h
  obtain ⟨n, hn⟩ : ∃ n, n = l.length := ⟨_, rfl⟩
  have hcs : w.heap[g]? = some (.cells (dkc A n c s off tr k) 62) := by rw [hn]; exact h.cells
  have hsn : s ≤ n := by rw [hn]; exact h.ok
  have hle : n ≤ c ∧ c ≤ maxLen := by rw [hn]; exact h.own.le
  have hc_ := hle.1
  have hm_ := hle.2
  unfold maxLen at hm_
  simp only [← hn] at h0
  have HN := Lib.hid hn
  have HS := Lib.hid hcs
  have HK := Lib.hid (stroke_dk h)
  clear h hn hcs hle
  have HX := Lib.hid hx
  clear hx
  cases off with
  | true =>
    cases HX.out
    go_enter Try.func19, Try.ntmps19
    go_wp2_with fail
    go_ret
    exact ⟨A, c, rfl, HH.out, Moved.refl _ _ _⟩
  | false =>
    by_cases hy0 : y < 0
    · have hx : ((9 : Int), (⟨l, s, false, tr, k⟩ : St)) = (x, τ) := by
        rw [← HX.out]
        unfold St.cut
        rw [if_neg (by simp), if_pos (.inl hy0)]
      cases hx
      go_enter Try.func19, Try.ntmps19
      go_wp2_with fail
      go_ret
      exact ⟨A, c, rfl, HH.out, Moved.refl _ _ _⟩
    · by_cases hy1 : (n : Int) < y
      · have hx : ((9 : Int), (⟨l, s, false, tr, k⟩ : St)) = (x, τ) := by
          rw [← HX.out]
          unfold St.cut
          rw [if_neg (by simp), if_pos (.inr (by rw [← HN.out]; exact hy1))]
        cases hx
        have hd0 : decide (y < 0) = false := by simpa using hy0
        go_enter Try.func19, Try.ntmps19
        go_wp2_with fail
        go_ret
        exact ⟨A, c, rfl, HH.out, Moved.refl _ _ _⟩
      · have hd0 : decide (y < 0) = false := by simpa using hy0
        have hd1 : decide ((n : Int) < y) = false := by simpa using hy1
        have hn : ¬ (y < 0 ∨ (l.length : Int) < y) := by
          have : n = l.length := HN.out
          omega
        cases tr with
        | true =>
          have hx : ((7 : Int), (St.crash ⟨l, s, false, true, k⟩ k)) = (x, τ) := by
            rw [← HX.out]
            unfold St.cut
            rw [if_neg (by simp), if_neg hn, if_pos rfl]
          clear hn
          cases hx
          go_enter Try.func19, Try.ntmps19
          go_wp2_with fail
          refine (HK.out 7 _ rfl).mono ?_
          rintro e w' ⟨A', c', rfl, hd, hm⟩
          go_wp2_with fail
          go_ret
          exact ⟨A', c', rfl, hd, hm⟩
        | false =>
          have hx : ((0 : Int), (⟨l.take y.toNat, y.toNat, false, false, k⟩ : St)) = (x, τ) := by
            rw [← HX.out]
            unfold St.cut
            rw [if_neg (by simp), if_neg hn, if_neg (by simp)]
          clear hn
          cases hx
          go_enter Try.func19, Try.ntmps19
          go_wp2_with fail
          refine (HK.out 0 _ rfl).mono ?_
          rintro e w1 ⟨A', c', rfl, hd, hm⟩
          have d0 := hd.c0
          have d1 := hd.c1
          have df := hd.fr
          have hn : n = l.length := HN.out
          have hcl := hd.own.le.1
          simp only [← hn] at d0 hcl
          have hq0 : (0 : Int) ≤ y := by omega
          have hq1 : y ≤ (c' : Int) := by omega
          have HN2 := Lib.hid hn
          have HD := Lib.hid hd
          clear hn hd h0 h1 h2 h3 h4 hf
          go_wp2_with fail
          go_ret
          have hn : n = l.length := HN2.out
          have hl : (l.take y.toNat).length = y.toNat := by rw [List.length_take]; omega
          refine ⟨A', c', rfl, ⟨?_, ?_, HD.out.le, ?_, HD.out.ty⟩, (hm.store _ _).store _ _⟩
          · rw [dk_set (dk_set HD.out.cells _ _)]
            show some (Obj.cells (dkc A' y.toNat c' y false false k) _ _) = some (Obj.cells (dkc A' (l.take y.toNat).length c' (y.toNat : Nat) false false k) _ _)
            rw [hl, show ((y.toNat : Nat) : Int) = y from by omega]
          · have ho := OB.take_ HD.out.own (k := y.toNat) (by show _ ≤ l.length; omega)
            show OBs _ _ _ (l.take y.toNat).length _ _
            rw [hl]
            exact ho.keep (keep2 (keep1 _ _ _ _) _ _) fun i hi e => HD.out.apart hi e
          · show y.toNat ≤ (l.take y.toNat).length
            rw [hl]
            exact Nat.le_refl _
set_option maxHeartbeats 1000000 in
theorem swap_dk {base g c : Nat} {A : Option Addr} {σ : St} {w : World} (h : DKd w base g A c σ) (B : Option Addr) (m d : Nat) (r : List UInt8) (hm : m = r.length) (hr : RB w B r) (hmax : m ≤ 140737488355328) (hb : base ≤ w.heap.size) (x : Int) (τ : St) (hx : σ.swap r = (x, τ)) :
    Calls Try.prog 49 #[.pointer (some ⟨g, 0, none⟩), .slice B m d] w (Did w base g A (.returned (.int .i64 x)) τ) := by
  obtain ⟨l, s, off, tr, k⟩ := σ
  have h0 := h.c0
  have h1 := h.c1
  have h2 := h.c2
  have h3 := h.c3
  have h4 := h.c4
  have hf := h.fr
  have HH := Lib.hid h
  obtain ⟨n, hn⟩ : ∃ n, n = l.length := ⟨_, rfl⟩
  have hcs : w.heap[g]? = some (.cells (dkc A n c s off tr k) 62) := by rw [hn]; exact h.cells
  have hsn : s ≤ n := by rw [hn]; exact h.ok
  have hle : n ≤ c ∧ c ≤ maxLen := by rw [hn]; exact h.own.le
  have hc_ := hle.1
  have hm_ := hle.2
  unfold maxLen at hm_
  simp only [← hn] at h0
  have HN := Lib.hid hn
  have HS := Lib.hid hcs
  have HK := Lib.hid (stroke_dk h)
  have HK0 := Lib.hid (stroke_no h)
  clear h hn hcs hle
  have HM := Lib.hid hm
  clear hm
  cases off with
  | true =>
    cases hx
    go_enter Try.func49, Try.ntmps49
    go_wp2_with fail
    go_ret
    exact ⟨A, c, rfl, HH.out, Moved.refl _ _ _⟩
  | false =>
    cases tr with
    | true =>
      cases hx
      go_enter Try.func49, Try.ntmps49
      go_wp2_with fail
      refine (HK.out 7 _ rfl).mono ?_
      rintro e w' ⟨A', c', rfl, hd, hm⟩
      go_wp2_with fail
      go_ret
      exact ⟨A', c', rfl, hd, hm⟩
    | false =>
      cases hx
      go_enter Try.func49, Try.ntmps49
      go_wp2_with fail
      refine (HK0.out trivial).mono ?_
      rintro e w1 ⟨rfl, rfl⟩
      go_wp2_with fail
      refine (clone_any B m d r w HM.out hr hmax).mono ?_
      rintro e w2 ⟨B2, d2, rfl, ho, hw⟩
      have hd := HH.out.new hw
      have d0 := hd.c0
      have d1 := hd.c1
      have df := hd.fr
      have HD := Lib.hid hd
      clear hd h0 h1 h2 h3 h4 hf
      go_wp2_with fail
      go_ret
      have hm : m = r.length := HM.out
      subst hm
      refine ⟨B2, d2, rfl, ⟨?_, ?_, HD.out.le, Nat.le_refl _, HD.out.ty⟩, ⟨((Keep.of_new hw).trans ((Keep.setAt _ _ _ _).mono fun i hi => .inl hi)).trans ((Keep.setAt _ _ _ _).mono fun i hi => .inl hi), .inr fun i hi => (OB.lt ho hi).1⟩⟩
      · rw [dk_set (dk_set HD.out.cells _ _)]
        rfl
      · refine (OB.base_le ho hb).keep (keep2 (keep1 _ _ _ _) _ _) ?_
        rintro i hi rfl
        have := (OB.lt ho hi).1
        have := HH.out.lt
        omega
end Go.Proofs.Ytemgiodakoojiaa
