/- hanselaw03.PackOnly: the walk. -/
import Derived.Test.YtloolhbikfdipaaPwA
namespace Go.Proofs.Ytloolhbikfdipaa
open Go.RowKit
theorem rdT_le {l l' t : List UInt8} {e x : Int} (h : rdT l e = (t, l', x)) : t.length ≤ 131072 := by
  unfold rdT at h
  by_cases c1 : 131072 < (rdU l e).1
  · rw [if_pos c1] at h; cases h; simp
  · rw [if_neg c1] at h
    by_cases c2 : (rdU l e).2.1.length < (rdU l e).1
    · rw [if_pos c2] at h; cases h; simp
    · rw [if_neg c2] at h
      by_cases c3 : (rdU l e).2.2 ≠ 0
      · rw [if_pos c3] at h; cases h; simp
      · rw [if_neg c3] at h
        cases h
        rw [List.length_take]
        omega
theorem rdA_le {l l' : List UInt8} {e x : Int} {n k : Nat} (h : rdA l e = (some (n, k), l', x)) : n ≤ 1048576 ∧ k ≤ 1048576 := by
  unfold rdA at h
  by_cases c1 : (rdU (rdU l e).2.1 (rdU l e).2.2).2.2 ≠ 0
  · rw [if_pos c1] at h; cases h
  · rw [if_neg c1] at h
    by_cases c2 : 1048576 < (rdU l e).1 ∨ 1048576 < (rdU (rdU l e).2.1 (rdU l e).2.2).1
    · rw [if_pos c2] at h; cases h
    · rw [if_neg c2] at h
      cases h
      omega
/-- a reader and, behind it, a writer without an error -/
structure RWt (w0 w : World) (g k : Nat) (A1 : Option Addr) (c1 : Nat) (l : List UInt8) (e : Int) (A : Option Addr) (c : Nat) (W : List UInt8) : Prop where
  r : RKp w w0.heap.size g A1 c1 l e
  wr : WK w k k A c W 0
  gk : g < k
  new : New w0 w
section
variable {w0 w w' : World} {g k c1 c : Nat} {A1 A : Option Addr} {l l' W W' : List UInt8} {e x : Int} {v en : Ending}
theorem RWt.size (h : RWt w0 w g k A1 c1 l e A c W) : k ≤ w.heap.size := Nat.le_of_lt h.wr.lt
theorem RWt.also (h : RWt w0 w g k A1 c1 l e A c W) (hn : New w w') : RWt w0 w' g k A1 c1 l e A c W := ⟨h.r.new hn, h.wr.new hn, h.gk, New.trans h.new hn⟩
theorem RWt.read (h : RWt w0 w g k A1 c1 l e A c W) {A2 : Option Addr} {c2 : Nat} (hr : RKp w' w0.heap.size g A2 c2 l' x) (hk : Keep (fun i => i = g) w w') : RWt w0 w' g k A2 c2 l' x A c W := by
  refine ⟨hr, h.wr.keep hk (fun e => by have := h.gk; omega) (fun i hi e => ?_), h.gk, Below.trans h.new (hk.below h.new.size (by rintro i rfl; exact h.r.le))⟩
  have := (OB.lt h.wr.own hi).1
  have := h.gk
  omega
theorem RWt.written (h : RWt w0 w g k A1 c1 l e A c W) (hp : Put w k k A v W' 0 en w') : ∃ A' c', en = v ∧ RWt w0 w' g k A1 c1 l e A' c' W' := by
  obtain ⟨A', c', he, hd, hm⟩ := hp
  have hS : ∀ i, (i = k ∨ blk A = some i) → k ≤ i := by
    rintro i (rfl | hi)
    · exact Nat.le_refl _
    · exact (OB.lt h.wr.own hi).1
  refine ⟨A', c', he, ⟨(hm.keep.block g h.r.lt (fun hs => by have := hS g hs; have := h.gk; omega)).trans h.r.cells, h.r.rb.kept hm.keep (fun ad ea hs => by have := hS _ hs; have := (h.r.low ad ea).1; have := h.gk; omega), h.r.low, h.r.le, h.r.cap⟩, hd, h.gk, ?_⟩
  refine Below.trans h.new (hm.keep.below h.new.size fun i hs => ?_)
  have := hS i hs
  have := h.r.le
  have := h.gk
  omega
end
set_option maxHeartbeats 8000000 in
theorem only_law (A : Option Addr) (n c : Nat) (L : List UInt8) (B : Option Addr) (m d : Nat) (ks : List Int) (w : World) (hn : n = L.length) (_ : n ≤ c) (_ : c ≤ maxLen) (hr : RB w A L) (hm : m = ks.length) (_ : m ≤ d) (_ : d ≤ maxLen) (hk : RI w B ks ∧ ∀ z ∈ ks, (Lit.int .i64 z).wf = true) :
    Calls Try.prog 7 #[.slice A n c, .slice B m d] w fun e w' => e = .returned (.bool true) ∧ New w w' := by
  have hki := hk.1
  have HN := Lib.hid hn
  have HM := Lib.hid hm
  clear hn hm hk
  by_cases h1 : (65536 : Int) < (n : Int)
  · go_enter Try.func7, Try.ntmps7
    go_wp2_with fail
    go_ret
    exact ⟨rfl, New.refl _⟩
  have d1 : decide ((65536 : Int) < (n : Int)) = false := by simpa using h1
  by_cases h2 : (256 : Int) < (m : Int)
  · go_enter Try.func7, Try.ntmps7
    go_wp2_with fail
    go_ret
    exact ⟨rfl, New.refl _⟩
  have d2 : decide ((256 : Int) < (m : Int)) = false := by simpa using h2
  go_enter Try.func7, Try.ntmps7
  go_wp2_with fail
  refine (newr_rk A n c L w HN.out hr (by omega)).mono ?_
  rintro e w1 ⟨g, A1, c1, rfl, hrk, hw1⟩
  have hP : RWt w (w1.alloc (.cells #[.slice none 0 0, .int .i64 0] 27)) g w1.heap.size A1 c1 L 0 none 0 [] := by
    have hn : New w1 (w1.alloc (.cells #[.slice none 0 0, .int .i64 0] 27)) := (Below.refl _ _).alloc (Nat.le_refl _) _
    exact ⟨hrk.new hn, new_pk w1, hrk.lt, New.trans hw1 hn⟩
  obtain ⟨k, hk⟩ : ∃ k, k = w1.heap.size := ⟨_, rfl⟩
  have HP := Lib.hid hP
  rw [← hk] at HP
  have HK := Lib.hid hk
  clear hrk hP hw1 hk
  go_wp2_with fail
  rw [← HK.out]
  go_loopw [7] (fun i wr => ∃ (j : Nat) (A2 : Option Addr) (c2 : Nat) (l : List UInt8) (e : Int) (A3 : Option Addr) (c3 : Nat) (W : List UInt8), i = .int .i64 j ∧ j ≤ m ∧ Hid (e = 0 → W ++ l = L) ∧ Hid (W.length ≤ 132000 * j) ∧ RWt w wr g k A2 c2 l e A3 c3 W) (fun i _ => m - (intOf i).toNat)
  case atStart => exact ⟨0, A1, c1, L, 0, none, 0, [], rfl, Nat.zero_le _, (fun _ => rfl), Nat.le_refl _, HP.out⟩
  case round =>
    obtain ⟨j, A2, c2, l, e, A3, c3, W, rfl, hj, HE, HL, hP⟩ := hrel
    by_cases hlt : j < m
    · obtain ⟨y, hy⟩ : ∃ y, ks[j]? = some y := ⟨_, List.getElem?_eq_getElem (by rw [← HM.out]; exact hlt)⟩
      obtain ⟨ad, rfl, hcell⟩ := (hki.new hP.new) j y hy
      clear hy
      obtain ⟨q, hq, hq5⟩ := mod5 y
      have HLb : W.length ≤ 140000000 := by have := HL.out; omega
      have H := Lib.hid hP
      clear hP
      rcases hq5 with rfl | rfl | rfl | rfl | rfl
      · skip
        obtain ⟨V, l1, x1, hu⟩ : ∃ V l1 x1, rdU l e = (V, l1, x1) := ⟨_, _, _, rfl⟩
        have hV := (rdU_lt hu).1
        have hten := uv_ten hV
        have HE2 : Hid (x1 = 0 → (W ++ uv V) ++ l1 = L) := by
          intro hx
          have he := stay_U hu hx
          subst hx he
          rw [List.append_assoc, ← canon_U hu]
          exact HE.out rfl
        have HU := Lib.hid hu
        clear hu
        go_wp2_with fail
        refine (kind_any y 0 hq (by omega) _).mono ?_
        rintro e1 w1 ⟨rfl, rfl⟩
        clear hcell
        go_wp2_with fail
        refine (uint_rk H.out.r V l1 x1 HU.out).mono ?_
        rintro e2 w2 ⟨rfl, ⟨A4, c4, hr2⟩, hk2⟩
        have h2 := H.out.read hr2 hk2
        go_wp2_with fail
        refine (uint_pk h2.wr V hV (by omega) h2.size).mono ?_
        intro e3 w3 hp
        obtain ⟨A5, c5, rfl, h3⟩ := h2.written hp
        clear hp hr2 hk2 h2
        go_wp2_with fail
        go_roundw
        case rel => exact ⟨j + 1, A4, c4, l1, x1, A5, c5, W ++ uv V, by go_num, by omega, HE2, (by show _ ≤ _; have := HL.out; simp only [List.length_append]; omega), h3⟩
        case measure => simp [intOf]; omega
      · skip
        obtain ⟨V, l1, x1, hu⟩ : ∃ V l1 x1, rdU l e = (V, l1, x1) := ⟨_, _, _, rfl⟩
        have hV := (rdU_lt hu).1
        have hten := uv_ten hV
        have HE2 : Hid (x1 = 0 → (W ++ uv V) ++ l1 = L) := by
          intro hx
          have he := stay_U hu hx
          subst hx he
          rw [List.append_assoc, ← canon_U hu]
          exact HE.out rfl
        have HU := Lib.hid hu
        obtain ⟨z, hz⟩ : ∃ z, zz V = z := ⟨_, rfl⟩
        have HZ := Lib.hid hz
        clear hu hz
        go_wp2_with fail
        refine (kind_any y 1 hq (by omega) _).mono ?_
        rintro e1 w1 ⟨rfl, rfl⟩
        clear hcell
        go_wp2_with fail
        refine (int_rk H.out.r V l1 x1 HU.out).mono ?_
        rintro e2 w2 ⟨rfl, ⟨A4, c4, hr2⟩, hk2⟩
        rw [HZ.out]
        have h2 := H.out.read hr2 hk2
        go_wp2_with fail
        refine (int_pk h2.wr V hV (by omega) h2.size z HZ.out).mono ?_
        intro e3 w3 hp
        obtain ⟨A5, c5, rfl, h3⟩ := h2.written hp
        clear hp hr2 hk2 h2
        go_wp2_with fail
        go_roundw
        case rel => exact ⟨j + 1, A4, c4, l1, x1, A5, c5, W ++ uv V, by go_num, by omega, HE2, (by show _ ≤ _; have := HL.out; simp only [List.length_append]; omega), h3⟩
        case measure => simp [intOf]; omega
      · skip
        obtain ⟨V, l1, x1, hu⟩ : ∃ V l1 x1, rdU l e = (V, l1, x1) := ⟨_, _, _, rfl⟩
        obtain ⟨b, hb⟩ : ∃ b, (V == 1) = b := ⟨_, rfl⟩
        obtain ⟨u, hu1⟩ : ∃ u : Nat, (if b then 1 else 0) = u := ⟨_, rfl⟩
        have hten : (uv u).length ≤ 10 := uv_ten (by rw [← hu1]; split <;> omega)
        obtain ⟨x2, hx2⟩ : ∃ x2 : Int, (if 1 < V then 4 else x1) = x2 := ⟨_, rfl⟩
        have HE2 : Hid (x2 = 0 → (W ++ uv u) ++ l1 = L) := by
          intro hx
          rw [hx] at hx2
          split at hx2
          · cases hx2
          · rename_i hV1
            have hVu : V = u := by
              rw [← hu1, ← hb]
              rcases (show V = 0 ∨ V = 1 by omega) with rfl | rfl <;> rfl
            have he := stay_U hu hx2
            subst hx2 he
            rw [List.append_assoc, ← hVu, ← canon_U hu]
            exact HE.out rfl
        have HU := Lib.hid hu
        have HB := Lib.hid hb
        have HU1 := Lib.hid hu1
        have HX2 := Lib.hid hx2
        clear hu hb hu1 hx2
        go_wp2_with fail
        refine (kind_any y 2 hq (by omega) _).mono ?_
        rintro e1 w1 ⟨rfl, rfl⟩
        clear hcell
        go_wp2_with fail
        refine (mark_rk H.out.r V l1 x1 HU.out).mono ?_
        rintro e2 w2 ⟨rfl, ⟨A4, c4, hr2⟩, hk2⟩
        rw [HB.out]
        rw [HX2.out] at hr2
        have h2 := H.out.read hr2 hk2
        go_wp2_with fail
        refine (mark_pk h2.wr (by omega) h2.size b).mono ?_
        intro e3 w3 hp
        rw [HU1.out] at hp
        obtain ⟨A5, c5, rfl, h3⟩ := h2.written hp
        clear hp hr2 hk2 h2
        go_wp2_with fail
        go_roundw
        case rel => exact ⟨j + 1, A4, c4, l1, x2, A5, c5, W ++ uv u, by go_num, by omega, HE2, (by show _ ≤ _; have := HL.out; simp only [List.length_append]; omega), h3⟩
        case measure => simp [intOf]; omega
      · skip
        obtain ⟨t, l1, x1, hu⟩ : ∃ t l1 x1, rdT l e = (t, l1, x1) := ⟨_, _, _, rfl⟩
        have hT := rdT_le hu
        have hten := uv_ten (v := t.length) (by omega)
        have HE2 : Hid (x1 = 0 → (W ++ (uv t.length ++ t)) ++ l1 = L) := by
          intro hx
          have he := stay_T hu hx
          subst hx he
          rw [List.append_assoc, List.append_assoc, ← (canon_T hu).1]
          exact HE.out rfl
        have HU := Lib.hid hu
        clear hu
        go_wp2_with fail
        refine (kind_any y 3 hq (by omega) _).mono ?_
        rintro e1 w1 ⟨rfl, rfl⟩
        clear hcell
        go_wp2_with fail
        refine (textr_rk H.out.r t l1 x1 HU.out).mono ?_
        rintro e2 w2 ⟨B2, d2, rfl, ho2, ⟨A4, c4, hr2⟩, hk2⟩
        have h2 := H.out.read hr2 hk2
        have hB2 : ∀ ad, B2 = some ad → ad.block ≠ k ∧ ¬ blk A3 = some ad.block ∧ ad.block < w2.heap.size := by
          intro ad ea
          have h4 := OB.lt ho2 (k := ad.block) (by rw [ea]; rfl)
          have h5 := H.out.wr.lt
          refine ⟨by omega, fun hA => ?_, h4.2⟩
          have := (OB.lt H.out.wr.own hA).2
          omega
        go_wp2_with fail
        refine (text_pk h2.wr B2 t.length d2 t rfl ho2.rb hB2 hT (by omega) h2.size).mono ?_
        intro e3 w3 hp
        obtain ⟨A5, c5, rfl, h3⟩ := h2.written hp
        clear hp hr2 hk2 h2 hB2 ho2
        go_wp2_with fail
        go_roundw
        case rel => exact ⟨j + 1, A4, c4, l1, x1, A5, c5, W ++ (uv t.length ++ t), by go_num, by omega, HE2, (by show _ ≤ _; have := HL.out; simp only [List.length_append]; omega), h3⟩
        case measure => simp [intOf]; omega
      · skip
        obtain ⟨o, l1, x1, hu⟩ : ∃ o l1 x1, rdA l e = (o, l1, x1) := ⟨_, _, _, rfl⟩
        obtain ⟨a, b, hcx, ha, hb, hab⟩ : ∃ a b : Nat, cx o = .complex .f64 (fl a) (fl b) ∧ a ≤ 1048576 ∧ b ≤ 1048576 ∧ (o = none ∨ o = some (a, b)) := by
          rcases o with _ | ⟨a, b⟩
          · exact ⟨0, 0, by rw [fl_zero]; rfl, by omega, by omega, .inl rfl⟩
          · exact ⟨a, b, rfl, (rdA_le hu).1, (rdA_le hu).2, .inr rfl⟩
        have hten := uv_ten (v := a) (by omega)
        have hten2 := uv_ten (v := b) (by omega)
        have HE2 : Hid (x1 = 0 → (W ++ (uv a ++ uv b)) ++ l1 = L) := by
          intro hx
          have he := stay_A hu hx
          subst hx he
          obtain ⟨a', b', ho, hl, _, _⟩ := canon_A hu
          rcases hab with h | h
          · rw [h] at ho; cases ho
          · rw [h] at ho
            cases ho
            rw [List.append_assoc, List.append_assoc, ← hl]
            exact HE.out rfl
        have HU := Lib.hid hu
        have HCX := Lib.hid hcx
        clear hu hcx hab
        go_wp2_with fail
        refine (kind_any y 4 hq (by omega) _).mono ?_
        rintro e1 w1 ⟨rfl, rfl⟩
        clear hcell
        go_wp2_with fail
        refine (amount_rk H.out.r o l1 x1 HU.out).mono ?_
        rintro e2 w2 ⟨he2, ⟨A4, c4, hr2⟩, hk2⟩
        rw [HCX.out] at he2
        subst he2
        have h2 := H.out.read hr2 hk2
        go_wp2_with fail
        refine (amount_pk h2.wr a b ha hb (by omega) h2.size).mono ?_
        intro e3 w3 hp
        obtain ⟨A5, c5, rfl, h3⟩ := h2.written hp
        clear hp hr2 hk2 h2
        go_wp2_with fail
        go_roundw
        case rel => exact ⟨j + 1, A4, c4, l1, x1, A5, c5, W ++ (uv a ++ uv b), by go_num, by omega, HE2, (by show _ ≤ _; have := HL.out; simp only [List.length_append]; omega), h3⟩
        case measure => simp [intOf]; omega
    · obtain ⟨v, hv⟩ : ∃ v : Int, (if e = 0 ∧ 0 < l.length then 4 else e) = v := ⟨_, rfl⟩
      have HLb : W.length ≤ 140000000 := by have := HL.out; omega
      have H := Lib.hid hP
      clear hP
      by_cases hv0 : v = 0
      · subst hv0
        have he : e = 0 ∧ l = [] := by
          by_cases he : e = 0
          · refine ⟨he, ?_⟩
            by_cases hl : 0 < l.length
            · rw [if_pos ⟨he, hl⟩] at hv; cases hv
            · exact List.eq_nil_of_length_eq_zero (by omega)
          · rw [if_neg (fun h => he h.1)] at hv
            exact absurd hv he
        have hWL : W = L := by
          have := HE.out he.1
          rw [he.2, List.append_nil] at this
          exact this
        subst hWL
        have HV := Lib.hid hv
        have hb : (W == W) = true := by simp
        have HB := Lib.hid hb
        clear hv he hb
        go_wp2_with fail
        refine (done_rk H.out.r 0 HV.out).mono ?_
        rintro e4 w5 ⟨rfl, rfl⟩
        go_wp2_with fail
        refine (bytes_pk H.out.wr (by omega)).mono ?_
        rintro e5 w6 ⟨X, dx, rfl, hox, hw6⟩
        rw [← HN.out] at hox ⊢
        have hnew := New.trans H.out.new hw6
        go_wp2_with fail
        refine (bytes_is X A n dx n c W W w6 HN.out HN.out hox.rb (hr.new hnew) true HB.out).mono ?_
        rintro e7 w7 ⟨rfl, rfl⟩
        go_wp2_with fail
        refine (wakes_any _).mono ?_
        rintro e9 w9 ⟨rfl, hw9⟩
        go_wp2_with fail
        go_ret
        exact ⟨rfl, New.trans hnew hw9⟩
      · have hvd : (v != 0) = true := by rw [bne_iff_ne]; exact hv0
        have HV := Lib.hid hv
        clear hv hv0
        go_wp2_with fail
        refine (done_rk H.out.r v HV.out).mono ?_
        rintro e4 w5 ⟨rfl, rfl⟩
        go_wp2_with fail
        refine (wakes_any _).mono ?_
        rintro e9 w9 ⟨rfl, hw9⟩
        go_wp2_with fail
        go_ret
        exact ⟨rfl, New.trans H.out.new hw9⟩
end Go.Proofs.Ytloolhbikfdipaa
