/- wire.list: what it does. By a program. -/
import Derived.Test.YtagocmbcbbhehaaWrF
namespace Go.Proofs.Ytagocmbcbbhehaa
set_option linter.unusedVariables false
open Go.RowKit
set_option maxRecDepth 20000 in
set_option maxHeartbeats 4000000 in
theorem wlPart {base g c : Nat} {A : Option Addr} {s : Wst} {w : World} (h : PW w base g A c s.1 s.2) (L : Option Addr) (n d most : Nat) (cs : Ch) (hE : FList EPart 3 most base w [.slice L n d] cs) (hsz : s.1.length + sz cs ≤ MX) (hb : base ≤ w.heap.size) :
    Calls Try.prog 81 #[.pointer (some ⟨g, 0, none⟩), .slice L n d, .int .i64 most, .func (Fn.func 82) #[.pointer (some ⟨g, 0, none⟩)] #[]] w (PutC w base g A s cs) := by
  obtain ⟨L', n', d', e1, hnd, hdm, hcase⟩ := hE
  injection e1 with e1
  injection e1 with e1 e2 e3
  subst e1; subst e2; subst e3
  unfold maxLen at hdm
  rcases hcase with ⟨hlong, rfl⟩ | ⟨hn, es, hel, hes, rfl⟩
  · have hli : (most : Int) < (n : Int) := by omega
    have h2 := h.c2
    have hf := h.fr
    have H := Lib.hid h
    clear h hsz hlong
    go_enter Try.func81, Try.ntmps81
    go_wp2_with fail
    go_end0
    refine ⟨A, c, rfl, ⟨?_, H.out.own.keep (Keep.setAt _ _ _ _) fun i hi e => H.out.apart hi e, H.out.le⟩, (Moved.refl _ _ _).store _ _⟩
    rw [dk_set H.out.cells]
    rfl
  · have hli : ¬ (most : Int) < (n : Int) := by omega
    have hld : decide ((most : Int) < (n : Int)) = false := by simp; omega
    have hMX := hsz
    unfold MX at hMX
    have hu : (uv n).length ≤ 10 := uv_ten (by omega)
    have hpre : ∀ k, s.1.length + sz (some (uv n) :: ((es.take k).map Prod.snd).flatten) ≤ s.1.length + sz (some (uv n) :: (es.map Prod.snd).flatten) := by
      intro k
      have e : (es.map Prod.snd).flatten = ((es.take k).map Prod.snd).flatten ++ ((es.drop k).map Prod.snd).flatten := by
        rw [← List.flatten_append, ← List.map_append, List.take_append_drop]
      rw [e]
      show s.1.length + ((uv n).length + sz _) ≤ s.1.length + ((uv n).length + sz _)
      rw [sz_append]
      omega
    have hstep : ∀ k e, es[k]? = some e → (some (uv n) :: ((es.take (k + 1)).map Prod.snd).flatten : Ch) = (some (uv n) :: ((es.take k).map Prod.snd).flatten) ++ e.2 := by
      intro k e he
      rw [List.take_add_one, he, List.map_append, List.flatten_append]
      simp
    have HPRE := Lib.hid hpre
    have HSTEP := Lib.hid hstep
    have HES := Lib.hid hes
    have HEL := Lib.hid hel
    have HSZ := Lib.hid hsz
    have HBS := Lib.hid hb
    have H0 := Lib.hid h
    have hw1 : IntKind.u64.wrap (n : Int) = (n : Int) := by rw [IntKind.wrap_u64]; omega
    have HUI : Hid (Calls Try.prog 40 #[.pointer (some ⟨g, 0, none⟩), .int .u64 n] w (Put w base g A (.returned (.tuple #[])) (s.1 ++ uv n) s.2)) := uint_pk h n (by omega) (by have : s.1.length + ((uv n).length + sz (es.map Prod.snd).flatten) ≤ MX := hsz; unfold MX at this; omega) hb
    clear hpre hstep hes hel hsz hMX hu hb h hn
    go_enter Try.func81, Try.ntmps81
    go_wp2_with fail
    refine HUI.out.mono ?_
    rintro e w2 ⟨A2, c2, rfl, hk2, hm2⟩
    have H2 : Hid (PW w2 base g A2 c2 (run (some (uv n) :: ((es.take 0).map Prod.snd).flatten) s).1 (run (some (uv n) :: ((es.take 0).map Prod.snd).flatten) s).2) := hk2
    have HM2 := Lib.hid hm2
    clear hk2 hm2 HUI
    go_wp2_with fail
    go_loopw [26] (fun v wr => ∃ (k : Nat) (A' : Option Addr) (c' : Nat), v = .int .i64 k ∧ k ≤ n ∧ Hid (PW wr base g A' c' (run (some (uv n) :: ((es.take k).map Prod.snd).flatten) s).1 (run (some (uv n) :: ((es.take k).map Prod.snd).flatten) s).2) ∧ Hid (Moved w wr g A A')) (fun v _ => n - (intOf v).toNat)
    case atStart => exact ⟨0, A2, c2, rfl, Nat.zero_le _, H2, HM2⟩
    case round =>
      obtain ⟨k, A', c', rfl, hk, HK, HM⟩ := hrel
      by_cases hlt : k < n
      · obtain ⟨el, he⟩ : ∃ e, es[k]? = some e := ⟨_, List.getElem?_eq_getElem (by rw [HEL.out]; exact hlt)⟩
        obtain ⟨ad, rfl, hadb, hz, hcl, hee⟩ := HES.out k el he
        have hlow : Below base w wr := Moved.belowW HM.out H0.out (Nat.le_refl _) HBS.out
        have hee' := EPart.below hee hlow
        obtain ⟨cl, ch⟩ := el
        obtain ⟨v1, v2, v3, hv⟩ := hee'.ex
        simp only at hv hcl hee'
        subst hv
        have p0 : wr.cell? (ad.add (k * 3)) = some v1 := by have := (hcl.below hlow (by rw [add_block]; exact hadb)) 0 v1 rfl; exact this
        have p1 : wr.cell? ⟨(ad.add (k * 3)).block, (ad.add (k * 3)).off + 1, none⟩ = some v2 := by have := (hcl.below hlow (by rw [add_block]; exact hadb)) 1 v2 rfl; exact this
        have p2 : wr.cell? ⟨(ad.add (k * 3)).block, (ad.add (k * 3)).off + 2, none⟩ = some v3 := by have := (hcl.below hlow (by rw [add_block]; exact hadb)) 2 v3 rfl; exact this
        have st0 := fun (W : World) (a : Addr) (md : Mode) => run_store Try.prog W a v1 md (hee'.one v1 (by simp))
        have st1 := fun (W : World) (a : Addr) (md : Mode) => run_store Try.prog W a v2 md (hee'.one v2 (by simp))
        have st2 := fun (W : World) (a : Addr) (md : Mode) => run_store Try.prog W a v3 md (hee'.one v3 (by simp))
        have hkn : (k : Int) < (n : Int) := by omega
        have HEE := Lib.hid hee'
        have HE := Lib.hid he
        have hszk : (run (some (uv n) :: ((es.take k).map Prod.snd).flatten) s).1.length + sz ch ≤ MX := by
          have h1 := run_len (some (uv n) :: ((es.take k).map Prod.snd).flatten) s
          have h2 := HPRE.out (k + 1)
          rw [HSTEP.out k _ he, sz_append] at h2
          have h3 := HSZ.out
          simp only at h2
          omega
        have HSK := Lib.hid hszk
        have HLOW := Lib.hid hlow
        have hbw : base ≤ wr.heap.size := Nat.le_trans HBS.out HM.out.keep.size
        clear hszk hlow hcl hee hee' he hadb hz hlt
        go_wp2_with fail
        obtain ⟨w3, hw3⟩ : ∃ w3, w3 = wr.alloc (.cells #[v1, v2, v3] 165) := ⟨_, rfl⟩
        have hn3 : New wr w3 := by rw [hw3]; exact (Below.refl _ _).alloc (Nat.le_refl _) _
        have H3 := Lib.hid (HK.out.new hn3)
        have HM3 := Lib.hid (HM.out.trans (Moved.of_new hn3))
        have HCL := Lib.hid (wPart H3.out [v1, v2, v3] ch (HEE.out.below (Moved.belowW (Moved.of_new hn3) HK.out (Nat.le_refl _) hbw)) HSK.out (Nat.le_trans hbw hn3.size))
        rw [← hw3]
        clear hw3 hn3
        refine HCL.out.mono ?_
        rintro e w4 ⟨A4, c4, rfl, hk4, hm4⟩
        rw [← run_append, ← HSTEP.out k _ HE.out] at hk4
        have H4 := Lib.hid hk4
        have HM4 := Lib.hid (HM3.out.trans hm4)
        clear hk4 hm4 HCL p0 p1 p2 hbw
        go_wp2_with fail
        go_roundw
        case rel => exact ⟨k + 1, A4, c4, by go_num, by omega, H4, HM4⟩
        case measure => simp [intOf]; omega
      · have hkn : k = n := by omega
        subst hkn
        have hall : es.take k = es := List.take_of_length_le (by rw [HEL.out]; exact Nat.le_refl _)
        rw [hall] at HK
        clear hlt hall
        go_wp2_with fail
        go_end0
        exact ⟨A', c', rfl, HK.out, HM.out⟩
set_option maxRecDepth 20000 in
set_option maxHeartbeats 4000000 in
theorem wlOffer {base g c : Nat} {A : Option Addr} {s : Wst} {w : World} (h : PW w base g A c s.1 s.2) (L : Option Addr) (n d most : Nat) (cs : Ch) (hE : FList EOffer 2 most base w [.slice L n d] cs) (hsz : s.1.length + sz cs ≤ MX) (hb : base ≤ w.heap.size) :
    Calls Try.prog 79 #[.pointer (some ⟨g, 0, none⟩), .slice L n d, .int .i64 most, .func (Fn.func 80) #[.pointer (some ⟨g, 0, none⟩)] #[]] w (PutC w base g A s cs) := by
  obtain ⟨L', n', d', e1, hnd, hdm, hcase⟩ := hE
  injection e1 with e1
  injection e1 with e1 e2 e3
  subst e1; subst e2; subst e3
  unfold maxLen at hdm
  rcases hcase with ⟨hlong, rfl⟩ | ⟨hn, es, hel, hes, rfl⟩
  · have hli : (most : Int) < (n : Int) := by omega
    have h2 := h.c2
    have hf := h.fr
    have H := Lib.hid h
    clear h hsz hlong
    go_enter Try.func79, Try.ntmps79
    go_wp2_with fail
    go_end0
    refine ⟨A, c, rfl, ⟨?_, H.out.own.keep (Keep.setAt _ _ _ _) fun i hi e => H.out.apart hi e, H.out.le⟩, (Moved.refl _ _ _).store _ _⟩
    rw [dk_set H.out.cells]
    rfl
  · have hli : ¬ (most : Int) < (n : Int) := by omega
    have hld : decide ((most : Int) < (n : Int)) = false := by simp; omega
    have hMX := hsz
    unfold MX at hMX
    have hu : (uv n).length ≤ 10 := uv_ten (by omega)
    have hpre : ∀ k, s.1.length + sz (some (uv n) :: ((es.take k).map Prod.snd).flatten) ≤ s.1.length + sz (some (uv n) :: (es.map Prod.snd).flatten) := by
      intro k
      have e : (es.map Prod.snd).flatten = ((es.take k).map Prod.snd).flatten ++ ((es.drop k).map Prod.snd).flatten := by
        rw [← List.flatten_append, ← List.map_append, List.take_append_drop]
      rw [e]
      show s.1.length + ((uv n).length + sz _) ≤ s.1.length + ((uv n).length + sz _)
      rw [sz_append]
      omega
    have hstep : ∀ k e, es[k]? = some e → (some (uv n) :: ((es.take (k + 1)).map Prod.snd).flatten : Ch) = (some (uv n) :: ((es.take k).map Prod.snd).flatten) ++ e.2 := by
      intro k e he
      rw [List.take_add_one, he, List.map_append, List.flatten_append]
      simp
    have HPRE := Lib.hid hpre
    have HSTEP := Lib.hid hstep
    have HES := Lib.hid hes
    have HEL := Lib.hid hel
    have HSZ := Lib.hid hsz
    have HBS := Lib.hid hb
    have H0 := Lib.hid h
    have hw1 : IntKind.u64.wrap (n : Int) = (n : Int) := by rw [IntKind.wrap_u64]; omega
    have HUI : Hid (Calls Try.prog 40 #[.pointer (some ⟨g, 0, none⟩), .int .u64 n] w (Put w base g A (.returned (.tuple #[])) (s.1 ++ uv n) s.2)) := uint_pk h n (by omega) (by have : s.1.length + ((uv n).length + sz (es.map Prod.snd).flatten) ≤ MX := hsz; unfold MX at this; omega) hb
    clear hpre hstep hes hel hsz hMX hu hb h hn
    go_enter Try.func79, Try.ntmps79
    go_wp2_with fail
    refine HUI.out.mono ?_
    rintro e w2 ⟨A2, c2, rfl, hk2, hm2⟩
    have H2 : Hid (PW w2 base g A2 c2 (run (some (uv n) :: ((es.take 0).map Prod.snd).flatten) s).1 (run (some (uv n) :: ((es.take 0).map Prod.snd).flatten) s).2) := hk2
    have HM2 := Lib.hid hm2
    clear hk2 hm2 HUI
    go_wp2_with fail
    go_loopw [26] (fun v wr => ∃ (k : Nat) (A' : Option Addr) (c' : Nat), v = .int .i64 k ∧ k ≤ n ∧ Hid (PW wr base g A' c' (run (some (uv n) :: ((es.take k).map Prod.snd).flatten) s).1 (run (some (uv n) :: ((es.take k).map Prod.snd).flatten) s).2) ∧ Hid (Moved w wr g A A')) (fun v _ => n - (intOf v).toNat)
    case atStart => exact ⟨0, A2, c2, rfl, Nat.zero_le _, H2, HM2⟩
    case round =>
      obtain ⟨k, A', c', rfl, hk, HK, HM⟩ := hrel
      by_cases hlt : k < n
      · obtain ⟨el, he⟩ : ∃ e, es[k]? = some e := ⟨_, List.getElem?_eq_getElem (by rw [HEL.out]; exact hlt)⟩
        obtain ⟨ad, rfl, hadb, hz, hcl, hee⟩ := HES.out k el he
        have hlow : Below base w wr := Moved.belowW HM.out H0.out (Nat.le_refl _) HBS.out
        have hee' := EOffer.below hee hlow
        obtain ⟨cl, ch⟩ := el
        obtain ⟨v1, v2, hv⟩ := hee'.ex
        simp only at hv hcl hee'
        subst hv
        have p0 : wr.cell? (ad.add (k * 2)) = some v1 := by have := (hcl.below hlow (by rw [add_block]; exact hadb)) 0 v1 rfl; exact this
        have p1 : wr.cell? ⟨(ad.add (k * 2)).block, (ad.add (k * 2)).off + 1, none⟩ = some v2 := by have := (hcl.below hlow (by rw [add_block]; exact hadb)) 1 v2 rfl; exact this
        have st0 := fun (W : World) (a : Addr) (md : Mode) => run_store Try.prog W a v1 md (hee'.one v1 (by simp))
        have st1 := fun (W : World) (a : Addr) (md : Mode) => run_store Try.prog W a v2 md (hee'.one v2 (by simp))
        have hkn : (k : Int) < (n : Int) := by omega
        have HEE := Lib.hid hee'
        have HE := Lib.hid he
        have hszk : (run (some (uv n) :: ((es.take k).map Prod.snd).flatten) s).1.length + sz ch ≤ MX := by
          have h1 := run_len (some (uv n) :: ((es.take k).map Prod.snd).flatten) s
          have h2 := HPRE.out (k + 1)
          rw [HSTEP.out k _ he, sz_append] at h2
          have h3 := HSZ.out
          simp only at h2
          omega
        have HSK := Lib.hid hszk
        have HLOW := Lib.hid hlow
        have hbw : base ≤ wr.heap.size := Nat.le_trans HBS.out HM.out.keep.size
        clear hszk hlow hcl hee hee' he hadb hz hlt
        go_wp2_with fail
        obtain ⟨w3, hw3⟩ : ∃ w3, w3 = wr.alloc (.cells #[v1, v2] 161) := ⟨_, rfl⟩
        have hn3 : New wr w3 := by rw [hw3]; exact (Below.refl _ _).alloc (Nat.le_refl _) _
        have H3 := Lib.hid (HK.out.new hn3)
        have HM3 := Lib.hid (HM.out.trans (Moved.of_new hn3))
        have HCL := Lib.hid (wOffer H3.out [v1, v2] ch (HEE.out.below (Moved.belowW (Moved.of_new hn3) HK.out (Nat.le_refl _) hbw)) HSK.out (Nat.le_trans hbw hn3.size))
        rw [← hw3]
        clear hw3 hn3
        refine HCL.out.mono ?_
        rintro e w4 ⟨A4, c4, rfl, hk4, hm4⟩
        rw [← run_append, ← HSTEP.out k _ HE.out] at hk4
        have H4 := Lib.hid hk4
        have HM4 := Lib.hid (HM3.out.trans hm4)
        clear hk4 hm4 HCL p0 p1 hbw
        go_wp2_with fail
        go_roundw
        case rel => exact ⟨k + 1, A4, c4, by go_num, by omega, H4, HM4⟩
        case measure => simp [intOf]; omega
      · have hkn : k = n := by omega
        subst hkn
        have hall : es.take k = es := List.take_of_length_le (by rw [HEL.out]; exact Nat.le_refl _)
        rw [hall] at HK
        clear hlt hall
        go_wp2_with fail
        go_end0
        exact ⟨A', c', rfl, HK.out, HM.out⟩
set_option maxRecDepth 20000 in
set_option maxHeartbeats 4000000 in
theorem wlUse {base g c : Nat} {A : Option Addr} {s : Wst} {w : World} (h : PW w base g A c s.1 s.2) (L : Option Addr) (n d most : Nat) (cs : Ch) (hE : FList EUse 3 most base w [.slice L n d] cs) (hsz : s.1.length + sz cs ≤ MX) (hb : base ≤ w.heap.size) :
    Calls Try.prog 48 #[.pointer (some ⟨g, 0, none⟩), .slice L n d, .int .i64 most, .func (Fn.func 49) #[.pointer (some ⟨g, 0, none⟩)] #[]] w (PutC w base g A s cs) := by
  obtain ⟨L', n', d', e1, hnd, hdm, hcase⟩ := hE
  injection e1 with e1
  injection e1 with e1 e2 e3
  subst e1; subst e2; subst e3
  unfold maxLen at hdm
  rcases hcase with ⟨hlong, rfl⟩ | ⟨hn, es, hel, hes, rfl⟩
  · have hli : (most : Int) < (n : Int) := by omega
    have h2 := h.c2
    have hf := h.fr
    have H := Lib.hid h
    clear h hsz hlong
    go_enter Try.func48, Try.ntmps48
    go_wp2_with fail
    go_end0
    refine ⟨A, c, rfl, ⟨?_, H.out.own.keep (Keep.setAt _ _ _ _) fun i hi e => H.out.apart hi e, H.out.le⟩, (Moved.refl _ _ _).store _ _⟩
    rw [dk_set H.out.cells]
    rfl
  · have hli : ¬ (most : Int) < (n : Int) := by omega
    have hld : decide ((most : Int) < (n : Int)) = false := by simp; omega
    have hMX := hsz
    unfold MX at hMX
    have hu : (uv n).length ≤ 10 := uv_ten (by omega)
    have hpre : ∀ k, s.1.length + sz (some (uv n) :: ((es.take k).map Prod.snd).flatten) ≤ s.1.length + sz (some (uv n) :: (es.map Prod.snd).flatten) := by
      intro k
      have e : (es.map Prod.snd).flatten = ((es.take k).map Prod.snd).flatten ++ ((es.drop k).map Prod.snd).flatten := by
        rw [← List.flatten_append, ← List.map_append, List.take_append_drop]
      rw [e]
      show s.1.length + ((uv n).length + sz _) ≤ s.1.length + ((uv n).length + sz _)
      rw [sz_append]
      omega
    have hstep : ∀ k e, es[k]? = some e → (some (uv n) :: ((es.take (k + 1)).map Prod.snd).flatten : Ch) = (some (uv n) :: ((es.take k).map Prod.snd).flatten) ++ e.2 := by
      intro k e he
      rw [List.take_add_one, he, List.map_append, List.flatten_append]
      simp
    have HPRE := Lib.hid hpre
    have HSTEP := Lib.hid hstep
    have HES := Lib.hid hes
    have HEL := Lib.hid hel
    have HSZ := Lib.hid hsz
    have HBS := Lib.hid hb
    have H0 := Lib.hid h
    have hw1 : IntKind.u64.wrap (n : Int) = (n : Int) := by rw [IntKind.wrap_u64]; omega
    have HUI : Hid (Calls Try.prog 40 #[.pointer (some ⟨g, 0, none⟩), .int .u64 n] w (Put w base g A (.returned (.tuple #[])) (s.1 ++ uv n) s.2)) := uint_pk h n (by omega) (by have : s.1.length + ((uv n).length + sz (es.map Prod.snd).flatten) ≤ MX := hsz; unfold MX at this; omega) hb
    clear hpre hstep hes hel hsz hMX hu hb h hn
    go_enter Try.func48, Try.ntmps48
    go_wp2_with fail
    refine HUI.out.mono ?_
    rintro e w2 ⟨A2, c2, rfl, hk2, hm2⟩
    have H2 : Hid (PW w2 base g A2 c2 (run (some (uv n) :: ((es.take 0).map Prod.snd).flatten) s).1 (run (some (uv n) :: ((es.take 0).map Prod.snd).flatten) s).2) := hk2
    have HM2 := Lib.hid hm2
    clear hk2 hm2 HUI
    go_wp2_with fail
    go_loopw [26] (fun v wr => ∃ (k : Nat) (A' : Option Addr) (c' : Nat), v = .int .i64 k ∧ k ≤ n ∧ Hid (PW wr base g A' c' (run (some (uv n) :: ((es.take k).map Prod.snd).flatten) s).1 (run (some (uv n) :: ((es.take k).map Prod.snd).flatten) s).2) ∧ Hid (Moved w wr g A A')) (fun v _ => n - (intOf v).toNat)
    case atStart => exact ⟨0, A2, c2, rfl, Nat.zero_le _, H2, HM2⟩
    case round =>
      obtain ⟨k, A', c', rfl, hk, HK, HM⟩ := hrel
      by_cases hlt : k < n
      · obtain ⟨el, he⟩ : ∃ e, es[k]? = some e := ⟨_, List.getElem?_eq_getElem (by rw [HEL.out]; exact hlt)⟩
        obtain ⟨ad, rfl, hadb, hz, hcl, hee⟩ := HES.out k el he
        have hlow : Below base w wr := Moved.belowW HM.out H0.out (Nat.le_refl _) HBS.out
        have hee' := EUse.below hee hlow
        obtain ⟨cl, ch⟩ := el
        obtain ⟨v1, v2, v3, hv⟩ := hee'.ex
        simp only at hv hcl hee'
        subst hv
        have p0 : wr.cell? (ad.add (k * 3)) = some v1 := by have := (hcl.below hlow (by rw [add_block]; exact hadb)) 0 v1 rfl; exact this
        have p1 : wr.cell? ⟨(ad.add (k * 3)).block, (ad.add (k * 3)).off + 1, none⟩ = some v2 := by have := (hcl.below hlow (by rw [add_block]; exact hadb)) 1 v2 rfl; exact this
        have p2 : wr.cell? ⟨(ad.add (k * 3)).block, (ad.add (k * 3)).off + 2, none⟩ = some v3 := by have := (hcl.below hlow (by rw [add_block]; exact hadb)) 2 v3 rfl; exact this
        have st0 := fun (W : World) (a : Addr) (md : Mode) => run_store Try.prog W a v1 md (hee'.one v1 (by simp))
        have st1 := fun (W : World) (a : Addr) (md : Mode) => run_store Try.prog W a v2 md (hee'.one v2 (by simp))
        have st2 := fun (W : World) (a : Addr) (md : Mode) => run_store Try.prog W a v3 md (hee'.one v3 (by simp))
        have hkn : (k : Int) < (n : Int) := by omega
        have HEE := Lib.hid hee'
        have HE := Lib.hid he
        have hszk : (run (some (uv n) :: ((es.take k).map Prod.snd).flatten) s).1.length + sz ch ≤ MX := by
          have h1 := run_len (some (uv n) :: ((es.take k).map Prod.snd).flatten) s
          have h2 := HPRE.out (k + 1)
          rw [HSTEP.out k _ he, sz_append] at h2
          have h3 := HSZ.out
          simp only at h2
          omega
        have HSK := Lib.hid hszk
        have HLOW := Lib.hid hlow
        have hbw : base ≤ wr.heap.size := Nat.le_trans HBS.out HM.out.keep.size
        clear hszk hlow hcl hee hee' he hadb hz hlt
        go_wp2_with fail
        obtain ⟨w3, hw3⟩ : ∃ w3, w3 = wr.alloc (.cells #[v1, v2, v3] 123) := ⟨_, rfl⟩
        have hn3 : New wr w3 := by rw [hw3]; exact (Below.refl _ _).alloc (Nat.le_refl _) _
        have H3 := Lib.hid (HK.out.new hn3)
        have HM3 := Lib.hid (HM.out.trans (Moved.of_new hn3))
        have HCL := Lib.hid (wUse H3.out [v1, v2, v3] ch (HEE.out.below (Moved.belowW (Moved.of_new hn3) HK.out (Nat.le_refl _) hbw)) HSK.out (Nat.le_trans hbw hn3.size))
        rw [← hw3]
        clear hw3 hn3
        refine HCL.out.mono ?_
        rintro e w4 ⟨A4, c4, rfl, hk4, hm4⟩
        rw [← run_append, ← HSTEP.out k _ HE.out] at hk4
        have H4 := Lib.hid hk4
        have HM4 := Lib.hid (HM3.out.trans hm4)
        clear hk4 hm4 HCL p0 p1 p2 hbw
        go_wp2_with fail
        go_roundw
        case rel => exact ⟨k + 1, A4, c4, by go_num, by omega, H4, HM4⟩
        case measure => simp [intOf]; omega
      · have hkn : k = n := by omega
        subst hkn
        have hall : es.take k = es := List.take_of_length_le (by rw [HEL.out]; exact Nat.le_refl _)
        rw [hall] at HK
        clear hlt hall
        go_wp2_with fail
        go_end0
        exact ⟨A', c', rfl, HK.out, HM.out⟩
set_option maxRecDepth 20000 in
set_option maxHeartbeats 4000000 in
theorem wlResv {base g c : Nat} {A : Option Addr} {s : Wst} {w : World} (h : PW w base g A c s.1 s.2) (L : Option Addr) (n d most : Nat) (cs : Ch) (hE : FList EResv 8 most base w [.slice L n d] cs) (hsz : s.1.length + sz cs ≤ MX) (hb : base ≤ w.heap.size) :
    Calls Try.prog 46 #[.pointer (some ⟨g, 0, none⟩), .slice L n d, .int .i64 most, .func (Fn.func 47) #[.pointer (some ⟨g, 0, none⟩)] #[]] w (PutC w base g A s cs) := by
  obtain ⟨L', n', d', e1, hnd, hdm, hcase⟩ := hE
  injection e1 with e1
  injection e1 with e1 e2 e3
  subst e1; subst e2; subst e3
  unfold maxLen at hdm
  rcases hcase with ⟨hlong, rfl⟩ | ⟨hn, es, hel, hes, rfl⟩
  · have hli : (most : Int) < (n : Int) := by omega
    have h2 := h.c2
    have hf := h.fr
    have H := Lib.hid h
    clear h hsz hlong
    go_enter Try.func46, Try.ntmps46
    go_wp2_with fail
    go_end0
    refine ⟨A, c, rfl, ⟨?_, H.out.own.keep (Keep.setAt _ _ _ _) fun i hi e => H.out.apart hi e, H.out.le⟩, (Moved.refl _ _ _).store _ _⟩
    rw [dk_set H.out.cells]
    rfl
  · have hli : ¬ (most : Int) < (n : Int) := by omega
    have hld : decide ((most : Int) < (n : Int)) = false := by simp; omega
    have hMX := hsz
    unfold MX at hMX
    have hu : (uv n).length ≤ 10 := uv_ten (by omega)
    have hpre : ∀ k, s.1.length + sz (some (uv n) :: ((es.take k).map Prod.snd).flatten) ≤ s.1.length + sz (some (uv n) :: (es.map Prod.snd).flatten) := by
      intro k
      have e : (es.map Prod.snd).flatten = ((es.take k).map Prod.snd).flatten ++ ((es.drop k).map Prod.snd).flatten := by
        rw [← List.flatten_append, ← List.map_append, List.take_append_drop]
      rw [e]
      show s.1.length + ((uv n).length + sz _) ≤ s.1.length + ((uv n).length + sz _)
      rw [sz_append]
      omega
    have hstep : ∀ k e, es[k]? = some e → (some (uv n) :: ((es.take (k + 1)).map Prod.snd).flatten : Ch) = (some (uv n) :: ((es.take k).map Prod.snd).flatten) ++ e.2 := by
      intro k e he
      rw [List.take_add_one, he, List.map_append, List.flatten_append]
      simp
    have HPRE := Lib.hid hpre
    have HSTEP := Lib.hid hstep
    have HES := Lib.hid hes
    have HEL := Lib.hid hel
    have HSZ := Lib.hid hsz
    have HBS := Lib.hid hb
    have H0 := Lib.hid h
    have hw1 : IntKind.u64.wrap (n : Int) = (n : Int) := by rw [IntKind.wrap_u64]; omega
    have HUI : Hid (Calls Try.prog 40 #[.pointer (some ⟨g, 0, none⟩), .int .u64 n] w (Put w base g A (.returned (.tuple #[])) (s.1 ++ uv n) s.2)) := uint_pk h n (by omega) (by have : s.1.length + ((uv n).length + sz (es.map Prod.snd).flatten) ≤ MX := hsz; unfold MX at this; omega) hb
    clear hpre hstep hes hel hsz hMX hu hb h hn
    go_enter Try.func46, Try.ntmps46
    go_wp2_with fail
    refine HUI.out.mono ?_
    rintro e w2 ⟨A2, c2, rfl, hk2, hm2⟩
    have H2 : Hid (PW w2 base g A2 c2 (run (some (uv n) :: ((es.take 0).map Prod.snd).flatten) s).1 (run (some (uv n) :: ((es.take 0).map Prod.snd).flatten) s).2) := hk2
    have HM2 := Lib.hid hm2
    clear hk2 hm2 HUI
    go_wp2_with fail
    go_loopw [26] (fun v wr => ∃ (k : Nat) (A' : Option Addr) (c' : Nat), v = .int .i64 k ∧ k ≤ n ∧ Hid (PW wr base g A' c' (run (some (uv n) :: ((es.take k).map Prod.snd).flatten) s).1 (run (some (uv n) :: ((es.take k).map Prod.snd).flatten) s).2) ∧ Hid (Moved w wr g A A')) (fun v _ => n - (intOf v).toNat)
    case atStart => exact ⟨0, A2, c2, rfl, Nat.zero_le _, H2, HM2⟩
    case round =>
      obtain ⟨k, A', c', rfl, hk, HK, HM⟩ := hrel
      by_cases hlt : k < n
      · obtain ⟨el, he⟩ : ∃ e, es[k]? = some e := ⟨_, List.getElem?_eq_getElem (by rw [HEL.out]; exact hlt)⟩
        obtain ⟨ad, rfl, hadb, hz, hcl, hee⟩ := HES.out k el he
        have hlow : Below base w wr := Moved.belowW HM.out H0.out (Nat.le_refl _) HBS.out
        have hee' := EResv.below hee hlow
        obtain ⟨cl, ch⟩ := el
        obtain ⟨v1, v2, v3, v4, v5, v6, v7, v8, hv⟩ := hee'.ex
        simp only at hv hcl hee'
        subst hv
        have p0 : wr.cell? (ad.add (k * 8)) = some v1 := by have := (hcl.below hlow (by rw [add_block]; exact hadb)) 0 v1 rfl; exact this
        have p1 : wr.cell? ⟨(ad.add (k * 8)).block, (ad.add (k * 8)).off + 1, none⟩ = some v2 := by have := (hcl.below hlow (by rw [add_block]; exact hadb)) 1 v2 rfl; exact this
        have p2 : wr.cell? ⟨(ad.add (k * 8)).block, (ad.add (k * 8)).off + 2, none⟩ = some v3 := by have := (hcl.below hlow (by rw [add_block]; exact hadb)) 2 v3 rfl; exact this
        have p3 : wr.cell? ⟨(ad.add (k * 8)).block, (ad.add (k * 8)).off + 3, none⟩ = some v4 := by have := (hcl.below hlow (by rw [add_block]; exact hadb)) 3 v4 rfl; exact this
        have p4 : wr.cell? ⟨(ad.add (k * 8)).block, (ad.add (k * 8)).off + 4, none⟩ = some v5 := by have := (hcl.below hlow (by rw [add_block]; exact hadb)) 4 v5 rfl; exact this
        have p5 : wr.cell? ⟨(ad.add (k * 8)).block, (ad.add (k * 8)).off + 5, none⟩ = some v6 := by have := (hcl.below hlow (by rw [add_block]; exact hadb)) 5 v6 rfl; exact this
        have p6 : wr.cell? ⟨(ad.add (k * 8)).block, (ad.add (k * 8)).off + 6, none⟩ = some v7 := by have := (hcl.below hlow (by rw [add_block]; exact hadb)) 6 v7 rfl; exact this
        have p7 : wr.cell? ⟨(ad.add (k * 8)).block, (ad.add (k * 8)).off + 7, none⟩ = some v8 := by have := (hcl.below hlow (by rw [add_block]; exact hadb)) 7 v8 rfl; exact this
        have st0 := fun (W : World) (a : Addr) (md : Mode) => run_store Try.prog W a v1 md (hee'.one v1 (by simp))
        have st1 := fun (W : World) (a : Addr) (md : Mode) => run_store Try.prog W a v2 md (hee'.one v2 (by simp))
        have st2 := fun (W : World) (a : Addr) (md : Mode) => run_store Try.prog W a v3 md (hee'.one v3 (by simp))
        have st3 := fun (W : World) (a : Addr) (md : Mode) => run_store Try.prog W a v4 md (hee'.one v4 (by simp))
        have st4 := fun (W : World) (a : Addr) (md : Mode) => run_store Try.prog W a v5 md (hee'.one v5 (by simp))
        have st5 := fun (W : World) (a : Addr) (md : Mode) => run_store Try.prog W a v6 md (hee'.one v6 (by simp))
        have st6 := fun (W : World) (a : Addr) (md : Mode) => run_store Try.prog W a v7 md (hee'.one v7 (by simp))
        have st7 := fun (W : World) (a : Addr) (md : Mode) => run_store Try.prog W a v8 md (hee'.one v8 (by simp))
        have hkn : (k : Int) < (n : Int) := by omega
        have HEE := Lib.hid hee'
        have HE := Lib.hid he
        have hszk : (run (some (uv n) :: ((es.take k).map Prod.snd).flatten) s).1.length + sz ch ≤ MX := by
          have h1 := run_len (some (uv n) :: ((es.take k).map Prod.snd).flatten) s
          have h2 := HPRE.out (k + 1)
          rw [HSTEP.out k _ he, sz_append] at h2
          have h3 := HSZ.out
          simp only at h2
          omega
        have HSK := Lib.hid hszk
        have HLOW := Lib.hid hlow
        have hbw : base ≤ wr.heap.size := Nat.le_trans HBS.out HM.out.keep.size
        clear hszk hlow hcl hee hee' he hadb hz hlt
        go_wp2_with fail
        obtain ⟨w3, hw3⟩ : ∃ w3, w3 = wr.alloc (.cells #[v1, v2, v3, v4, v5, v6, v7, v8] 119) := ⟨_, rfl⟩
        have hn3 : New wr w3 := by rw [hw3]; exact (Below.refl _ _).alloc (Nat.le_refl _) _
        have H3 := Lib.hid (HK.out.new hn3)
        have HM3 := Lib.hid (HM.out.trans (Moved.of_new hn3))
        have HCL := Lib.hid (wResv H3.out [v1, v2, v3, v4, v5, v6, v7, v8] ch (HEE.out.below (Moved.belowW (Moved.of_new hn3) HK.out (Nat.le_refl _) hbw)) HSK.out (Nat.le_trans hbw hn3.size))
        rw [← hw3]
        clear hw3 hn3
        refine HCL.out.mono ?_
        rintro e w4 ⟨A4, c4, rfl, hk4, hm4⟩
        rw [← run_append, ← HSTEP.out k _ HE.out] at hk4
        have H4 := Lib.hid hk4
        have HM4 := Lib.hid (HM3.out.trans hm4)
        clear hk4 hm4 HCL p0 p1 p2 p3 p4 p5 p6 p7 hbw
        go_wp2_with fail
        go_roundw
        case rel => exact ⟨k + 1, A4, c4, by go_num, by omega, H4, HM4⟩
        case measure => simp [intOf]; omega
      · have hkn : k = n := by omega
        subst hkn
        have hall : es.take k = es := List.take_of_length_le (by rw [HEL.out]; exact Nat.le_refl _)
        rw [hall] at HK
        clear hlt hall
        go_wp2_with fail
        go_end0
        exact ⟨A', c', rfl, HK.out, HM.out⟩
end Go.Proofs.Ytagocmbcbbhehaa
