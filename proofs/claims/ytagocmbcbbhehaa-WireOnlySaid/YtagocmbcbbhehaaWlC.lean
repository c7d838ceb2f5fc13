/- wire.list: what it does. By a program. -/
import Derived.Test.YtagocmbcbbhehaaWrG
import Derived.Deep.WholeRow
import Derived.Deep.MidRow
namespace Go.Proofs.Ytagocmbcbbhehaa
set_option linter.unusedVariables false
open Go.RowKit
theorem ones_all {l : List Value} (h : ∀ v ∈ l, v.oneCell' = true) : l.toArray.all (·.oneCell') = true := by
  rw [List.all_toArray, List.all_eq_true]
  exact h
section
variable {P : Program}
/-- a struct loaded whole -/
theorem wpList_load_ad {ops : Array Oper} {rest : List Oper} {op : Oper} {a : Act} {w : World} {Q : Exit → Act → World → Prop} (hgd : op.guard = none) (ty : TypeId) (x : Operand) (ho : op.op = .load ty x)
    (ad : Addr) (hx : a.eval x = .pointer (some ad)) (cs : List Value) (hl : CellsAt w ad cs) (d : TypeDesc) (hu : P.underlying ty = some d) (hd : d.isRow = true) (n : Nat) (hi : (P.info? ty).map (·.size) = some n) (hn : cs.length = n)
    (h : wpList P ops Q rest (a.put op.dst (.agg cs.toArray)) w) : wpList P ops Q (op :: rest) a w := by
  subst hn
  refine wpList_plain hgd fun K hK => ?_
  have hl' : (loadCells ad cs.length).run P w = .ok cs.toArray w := run_loadCells_list (P := P) w ad cs hl
  have hv : (loadVar ty ad).run P w = .ok (.agg cs.toArray) w := by
    cases hq : P.info? ty with
    | none => simp [hq] at hi
    | some i =>
      have hs : i.size = cs.length := by simpa [hq] using hi
      have hagg : (isAgg ty).run P w = .ok true w := by
        unfold isAgg
        rw [Sem.run_bind, run_underlying hu w]
        cases d <;> simp_all
      simp [loadVar, Sem.run_bind, hagg, sizeOf, typeInfo, hq, hs, hl']
  unfold Oper.wp execOp
  simp only [ho, hx, Instr.loadAt, Instr.sureAddr, Sem.run_bind, Sem.run_pure, Result.andThen_ok, hv]
  exact hK _ _ h
/-- a struct stored whole into the block that was made last -/
theorem wpList_store_new {ops : Array Oper} {rest : List Oper} {op : Oper} {a : Act} (W : World) {Q : Exit → Act → World → Prop} (hgd : op.guard = none) (ty : TypeId) (x y : Operand) (ho : op.op = .store ty x y)
    (hx : a.eval x = .pointer (some ⟨W.heap.size, 0, none⟩)) (c0 : Array Value) (cs : List Value) (hy : a.eval y = .agg cs.toArray) (n : Nat) (hi : (P.info? ty).map (·.size) = some n) (hn : cs.length = n) (h0 : c0.size = n) (h1 : ∀ v ∈ cs, v.oneCell' = true)
    (h : wpList P ops Q rest (a.put op.dst undef) (W.alloc (.cells cs.toArray ty))) : wpList P ops Q (op :: rest) a (W.alloc (.cells c0 ty)) := by
  subst hn
  refine wpList_plain hgd fun K hK => ?_
  have := run_storeVar_new (P := P) W ty c0 cs.toArray (by simpa using hi) (by simpa using h0) (ones_all h1)
  unfold Oper.wp execOp
  simp only [ho, hx, hy, Instr.storeAt, Instr.sureAddr, Sem.run_bind, Sem.run_pure, Result.andThen_ok, this]
  exact hK _ _ h
end
set_option maxRecDepth 20000 in
set_option maxHeartbeats 4000000 in
theorem wlOwn {base g c : Nat} {A : Option Addr} {s : Wst} {w : World} (h : PW w base g A c s.1 s.2) (L : Option Addr) (n d most : Nat) (cs : Ch) (hE : FList EOwn 21 most base w [.slice L n d] cs) (hsz : s.1.length + sz cs ≤ MX) (hb : base ≤ w.heap.size) :
    Calls Try.prog 42 #[.pointer (some ⟨g, 0, none⟩), .slice L n d, .int .i64 most, .func (Fn.func 43) #[.pointer (some ⟨g, 0, none⟩)] #[]] w (PutC w base g A s cs) := by
  obtain ⟨L', n', d', e1, hnd, hdm, hcase⟩ := hE
  injection e1 with e1
  injection e1 with e1 e2 e3
  subst e1; subst e2; subst e3
  unfold maxLen at hdm
  rcases hcase with ⟨hlong, rfl⟩ | ⟨hn, es, hel, hes, rfl⟩
  · have hli : (most : Int) < (n : Int) := by omega
    have h2 := h.c2
    have hf := h.fr
    have H := Lib.hid h
    clear h hsz hlong
    go_enter Try.func42, Try.ntmps42
    go_wp2_with fail
    go_end0
    refine ⟨A, c, rfl, ⟨?_, H.out.own.keep (Keep.setAt _ _ _ _) fun i hi e => H.out.apart hi e, H.out.le⟩, (Moved.refl _ _ _).store _ _⟩
    rw [dk_set H.out.cells]
    rfl
  · have hli : ¬ (most : Int) < (n : Int) := by omega
    have hld : decide ((most : Int) < (n : Int)) = false := by simp; omega
    have hMX := hsz
    unfold MX at hMX
    have hu : (uv n).length ≤ 10 := uv_ten (by omega)
    have hpre : ∀ k, s.1.length + sz (some (uv n) :: ((es.take k).map Prod.snd).flatten) ≤ s.1.length + sz (some (uv n) :: (es.map Prod.snd).flatten) := by
      intro k
      have e : (es.map Prod.snd).flatten = ((es.take k).map Prod.snd).flatten ++ ((es.drop k).map Prod.snd).flatten := by
        rw [← List.flatten_append, ← List.map_append, List.take_append_drop]
      rw [e]
      show s.1.length + ((uv n).length + sz _) ≤ s.1.length + ((uv n).length + sz _)
      rw [sz_append]
      omega
    have hstep : ∀ k e, es[k]? = some e → (some (uv n) :: ((es.take (k + 1)).map Prod.snd).flatten : Ch) = (some (uv n) :: ((es.take k).map Prod.snd).flatten) ++ e.2 := by
      intro k e he
      rw [List.take_add_one, he, List.map_append, List.flatten_append]
      simp
    have HPRE := Lib.hid hpre
    have HSTEP := Lib.hid hstep
    have HES := Lib.hid hes
    have HEL := Lib.hid hel
    have HSZ := Lib.hid hsz
    have HBS := Lib.hid hb
    have H0 := Lib.hid h
    have hw1 : IntKind.u64.wrap (n : Int) = (n : Int) := by rw [IntKind.wrap_u64]; omega
    have HUI : Hid (Calls Try.prog 40 #[.pointer (some ⟨g, 0, none⟩), .int .u64 n] w (Put w base g A (.returned (.tuple #[])) (s.1 ++ uv n) s.2)) := uint_pk h n (by omega) (by have : s.1.length + ((uv n).length + sz (es.map Prod.snd).flatten) ≤ MX := hsz; unfold MX at this; omega) hb
    clear hpre hstep hes hel hsz hMX hu hb h hn
    go_enter Try.func42, Try.ntmps42
    go_wp2_with fail
    refine HUI.out.mono ?_
    rintro e w2 ⟨A2, c2, rfl, hk2, hm2⟩
    have H2 : Hid (PW w2 base g A2 c2 (run (some (uv n) :: ((es.take 0).map Prod.snd).flatten) s).1 (run (some (uv n) :: ((es.take 0).map Prod.snd).flatten) s).2) := hk2
    have HM2 := Lib.hid hm2
    clear hk2 hm2 HUI
    go_wp2_with fail
    go_loopw [26] (fun v wr => ∃ (k : Nat) (A' : Option Addr) (c' : Nat), v = .int .i64 k ∧ k ≤ n ∧ Hid (PW wr base g A' c' (run (some (uv n) :: ((es.take k).map Prod.snd).flatten) s).1 (run (some (uv n) :: ((es.take k).map Prod.snd).flatten) s).2) ∧ Hid (Moved w wr g A A')) (fun v _ => n - (intOf v).toNat)
    case atStart => exact ⟨0, A2, c2, rfl, Nat.zero_le _, H2, HM2⟩
    case round =>
      obtain ⟨k, A', c', rfl, hk, HK, HM⟩ := hrel
      by_cases hlt : k < n
      · obtain ⟨el, he⟩ : ∃ e, es[k]? = some e := ⟨_, List.getElem?_eq_getElem (by rw [HEL.out]; exact hlt)⟩
        obtain ⟨ad, rfl, hadb, hz, hcl, hee⟩ := HES.out k el he
        have hlow : Below base w wr := Moved.belowW HM.out H0.out (Nat.le_refl _) HBS.out
        have hee' := EOwn.below hee hlow
        obtain ⟨cl, ch⟩ := el
        obtain ⟨v1, v2, v3, v4, v5, v6, v7, v8, v9, v10, v11, v12, v13, v14, v15, v16, v17, v18, v19, v20, v21, hv⟩ := hee'.ex
        simp only at hv hcl hee'
        subst hv
        have HONE := Lib.hid hee'.one
        have HC0 : Hid (CellsAt wr (ad.add (k * 21)) [v1, v2, v3, v4, v5, v6, v7, v8, v9, v10, v11, v12, v13, v14, v15, v16, v17, v18, v19, v20, v21]) := hcl.below hlow (by rw [add_block]; exact hadb)
        have hkn : (k : Int) < (n : Int) := by omega
        have HEE := Lib.hid hee'
        have HE := Lib.hid he
        have hszk : (run (some (uv n) :: ((es.take k).map Prod.snd).flatten) s).1.length + sz ch ≤ MX := by
          have h1 := run_len (some (uv n) :: ((es.take k).map Prod.snd).flatten) s
          have h2 := HPRE.out (k + 1)
          rw [HSTEP.out k _ he, sz_append] at h2
          have h3 := HSZ.out
          simp only at h2
          omega
        have HSK := Lib.hid hszk
        have HLOW := Lib.hid hlow
        have hbw : base ≤ wr.heap.size := Nat.le_trans HBS.out HM.out.keep.size
        clear hszk hlow hcl hee hee' he hadb hz hlt
        go_wp2_with (refine wpList_load_ad rfl 111 (.tmp 28) rfl (ad.add (k * 21)) rfl [v1, v2, v3, v4, v5, v6, v7, v8, v9, v10, v11, v12, v13, v14, v15, v16, v17, v18, v19, v20, v21] HC0.out _ Try.underlying111 rfl 21 (by kernel_rfl) rfl ?_; refine stop ?_)
        refine go ?_
        go_wp2_with (refine wpList_store_new wr rfl 111 (.tmp 9) (.tmp 29) rfl rfl _ [v1, v2, v3, v4, v5, v6, v7, v8, v9, v10, v11, v12, v13, v14, v15, v16, v17, v18, v19, v20, v21] rfl 21 (by kernel_rfl) rfl rfl HONE.out ?_; refine stop ?_)
        obtain ⟨w3, hw3⟩ : ∃ w3, w3 = wr.alloc (.cells [v1, v2, v3, v4, v5, v6, v7, v8, v9, v10, v11, v12, v13, v14, v15, v16, v17, v18, v19, v20, v21].toArray 111) := ⟨_, rfl⟩
        have hn3 : New wr w3 := by rw [hw3]; exact (Below.refl _ _).alloc (Nat.le_refl _) _
        obtain ⟨gx, hgx⟩ : ∃ gx, gx = wr.heap.size := ⟨_, rfl⟩
        have HC3 : Hid (CellsAt w3 ⟨gx, 0, none⟩ [v1, v2, v3, v4, v5, v6, v7, v8, v9, v10, v11, v12, v13, v14, v15, v16, v17, v18, v19, v20, v21]) := fun i v hi => by
          rw [addr_at, hw3, hgx, cell_of_row _ _ i _ _ _ (heap_alloc_new wr _), List.getElem?_toArray]
          exact hi
        have H3 := Lib.hid (HK.out.new hn3)
        have HM3 := Lib.hid (HM.out.trans (Moved.of_new hn3))
        have HCL := Lib.hid (wOwn H3.out [v1, v2, v3, v4, v5, v6, v7, v8, v9, v10, v11, v12, v13, v14, v15, v16, v17, v18, v19, v20, v21] ch (HEE.out.below (Moved.belowW (Moved.of_new hn3) HK.out (Nat.le_refl _) hbw)) HSK.out (Nat.le_trans hbw hn3.size))
        rw [← hw3, ← hgx]
        clear hw3 hn3 hgx
        refine go ?_
        go_wp2_with (refine wpList_load_ad rfl 111 (.tmp 9) rfl ⟨gx, 0, none⟩ rfl [v1, v2, v3, v4, v5, v6, v7, v8, v9, v10, v11, v12, v13, v14, v15, v16, v17, v18, v19, v20, v21] HC3.out _ Try.underlying111 rfl 21 (by kernel_rfl) rfl ?_; refine stop ?_)
        refine go ?_
        go_wp2_with fail
        refine HCL.out.mono ?_
        rintro e w4 ⟨A4, c4, rfl, hk4, hm4⟩
        rw [← run_append, ← HSTEP.out k _ HE.out] at hk4
        have H4 := Lib.hid hk4
        have HM4 := Lib.hid (HM3.out.trans hm4)
        clear hk4 hm4 HCL hbw
        go_wp2_with fail
        go_roundw
        case rel => exact ⟨k + 1, A4, c4, by go_num, by omega, H4, HM4⟩
        case measure => simp [intOf]; omega
      · have hkn : k = n := by omega
        subst hkn
        have hall : es.take k = es := List.take_of_length_le (by rw [HEL.out]; exact Nat.le_refl _)
        rw [hall] at HK
        clear hlt hall
        go_wp2_with fail
        go_end0
        exact ⟨A', c', rfl, HK.out, HM.out⟩
set_option maxRecDepth 20000 in
set_option maxHeartbeats 4000000 in
theorem wlCopy {base g c : Nat} {A : Option Addr} {s : Wst} {w : World} (h : PW w base g A c s.1 s.2) (L : Option Addr) (n d most : Nat) (cs : Ch) (hE : FList ECopy 17 most base w [.slice L n d] cs) (hsz : s.1.length + sz cs ≤ MX) (hb : base ≤ w.heap.size) :
    Calls Try.prog 44 #[.pointer (some ⟨g, 0, none⟩), .slice L n d, .int .i64 most, .func (Fn.func 45) #[.pointer (some ⟨g, 0, none⟩)] #[]] w (PutC w base g A s cs) := by
  obtain ⟨L', n', d', e1, hnd, hdm, hcase⟩ := hE
  injection e1 with e1
  injection e1 with e1 e2 e3
  subst e1; subst e2; subst e3
  unfold maxLen at hdm
  rcases hcase with ⟨hlong, rfl⟩ | ⟨hn, es, hel, hes, rfl⟩
  · have hli : (most : Int) < (n : Int) := by omega
    have h2 := h.c2
    have hf := h.fr
    have H := Lib.hid h
    clear h hsz hlong
    go_enter Try.func44, Try.ntmps44
    go_wp2_with fail
    go_end0
    refine ⟨A, c, rfl, ⟨?_, H.out.own.keep (Keep.setAt _ _ _ _) fun i hi e => H.out.apart hi e, H.out.le⟩, (Moved.refl _ _ _).store _ _⟩
    rw [dk_set H.out.cells]
    rfl
  · have hli : ¬ (most : Int) < (n : Int) := by omega
    have hld : decide ((most : Int) < (n : Int)) = false := by simp; omega
    have hMX := hsz
    unfold MX at hMX
    have hu : (uv n).length ≤ 10 := uv_ten (by omega)
    have hpre : ∀ k, s.1.length + sz (some (uv n) :: ((es.take k).map Prod.snd).flatten) ≤ s.1.length + sz (some (uv n) :: (es.map Prod.snd).flatten) := by
      intro k
      have e : (es.map Prod.snd).flatten = ((es.take k).map Prod.snd).flatten ++ ((es.drop k).map Prod.snd).flatten := by
        rw [← List.flatten_append, ← List.map_append, List.take_append_drop]
      rw [e]
      show s.1.length + ((uv n).length + sz _) ≤ s.1.length + ((uv n).length + sz _)
      rw [sz_append]
      omega
    have hstep : ∀ k e, es[k]? = some e → (some (uv n) :: ((es.take (k + 1)).map Prod.snd).flatten : Ch) = (some (uv n) :: ((es.take k).map Prod.snd).flatten) ++ e.2 := by
      intro k e he
      rw [List.take_add_one, he, List.map_append, List.flatten_append]
      simp
    have HPRE := Lib.hid hpre
    have HSTEP := Lib.hid hstep
    have HES := Lib.hid hes
    have HEL := Lib.hid hel
    have HSZ := Lib.hid hsz
    have HBS := Lib.hid hb
    have H0 := Lib.hid h
    have hw1 : IntKind.u64.wrap (n : Int) = (n : Int) := by rw [IntKind.wrap_u64]; omega
    have HUI : Hid (Calls Try.prog 40 #[.pointer (some ⟨g, 0, none⟩), .int .u64 n] w (Put w base g A (.returned (.tuple #[])) (s.1 ++ uv n) s.2)) := uint_pk h n (by omega) (by have : s.1.length + ((uv n).length + sz (es.map Prod.snd).flatten) ≤ MX := hsz; unfold MX at this; omega) hb
    clear hpre hstep hes hel hsz hMX hu hb h hn
    go_enter Try.func44, Try.ntmps44
    go_wp2_with fail
    refine HUI.out.mono ?_
    rintro e w2 ⟨A2, c2, rfl, hk2, hm2⟩
    have H2 : Hid (PW w2 base g A2 c2 (run (some (uv n) :: ((es.take 0).map Prod.snd).flatten) s).1 (run (some (uv n) :: ((es.take 0).map Prod.snd).flatten) s).2) := hk2
    have HM2 := Lib.hid hm2
    clear hk2 hm2 HUI
    go_wp2_with fail
    go_loopw [26] (fun v wr => ∃ (k : Nat) (A' : Option Addr) (c' : Nat), v = .int .i64 k ∧ k ≤ n ∧ Hid (PW wr base g A' c' (run (some (uv n) :: ((es.take k).map Prod.snd).flatten) s).1 (run (some (uv n) :: ((es.take k).map Prod.snd).flatten) s).2) ∧ Hid (Moved w wr g A A')) (fun v _ => n - (intOf v).toNat)
    case atStart => exact ⟨0, A2, c2, rfl, Nat.zero_le _, H2, HM2⟩
    case round =>
      obtain ⟨k, A', c', rfl, hk, HK, HM⟩ := hrel
      by_cases hlt : k < n
      · obtain ⟨el, he⟩ : ∃ e, es[k]? = some e := ⟨_, List.getElem?_eq_getElem (by rw [HEL.out]; exact hlt)⟩
        obtain ⟨ad, rfl, hadb, hz, hcl, hee⟩ := HES.out k el he
        have hlow : Below base w wr := Moved.belowW HM.out H0.out (Nat.le_refl _) HBS.out
        have hee' := ECopy.below hee hlow
        obtain ⟨cl, ch⟩ := el
        obtain ⟨v1, v2, v3, v4, v5, v6, v7, v8, v9, v10, v11, v12, v13, v14, v15, v16, v17, hv⟩ := hee'.ex
        simp only at hv hcl hee'
        subst hv
        have HONE := Lib.hid hee'.one
        have HC0 : Hid (CellsAt wr (ad.add (k * 17)) [v1, v2, v3, v4, v5, v6, v7, v8, v9, v10, v11, v12, v13, v14, v15, v16, v17]) := hcl.below hlow (by rw [add_block]; exact hadb)
        have hkn : (k : Int) < (n : Int) := by omega
        have HEE := Lib.hid hee'
        have HE := Lib.hid he
        have hszk : (run (some (uv n) :: ((es.take k).map Prod.snd).flatten) s).1.length + sz ch ≤ MX := by
          have h1 := run_len (some (uv n) :: ((es.take k).map Prod.snd).flatten) s
          have h2 := HPRE.out (k + 1)
          rw [HSTEP.out k _ he, sz_append] at h2
          have h3 := HSZ.out
          simp only at h2
          omega
        have HSK := Lib.hid hszk
        have HLOW := Lib.hid hlow
        have hbw : base ≤ wr.heap.size := Nat.le_trans HBS.out HM.out.keep.size
        clear hszk hlow hcl hee hee' he hadb hz hlt
        go_wp2_with (refine wpList_load_ad rfl 115 (.tmp 28) rfl (ad.add (k * 17)) rfl [v1, v2, v3, v4, v5, v6, v7, v8, v9, v10, v11, v12, v13, v14, v15, v16, v17] HC0.out _ Try.underlying115 rfl 17 (by kernel_rfl) rfl ?_; refine stop ?_)
        refine go ?_
        go_wp2_with (refine wpList_store_new wr rfl 115 (.tmp 9) (.tmp 29) rfl rfl _ [v1, v2, v3, v4, v5, v6, v7, v8, v9, v10, v11, v12, v13, v14, v15, v16, v17] rfl 17 (by kernel_rfl) rfl rfl HONE.out ?_; refine stop ?_)
        obtain ⟨w3, hw3⟩ : ∃ w3, w3 = wr.alloc (.cells [v1, v2, v3, v4, v5, v6, v7, v8, v9, v10, v11, v12, v13, v14, v15, v16, v17].toArray 115) := ⟨_, rfl⟩
        have hn3 : New wr w3 := by rw [hw3]; exact (Below.refl _ _).alloc (Nat.le_refl _) _
        obtain ⟨gx, hgx⟩ : ∃ gx, gx = wr.heap.size := ⟨_, rfl⟩
        have HC3 : Hid (CellsAt w3 ⟨gx, 0, none⟩ [v1, v2, v3, v4, v5, v6, v7, v8, v9, v10, v11, v12, v13, v14, v15, v16, v17]) := fun i v hi => by
          rw [addr_at, hw3, hgx, cell_of_row _ _ i _ _ _ (heap_alloc_new wr _), List.getElem?_toArray]
          exact hi
        have H3 := Lib.hid (HK.out.new hn3)
        have HM3 := Lib.hid (HM.out.trans (Moved.of_new hn3))
        have HCL := Lib.hid (wCopy H3.out [v1, v2, v3, v4, v5, v6, v7, v8, v9, v10, v11, v12, v13, v14, v15, v16, v17] ch (HEE.out.below (Moved.belowW (Moved.of_new hn3) HK.out (Nat.le_refl _) hbw)) HSK.out (Nat.le_trans hbw hn3.size))
        rw [← hw3, ← hgx]
        clear hw3 hn3 hgx
        refine go ?_
        go_wp2_with (refine wpList_load_ad rfl 115 (.tmp 9) rfl ⟨gx, 0, none⟩ rfl [v1, v2, v3, v4, v5, v6, v7, v8, v9, v10, v11, v12, v13, v14, v15, v16, v17] HC3.out _ Try.underlying115 rfl 17 (by kernel_rfl) rfl ?_; refine stop ?_)
        refine go ?_
        go_wp2_with fail
        refine HCL.out.mono ?_
        rintro e w4 ⟨A4, c4, rfl, hk4, hm4⟩
        rw [← run_append, ← HSTEP.out k _ HE.out] at hk4
        have H4 := Lib.hid hk4
        have HM4 := Lib.hid (HM3.out.trans hm4)
        clear hk4 hm4 HCL hbw
        go_wp2_with fail
        go_roundw
        case rel => exact ⟨k + 1, A4, c4, by go_num, by omega, H4, HM4⟩
        case measure => simp [intOf]; omega
      · have hkn : k = n := by omega
        subst hkn
        have hall : es.take k = es := List.take_of_length_le (by rw [HEL.out]; exact Nat.le_refl _)
        rw [hall] at HK
        clear hlt hall
        go_wp2_with fail
        go_end0
        exact ⟨A', c', rfl, HK.out, HM.out⟩
set_option maxRecDepth 20000 in
set_option maxHeartbeats 4000000 in
theorem wlMsg {base g c : Nat} {A : Option Addr} {s : Wst} {w : World} (h : PW w base g A c s.1 s.2) (L : Option Addr) (n d most : Nat) (cs : Ch) (hE : FList EMsg 18 most base w [.slice L n d] cs) (hsz : s.1.length + sz cs ≤ MX) (hb : base ≤ w.heap.size) :
    Calls Try.prog 17 #[.pointer (some ⟨g, 0, none⟩), .slice L n d, .int .i64 most, .func (Fn.func 18) #[.pointer (some ⟨g, 0, none⟩)] #[]] w (PutC w base g A s cs) := by
  obtain ⟨L', n', d', e1, hnd, hdm, hcase⟩ := hE
  injection e1 with e1
  injection e1 with e1 e2 e3
  subst e1; subst e2; subst e3
  unfold maxLen at hdm
  rcases hcase with ⟨hlong, rfl⟩ | ⟨hn, es, hel, hes, rfl⟩
  · have hli : (most : Int) < (n : Int) := by omega
    have h2 := h.c2
    have hf := h.fr
    have H := Lib.hid h
    clear h hsz hlong
    go_enter Try.func17, Try.ntmps17
    go_wp2_with fail
    go_end0
    refine ⟨A, c, rfl, ⟨?_, H.out.own.keep (Keep.setAt _ _ _ _) fun i hi e => H.out.apart hi e, H.out.le⟩, (Moved.refl _ _ _).store _ _⟩
    rw [dk_set H.out.cells]
    rfl
  · have hli : ¬ (most : Int) < (n : Int) := by omega
    have hld : decide ((most : Int) < (n : Int)) = false := by simp; omega
    have hMX := hsz
    unfold MX at hMX
    have hu : (uv n).length ≤ 10 := uv_ten (by omega)
    have hpre : ∀ k, s.1.length + sz (some (uv n) :: ((es.take k).map Prod.snd).flatten) ≤ s.1.length + sz (some (uv n) :: (es.map Prod.snd).flatten) := by
      intro k
      have e : (es.map Prod.snd).flatten = ((es.take k).map Prod.snd).flatten ++ ((es.drop k).map Prod.snd).flatten := by
        rw [← List.flatten_append, ← List.map_append, List.take_append_drop]
      rw [e]
      show s.1.length + ((uv n).length + sz _) ≤ s.1.length + ((uv n).length + sz _)
      rw [sz_append]
      omega
    have hstep : ∀ k e, es[k]? = some e → (some (uv n) :: ((es.take (k + 1)).map Prod.snd).flatten : Ch) = (some (uv n) :: ((es.take k).map Prod.snd).flatten) ++ e.2 := by
      intro k e he
      rw [List.take_add_one, he, List.map_append, List.flatten_append]
      simp
    have HPRE := Lib.hid hpre
    have HSTEP := Lib.hid hstep
    have HES := Lib.hid hes
    have HEL := Lib.hid hel
    have HSZ := Lib.hid hsz
    have HBS := Lib.hid hb
    have H0 := Lib.hid h
    have hw1 : IntKind.u64.wrap (n : Int) = (n : Int) := by rw [IntKind.wrap_u64]; omega
    have HUI : Hid (Calls Try.prog 40 #[.pointer (some ⟨g, 0, none⟩), .int .u64 n] w (Put w base g A (.returned (.tuple #[])) (s.1 ++ uv n) s.2)) := uint_pk h n (by omega) (by have : s.1.length + ((uv n).length + sz (es.map Prod.snd).flatten) ≤ MX := hsz; unfold MX at this; omega) hb
    clear hpre hstep hes hel hsz hMX hu hb h hn
    go_enter Try.func17, Try.ntmps17
    go_wp2_with fail
    refine HUI.out.mono ?_
    rintro e w2 ⟨A2, c2, rfl, hk2, hm2⟩
    have H2 : Hid (PW w2 base g A2 c2 (run (some (uv n) :: ((es.take 0).map Prod.snd).flatten) s).1 (run (some (uv n) :: ((es.take 0).map Prod.snd).flatten) s).2) := hk2
    have HM2 := Lib.hid hm2
    clear hk2 hm2 HUI
    go_wp2_with fail
    go_loopw [26] (fun v wr => ∃ (k : Nat) (A' : Option Addr) (c' : Nat), v = .int .i64 k ∧ k ≤ n ∧ Hid (PW wr base g A' c' (run (some (uv n) :: ((es.take k).map Prod.snd).flatten) s).1 (run (some (uv n) :: ((es.take k).map Prod.snd).flatten) s).2) ∧ Hid (Moved w wr g A A')) (fun v _ => n - (intOf v).toNat)
    case atStart => exact ⟨0, A2, c2, rfl, Nat.zero_le _, H2, HM2⟩
    case round =>
      obtain ⟨k, A', c', rfl, hk, HK, HM⟩ := hrel
      by_cases hlt : k < n
      · obtain ⟨el, he⟩ : ∃ e, es[k]? = some e := ⟨_, List.getElem?_eq_getElem (by rw [HEL.out]; exact hlt)⟩
        obtain ⟨ad, rfl, hadb, hz, hcl, hee⟩ := HES.out k el he
        have hlow : Below base w wr := Moved.belowW HM.out H0.out (Nat.le_refl _) HBS.out
        have hee' := EMsg.below hee hlow
        obtain ⟨cl, ch⟩ := el
        obtain ⟨v1, v2, v3, v4, v5, v6, v7, v8, v9, v10, v11, v12, v13, v14, v15, v16, v17, v18, hv⟩ := hee'.ex
        simp only at hv hcl hee'
        subst hv
        have HONE := Lib.hid hee'.one
        have HC0 : Hid (CellsAt wr (ad.add (k * 18)) [v1, v2, v3, v4, v5, v6, v7, v8, v9, v10, v11, v12, v13, v14, v15, v16, v17, v18]) := hcl.below hlow (by rw [add_block]; exact hadb)
        have hkn : (k : Int) < (n : Int) := by omega
        have HEE := Lib.hid hee'
        have HE := Lib.hid he
        have hszk : (run (some (uv n) :: ((es.take k).map Prod.snd).flatten) s).1.length + sz ch ≤ MX := by
          have h1 := run_len (some (uv n) :: ((es.take k).map Prod.snd).flatten) s
          have h2 := HPRE.out (k + 1)
          rw [HSTEP.out k _ he, sz_append] at h2
          have h3 := HSZ.out
          simp only at h2
          omega
        have HSK := Lib.hid hszk
        have HLOW := Lib.hid hlow
        have hbw : base ≤ wr.heap.size := Nat.le_trans HBS.out HM.out.keep.size
        clear hszk hlow hcl hee hee' he hadb hz hlt
        go_wp2_with (refine wpList_load_ad rfl 71 (.tmp 28) rfl (ad.add (k * 18)) rfl [v1, v2, v3, v4, v5, v6, v7, v8, v9, v10, v11, v12, v13, v14, v15, v16, v17, v18] HC0.out _ Try.underlying71 rfl 18 (by kernel_rfl) rfl ?_; refine stop ?_)
        refine go ?_
        go_wp2_with (refine wpList_store_new wr rfl 71 (.tmp 9) (.tmp 29) rfl rfl _ [v1, v2, v3, v4, v5, v6, v7, v8, v9, v10, v11, v12, v13, v14, v15, v16, v17, v18] rfl 18 (by kernel_rfl) rfl rfl HONE.out ?_; refine stop ?_)
        obtain ⟨w3, hw3⟩ : ∃ w3, w3 = wr.alloc (.cells [v1, v2, v3, v4, v5, v6, v7, v8, v9, v10, v11, v12, v13, v14, v15, v16, v17, v18].toArray 71) := ⟨_, rfl⟩
        have hn3 : New wr w3 := by rw [hw3]; exact (Below.refl _ _).alloc (Nat.le_refl _) _
        obtain ⟨gx, hgx⟩ : ∃ gx, gx = wr.heap.size := ⟨_, rfl⟩
        have HC3 : Hid (CellsAt w3 ⟨gx, 0, none⟩ [v1, v2, v3, v4, v5, v6, v7, v8, v9, v10, v11, v12, v13, v14, v15, v16, v17, v18]) := fun i v hi => by
          rw [addr_at, hw3, hgx, cell_of_row _ _ i _ _ _ (heap_alloc_new wr _), List.getElem?_toArray]
          exact hi
        have H3 := Lib.hid (HK.out.new hn3)
        have HM3 := Lib.hid (HM.out.trans (Moved.of_new hn3))
        have HCL := Lib.hid (wMsg H3.out [v1, v2, v3, v4, v5, v6, v7, v8, v9, v10, v11, v12, v13, v14, v15, v16, v17, v18] ch (HEE.out.below (Moved.belowW (Moved.of_new hn3) HK.out (Nat.le_refl _) hbw)) HSK.out (Nat.le_trans hbw hn3.size))
        rw [← hw3, ← hgx]
        clear hw3 hn3 hgx
        refine go ?_
        go_wp2_with (refine wpList_load_ad rfl 71 (.tmp 9) rfl ⟨gx, 0, none⟩ rfl [v1, v2, v3, v4, v5, v6, v7, v8, v9, v10, v11, v12, v13, v14, v15, v16, v17, v18] HC3.out _ Try.underlying71 rfl 18 (by kernel_rfl) rfl ?_; refine stop ?_)
        refine go ?_
        go_wp2_with fail
        refine HCL.out.mono ?_
        rintro e w4 ⟨A4, c4, rfl, hk4, hm4⟩
        rw [← run_append, ← HSTEP.out k _ HE.out] at hk4
        have H4 := Lib.hid hk4
        have HM4 := Lib.hid (HM3.out.trans hm4)
        clear hk4 hm4 HCL hbw
        go_wp2_with fail
        go_roundw
        case rel => exact ⟨k + 1, A4, c4, by go_num, by omega, H4, HM4⟩
        case measure => simp [intOf]; omega
      · have hkn : k = n := by omega
        subst hkn
        have hall : es.take k = es := List.take_of_length_le (by rw [HEL.out]; exact Nat.le_refl _)
        rw [hall] at HK
        clear hlt hall
        go_wp2_with fail
        go_end0
        exact ⟨A', c', rfl, HK.out, HM.out⟩
end Go.Proofs.Ytagocmbcbbhehaa
