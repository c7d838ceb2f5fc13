/- hanselaw07.LogOther: the walk. -/
import Derived.Test.YtemgiodakoojiaaLgI
namespace Go.Proofs.Ytemgiodakoojiaa
open Go.RowKit
open Go.Proofs.Ytemgiodakoojiaa.Frm
open Go.Proofs.Ytemgiodakoojiaa.Jr
set_option linter.unusedVariables false
theorem rseal_yes (B : Option Addr) (m d : Nat) (p : List UInt8) (w : World) (hm : m = p.length) (hr : RB w B p) (hp : m ≤ 131072) :
    Calls Try.prog 21 #[.slice B m d] w fun e w' => ∃ A c, e = .returned (.tuple #[.slice A (8 + m) c, .int .i64 0]) ∧ OBs w' w.heap.size A (8 + m) c (seal_ p) ∧ New w w' := by
  refine (rseal_any B m d p w hm hr).mono fun e w' h => ?_
  obtain ⟨A, c, h1, h2, h3⟩ := h.yes (by omega)
  rw [← hm] at h1 h2
  exact ⟨A, c, h1, h2, h3⟩
/-- bytes behind a journal that are no record of it -/
theorem parts_other (l : List (List UInt8)) (hl : ∀ t ∈ l, t.length ≤ 4096) (y : UInt8) (o s : List UInt8) (ho : o.length ≤ 4096) (hy : y ≠ 82) (hs : l ≠ [] ∨ y ≠ 83) : parts (rows l ++ (seal_ (y :: o) ++ s)) = ([], l, (rows l).length) := by
  have hf : first (seal_ (y :: o) ++ s) = some (y :: o) := first_of_seal (short_ (by omega)) s
  have h82 : recs (seal_ (y :: o) ++ s) = ([], 0) := recs_none (markOf_other hf hy)
  have := parts_rows l (fun t ht => by have := hl t ht; omega) (seal_ (y :: o) ++ s) (hs.imp id (fun h => markOf_other hf h))
  rw [h82, List.append_nil, Nat.add_zero] at this
  exact this
set_option maxHeartbeats 4000000 in
theorem other_law (A : Option Addr) (n c : Nat) (l : List (List UInt8)) (x : Int) (B : Option Addr) (m d : Nat) (o : List UInt8) (w : World) (hn : n = l.length) (hnc : n ≤ c) (hmax : c ≤ maxLen) (hr : RR w A l) (wx : (Lit.int .u8 x).wf = true) (hm : m = o.length) (hmd : m ≤ d) (hmax' : d ≤ maxLen) (hb : RB w B o) :
    Calls Try.prog 5 #[.slice A n c, .int .u8 x, .slice B m d] w fun e w' => e = .returned (.bool true) ∧ New w w' := by
  have HN := Lib.hid hn
  have HM := Lib.hid hm
  have HR := Lib.hid hr
  have HB_ := Lib.hid hb
  clear hn hr hm hb
  unfold maxLen at hmax hmax'
  have kc := fun w C n c => Lib.run_convert_bytes_const (P := Try.prog) w _ _ C n c u_bytes u_byte
  by_cases h1 : (50 : Int) < (n : Int)
  · skip
    go_enter Try.func5, Try.ntmps5
    go_wp2_with fail
    go_ret
    exact ⟨rfl, New.refl _⟩
  have d1 : decide ((50 : Int) < (n : Int)) = false := by simpa using h1
  by_cases h2 : (4096 : Int) < (m : Int)
  · skip
    go_enter Try.func5, Try.ntmps5
    go_wp2_with fail
    go_ret
    exact ⟨rfl, New.refl _⟩
  have d2 : decide ((4096 : Int) < (m : Int)) = false := by simpa using h2
  by_cases h3 : x = 82
  · subst h3
    go_enter Try.func5, Try.ntmps5
    go_wp2_with fail
    go_ret
    exact ⟨rfl, New.refl _⟩
  have d3 : (x == 82) = false := by simpa using h3
  have hb : 0 ≤ x ∧ x < 256 := by
    simp [Lit.wf, IntKind.min, IntKind.max, IntKind.signed, IntKind.bits] at wx
    omega
  obtain ⟨y, rfl⟩ : ∃ y : UInt8, x = (y.toNat : Int) := ⟨UInt8.ofNat x.toNat, by simp; omega⟩
  clear hb wx
  go_enter Try.func5, Try.ntmps5
  go_wp2_with fail
  refine (disk_new w).mono ?_
  rintro e w1 ⟨dg, rfl, hd1⟩
  go_wp2_with fail
  refine (open_log hd1 (Nat.zero_le _) parts_nil).mono ?_
  rintro e w2 ⟨g, A2, c2, rfl, h2⟩
  clear hd1
  have H2 : Hid (∃ A' c', LogAt (Since w) w w2 g dg A' c' ⟨rows (l.take 0), 0, false, false, 0⟩ [] (l.take 0)) := ⟨A2, c2, h2⟩
  clear h2
  go_wp2_with fail
  go_loopw [10] (fun v wr => ∃ j : Nat, v = .int .i64 j ∧ j ≤ n ∧ Hid (∃ A' c', LogAt (Since w) w wr g dg A' c' ⟨rows (l.take j), 0, false, false, 0⟩ [] (l.take j)) ∧ Hid (∀ t ∈ l.take j, t.length ≤ 4096)) (fun v _ => n - (intOf v).toNat)
  case atStart => exact ⟨0, rfl, Nat.zero_le _, H2, fun t ht => by simp at ht⟩
  case round =>
    obtain ⟨j, rfl, hj, HL, HB⟩ := hrel
    obtain ⟨A3, c3, h3⟩ := HL.out
    by_cases hlt : j < n
    · obtain ⟨t, ht⟩ : ∃ t, l[j]? = some t := ⟨_, List.getElem?_eq_getElem (by rw [← HN.out]; exact hlt)⟩
      have hnew := h3.fr.since
      obtain ⟨ad, C, dc, rfl, hcB, hBd, hdm, hbB⟩ := (HR.out.new hnew) j t ht
      obtain ⟨q, hq⟩ : ∃ q, q = t.length := ⟨_, rfl⟩
      rw [← hq] at hcB
      have hji : (j : Int) < (n : Int) := by omega
      have HT := Lib.hid ht
      have HQ := Lib.hid hq
      have H3 := Lib.hid h3
      have HNW := Lib.hid hnew
      by_cases hbig : (4096 : Int) < (q : Int)
      · clear hlt ht hq h3 hnew hbB hBd hdm
        go_wp2_with fail
        go_ret
        exact ⟨rfl, HNW.out⟩
      · have htl : t.length ≤ 4096 := by omega
        have hrl := rows_bound (l.take j) HB.out
        rw [List.length_take] at hrl
        have HAP := Lib.hid (lg_append h3 C q dc t hq hbB (by omega) (by omega) (by rw [List.length_take]; omega))
        have htk : l.take (j + 1) = l.take j ++ [t] := by rw [List.take_add_one, ht]; rfl
        have HTK := Lib.hid htk
        have HB4 : Hid (∀ t ∈ l.take (j + 1), t.length ≤ 4096) := by
          intro y hy
          rw [htk] at hy
          rcases List.mem_append.1 hy with hy | hy
          · exact HB.out y hy
          · rw [List.mem_singleton.1 hy]; exact htl
        clear hlt ht hq h3 hnew hbB hBd hdm htl hrl htk
        go_wp2_with fail
        refine HAP.out.mono ?_
        rintro e w4 ⟨A4, c4, rfl, h4⟩
        have H4 : Hid (∃ A' c', LogAt (Since w) w w4 g dg A' c' ⟨rows (l.take (j + 1)), 0, false, false, 0⟩ [] (l.take (j + 1))) := ⟨A4, c4, by rw [HTK.out, rows_snoc]; exact h4⟩
        clear h4
        go_wp2_with fail
        go_roundw
        case rel => exact ⟨j + 1, by go_num, by omega, H4, HB4⟩
        case measure => simp [intOf]; omega
    · have hjn : j = n := by omega
      subst hjn
      have hall : l.take j = l := List.take_of_length_le (by rw [← HN.out]; exact Nat.le_refl _)
      rw [hall] at h3 HB
      have hrl := rows_bound l HB.out
      obtain ⟨b, hb⟩ : ∃ b, b = rows l := ⟨_, rfl⟩
      rw [← hb] at h3 hrl
      have HBL : Hid (b.length ≤ 205250) := by show _ ≤ _; have : j = l.length := HN.out; omega
      have HNL : ¬ (j : Int) < (j : Int) := by omega
      have H3 := Lib.hid h3
      have HBB := Lib.hid hb
      clear hlt h3 hall hrl hb HL
      by_cases h4 : j = 0 ∧ (y.toNat : Int) = 83
      · obtain ⟨h4, h5⟩ := h4
        have dj : ((j : Int) == 0) = true := by rw [h4]; rfl
        have dy : ((y.toNat : Int) == 83) = true := by rw [h5]; rfl
        clear h4 h5
        go_wp2_with fail
        refine (wakes7_any _).mono ?_
        rintro e w15 ⟨rfl, hw15⟩
        have HF := Lib.hid (New.trans H3.out.fr.since hw15)
        clear hw15
        go_wp2_with fail
        go_ret
        exact ⟨rfl, HF.out⟩
      have HPT : Hid (∀ s, parts (b ++ (seal_ (y :: o) ++ s)) = ([], l, b.length)) := by
        have hy82 : y ≠ 82 := fun h => h3 (by rw [h]; rfl)
        intro s
        have hb : b = rows l := HBB.out
        rw [hb]
        refine parts_other l HB.out y o s (by have : m = o.length := HM.out; omega) hy82 ?_
        by_cases hl : l = []
        · refine .inr fun h => h4 ⟨by have := HN.out; rw [hl] at this; exact this, by rw [h]; rfl⟩
        · exact .inl hl
      have HRD := Lib.hid (read_dk H3.out.a b 0 rfl (by have := HBL.out; show b.length ≤ _; omega))
      by_cases hj0 : (j : Int) = 0
      · have dj : ((j : Int) == 0) = true := by simpa using hj0
        have dy : ((y.toNat : Int) == 83) = false := by
          have : ¬ (y.toNat : Int) = 83 := fun h => h4 ⟨by omega, h⟩
          simpa using this
        clear hj0 h4
        go_wp2_with fail
        refine HRD.out.mono ?_
        rintro e w4 ⟨B4, d4, rfl, ho4, hw4⟩
        have H4 := Lib.hid (H3.out.also hw4)
        have HSZ4 : Hid (wr.heap.size ≤ w4.heap.size) := hw4.size
        have HLT := Lib.hid H3.out.toDiskAt.lt
        obtain ⟨q, hq⟩ : ∃ q, q = b.length := ⟨_, rfl⟩
        rw [← hq] at ho4 ⊢
        have HQ := Lib.hid hq
        have HO4 := Lib.hid ho4
        have hqb : q ≤ 205250 := by rw [hq]; exact HBL.out
        have hal : New w4 (w4.alloc (.cells ([y].map bv).toArray 5)) := (Below.refl _ _).alloc (Nat.le_refl _) _
        have hlit : OBs (w4.alloc (.cells ([y].map bv).toArray 5)) w4.heap.size (some ⟨w4.heap.size, 0, none⟩) 1 1 [y] := OBs.lit (heap_alloc_new w4 _) (Nat.le_refl _) (by simp [maxLen])
        have hr1 := HB_.out.new (New.trans H4.out.fr.since hal)
        clear hw4 ho4 hq HRD
        go_wp2_with (at_builtin; refine wpList_append_OB _ rfl (.tmp 76) (.tmp 77) _ rfl w4.heap.size _ u_bytes i_byte _ 1 1 [y] rfl hlit B m d o rfl HM.out hr1 (by omega) hal.size ?_; intro P pc w5 ho5 hg5 _; refine stop ?_)
        have hn5 : New w4 w5 := Below.trans hal (below_blk hlit hg5 hal.size)
        have hlen : 1 + m = (y :: o).length := by rw [List.length_cons, ← HM.out]; omega
        have HS5 := Lib.hid (rseal_yes P (1 + m) pc (y :: o) w5 hlen (OB.rb ho5) (by omega))
        have HN5 := Lib.hid hn5
        have HLE := Lib.hid hlen
        clear ho5 hg5 hlit hal hr1 hlen hn5
        refine go ?_
        go_wp2_with fail
        refine HS5.out.mono ?_
        rintro e w6 ⟨F, fc, rfl, hf, hw6⟩
        have HN6 := Lib.hid (New.trans HN5.out hw6)
        have HSZ46 : Hid (wr.heap.size ≤ w6.heap.size) := Nat.le_trans HSZ4.out HN6.out.size
        have HSA : Hid (∀ L, w6.heap.size ≤ (w6.alloc L).heap.size) := fun L => (World.size_alloc w6 L) ▸ Nat.le_succ _
        have HF6 := Lib.hid hf
        clear hf hw6 HS5 HN5
        obtain ⟨gl, hgl⟩ : ∃ gl : List UInt8, gl = [82, 108, 97, 116, 101] := ⟨_, rfl⟩
        have hal : New w6 (w6.alloc (.cells ([82, 108, 97, 116, 101].map bv).toArray 5 (5, 6))) := (Below.refl _ _).alloc (Nat.le_refl _) _
        have r6 := RB.lit w6 [82, 108, 97, 116, 101] 5 (5, 6) rfl
        have HS6 := Lib.hid (rseal_yes _ 5 5 [82, 108, 97, 116, 101] _ rfl r6 (by decide))
        have HAL := Lib.hid hal
        have HGL : Hid (5 = gl.length) := by show _ = _; rw [hgl]; rfl
        have HGE := Lib.hid hgl
        clear hal r6 hgl
        go_wp2_with fail
        refine HS6.out.mono ?_
        rintro e w7 ⟨G, gc, rfl, hg, hw7⟩
        rw [← HGE.out] at hg
        have HN7 := Lib.hid (New.trans HN6.out (New.trans HAL.out hw7))
        have HF7 := Lib.hid (HF6.out.new (New.trans HAL.out hw7))
        have HG7 := Lib.hid hg
        have H7 := Lib.hid (H4.out.also HN7.out)
        have HO7 := Lib.hid (HO4.out.new HN7.out)
        clear hg hw7 HS6 HF6 HAL HN6
        obtain ⟨f, hf⟩ : ∃ f, f = seal_ (y :: o) := ⟨_, rfl⟩
        obtain ⟨gs, hgs⟩ : ∃ gs, gs = seal_ gl := ⟨_, rfl⟩
        have hfl : f.length = 8 + (1 + m) := by rw [hf, seal_length, ← HLE.out]
        have hgsl : gs.length = 13 := by rw [hgs, seal_length, ← HGL.out]
        have HPT' := Lib.hid (HPT.out gs)
        rw [← hf] at HF7 HPT'
        rw [← hgs] at HG7
        have HFL := Lib.hid hfl
        have HGSL := Lib.hid hgsl
        clear hf hgs hfl hgsl
        have HAP := Lib.hid (append_dk H7.out.toDiskAt.rebase.a F (8 + (1 + m)) fc f HFL.out.symm HF7.out.rb (by have : q = b.length := HQ.out; show b.length + _ ≤ _; omega) (Nat.zero_le _) 0 ⟨b ++ f, 0, false, false, 0⟩ rfl)
        go_wp2_with fail
        refine HAP.out.mono ?_
        intro e w8 hd
        obtain ⟨A8, c8, rfl, h8⟩ := H7.out.toDiskAt.rebase.did hd
        have hg8 : RB w8 G gs := HG7.out.rb.kept (Foot.keep h8.fr HLT.out.1 HLT.out.2) (fun ad e hs => by
          have := (OB.lt HG7.out (k := ad.block) (by rw [e]; rfl)).1
          have := HN7.out.size
          have hs' : ad.block < wr.heap.size := hs
          have h46 : wr.heap.size ≤ w6.heap.size := HSZ46.out
          have h66 := HSA.out (.cells (gl.map bv).toArray 5 (5, 6))
          omega)
        have HAP2 := Lib.hid (append_dk h8.a G 13 gc gs HGSL.out.symm hg8 (by have : q = b.length := HQ.out; have := HFL.out; show (b ++ f).length + _ ≤ _; rw [List.length_append]; omega) (Nat.zero_le _) 0 ⟨b ++ f ++ gs, 0, false, false, 0⟩ rfl)
        have H8 := Lib.hid h8
        clear hd h8 hg8 HAP
        go_wp2_with fail
        refine HAP2.out.mono ?_
        intro e w9 hd
        obtain ⟨A9, c9, rfl, h9⟩ := H8.out.did hd
        rw [List.append_assoc] at h9
        have hfull : b.length < (b ++ (f ++ gs)).length := by have := HGSL.out; rw [List.length_append, List.length_append]; omega
        have hop := open_short h9 (by have := HFL.out; have := HGSL.out; have : q = b.length := HQ.out; rw [List.length_append, List.length_append]; omega) HPT'.out hfull
        rw [List.take_left' rfl] at hop
        have HOP := Lib.hid hop
        clear hd h9 hop hfull HAP2 H8
        go_wp2_with fail
        refine HOP.out.mono ?_
        rintro e w10 ⟨g10, A10, c10, rfl, h10⟩
        have hk10 := Foot.keep h10.fr HLT.out.1 HLT.out.2
        have HO10 := Lib.hid (HO7.out.keep hk10 (fun i hi hs => by have := (OB.lt HO7.out hi).1; have : i < wr.heap.size := hs; omega))
        have H10 := Lib.hid (LogAt.back H7.out.toDiskAt h10)
        have HRD := Lib.hid (read_dk H10.out.a b 0 rfl (by have : q = b.length := HQ.out; show b.length ≤ _; omega))
        have hbq : b.length = q := HQ.out.symm
        rw [hbq] at HRD
        clear h10 hk10 hbq HOP
        go_wp2_with fail
        refine HRD.out.mono ?_
        rintro e w11 ⟨B11, d11, rfl, ho11, hw11⟩
        have H11 := Lib.hid (H10.out.also hw11)
        have HBY := Lib.hid (bytes_is B11 B4 q d11 q d4 b b w11 HQ.out HQ.out (OB.rb ho11) (HO10.out.new hw11).rb true (by rw [beq_self_eq_true]))
        clear ho11 hw11 HRD
        go_wp2_with fail
        refine HBY.out.mono ?_
        rintro e w12 ⟨rfl, rfl⟩
        have hrc := recs_any H11.out (by have : j = l.length := HN.out; omega) (fun t ht => by have := HB.out t ht; omega)
        have HRC := Lib.hid hrc
        clear hrc
        go_wp2_with fail
        refine HRC.out.mono ?_
        rintro e w12 ⟨R12, rc12, rfl, hR12, hw12⟩
        rw [← HN.out] at hR12 ⊢
        have H12 := Lib.hid (H11.out.also hw12)
        have HROW := Lib.hid (rows_same R12 A j rc12 j c l w12 HN.out HN.out (by unfold maxLen; omega) hR12.rr (HR.out.new H12.out.fr.since))
        clear hR12 hw12 HRC
        go_wp2_with fail
        refine HROW.out.mono ?_
        rintro e w13 ⟨rfl, hw13⟩
        have H13 := Lib.hid (H12.out.also hw13)
        have HSN := Lib.hid (snap_any H13.out (Nat.zero_le _))
        clear hw13 HROW
        go_wp2_with fail
        refine HSN.out.mono ?_
        rintro e w14 ⟨S14, sc14, rfl, ho14, hw14⟩
        have H14 := Lib.hid (H13.out.also hw14)
        have HSY : Hid (Calls Try.prog 20 #[.pointer (some ⟨dg, 0, none⟩)] w14 fun e w' => e = .returned (.int .i64 q) ∧ w14 = w') := by
          have := synced_dk H14.out.a
          rw [HQ.out]
          exact this
        clear ho14 hw14
        go_wp2_with fail
        refine HSY.out.mono ?_
        rintro e w15 ⟨rfl, rfl⟩
        go_wp2_with fail
        refine (wakes7_any _).mono ?_
        rintro e w16 ⟨rfl, hw16⟩
        have HF := Lib.hid (New.trans H14.out.fr.since hw16)
        clear hw16
        go_wp2_with fail
        go_ret
        exact ⟨rfl, HF.out⟩
      · have dj : ((j : Int) == 0) = false := by simpa using hj0
        clear h4
        go_wp2_with fail
        refine HRD.out.mono ?_
        rintro e w4 ⟨B4, d4, rfl, ho4, hw4⟩
        have H4 := Lib.hid (H3.out.also hw4)
        have HSZ4 : Hid (wr.heap.size ≤ w4.heap.size) := hw4.size
        have HLT := Lib.hid H3.out.toDiskAt.lt
        obtain ⟨q, hq⟩ : ∃ q, q = b.length := ⟨_, rfl⟩
        rw [← hq] at ho4 ⊢
        have HQ := Lib.hid hq
        have HO4 := Lib.hid ho4
        have hqb : q ≤ 205250 := by rw [hq]; exact HBL.out
        have hal : New w4 (w4.alloc (.cells ([y].map bv).toArray 5)) := (Below.refl _ _).alloc (Nat.le_refl _) _
        have hlit : OBs (w4.alloc (.cells ([y].map bv).toArray 5)) w4.heap.size (some ⟨w4.heap.size, 0, none⟩) 1 1 [y] := OBs.lit (heap_alloc_new w4 _) (Nat.le_refl _) (by simp [maxLen])
        have hr1 := HB_.out.new (New.trans H4.out.fr.since hal)
        clear hw4 ho4 hq HRD
        go_wp2_with (at_builtin; refine wpList_append_OB _ rfl (.tmp 76) (.tmp 77) _ rfl w4.heap.size _ u_bytes i_byte _ 1 1 [y] rfl hlit B m d o rfl HM.out hr1 (by omega) hal.size ?_; intro P pc w5 ho5 hg5 _; refine stop ?_)
        have hn5 : New w4 w5 := Below.trans hal (below_blk hlit hg5 hal.size)
        have hlen : 1 + m = (y :: o).length := by rw [List.length_cons, ← HM.out]; omega
        have HS5 := Lib.hid (rseal_yes P (1 + m) pc (y :: o) w5 hlen (OB.rb ho5) (by omega))
        have HN5 := Lib.hid hn5
        have HLE := Lib.hid hlen
        clear ho5 hg5 hlit hal hr1 hlen hn5
        refine go ?_
        go_wp2_with fail
        refine HS5.out.mono ?_
        rintro e w6 ⟨F, fc, rfl, hf, hw6⟩
        have HN6 := Lib.hid (New.trans HN5.out hw6)
        have HSZ46 : Hid (wr.heap.size ≤ w6.heap.size) := Nat.le_trans HSZ4.out HN6.out.size
        have HSA : Hid (∀ L, w6.heap.size ≤ (w6.alloc L).heap.size) := fun L => (World.size_alloc w6 L) ▸ Nat.le_succ _
        have HF6 := Lib.hid hf
        clear hf hw6 HS5 HN5
        obtain ⟨gl, hgl⟩ : ∃ gl : List UInt8, gl = [82, 108, 97, 116, 101] := ⟨_, rfl⟩
        have hal : New w6 (w6.alloc (.cells ([82, 108, 97, 116, 101].map bv).toArray 5 (5, 6))) := (Below.refl _ _).alloc (Nat.le_refl _) _
        have r6 := RB.lit w6 [82, 108, 97, 116, 101] 5 (5, 6) rfl
        have HS6 := Lib.hid (rseal_yes _ 5 5 [82, 108, 97, 116, 101] _ rfl r6 (by decide))
        have HAL := Lib.hid hal
        have HGL : Hid (5 = gl.length) := by show _ = _; rw [hgl]; rfl
        have HGE := Lib.hid hgl
        clear hal r6 hgl
        go_wp2_with fail
        refine HS6.out.mono ?_
        rintro e w7 ⟨G, gc, rfl, hg, hw7⟩
        rw [← HGE.out] at hg
        have HN7 := Lib.hid (New.trans HN6.out (New.trans HAL.out hw7))
        have HF7 := Lib.hid (HF6.out.new (New.trans HAL.out hw7))
        have HG7 := Lib.hid hg
        have H7 := Lib.hid (H4.out.also HN7.out)
        have HO7 := Lib.hid (HO4.out.new HN7.out)
        clear hg hw7 HS6 HF6 HAL HN6
        obtain ⟨f, hf⟩ : ∃ f, f = seal_ (y :: o) := ⟨_, rfl⟩
        obtain ⟨gs, hgs⟩ : ∃ gs, gs = seal_ gl := ⟨_, rfl⟩
        have hfl : f.length = 8 + (1 + m) := by rw [hf, seal_length, ← HLE.out]
        have hgsl : gs.length = 13 := by rw [hgs, seal_length, ← HGL.out]
        have HPT' := Lib.hid (HPT.out gs)
        rw [← hf] at HF7 HPT'
        rw [← hgs] at HG7
        have HFL := Lib.hid hfl
        have HGSL := Lib.hid hgsl
        clear hf hgs hfl hgsl
        have HAP := Lib.hid (append_dk H7.out.toDiskAt.rebase.a F (8 + (1 + m)) fc f HFL.out.symm HF7.out.rb (by have : q = b.length := HQ.out; show b.length + _ ≤ _; omega) (Nat.zero_le _) 0 ⟨b ++ f, 0, false, false, 0⟩ rfl)
        go_wp2_with fail
        refine HAP.out.mono ?_
        intro e w8 hd
        obtain ⟨A8, c8, rfl, h8⟩ := H7.out.toDiskAt.rebase.did hd
        have hg8 : RB w8 G gs := HG7.out.rb.kept (Foot.keep h8.fr HLT.out.1 HLT.out.2) (fun ad e hs => by
          have := (OB.lt HG7.out (k := ad.block) (by rw [e]; rfl)).1
          have := HN7.out.size
          have hs' : ad.block < wr.heap.size := hs
          have h46 : wr.heap.size ≤ w6.heap.size := HSZ46.out
          have h66 := HSA.out (.cells (gl.map bv).toArray 5 (5, 6))
          omega)
        have HAP2 := Lib.hid (append_dk h8.a G 13 gc gs HGSL.out.symm hg8 (by have : q = b.length := HQ.out; have := HFL.out; show (b ++ f).length + _ ≤ _; rw [List.length_append]; omega) (Nat.zero_le _) 0 ⟨b ++ f ++ gs, 0, false, false, 0⟩ rfl)
        have H8 := Lib.hid h8
        clear hd h8 hg8 HAP
        go_wp2_with fail
        refine HAP2.out.mono ?_
        intro e w9 hd
        obtain ⟨A9, c9, rfl, h9⟩ := H8.out.did hd
        rw [List.append_assoc] at h9
        have hfull : b.length < (b ++ (f ++ gs)).length := by have := HGSL.out; rw [List.length_append, List.length_append]; omega
        have hop := open_short h9 (by have := HFL.out; have := HGSL.out; have : q = b.length := HQ.out; rw [List.length_append, List.length_append]; omega) HPT'.out hfull
        rw [List.take_left' rfl] at hop
        have HOP := Lib.hid hop
        clear hd h9 hop hfull HAP2 H8
        go_wp2_with fail
        refine HOP.out.mono ?_
        rintro e w10 ⟨g10, A10, c10, rfl, h10⟩
        have hk10 := Foot.keep h10.fr HLT.out.1 HLT.out.2
        have HO10 := Lib.hid (HO7.out.keep hk10 (fun i hi hs => by have := (OB.lt HO7.out hi).1; have : i < wr.heap.size := hs; omega))
        have H10 := Lib.hid (LogAt.back H7.out.toDiskAt h10)
        have HRD := Lib.hid (read_dk H10.out.a b 0 rfl (by have : q = b.length := HQ.out; show b.length ≤ _; omega))
        have hbq : b.length = q := HQ.out.symm
        rw [hbq] at HRD
        clear h10 hk10 hbq HOP
        go_wp2_with fail
        refine HRD.out.mono ?_
        rintro e w11 ⟨B11, d11, rfl, ho11, hw11⟩
        have H11 := Lib.hid (H10.out.also hw11)
        have HBY := Lib.hid (bytes_is B11 B4 q d11 q d4 b b w11 HQ.out HQ.out (OB.rb ho11) (HO10.out.new hw11).rb true (by rw [beq_self_eq_true]))
        clear ho11 hw11 HRD
        go_wp2_with fail
        refine HBY.out.mono ?_
        rintro e w12 ⟨rfl, rfl⟩
        have hrc := recs_any H11.out (by have : j = l.length := HN.out; omega) (fun t ht => by have := HB.out t ht; omega)
        have HRC := Lib.hid hrc
        clear hrc
        go_wp2_with fail
        refine HRC.out.mono ?_
        rintro e w12 ⟨R12, rc12, rfl, hR12, hw12⟩
        rw [← HN.out] at hR12 ⊢
        have H12 := Lib.hid (H11.out.also hw12)
        have HROW := Lib.hid (rows_same R12 A j rc12 j c l w12 HN.out HN.out (by unfold maxLen; omega) hR12.rr (HR.out.new H12.out.fr.since))
        clear hR12 hw12 HRC
        go_wp2_with fail
        refine HROW.out.mono ?_
        rintro e w13 ⟨rfl, hw13⟩
        have H13 := Lib.hid (H12.out.also hw13)
        have HSN := Lib.hid (snap_any H13.out (Nat.zero_le _))
        clear hw13 HROW
        go_wp2_with fail
        refine HSN.out.mono ?_
        rintro e w14 ⟨S14, sc14, rfl, ho14, hw14⟩
        have H14 := Lib.hid (H13.out.also hw14)
        have HSY : Hid (Calls Try.prog 20 #[.pointer (some ⟨dg, 0, none⟩)] w14 fun e w' => e = .returned (.int .i64 q) ∧ w14 = w') := by
          have := synced_dk H14.out.a
          rw [HQ.out]
          exact this
        clear ho14 hw14
        go_wp2_with fail
        refine HSY.out.mono ?_
        rintro e w15 ⟨rfl, rfl⟩
        go_wp2_with fail
        refine (wakes7_any _).mono ?_
        rintro e w16 ⟨rfl, hw16⟩
        have HF := Lib.hid (New.trans H14.out.fr.since hw16)
        clear hw16
        go_wp2_with fail
        go_ret
        exact ⟨rfl, HF.out⟩
end Go.Proofs.Ytemgiodakoojiaa
