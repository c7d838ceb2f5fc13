/- hanselaw03.PackReads: the walk. -/
import Derived.Test.YtloolhbikfdipaaRdF
namespace Go.Proofs.Ytloolhbikfdipaa
open Go.RowKit
theorem word_le (f : Ieee.Format) (a b : Nat) : f.word false (min a b) ≤ b := by
  unfold Ieee.Format.word
  rw [if_neg (by simp)]
  exact Nat.min_le_right _ _
theorem nearest_le (f : Ieee.Format) (m : Nat) (p : Int) : f.nearest false m p ≤ f.infRung := by
  unfold Ieee.Format.nearest
  split
  · unfold Ieee.Format.word
    rw [if_neg (by simp)]
    exact Nat.zero_le _
  · exact word_le _ _ _
theorem order_le (f : Ieee.Format) (hi : f.infRung < f.signWeight) (r : Nat) (hr : r ≤ f.infRung) : f.order r r = some .eq := by
  have hm : r % f.signWeight = r := Nat.mod_eq_of_lt (Nat.lt_of_le_of_lt hr hi)
  unfold Ieee.Format.order Ieee.Format.read
  simp only [hm]
  split
  · simp [Ieee.Datum.order]
  · split
    · simp [Ieee.Datum.order]
    · split
      · simp [Ieee.Datum.order]
      · omega
theorem order_self (n : Nat) : FloatKind.f64.format.order (fl n) (fl n) = some .eq := by
  refine order_le Ieee.double (by decide +kernel) _ ?_
  have h : decide ((n : Int) < 0) = false := by simp
  have e : fl n = Ieee.double.nearest (decide ((n : Int) < 0)) ((n : Int).natAbs) 0 := by
    unfold fl FloatKind.nearest FloatKind.encode FloatKind.format Ieee.Format.write
    rfl
  rw [e, h]
  exact nearest_le _ _ _
theorem RK.beside {w w' : World} {lo lo' g k c c1 p : Nat} {A A1 : Option Addr} {l L : List UInt8} {e e' : Int} (h : RKp w lo g A1 c1 l e) (hq : QK w lo' k A c L p e') (ne : k ≠ g) (hk : Keep (fun i => i = k) w w') : RKp w' lo g A1 c1 l e :=
  ⟨(hk.block g h.lt (fun e => ne e.symm)).trans h.cells, h.rb.off hq.cells no3 hk, h.low, h.le, h.cap⟩
theorem QK.beside {w w' : World} {lo lo' g k c c1 p : Nat} {A A1 : Option Addr} {l L : List UInt8} {e e' : Int} (hq : QK w lo' k A c L p e') (h : RKp w lo g A1 c1 l e) (ne : k ≠ g) (hk : Keep (fun i => i = g) w w') : QK w' lo' k A c L p e' :=
  ⟨(hk.block k hq.lt ne).trans hq.cells, hq.rb.off h.cells no2 hk, hq.le, hq.cap, hq.at_⟩
theorem RB.apart_new {w w2 w3 : World} {A B : Option Addr} {l : List UInt8} (h0 : RB w A l) (h2 : RB w2 A l) (hk : Keep (fun i => blk B = some i) w2 w3) (hB : ∀ i, blk B = some i → w.heap.size ≤ i) : RB w3 A l := by
  intro j u hu
  obtain ⟨ad, rfl, hc0⟩ := h0 j u hu
  obtain ⟨ad', e, hc2⟩ := h2 j u hu
  cases e
  refine ⟨ad, rfl, (World.cell?_of_block (hk.block _ (World.block_lt_of_cell? w2 _ hc2) fun hb => ?_)).trans hc2⟩
  have := hB _ hb
  have := World.block_lt_of_cell? w _ hc0
  omega
/-- the program's reader and the page's, alike, made since w0 -/
structure Pair (w0 w : World) (g k : Nat) (A : Option Addr) (c : Nat) (L : List UInt8) (A1 : Option Addr) (c1 : Nat) (l : List UInt8) (p : Nat) (e : Int) : Prop where
  r : RKp w w0.heap.size g A1 c1 l e
  q : QK w w0.heap.size k A c L p e
  rel : e = 0 → L.drop p = l
  ne : k ≠ g
  new : New w0 w
theorem Pair.also {w0 w w' : World} {g k c c1 p : Nat} {A A1 : Option Addr} {L l : List UInt8} {e : Int} (h : Pair w0 w g k A c L A1 c1 l p e) (hn : New w w') : Pair w0 w' g k A c L A1 c1 l p e := ⟨h.r.new hn, h.q.new hn, h.rel, h.ne, New.trans h.new hn⟩
theorem like_U {l l1 m : List UInt8} {e x : Int} {V : Nat} (h : rdU l e = (V, l1, x)) (hm : e = 0 → m = l) : ∃ l2, rdU m e = (V, l2, x) ∧ (x = 0 → l2 = l1) := by
  by_cases he : e = 0
  · rw [hm he]
    exact ⟨l1, h, fun _ => rfl⟩
  · rw [rdU_err he] at h
    cases h
    exact ⟨m, rdU_err he, fun h => absurd h he⟩
theorem like_T {l l1 m t : List UInt8} {e x : Int} (h : rdT l e = (t, l1, x)) (hm : e = 0 → m = l) : ∃ l2, rdT m e = (t, l2, x) ∧ (x = 0 → l2 = l1) := by
  by_cases he : e = 0
  · rw [hm he]
    exact ⟨l1, h, fun _ => rfl⟩
  · unfold rdT at h ⊢
    rw [rdU_err he, if_neg (by simp), if_neg (by simp), if_pos he] at h
    cases h
    rw [rdU_err he, if_neg (by simp), if_neg (by simp), if_pos he]
    exact ⟨m, rfl, fun h => absurd h he⟩
theorem like_A {l l1 m : List UInt8} {e x : Int} {o : Option (Nat × Nat)} (h : rdA l e = (o, l1, x)) (hm : e = 0 → m = l) : ∃ l2, rdA m e = (o, l2, x) ∧ (x = 0 → l2 = l1) := by
  by_cases he : e = 0
  · rw [hm he]
    exact ⟨l1, h, fun _ => rfl⟩
  · unfold rdA at h ⊢
    rw [rdU_err he] at h ⊢
    simp only [rdU_err he] at h ⊢
    rw [if_pos he] at h ⊢
    cases h
    exact ⟨m, rfl, fun h => absurd h he⟩
/-- both have read the same -/
def Same (w0 : World) (g k : Nat) (A : Option Addr) (c : Nat) (L : List UInt8) (v : Ending) (w' : World) : Prop := v = .returned (.bool true) ∧ ∃ A1 c1 l p e, Pair w0 w' g k A c L A1 c1 l p e
theorem pair_on {w0 w w1 w2 : World} {g k c c1 p : Nat} {A A1 : Option Addr} {L l l1 l2 : List UInt8} {e x : Int} (h : Pair w0 w g k A c L A1 c1 l p e) {A2 : Option Addr} {c2 : Nat} (hr : RKp w1 w0.heap.size g A2 c2 l1 x) (hk1 : Keep (fun i => i = g) w w1)
    {q : Nat} (hq : QK w2 w0.heap.size k A c L q x) (hrel : x = 0 → L.drop q = l2) (hl : x = 0 → l2 = l1) (hk2 : Keep (fun i => i = k) w1 w2) : Pair w0 w2 g k A c L A2 c2 l1 q x := by
  have hq1 := h.q.beside h.r h.ne hk1
  refine ⟨hr.beside hq1 h.ne hk2, hq, fun hx => (hrel hx).trans (hl hx), h.ne, ?_⟩
  exact Below.trans (Below.trans h.new (hk1.below h.new.size (by rintro i rfl; exact h.r.le))) (hk2.below (Nat.le_trans h.new.size hk1.size) (by rintro i rfl; exact h.q.le))
set_option maxHeartbeats 4000000 in
theorem same_any {w0 w : World} {g k c c1 p : Nat} {A A1 : Option Addr} {L l : List UInt8} {e : Int} (h : Pair w0 w g k A c L A1 c1 l p e) (y : Int) :
    Calls Try.prog 19 #[.pointer (some ⟨g, 0, none⟩), .pointer (some ⟨k, 0, none⟩), .int .i64 y] w (Same w0 g k A c L) := by
  obtain ⟨n, hq, hq5⟩ := mod5 y
  have H := Lib.hid h
  clear h
  rcases hq5 with rfl | rfl | rfl | rfl | rfl
  · skip
    obtain ⟨V, l1, x1, hu⟩ : ∃ V l1 x1, rdU l e = (V, l1, x1) := ⟨_, _, _, rfl⟩
    obtain ⟨l2, hu2, hl⟩ := like_U hu H.out.rel
    have HU := Lib.hid hu
    have HU2 := Lib.hid hu2
    have HL := Lib.hid hl
    clear hu hu2 hl
    go_enter Try.func19, Try.ntmps19
    go_wp2_with fail
    refine (kind_any y 0 hq (by omega) _).mono ?_
    rintro e1 w1 ⟨rfl, rfl⟩
    go_wp2_with fail
    refine (uint_rk H.out.r V l1 x1 HU.out).mono ?_
    rintro e2 w2 ⟨rfl, ⟨A2, c2, hr⟩, hk1⟩
    go_wp2_with fail
    refine (uint_qk (H.out.q.beside H.out.r H.out.ne hk1) V l2 x1 HU2.out).mono ?_
    rintro e3 w3 ⟨rfl, ⟨q, hq3, hrel⟩, hk2⟩
    go_wp2_with fail
    go_ret
    exact ⟨rfl, _, _, _, _, _, pair_on H.out hr hk1 hq3 (hrel) (HL.out) hk2⟩
  · skip
    obtain ⟨V, l1, x1, hu⟩ : ∃ V l1 x1, rdU l e = (V, l1, x1) := ⟨_, _, _, rfl⟩
    obtain ⟨l2, hu2, hl⟩ := like_U hu H.out.rel
    have HU := Lib.hid hu
    have HU2 := Lib.hid hu2
    have HL := Lib.hid hl
    clear hu hu2 hl
    go_enter Try.func19, Try.ntmps19
    go_wp2_with fail
    refine (kind_any y 1 hq (by omega) _).mono ?_
    rintro e1 w1 ⟨rfl, rfl⟩
    go_wp2_with fail
    refine (int_rk H.out.r V l1 x1 HU.out).mono ?_
    rintro e2 w2 ⟨rfl, ⟨A2, c2, hr⟩, hk1⟩
    go_wp2_with fail
    refine (int_qk (H.out.q.beside H.out.r H.out.ne hk1) V l2 x1 HU2.out).mono ?_
    rintro e3 w3 ⟨rfl, ⟨q, hq3, hrel⟩, hk2⟩
    go_wp2_with fail
    go_ret
    exact ⟨rfl, _, _, _, _, _, pair_on H.out hr hk1 hq3 (hrel) (HL.out) hk2⟩
  · skip
    obtain ⟨V, l1, x1, hu⟩ : ∃ V l1 x1, rdU l e = (V, l1, x1) := ⟨_, _, _, rfl⟩
    obtain ⟨l2, hu2, hl⟩ := like_U hu H.out.rel
    have HU := Lib.hid hu
    have HU2 := Lib.hid hu2
    have HL := Lib.hid hl
    clear hu hu2 hl
    go_enter Try.func19, Try.ntmps19
    go_wp2_with fail
    refine (kind_any y 2 hq (by omega) _).mono ?_
    rintro e1 w1 ⟨rfl, rfl⟩
    go_wp2_with fail
    refine (mark_rk H.out.r V l1 x1 HU.out).mono ?_
    rintro e2 w2 ⟨rfl, ⟨A2, c2, hr⟩, hk1⟩
    go_wp2_with fail
    refine (mark_qk (H.out.q.beside H.out.r H.out.ne hk1) V l2 x1 HU2.out).mono ?_
    rintro e3 w3 ⟨rfl, ⟨q, hq3, hrel⟩, hk2⟩
    go_wp2_with fail
    go_ret
    exact ⟨rfl, _, _, _, _, _, pair_on H.out hr hk1 hq3 (hrel) (fun hx => HL.out (by split at hx <;> first | exact hx | (cases hx))) hk2⟩
  · skip
    obtain ⟨t, l1, x1, hu⟩ : ∃ t l1 x1, rdT l e = (t, l1, x1) := ⟨_, _, _, rfl⟩
    obtain ⟨l2, hu2, hl⟩ := like_T hu H.out.rel
    have HU := Lib.hid hu
    have HU2 := Lib.hid hu2
    have HL := Lib.hid hl
    clear hu hu2 hl
    go_enter Try.func19, Try.ntmps19
    go_wp2_with fail
    refine (kind_any y 3 hq (by omega) _).mono ?_
    rintro e1 w1 ⟨rfl, rfl⟩
    go_wp2_with fail
    refine (textr_rk2 H.out.r t l1 x1 HU.out).mono ?_
    rintro e2 w2 ⟨B, d, rfl, ho, ⟨A2, c2, hr, hap⟩, hk1⟩
    obtain ⟨m, hm⟩ : ∃ m, m = t.length := ⟨_, rfl⟩
    rw [← hm] at ho ⊢
    have HM := Lib.hid hm
    clear hm
    go_wp2_with fail
    refine (text_qk (H.out.q.beside H.out.r H.out.ne hk1) t l2 x1 HU2.out).mono ?_
    rintro e3 w3 ⟨B3, d3, rfl, ho3, ⟨q, hq3, hrel⟩, hk2⟩
    rw [← HM.out] at ho3 ⊢
    have hB : ∀ i, blk B = some i → w.heap.size ≤ i := fun i hi => (OB.lt ho hi).1
    have ho2 : OBs w3 w.heap.size B m d t := ho.keep hk2 (by
      rintro i hi rfl
      have := hB _ hi
      have := H.out.q.lt
      omega)
    have HP := pair_on H.out hr hk1 hq3 hrel HL.out hk2
    go_wp2_with fail
    refine (bytes_is B B3 m d m d3 t t w3 HM.out HM.out ho2.rb ho3.rb true (by simp)).mono ?_
    rintro e4 w4 ⟨rfl, rfl⟩
    go_wp2_with fail
    refine (spoil_any B m d _ t w3 ho2).mono ?_
    rintro e5 w5 ⟨rfl, _, hk5, _⟩
    go_wp2_with fail
    go_ret
    refine ⟨rfl, A2, c2, l1, q, x1, ⟨⟨?_, ?_, HP.r.low, HP.r.le, HP.r.cap⟩, ⟨?_, ?_, HP.q.le, HP.q.cap, HP.q.at_⟩, HP.rel, HP.ne, ?_⟩⟩
    · exact (hk5.block _ HP.r.lt (fun hb => by have := hB _ hb; have := H.out.r.lt; omega)).trans HP.r.cells
    · by_cases hl1 : l1 = []
      · subst hl1; exact RB.nil _ _
      · exact HP.r.rb.kept hk5 fun ad e => hap hl1 ad e
    · exact (hk5.block _ HP.q.lt (fun hb => by have := hB _ hb; have := H.out.q.lt; omega)).trans HP.q.cells
    · exact RB.apart_new H.out.q.rb HP.q.rb hk5 hB
    · exact Below.trans HP.new (hk5.below HP.new.size fun i hi => Nat.le_trans H.out.new.size (hB i hi))
  · skip
    obtain ⟨o, l1, x1, hu⟩ : ∃ o l1 x1, rdA l e = (o, l1, x1) := ⟨_, _, _, rfl⟩
    obtain ⟨l2, hu2, hl⟩ := like_A hu H.out.rel
    have HU := Lib.hid hu
    have HU2 := Lib.hid hu2
    have HL := Lib.hid hl
    clear hu hu2 hl
    obtain ⟨a, b, hcx, ha, hb⟩ : ∃ a b, cx o = .complex .f64 a b ∧ FloatKind.f64.format.order a a = some .eq ∧ FloatKind.f64.format.order b b = some .eq := by
      rcases o with _ | ⟨n, k⟩
      · exact ⟨0, 0, rfl, by decide, by decide⟩
      · exact ⟨_, _, rfl, order_self n, order_self k⟩
    go_enter Try.func19, Try.ntmps19
    go_wp2_with fail
    refine (kind_any y 4 hq (by omega) _).mono ?_
    rintro e1 w1 ⟨rfl, rfl⟩
    go_wp2_with fail
    refine (amount_rk H.out.r _ l1 x1 HU.out).mono ?_
    rintro e2 w2 ⟨he2, ⟨A2, c2, hr⟩, hk1⟩
    rw [hcx] at he2
    subst he2
    go_wp2_with fail
    refine (amount_qk (H.out.q.beside H.out.r H.out.ne hk1) _ l2 x1 HU2.out).mono ?_
    rintro e3 w3 ⟨he3, ⟨q, hq3, hrel⟩, hk2⟩
    rw [hcx] at he3
    subst he3
    go_wp2_with fail
    go_ret
    exact ⟨rfl, _, _, _, _, _, pair_on H.out hr hk1 hq3 hrel HL.out hk2⟩
set_option maxHeartbeats 4000000 in
theorem reads_law (A : Option Addr) (n c : Nat) (l : List UInt8) (B : Option Addr) (m d : Nat) (ks : List Int) (w : World) (hn : n = l.length) (hnc : n ≤ c) (hcm : c ≤ maxLen) (hr : RB w A l) (hm : m = ks.length) (_ : m ≤ d) (_ : d ≤ maxLen) (hk : RI w B ks ∧ ∀ z ∈ ks, (Lit.int .i64 z).wf = true) :
    Calls Try.prog 5 #[.slice A n c, .slice B m d] w fun e w' => e = .returned (.bool true) ∧ New w w' := by
  have hki := hk.1
  have HN := Lib.hid hn
  have HM := Lib.hid hm
  clear hn hm hk
  by_cases h1 : (262144 : Int) < (n : Int)
  · go_enter Try.func5, Try.ntmps5
    go_wp2_with fail
    go_ret
    exact ⟨rfl, New.refl _⟩
  have d1 : decide ((262144 : Int) < (n : Int)) = false := by simpa using h1
  by_cases h2 : (256 : Int) < (m : Int)
  · go_enter Try.func5, Try.ntmps5
    go_wp2_with fail
    go_ret
    exact ⟨rfl, New.refl _⟩
  have d2 : decide ((256 : Int) < (m : Int)) = false := by simpa using h2
  go_enter Try.func5, Try.ntmps5
  go_wp2_with fail
  refine (twin_any A n c l w HN.out hr (by omega)).mono ?_
  rintro e w1 ⟨X, cx, rfl, ox, hw1⟩
  go_wp2_with fail
  refine (newr_rk X n cx l w1 HN.out ox.rb (by omega)).mono ?_
  rintro e w2 ⟨g, A1, c1, rfl, hrk, hw2⟩
  go_wp2_with fail
  refine (spoil_any X n cx _ l w2 (ox.new hw2)).mono ?_
  rintro e w3 ⟨rfl, _, hk3, _⟩
  have hX : ∀ i, blk X = some i → w.heap.size ≤ i ∧ i < w1.heap.size := fun i hi => OB.lt ox hi
  have hw3 : New w w3 := Below.trans (New.trans hw1 hw2) (hk3.below (New.trans hw1 hw2).size fun i hi => (hX i hi).1)
  have hrk3 : RKp w3 w.heap.size g A1 c1 l 0 := by
    refine ⟨(hk3.block g hrk.lt (fun hb => by have := hX _ hb; have := hrk.le; omega)).trans hrk.cells, hrk.rb.kept hk3 (fun ad e hb => by have := hX _ hb; have := (hrk.far ad e).2; omega), fun ad e => ⟨(hrk.low ad e).1, Nat.le_trans hw1.size (hrk.far ad e).2⟩, Nat.le_trans hw1.size hrk.le, hrk.cap⟩
  have hP : Pair w (w3.alloc (.cells #[.slice A n c, .int .i64 0, .int .i64 0] 45)) g w3.heap.size A c l A1 c1 l 0 0 := by
    have hn : New w3 (w3.alloc (.cells #[.slice A n c, .int .i64 0, .int .i64 0] 45)) := (Below.refl _ _).alloc (Nat.le_refl _) _
    refine ⟨hrk3.new hn, ⟨?_, (hr.new hw3).new hn, hw3.size, ⟨by rw [← HN.out]; exact hnc, hcm⟩, Nat.zero_le _⟩, fun _ => rfl, ?_, New.trans hw3 hn⟩
    · rw [heap_alloc_new, ← HN.out]
      rfl
    · have := hrk3.lt
      omega
  obtain ⟨k, hk⟩ : ∃ k, k = w3.heap.size := ⟨_, rfl⟩
  have HP := Lib.hid hP
  rw [← hk] at HP
  have HK := Lib.hid hk
  clear hrk hrk3 hP ox hw1 hw2 hk3 hX hk
  go_wp2_with fail
  rw [← HK.out]
  go_loopw [8] (fun i wr => ∃ (j : Nat) (A2 : Option Addr) (c2 : Nat) (l2 : List UInt8) (p : Nat) (e : Int), i = .int .i64 j ∧ j ≤ m ∧ Pair w wr g k A c l A2 c2 l2 p e) (fun i _ => m - (intOf i).toNat)
  case atStart => exact ⟨0, A1, c1, l, 0, 0, rfl, Nat.zero_le _, HP.out⟩
  case round =>
    obtain ⟨j, A2, c2, l2, p, e, rfl, hj, hP⟩ := hrel
    by_cases hlt : j < m
    · obtain ⟨y, hy⟩ : ∃ y, ks[j]? = some y := ⟨_, List.getElem?_eq_getElem (by rw [← HM.out]; exact hlt)⟩
      obtain ⟨ad, rfl, hcell⟩ := (hki.new hP.new) j y hy
      clear hy
      go_wp2_with fail
      refine (same_any hP y).mono ?_
      rintro e3 w4 ⟨rfl, A3, c3, l3, p3, x, hP3⟩
      clear hcell hP
      obtain ⟨v, hv⟩ : ∃ v : Int, (if x = 0 ∧ 0 < l3.length then 4 else x) = v := ⟨_, rfl⟩
      have hv2 : (if x = 0 ∧ p3 < l.length then 4 else x) = v := by
        rw [← hv]
        by_cases hx : x = 0
        · have := hP3.rel hx
          have e : l3.length = l.length - p3 := by rw [← this, List.length_drop]
          by_cases hp : p3 < l.length
          · rw [if_pos ⟨hx, hp⟩, if_pos ⟨hx, by omega⟩]
          · rw [if_neg (fun h => hp h.2), if_neg (fun h => hp (by have := h.2; omega))]
        · rw [if_neg (fun h => hx h.1), if_neg (fun h => hx h.1)]
      have HV := Lib.hid hv
      have HV2 := Lib.hid hv2
      clear hv hv2
      go_wp2_with fail
      refine (done_rk hP3.r v HV.out).mono ?_
      rintro e4 w5 ⟨rfl, rfl⟩
      go_wp2_with fail
      refine (done_qk hP3.q v HV2.out).mono ?_
      rintro e4 w5 ⟨rfl, hn5, _⟩
      have hP5 := hP3.also hn5
      go_wp2_with fail
      go_roundw
      case rel => exact ⟨j + 1, A3, c3, l3, p3, x, by go_num, by omega, hP5⟩
      case measure => simp [intOf]; omega
    · obtain ⟨v, hv⟩ : ∃ v : Int, (if e = 0 ∧ 0 < l2.length then 4 else e) = v := ⟨_, rfl⟩
      have hv2 : (if e = 0 ∧ p < l.length then 4 else e) = v := by
        rw [← hv]
        by_cases hx : e = 0
        · have := hP.rel hx
          have e : l2.length = l.length - p := by rw [← this, List.length_drop]
          by_cases hp : p < l.length
          · rw [if_pos ⟨hx, hp⟩, if_pos ⟨hx, by omega⟩]
          · rw [if_neg (fun h => hp h.2), if_neg (fun h => hp (by have := h.2; omega))]
        · rw [if_neg (fun h => hx h.1), if_neg (fun h => hx h.1)]
      have HV := Lib.hid hv
      have HV2 := Lib.hid hv2
      clear hv hv2
      go_wp2_with fail
      refine (done_rk hP.r v HV.out).mono ?_
      rintro e4 w5 ⟨rfl, rfl⟩
      go_wp2_with fail
      refine (done_qk hP.q v HV2.out).mono ?_
      rintro e4 w5 ⟨rfl, hn5, _⟩
      have hP5 := hP.also hn5
      go_wp2_with fail
      refine (wakes_any _).mono ?_
      rintro e9 w9 ⟨rfl, hw9⟩
      go_wp2_with fail
      go_ret
      exact ⟨rfl, New.trans hP5.new hw9⟩
end Go.Proofs.Ytloolhbikfdipaa
