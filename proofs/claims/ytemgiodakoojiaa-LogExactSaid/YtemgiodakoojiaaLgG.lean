/- journal.Open of a disk that is on: the walk. -/
import Derived.Test.YtemgiodakoojiaaLgF
namespace Go.Proofs.Ytemgiodakoojiaa
open Go.RowKit
open Go.Proofs.Ytemgiodakoojiaa.Frm
open Go.Proofs.Ytemgiodakoojiaa.Jr
theorem open_end {O O1 : Nat → Prop} {w0 w1 w : World} {g dg c en : Nat} {A : Option Addr} {l : List UInt8} {s : Nat} {tr : Bool} {k : Int} {snap : List UInt8} {rs : List (List UInt8)} (hfr : Keep O w0 w1) (hup : ∀ i, w0.heap.size ≤ i → O i) (hO : ∀ i, O1 i → O i) (h : LogAt O1 w1 w g dg A c ⟨l, s, false, tr, k⟩ snap rs) (ha : At l en snap rs) (hen : l.length ≤ en) :
    Opened O w0 dg l s tr k (.returned (.tuple #[.pointer (some ⟨g, 0, none⟩), .int .i64 0])) w := by
  have hp := ha.all hen
  have hle := ha.le
  have h2 : (parts l).2.2 = l.length := by rw [hp]; exact Nat.le_antisymm hle hen
  refine .inr ⟨.inr h2, g, A, c, rfl, ?_⟩
  unfold opened_
  rw [if_neg (by omega), hp]
  exact h.mono (fun i _ => hO i) hfr hup
/-- the end is cut away -/
def CutOff (O : Nat → Prop) (w0 : World) (g dg : Nat) (l : List UInt8) (s : Nat) (tr : Bool) (k : Int) (e : Ending) (w' : World) : Prop :=
  (e = .returned (.int .i64 7) ∧ Opened O w0 dg l s tr k (.returned (.tuple #[.pointer none, .int .i64 7])) w') ∨ (e = .returned (.int .i64 0) ∧ Opened O w0 dg l s tr k (.returned (.tuple #[.pointer (some ⟨g, 0, none⟩), .int .i64 0])) w')
theorem open_cut {O O1 : Nat → Prop} {w0 w1 w : World} {g dg c en : Nat} {A : Option Addr} {l : List UInt8} {s : Nat} {tr : Bool} {k : Int} {snap : List UInt8} {rs : List (List UInt8)} (hfr : Keep O w0 w1) (hup : ∀ i, w0.heap.size ≤ i → O i) (hO : ∀ i, O1 i → O i) (h : LogAt O1 w1 w g dg A c ⟨l, s, false, tr, k⟩ snap rs) (hp : parts l = (snap, rs, en)) (hen : en < l.length) :
    Calls Try.prog 19 #[.pointer (some ⟨dg, 0, none⟩), .int .i64 en] w (CutOff O w0 g dg l s tr k) := by
  have h2 : (parts l).2.2 = en := by rw [hp]
  have hng : ¬ ((en : Int) < 0 ∨ (l.length : Int) < (en : Int)) := by omega
  cases tr with
  | true =>
    refine (cut_dk h.a en 7 (St.crash ⟨l, s, false, true, k⟩ k) ?_).mono ?_
    · unfold St.cut
      rw [if_neg Bool.false_ne_true, if_neg hng, if_pos rfl]
    · intro e w2 hd
      obtain ⟨A2, c2, rfl, k2⟩ := h.toDiskAt.did hd
      exact .inl ⟨rfl, .inl ⟨rfl, by omega, rfl, A2, c2, k2.mono (fun i _ => hO i) hfr hup⟩⟩
  | false =>
    refine (cut_dk h.a en 0 ⟨l.take en, en, false, false, k⟩ ?_).mono ?_
    · unfold St.cut
      rw [if_neg Bool.false_ne_true, if_neg hng, if_neg Bool.false_ne_true]
      rfl
    · intro e w2 hd
      obtain ⟨A2, c2, rfl, k2⟩ := h.did hd
      refine .inr ⟨rfl, .inr ⟨.inl rfl, g, A2, c2, rfl, ?_⟩⟩
      unfold opened_
      rw [if_pos (by omega), hp]
      exact k2.mono (fun i _ => hO i) hfr hup
set_option maxHeartbeats 4000000 in
theorem open_on {O : Nat → Prop} {w0 w : World} {dg c : Nat} {A : Option Addr} {l : List UInt8} {s : Nat} {tr : Bool} {k : Int} (h : DiskAt O w0 w dg A c ⟨l, s, false, tr, k⟩) (hmax : l.length ≤ 5000000) :
    Calls Try.prog 11 #[.pointer (some ⟨dg, 0, none⟩)] w (Opened O w0 dg l s tr k) := by
  have HR := Lib.hid (read_dk h.a l 0 rfl (by show l.length ≤ _; omega))
  obtain ⟨n, hn⟩ : ∃ n, n = l.length := ⟨_, rfl⟩
  rw [← hn] at HR hmax
  have HN := Lib.hid hn
  have H := Lib.hid h
  have HAlt : Hid (∀ i, blk A = some i → i < w.heap.size) := fun i hi => (OB.lt h.a.own hi).2
  have HDlt : Hid (dg < w.heap.size) := h.a.lt
  clear h hn
  go_enter Try.func11, Try.ntmps11
  go_wp2_with fail
  refine HR.out.mono ?_
  rintro e w1 ⟨B, d, rfl, hob, hw1⟩
  have hd := hob.le
  have hdM := hd.2
  have hdn := hd.1
  unfold maxLen at hdM
  have hrb := hob.rb
  -- the log, in blocks apart from the bytes that were read
  obtain ⟨O1, hO1⟩ : ∃ O1 : Nat → Prop, O1 = fun i => O i ∧ ¬ blk B = some i := ⟨_, rfl⟩
  have hB1 : ∀ i, blk B = some i → w.heap.size ≤ i ∧ i < w1.heap.size := fun i hi => OB.lt hob hi
  have hd1 : DiskAt O1 w1 w1 dg A c ⟨l, s, false, tr, k⟩ := by
    refine ⟨H.out.a.new hw1, Keep.refl _ _, ?_, ?_, ?_⟩
    · intro i hi
      rw [hO1]
      exact ⟨H.out.upw i (Nat.le_trans hw1.size hi), fun hb => by have := (hB1 i hb).2; omega⟩
    · rw [hO1]
      exact ⟨H.out.od, fun hb => by have := (hB1 _ hb).1; have : dg < w.heap.size := HDlt.out; omega⟩
    · intro i hi
      rw [hO1]
      exact ⟨H.out.oA i hi, fun hb => by have := (hB1 _ hb).1; have := HAlt.out i hi; omega⟩
  have HL0 := Lib.hid (log_new hd1)
  have HO := Lib.hid hO1
  have HRB := Lib.hid hrb
  have HB1 := Lib.hid hB1
  have HFR : Hid (Keep O w0 w1) := H.out.fr.trans (.of_new hw1)
  have HUP := Lib.hid H.out.up
  have HSZ : Hid (w.heap.size ≤ w1.heap.size) := hw1.size
  clear hd1 hO1 hrb hB1 hob hw1 hd H HR
  have hnd : (n : Int) ≤ (d : Int) := by omega
  go_wp2_with fail
  go_loopw [7] (fun v wr => ∃ (en : Nat) (snap : List UInt8) (rs : List (List UInt8)), v = .int .i64 en ∧ en ≤ n ∧ Hid (At l en snap rs) ∧ Hid (LogAt O1 w1 wr w1.heap.size dg A c ⟨l, s, false, tr, k⟩ snap rs)) (fun v _ => n - (intOf v).toNat)
  case atStart => exact ⟨0, [], [], rfl, Nat.zero_le _, At.zero l, HL0⟩
  case round =>
    obtain ⟨en, snap, rs, rfl, hen, HA, HL⟩ := hrel
    have hOO : ∀ i, O1 i → O i := fun i hi => by rw [HO.out] at hi; exact hi.1
    have HBR : Hid (RB wr B l) := HRB.out.kept HL.out.fr (fun ad e => by rw [HO.out]; exact fun h => h.2 (by rw [e]; rfl))
    have HOO := Lib.hid hOO
    clear hOO
    by_cases hlt : en < n
    · obtain ⟨X, hX⟩ : ∃ X : Option Addr, B.map (·.add en) = X := ⟨_, rfl⟩
      have hrX : RB wr X (l.drop en) := by rw [← hX]; exact HBR.out.drop en
      have HF := Lib.hid (first_any X (n - en) (d - en) (l.drop en) wr (by rw [List.length_drop, ← HN.out]) hrX (by omega) (by unfold maxLen; omega))
      have henn : (en : Int) ≤ (n : Int) := by omega
      have hend : (en : Int) ≤ (d : Int) := by omega
      have hltI : (en : Int) < (n : Int) := by omega
      have HNX := Lib.hid (At.next HA.out)
      clear hrX hlt
      have HLL : Hid (en < l.length) := by have : n = l.length := HN.out; show en < l.length; omega
      rcases HNX.out with ⟨t, ht⟩ | ⟨h0, t, ht⟩ | ⟨hp, hno⟩
      · have HT := Lib.hid ht
        have HTL : Hid (en + (9 + t.length) ≤ n) := by
          have h1 := markOf_le (markOf_some.2 ht)
          rw [List.length_drop] at h1
          have : n = l.length := HN.out
          have := HLL.out
          show _ ≤ _
          omega
        have HMANY : Hid (rs.length ≤ 1000000) := by have := HA.out.many; show _ ≤ _; omega
        clear ht
        go_wp2_with fail
        refine HF.out.mono ?_
        intro e w2 h
        unfold Firsted at h
        rw [HT.out] at h
        obtain ⟨P, pc, rfl, hoP, hw2⟩ := h
        rw [List.length_cons, Nat.add_comm t.length 1] at hoP ⊢
        obtain ⟨pg, rfl⟩ : ∃ pg, P = some ⟨pg, 0, none⟩ := by
          rcases Own.form hoP with ⟨_, h, _⟩ | ⟨pg, h, _⟩
          · omega
          · exact ⟨pg, h⟩
        have hL2 := HL.out.also hw2
        have hAlt : ∀ i, blk A = some i → i < wr.heap.size := fun i hi => (OB.lt HL.out.a.own hi).2
        have HFD := Lib.hid (found_rec hL2 pg pc t ((en : Int) == 0) hoP.le.1 hoP.le.2 (Kept.own hoP hAlt HL.out.upw) HMANY.out)
        have HAN := Lib.hid (HA.out.rec_ HT.out)
        have hTL : (en : Int) + (9 + (t.length : Int)) ≤ (n : Int) := by have := HTL.out; omega
        clear HNX HF hAlt hL2 hoP hw2
        go_wp2_with fail
        refine HFD.out.mono ?_
        rintro e w3 ⟨rfl, hl3⟩
        have HL3 := Lib.hid hl3
        clear hl3 HFD
        go_wp2_with fail
        go_roundw
        case rel => exact ⟨en + (9 + t.length), snap, rs ++ [t], by go_num, HTL.out, HAN.out, HL3.out⟩
        case measure => simp [intOf]; omega
      · subst h0
        rw [List.drop_zero] at ht
        have HT := Lib.hid ht
        have HF := Lib.hid (first_any B n d l wr HN.out HBR.out hdn (by unfold maxLen; omega))
        have HTL : Hid (0 + (9 + t.length) ≤ n) := by
          have h1 := markOf_le (markOf_some.2 ht)
          have : n = l.length := HN.out
          have := HLL.out
          show _ ≤ _
          omega
        clear ht
        clear hX
        go_wp2_with fail
        refine HF.out.mono ?_
        intro e w2 h
        unfold Firsted at h
        rw [HT.out] at h
        obtain ⟨P, pc, rfl, hoP, hw2⟩ := h
        rw [List.length_cons, Nat.add_comm t.length 1] at hoP ⊢
        obtain ⟨pg, rfl⟩ : ∃ pg, P = some ⟨pg, 0, none⟩ := by
          rcases Own.form hoP with ⟨_, h, _⟩ | ⟨pg, h, _⟩
          · omega
          · exact ⟨pg, h⟩
        have hL2 := HL.out.also hw2
        have hAlt : ∀ i, blk A = some i → i < wr.heap.size := fun i hi => (OB.lt HL.out.a.own hi).2
        have HFD := Lib.hid (found_snap hL2 pg pc t hoP.le.1 hoP.le.2 (Kept.own hoP hAlt HL.out.upw))
        have HAN := Lib.hid (HA.out.snap_ (by rw [List.drop_zero]; exact HT.out))
        have hTL : (9 + (t.length : Int)) ≤ (n : Int) := by have := HTL.out; omega
        clear HNX HF hAlt hL2 hoP hw2
        go_wp2_with fail
        refine HFD.out.mono ?_
        rintro e w3 ⟨rfl, hl3⟩
        have HL3 := Lib.hid hl3
        clear hl3 HFD
        go_wp2_with fail
        go_roundw
        case rel => exact ⟨0 + (9 + t.length), t, rs, by go_num, HTL.out, HAN.out, HL3.out⟩
        case measure => simp [intOf]; omega
      · have HP := Lib.hid hp
        rcases hno with hno | hno | ⟨x, t, hno, hx82, hx83⟩
        · have HT := Lib.hid hno
          clear hno hp HNX
          go_wp2_with fail
          refine HF.out.mono ?_
          intro e w2 h
          unfold Firsted at h
          rw [HT.out] at h
          obtain ⟨rfl, hw2⟩ := h
          have HCUT := Lib.hid (open_cut HFR.out HUP.out HOO.out (HL.out.also hw2) HP.out HLL.out)
          clear hw2 HF
          go_wp2_with fail
          refine HCUT.out.mono ?_
          rintro e w3 (⟨rfl, hq⟩ | ⟨rfl, hq⟩)
          · have HQ := Lib.hid hq
            clear hq
            go_wp2_with fail
            go_ret2
            exact HQ.out
          · have HQ := Lib.hid hq
            clear hq
            go_wp2_with fail
            go_ret2
            exact HQ.out
        · have HT := Lib.hid hno
          clear hno hp HNX
          go_wp2_with fail
          refine HF.out.mono ?_
          intro e w2 h
          unfold Firsted at h
          rw [HT.out] at h
          obtain ⟨P, pc, rfl, hoP, hw2⟩ := h
          have HFD := Lib.hid (found_nil w1.heap.size P pc ((en : Int) == 0) w2)
          have HCUT := Lib.hid (open_cut HFR.out HUP.out HOO.out (HL.out.also hw2) HP.out HLL.out)
          clear hw2 HF hoP
          go_wp2_with fail
          refine HFD.out.mono ?_
          rintro e w3 ⟨rfl, rfl⟩
          clear HFD
          go_wp2_with fail
          refine HCUT.out.mono ?_
          rintro e w3 (⟨rfl, hq⟩ | ⟨rfl, hq⟩)
          · have HQ := Lib.hid hq
            clear hq
            go_wp2_with fail
            go_ret2
            exact HQ.out
          · have HQ := Lib.hid hq
            clear hq
            go_wp2_with fail
            go_ret2
            exact HQ.out
        · have HT := Lib.hid hno
          clear hno hp HNX
          have HX8 := Lib.hid (And.intro hx82 hx83)
          clear hx82 hx83
          go_wp2_with fail
          refine HF.out.mono ?_
          intro e w2 h
          unfold Firsted at h
          rw [HT.out] at h
          obtain ⟨P, pc, rfl, hoP, hw2⟩ := h
          rw [List.length_cons, Nat.add_comm t.length 1] at hoP ⊢
          obtain ⟨pg, rfl⟩ : ∃ pg, P = some ⟨pg, 0, none⟩ := by
            rcases Own.form hoP with ⟨_, h, _⟩ | ⟨pg, h, _⟩
            · omega
            · exact ⟨pg, h⟩
          have hc0 : w2.cell? ⟨pg, 0, none⟩ = some (.int .u8 x.toNat) := by
            obtain ⟨ad, e, hc⟩ := hoP.rb 0 x rfl
            cases e
            exact hc
          have HFD := Lib.hid (found_other w1.heap.size pg t.length pc x.toNat ((en : Int) == 0) w2 hc0 HX8.out.1 (HX8.out.2.imp id (fun h => by simpa using h)))
          clear hc0
          have HCUT := Lib.hid (open_cut HFR.out HUP.out HOO.out (HL.out.also hw2) HP.out HLL.out)
          clear hw2 HF hoP
          go_wp2_with fail
          refine HFD.out.mono ?_
          rintro e w3 ⟨rfl, rfl⟩
          clear HFD
          go_wp2_with fail
          refine HCUT.out.mono ?_
          rintro e w3 (⟨rfl, hq⟩ | ⟨rfl, hq⟩)
          · have HQ := Lib.hid hq
            clear hq
            go_wp2_with fail
            go_ret2
            exact HQ.out
          · have HQ := Lib.hid hq
            clear hq
            go_wp2_with fail
            go_ret2
            exact HQ.out
    · have hnl : ¬ (en : Int) < (n : Int) := by omega
      have HE := Lib.hid (open_end HFR.out HUP.out HOO.out HL.out HA.out (by have : n = l.length := HN.out; omega))
      clear hlt
      go_wp2_with fail
      go_ret2
      exact HE.out
end Go.Proofs.Ytemgiodakoojiaa
