/- hanselaw07.same: what it tells of a log and the page's disk that are alike. -/
import Derived.Test.YtemgiodakoojiaaRfC
namespace Go.Proofs.Ytemgiodakoojiaa
set_option linter.unusedVariables false
open Go.RowKit
open Go.Proofs.Ytemgiodakoojiaa.Frm
open Go.Proofs.Ytemgiodakoojiaa.Jr
theorem recs_all (b : List UInt8) : ∀ t ∈ (recs b).1, t.length ≤ 131072 := by
  generalize hn : b.length = n
  induction n using Nat.strongRecOn generalizing b with
  | _ n ih =>
    cases h : markOf 82 b with
    | none => rw [recs_none h]; intro t ht; cases ht
    | some p =>
      have hs := markOf_le h
      have hp := (first_some (markOf_some.1 h)).2.1
      rw [List.length_cons] at hp
      rw [recs_some h]
      intro t ht
      rcases List.mem_cons.1 ht with rfl | ht
      · omega
      · exact ih (b.drop (9 + p.length)).length (by simp only [List.length_drop]; omega) _ rfl t ht
theorem parts_small (b : List UInt8) : (parts b).1.length ≤ 131072 ∧ 9 * (parts b).2.1.length ≤ b.length ∧ (∀ t ∈ (parts b).2.1, t.length ≤ 131072) ∧ (parts b).2.2 ≤ b.length := by
  cases h : markOf 83 b with
  | none =>
    rw [parts_none h]
    have := recs_le b
    exact ⟨Nat.zero_le _, by show 9 * (recs b).1.length ≤ _; omega, recs_all b, by show (recs b).2 ≤ _; omega⟩
  | some t =>
    have hs := markOf_le h
    have hp := (first_some (markOf_some.1 h)).2.1
    rw [List.length_cons] at hp
    rw [parts_some h]
    have := recs_le (b.drop (9 + t.length))
    rw [List.length_drop] at this
    exact ⟨by show t.length ≤ _; omega, by show 9 * (recs (b.drop (9 + t.length))).1.length ≤ _; omega, recs_all _, by show 9 + t.length + (recs (b.drop (9 + t.length))).2 ≤ _; omega⟩
set_option maxRecDepth 20000 in
set_option maxHeartbeats 4000000 in
theorem same_any {O : Nat → Prop} {w0 w : World} {g dg c k d : Nat} {A B : Option Addr} {σ ρ : St} (hl : LogAt O w0 w g dg A c σ (parts ρ.l).1 (parts ρ.l).2.1) (hr : DKr w 0 k B d ρ) (hb : ρ.l.length ≤ 5000000) :
    Calls Try.prog 30 #[.pointer (some ⟨g, 0, none⟩), .pointer (some ⟨k, 0, none⟩)] w fun e w' => e = .returned (.bool true) ∧ New w w' := by
  have hps := parts_small ρ.l
  have h0 := hr.c0
  have hle := hr.own.le
  have hrb := hr.own.rb
  obtain ⟨n, hn⟩ : ∃ n, n = ρ.l.length := ⟨_, rfl⟩
  rw [← hn] at h0 hle hb
  have HPA := Lib.hid (rparts_any B n d ρ.l w hn hrb hle.1 hle.2 hb)
  unfold Parted at HPA
  obtain ⟨snap, hsnap⟩ : ∃ snap, snap = (parts ρ.l).1 := ⟨_, rfl⟩
  obtain ⟨rs, hrs⟩ : ∃ rs, rs = (parts ρ.l).2.1 := ⟨_, rfl⟩
  obtain ⟨en, hen⟩ : ∃ en, en = (parts ρ.l).2.2 := ⟨_, rfl⟩
  rw [← hsnap, ← hrs] at hl
  rw [← hsnap, ← hrs, ← hen] at HPA
  rw [← hsnap, ← hrs] at hps
  obtain ⟨sn, hsn⟩ : ∃ sn, sn = snap.length := ⟨_, rfl⟩
  obtain ⟨rn, hrn⟩ : ∃ rn, rn = rs.length := ⟨_, rfl⟩
  have HL := Lib.hid hl
  have HSN := Lib.hid hsn
  have HRN := Lib.hid hrn
  have hsb : sn ≤ 131072 := by rw [hsn]; exact hps.1
  have hrnb : rn ≤ 600000 := by rw [hrn]; omega
  have HRB : Hid (∀ t ∈ rs, t.length ≤ 1000000) := fun t ht => by have := hps.2.2.1 t ht; omega
  rw [← hsn, ← hrn] at HPA
  clear hl hr hps hle hrb hn hsnap hrs hen hsn hrn hb
  go_enter Try.func30, Try.ntmps30
  go_wp2_with fail
  refine HPA.out.mono ?_
  rintro e w1 ⟨S, sc, R, rc, rfl, hS, hR, hw1⟩
  have H1 := Lib.hid (HL.out.also hw1)
  have HS1 := Lib.hid hS
  have HR1 := Lib.hid hR
  have HW1 := Lib.hid hw1
  have HSNP := Lib.hid (snap_any H1.out (by rw [← HSN.out]; omega))
  rw [← HSN.out] at HSNP
  clear hS hR hw1 HPA HL h0
  go_wp2_with fail
  refine HSNP.out.mono ?_
  rintro e w2 ⟨X, xc, rfl, hX, hw2⟩
  have H2 := Lib.hid (H1.out.also hw2)
  have HX2 := Lib.hid hX
  have HN12 := Lib.hid hw2
  have HRCS := Lib.hid (recs_any H2.out (by rw [← HRN.out]; omega) HRB.out)
  clear hX hw2 HSNP
  go_wp2_with fail
  refine HRCS.out.mono ?_
  rintro e w3 ⟨Y, yc, rfl, hY, hw3⟩
  rw [← HRN.out] at hY ⊢
  have HX3 := Lib.hid (HX2.out.new hw3)
  have HY3 := Lib.hid hY
  have HN13 := Lib.hid (New.trans HN12.out hw3)
  have HBY := Lib.hid (bytes_is X S sn xc sn sc snap snap w3 HSN.out HSN.out (HX3.out.rb) (HS1.out.new HN13.out) true (by rw [beq_self_eq_true]))
  have HN23 := Lib.hid hw3
  clear hY hw3 HRCS HX2
  go_wp2_with fail
  refine HBY.out.mono ?_
  rintro e w4 ⟨rfl, rfl⟩
  have HRO := Lib.hid (rows_same Y R rn yc rn rc rs w3 HRN.out HRN.out (by unfold maxLen; omega) HY3.out.rr (HR1.out.new HN13.out))
  clear HBY
  go_wp2_with fail
  refine HRO.out.mono ?_
  rintro e w4 ⟨rfl, hw4⟩
  have HN14 := Lib.hid (New.trans HN13.out hw4)
  have HX4 := Lib.hid (HX3.out.new hw4)
  have HY4 := Lib.hid (HY3.out.new hw4)
  have HSP := Lib.hid (spoil_any X sn xc w1.heap.size snap w4 HX4.out)
  clear hw4 HRO HX3 HY3
  go_wp2_with fail
  refine HSP.out.mono ?_
  rintro e w5 ⟨rfl, _, hk5, hsr5⟩
  have HN15 : Hid (New w1 w5) := Below.trans HN14.out (hk5.below HN14.out.size (fun i hi => (OB.lt HX4.out hi).1))
  obtain ⟨xs, ho, hyl, hyx⟩ := HY4.out
  have HO5 : Hid (Own w5 w2.heap.size 30 Y rn yc xs) := ho.keep hk5 (fun i hi hs => Own.apart HX4.out ho (by decide) i hs hi)
  have HE5 : Hid (∀ (j : Nat) (t : List UInt8), rs[j]? = some t → ∃ B d l', xs[j]? = some (.slice B t.length d) ∧ OBs w5 w2.heap.size B t.length d l') := fun j t ht => by
    obtain ⟨B', d', g1, g2⟩ := hyx j t ht
    obtain ⟨l', g3⟩ := hsr5 _ _ _ _ _ g2
    exact ⟨B', d', l', g1, g3⟩
  clear hk5 hsr5 ho hyl hyx HSP HX4 HY4
  go_wp2_with fail
  go_loopw [11] (fun v wr => ∃ j : Nat, v = .int .i64 j ∧ j ≤ rn ∧ Hid (New w1 wr) ∧ Hid (Own wr w2.heap.size 30 Y rn yc xs) ∧ Hid (∀ (j : Nat) (t : List UInt8), rs[j]? = some t → ∃ B d l', xs[j]? = some (.slice B t.length d) ∧ OBs wr w2.heap.size B t.length d l')) (fun v _ => rn - (intOf v).toNat)
  case atStart => exact ⟨0, rfl, Nat.zero_le _, HN15, HO5, HE5⟩
  case round =>
    obtain ⟨j, rfl, hj, HNj, HOj, HEj⟩ := hrel
    by_cases hlt : j < rn
    · obtain ⟨t, ht⟩ : ∃ t, rs[j]? = some t := ⟨_, List.getElem?_eq_getElem (by rw [← HRN.out]; exact hlt)⟩
      obtain ⟨B', d', l', hx, hob⟩ := HEj.out j t ht
      obtain ⟨yg, rfl⟩ : ∃ yg, Y = some ⟨yg, 0, none⟩ := by
        rcases Own.form HOj.out with ⟨_, h0, _⟩ | ⟨yg, h0, _⟩
        · omega
        · exact ⟨yg, h0⟩
      have hcl : wr.cell? ⟨yg, j, none⟩ = some (.slice B' t.length d') := by rw [Own.at_ HOj.out rfl hlt]; exact hx
      obtain ⟨q, hq⟩ : ∃ q, q = t.length := ⟨_, rfl⟩
      rw [← hq] at hcl hob
      have HOB := Lib.hid hob
      have HSP := Lib.hid (spoil_any B' q d' w2.heap.size l' wr hob)
      have hji : (j : Int) < (rn : Int) := by omega
      clear ht hx hob hq hlt
      go_wp2_with fail
      refine HSP.out.mono ?_
      rintro e w6 ⟨rfl, _, hk6, hsr6⟩
      have HN6 : Hid (New w1 w6) := Below.trans HNj.out (hk6.below HNj.out.size (fun i hi => Nat.le_trans HN12.out.size (OB.lt HOB.out hi).1))
      have HO6 : Hid (Own w6 w2.heap.size 30 (some ⟨yg, 0, none⟩) rn yc xs) := HOj.out.keep hk6 (fun i hi hs => Own.apart HOB.out HOj.out (by decide) i hs hi)
      have HE6 : Hid (∀ (j : Nat) (t : List UInt8), rs[j]? = some t → ∃ B d l', xs[j]? = some (.slice B t.length d) ∧ OBs w6 w2.heap.size B t.length d l') := fun j t ht => by
        obtain ⟨B', d', l', g1, g2⟩ := HEj.out j t ht
        obtain ⟨l'', g3⟩ := hsr6 _ _ _ _ _ g2
        exact ⟨B', d', l'', g1, g3⟩
      clear hk6 hsr6 HSP HOB
      go_wp2_with fail
      go_roundw
      case rel => exact ⟨j + 1, by go_num, by omega, HN6, HO6, HE6⟩
      case measure => simp [intOf]; omega
    · have hjn : ¬ (j : Int) < (rn : Int) := by omega
      have H6 := Lib.hid (H1.out.also HNj.out)
      have HRCS := Lib.hid (recs_any H6.out (by rw [← HRN.out]; omega) HRB.out)
      clear hlt
      go_wp2_with fail
      refine HRCS.out.mono ?_
      rintro e w7 ⟨Z, zc, rfl, hZ, hw7⟩
      rw [← HRN.out] at hZ ⊢
      have HRO := Lib.hid (rows_same Z R rn zc rn rc rs w7 HRN.out HRN.out (by unfold maxLen; omega) hZ.rr (HR1.out.new (New.trans HNj.out hw7)))
      have HN7 := Lib.hid (New.trans HNj.out hw7)
      clear hZ hw7 HRCS
      go_wp2_with fail
      refine HRO.out.mono ?_
      rintro e w8 ⟨rfl, hw8⟩
      have HF := Lib.hid (New.trans HW1.out (New.trans HN7.out hw8))
      clear hw8
      go_wp2_with fail
      go_ret
      exact ⟨rfl, HF.out⟩
end Go.Proofs.Ytemgiodakoojiaa
