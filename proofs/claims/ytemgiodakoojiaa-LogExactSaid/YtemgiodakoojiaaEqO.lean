/- hanselaw07.opened: what it tells of a disk and the page's that are alike. -/
import Derived.Test.YtemgiodakoojiaaEqS
namespace Go.Proofs.Ytemgiodakoojiaa
set_option linter.unusedVariables false
open Go.RowKit
open Go.Proofs.Ytemgiodakoojiaa.Frm
open Go.Proofs.Ytemgiodakoojiaa.Jr
theorem markOf_prefix {m : UInt8} {b t : List UInt8} (h : markOf m b = some t) (n : Nat) (hn : 9 + t.length ≤ n) : markOf m (b.take n) = some t :=
  markOf_some.2 (first_prefix (markOf_some.1 h) n (by rw [List.length_cons]; omega))
theorem recs_take (b : List UInt8) : recs (b.take (recs b).2) = recs b := by
  generalize hn : b.length = n
  induction n using Nat.strongRecOn generalizing b with
  | _ n ih =>
    cases h : markOf 82 b with
    | none => rw [recs_none h, List.take_zero]; rfl
    | some p =>
      have hs := markOf_le h
      have e := ih (b.drop (9 + p.length)).length (by simp only [List.length_drop]; omega) _ rfl
      have h2 : (recs b).2 = 9 + p.length + (recs (b.drop (9 + p.length))).2 := by rw [recs_some h]
      rw [recs_some (markOf_prefix h (recs b).2 (by omega)), recs_some h, List.drop_take, show 9 + p.length + (recs (b.drop (9 + p.length))).2 - (9 + p.length) = (recs (b.drop (9 + p.length))).2 from by omega, e]
theorem parts_take (b : List UInt8) : parts (b.take (parts b).2.2) = parts b := by
  cases h : markOf 83 b with
  | some t =>
    have h2 : (parts b).2.2 = 9 + t.length + (recs (b.drop (9 + t.length))).2 := by rw [parts_some h]
    rw [parts_some (markOf_prefix h (parts b).2.2 (by omega)), parts_some h, List.drop_take, show 9 + t.length + (recs (b.drop (9 + t.length))).2 - (9 + t.length) = (recs (b.drop (9 + t.length))).2 from by omega, recs_take]
  | none =>
    have h2 : (parts b).2.2 = (recs b).2 := by rw [parts_none h]
    have h83 : markOf 83 (b.take (recs b).2) = none := by
      cases h82 : markOf 82 b with
      | none => rw [recs_none h82, List.take_zero]; exact markOf_none rfl
      | some p =>
        have h3 : (recs b).2 = 9 + p.length + (recs (b.drop (9 + p.length))).2 := by rw [recs_some h82]
        exact markOf_other (first_prefix (markOf_some.1 h82) _ (by rw [List.length_cons]; omega)) (by decide)
    rw [h2, parts_none h83, parts_none h, recs_take]
theorem opened_is (b : List UInt8) (s : Nat) (tr : Bool) : ∃ b' s', (∀ k, opened_ b s tr k = ⟨b', s', false, tr, k⟩) ∧ parts b' = ((parts b).1, (parts b).2.1, b'.length) ∧ b'.length ≤ b.length := by
  have hle := (parts_small b).2.2.2
  by_cases h : (parts b).2.2 < b.length
  · refine ⟨b.take (parts b).2.2, (parts b).2.2, fun k => by unfold opened_; rw [if_pos h], ?_, List.length_take_le' _ _⟩
    rw [parts_take, List.length_take, Nat.min_eq_left hle]
  · refine ⟨b, s, fun k => by unfold opened_; rw [if_neg h], ?_, Nat.le_refl _⟩
    have : (parts b).2.2 = b.length := by omega
    rw [← this]
theorem ropen_is (b : List UInt8) (s : Nat) (tr : Bool) (y : Int) (h : tr = false ∨ (parts b).2.2 = b.length) : ropen_ ⟨b, s, false, tr, y⟩ = (0, opened_ b s tr y) := by
  have hle := (parts_small b).2.2.2
  show (if (parts b).2.2 < b.length then St.rcut ⟨b, s, false, tr, y⟩ (parts b).2.2 else (0, ⟨b, s, false, tr, y⟩)) = _
  unfold opened_
  by_cases hlt : (parts b).2.2 < b.length
  · rw [if_pos hlt, if_pos hlt]
    have htr : tr = false := by
      rcases h with h | h
      · exact h
      · omega
    subst htr
    unfold St.rcut
    rw [if_neg Bool.false_ne_true, if_neg (by show ¬ (((parts b).2.2 : Int) < 0 ∨ (b.length : Int) < (parts b).2.2); omega), if_neg Bool.false_ne_true]
    rfl
  · rw [if_neg hlt, if_neg hlt]
theorem ropen_no (b : List UInt8) (s : Nat) (y : Int) (h : (parts b).2.2 < b.length) : ropen_ ⟨b, s, false, true, y⟩ = (7, St.rcrash ⟨b, s, false, true, y⟩ y) := by
  show (if (parts b).2.2 < b.length then St.rcut ⟨b, s, false, true, y⟩ (parts b).2.2 else (0, ⟨b, s, false, true, y⟩)) = _
  rw [if_pos h]
  unfold St.rcut
  rw [if_neg Bool.false_ne_true, if_neg (by show ¬ (((parts b).2.2 : Int) < 0 ∨ (b.length : Int) < (parts b).2.2); omega), if_pos rfl]
theorem crash_both (b : List UInt8) (s : Nat) (tr : Bool) (x y z : Int) : ∃ b', St.crash ⟨b, s, false, tr, x⟩ z = ⟨b', s, true, false, 0⟩ ∧ St.rcrash ⟨b, s, false, tr, y⟩ z = ⟨b', s, true, false, y⟩ ∧ b'.length ≤ b.length :=
  ⟨b.take (St.left ⟨b, s, false, tr, x⟩ z), rfl, rfl, List.length_take_le' _ _⟩
theorem start_both (b : List UInt8) (s : Nat) (off tr : Bool) : ∃ s', ∀ x, St.start ⟨b, s, off, tr, x⟩ = ⟨b, s', false, tr, x⟩ := by
  cases off
  · exact ⟨s, fun x => rfl⟩
  · exact ⟨b.length, fun x => rfl⟩
/-- a log and the page's disk, alike, all of it a journal -/
def Alike (w0 w : World) (gj dg k m : Nat) : Prop := ∃ (F G : Nat → Prop) (A : Option Addr) (c : Nat) (B : Option Addr) (d : Nat) (b : List UInt8) (s : Nat) (tr : Bool) (x y : Int),
  LogB F w0 w gj dg A c ⟨b, s, false, tr, x⟩ (parts b).1 (parts b).2.1 ∧ RefB G w0 w k B d ⟨b, s, false, tr, y⟩ ∧ (∀ i, F i → ¬ G i) ∧ (tr = true → x = y) ∧ (parts b).2.2 = b.length ∧ b.length ≤ m
/-- a disk and the page's, alike -/
def Twins (F G : Nat → Prop) (w0 w : World) (dg k : Nat) (off tr : Bool) (m : Nat) : Prop := ∃ (A : Option Addr) (c : Nat) (B : Option Addr) (d : Nat) (b : List UInt8) (s : Nat) (x y : Int),
  DiskB F w0 w dg A c ⟨b, s, off, tr, x⟩ ∧ RefB G w0 w k B d ⟨b, s, off, tr, y⟩ ∧ (∀ i, F i → ¬ G i) ∧ (tr = true → x = y) ∧ (off = true → tr = false) ∧ b.length ≤ m
def Reopened (w0 : World) (dg k m : Nat) (e : Ending) (w' : World) : Prop := ∃ gj, e = .returned (.pointer (some ⟨gj, 0, none⟩)) ∧ Alike w0 w' gj dg k m
theorem DiskB.beside2 {F G F' : Nat → Prop} {w0 w w' : World} {k d : Nat} {B : Option Addr} {ρ : St} (h : RefB G w0 w k B d ρ) (hd : ∀ i, F i → ¬ G i) (hg : Grew F F' w w') (hn : New w0 w') : RefB G w0 w' k B d ρ ∧ ∀ i, F' i → ¬ G i := h.beside hd hg hn
set_option maxRecDepth 20000 in
set_option maxHeartbeats 4000000 in
theorem opened_any {F G : Nat → Prop} {w0 w : World} {dg k m : Nat} {off tr : Bool} (h : Twins F G w0 w dg k off tr m) (hm : m ≤ 5000000) :
    Calls Try.prog 29 #[.pointer (some ⟨dg, 0, none⟩), .pointer (some ⟨k, 0, none⟩)] w (Reopened w0 dg k m) := by
  have H := Lib.hid h
  clear h
  go_enter Try.func29, Try.ntmps29
  go_wp2_with fail
  go_loopw [5] (fun v wr => ∃ (j : Nat) (F G : Nat → Prop) (off tr : Bool), v = .int .i64 j ∧ j ≤ 1 ∧ Hid (Twins F G w0 wr dg k off tr m) ∧ Hid (j = 1 → tr = false)) (fun v _ => 3 - (intOf v).toNat)
  case atStart => exact ⟨0, F, G, off, tr, rfl, by omega, H, fun h => by omega⟩
  case round =>
    obtain ⟨j, F, G, off, tr, rfl, hj, HT, HJ⟩ := hrel
    obtain ⟨A, c, B, d, b, s, x, y, h1, h2, h3, h4, h5, h6⟩ := HT.out
    obtain ⟨s1, hs1⟩ := start_both b s off tr
    have HSA := Lib.hid (start_at h1.disk.a ⟨b, s1, false, tr, x⟩ (hs1 x))
    have HSR : Hid (∀ (w' : World) (B' : Option Addr) (d' : Nat), DKr w' 0 k B' d' ⟨b, s, off, tr, y⟩ → Calls Try.prog 50 #[.pointer (some ⟨k, 0, none⟩)] w' (DidR w' 0 k B' (.returned (.tuple #[])) ⟨b, s1, false, tr, y⟩)) := fun w' B' d' h => by rw [← hs1 y]; exact start_dr h
    have H1 := Lib.hid h1
    have H2 := Lib.hid h2
    have H3 := Lib.hid h3
    have H4 := Lib.hid h4
    have HBM := Lib.hid h6
    clear h1 h2 h3 h4 h5 h6 hs1 HT
    go_wp2_with fail
    refine HSA.out.mono ?_
    intro e w1 hd
    obtain ⟨A1, c1, rfl, k1⟩ := H1.out.disk.did hd
    obtain ⟨h1b, hg1⟩ := DiskB.step H1.out k1
    obtain ⟨F1, hF1⟩ : ∃ F1, F1 = After F wr w1 := ⟨_, rfl⟩
    rw [← hF1] at h1b hg1
    obtain ⟨h2b, hd1⟩ := H2.out.beside H3.out hg1 h1b.new
    have HSR1 := Lib.hid (HSR.out _ _ _ h2b.a)
    have H1b := Lib.hid h1b
    have H2b := Lib.hid h2b
    have H3b := Lib.hid hd1
    clear hd k1 h1b hg1 hF1 h2b hd1 HSA HSR H1 H2 H3
    go_wp2_with fail
    refine HSR1.out.mono ?_
    intro e w2 hd
    obtain ⟨B2, d2, rfl, h2c, hg2⟩ := H2b.out.did hd
    obtain ⟨G2, hG2⟩ : ∃ G2, G2 = After G w1 w2 := ⟨_, rfl⟩
    rw [← hG2] at h2c hg2
    obtain ⟨h1c, hd2⟩ := H1b.out.beside (fun i hi hs => H3b.out i hs hi) hg2 h2c.new
    have HOP := Lib.hid (open_on h1c.disk (by have := HBM.out; omega))
    have H1c := Lib.hid h1c
    have H2c := Lib.hid h2c
    have H3c := Lib.hid hd2
    clear hd h2c hg2 hG2 h1c hd2 HSR1 H1b H2b H3b
    go_wp2_with fail
    refine HOP.out.mono ?_
    rintro e w3 (⟨htr, hlt, rfl, A3, c3, k3⟩ | ⟨hor, gj, A3, c3, rfl, k3⟩)
    · subst htr
      have hxy := H4.out rfl
      subst hxy
      have hj0 : j = 0 := by
        rcases Nat.lt_or_ge j 1 with h | h
        · omega
        · have := HJ.out (by omega); cases this
      subst hj0
      obtain ⟨b', e1, e2, hb'⟩ := crash_both b s1 true x x x
      rw [e1] at k3
      obtain ⟨h1d, hg3⟩ := DiskB.step H1c.out k3
      obtain ⟨F3, hF3⟩ : ∃ F3, F3 = After F1 w2 w3 := ⟨_, rfl⟩
      rw [← hF3] at h1d hg3
      obtain ⟨h2d, hd3⟩ := H2c.out.beside (fun i hi hs => H3c.out i hs hi) hg3 h1d.new
      have HRO := Lib.hid (ropen h2d.a (by have := HBM.out; show b.length ≤ _; omega) 7 ⟨b', s1, true, false, x⟩ (by rw [ropen_no b s1 x hlt, e2]))
      have H1d := Lib.hid h1d
      have H2d := Lib.hid h2d
      have H3d := Lib.hid hd3
      have HB' : Hid (b'.length ≤ m) := Nat.le_trans hb' HBM.out
      clear k3 hlt h1d hg3 hF3 h2d hd3 e1 e2 hb' HOP H1c H2c H3c
      go_wp2_with fail
      refine HRO.out.mono ?_
      intro e w4 hd
      obtain ⟨B4, d4, rfl, h2e, hg4⟩ := H2d.out.did hd
      obtain ⟨G4, hG4⟩ : ∃ G4, G4 = After G2 w3 w4 := ⟨_, rfl⟩
      rw [← hG4] at h2e hg4
      obtain ⟨h1e, hd4⟩ := H1d.out.beside (fun i hi hs => H3d.out i hs hi) hg4 h2e.new
      have HTW : Hid (Twins F3 G4 w0 w4 dg k true false m) := ⟨A3, c3, B4, d4, b', s1, 0, x, h1e, h2e, fun i hi hs => hd4 i hs hi, fun h => (by cases h), fun _ => rfl, HB'.out⟩
      clear hd h2e hg4 hG4 h1e hd4 HRO H1d H2d H3d
      go_wp2_with fail
      go_roundw
      case rel => exact ⟨1, F3, G4, true, false, by go_num, by omega, HTW, fun _ => rfl⟩
      case measure => simp [intOf]
    · obtain ⟨b', s', ho, hp, hle⟩ := opened_is b s1 tr
      rw [ho x] at k3
      obtain ⟨h1d, hg3⟩ := LogB.step H1c.out k3
      obtain ⟨F3, hF3⟩ : ∃ F3, F3 = After F1 w2 w3 := ⟨_, rfl⟩
      rw [← hF3] at h1d hg3
      obtain ⟨h2d, hd3⟩ := H2c.out.beside (fun i hi hs => H3c.out i hs hi) hg3 h1d.new
      have HRO := Lib.hid (ropen h2d.a (by have := HBM.out; show b.length ≤ _; omega) 0 ⟨b', s', false, tr, y⟩ (by rw [ropen_is b s1 tr y hor, ho y]))
      rw [show (parts b).1 = (parts b').1 from by rw [hp], show (parts b).2.1 = (parts b').2.1 from by rw [hp]] at h1d
      have H1d := Lib.hid h1d
      have H2d := Lib.hid h2d
      have H3d := Lib.hid hd3
      have HP' : Hid ((parts b').2.2 = b'.length) := by show _ = _; rw [hp]
      have HB' : Hid (b'.length ≤ m) := Nat.le_trans hle HBM.out
      clear k3 hor h1d hg3 hF3 h2d hd3 ho hp hle HOP H1c H2c H3c
      go_wp2_with fail
      refine HRO.out.mono ?_
      intro e w4 hd
      obtain ⟨B4, d4, rfl, h2e, hg4⟩ := H2d.out.did hd
      obtain ⟨h1e, hd4⟩ := H1d.out.beside (fun i hi hs => H3d.out i hs hi) hg4 h2e.new
      have HAL : Hid (Alike w0 w4 gj dg k m) := ⟨F3, _, A3, c3, B4, d4, b', s', tr, x, y, h1e, h2e, fun i hi hs => hd4 i hs hi, H4.out, HP'.out, HB'.out⟩
      clear hd h2e hg4 h1e hd4 HRO H1d H2d H3d
      go_wp2_with fail
      go_ret
      exact ⟨gj, rfl, HAL.out⟩
end Go.Proofs.Ytemgiodakoojiaa
