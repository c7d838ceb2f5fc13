/- hanseref03.Reader.Text: what it does. -/
import Derived.Test.YtloolhbikfdipaaQkB
import Derived.StillTailTactics
namespace Go.Proofs.Ytloolhbikfdipaa
open Go.RowKit
def QGotT (w : World) (lo g : Nat) (A : Option Addr) (c : Nat) (L : List UInt8) (t l : List UInt8) (x : Int) (e : Ending) (w' : World) : Prop := ∃ B d, e = .returned (.slice B t.length d) ∧ OBs w' w.heap.size B t.length d t ∧ (∃ q, QK w' lo g A c L q x ∧ (x = 0 → L.drop q = l)) ∧ Keep (fun i => i = g) w w'
set_option maxHeartbeats 2000000 in
theorem text_qk {lo g c p : Nat} {A : Option Addr} {L : List UInt8} {e : Int} {w : World} (h : QK w lo g A c L p e) (t l' : List UInt8) (x : Int) (hx : rdT (L.drop p) e = (t, l', x)) :
    Calls Try.prog 34 #[.pointer (some ⟨g, 0, none⟩)] w (QGotT w lo g A c L t l' x) := by
  obtain ⟨V, l1, x1, h1⟩ : ∃ V l1 x1, rdU (L.drop p) e = (V, l1, x1) := ⟨_, _, _, rfl⟩
  have HC := Lib.hid (uint_qk h V l1 x1 h1)
  have hv0 := (rdU_lt h1).2.2.2
  unfold rdT at hx
  rw [h1] at hx
  simp only at hx
  have HX := Lib.hid hx
  have HV := Lib.hid hv0
  clear h h1 hx hv0
  go_enter Try.func34, Try.ntmps34
  go_wp2_with fail
  refine HC.out.mono ?_
  rintro e1 w1 ⟨rfl, ⟨q, hr, hl⟩, hk⟩
  have r0 := hr.c0
  have r1 := hr.c1
  have r2 := hr.c2
  have rf := hr.fr
  have hat := hr.at_
  have hcap := hr.cap.1
  have hmx := hr.cap.2
  unfold maxLen at hmx
  obtain ⟨n, hn⟩ : ∃ n, n = L.length := ⟨_, rfl⟩
  rw [← hn] at r0 hat hcap
  have HN := Lib.hid hn
  have HR := Lib.hid hr
  have HL := Lib.hid hl
  clear hr hl hn
  by_cases hx1 : x1 = 0
  · subst hx1
    have hll : l1.length = n - q := by rw [← HL.out rfl, List.length_drop]; have : n = L.length := HN.out; omega
    by_cases hv1 : (131072 : Int) < (V : Int)
    · go_wp2_with fail
      refine (fail_qk HR.out 5 5 rfl).mono ?_
      rintro e5 w5 ⟨rfl, hq5, hk5⟩
      go_wp2_with fail
      go_ret
      have := HX.out
      rw [if_pos (by omega)] at this
      cases this
      exact ⟨none, 0, rfl, OB.nil _ _ _, ⟨q, hq5, fun h => by cases h⟩, hk.trans hk5⟩
    have hd1 : decide ((131072 : Int) < (V : Int)) = false := by simpa using hv1
    have e1 : wrap64 (V : Int) = (V : Int) := IntWalk.wrap64_in _ ⟨by omega, by omega⟩
    have e2 : IntKind.i64.wrap ((n : Int) - (q : Int)) = (n : Int) - (q : Int) := IntWalk.i64_in _ ⟨by omega, by omega⟩
    by_cases hv2 : (n : Int) - (q : Int) < (V : Int)
    · go_wp2_with fail
      go_quiet (fail)
      go_wp2_with fail
      refine (fail_qk (HR.out.drewN _) 4 4 rfl).mono ?_
      rintro e5 w5 ⟨rfl, hq5, hk5⟩
      go_wp2_with fail
      go_ret
      have := HX.out
      rw [if_neg (by omega), if_pos (by omega)] at this
      cases this
      exact ⟨none, 0, rfl, OB.nil _ _ _, ⟨q, hq5, fun h => by cases h⟩, (hk.drewN _).trans hk5⟩
    have hd2 : decide ((n : Int) - (q : Int) < (V : Int)) = false := by simpa using hv2
    have hy : (l1.take V, l1.drop V, (0 : Int)) = (t, l', x) := by
      have := HX.out
      rw [if_neg (by omega), if_neg (by omega), if_neg (by simp)] at this
      exact this
    have HY := Lib.hid hy
    clear hy
    have e3 : IntKind.i64.wrap ((q : Int) + (V : Int)) = (q : Int) + (V : Int) := IntWalk.i64_in _ ⟨by omega, by omega⟩
    have e4 : IntKind.i64.wrap (V : Int) = (V : Int) := IntWalk.i64_in _ ⟨by omega, by omega⟩
    have hs1 : (q : Int) ≤ (q : Int) + (V : Int) := by omega
    have hs2 : (q : Int) + (V : Int) ≤ (c : Int) := by omega
    have hx0 : x = 0 := by have := HY.out; cases this; rfl
    subst hx0
    have HT : Hid (l1.take V = t) := by show _ = _; have := HY.out; cases this; rfl
    have HTL : Hid (V = t.length) := by show _ = _; rw [← HT.out, List.length_take]; omega
    have e5 : ((q : Int) + (V : Int)).toNat = q + V := by omega
    by_cases hcq : c = q
    · subst hcq
      go_wp2_with fail
      go_quiet (fail)
      obtain ⟨w2, hw2⟩ : ∃ w2 : World, w2 = w1.drewN nq := ⟨_, rfl⟩
      have b0 : w2.cell? ⟨g, 0, none⟩ = some (.slice A n c) := by rw [hw2]; exact r0
      have b1 : w2.cell? ⟨g, 1, none⟩ = some (.int .i64 c) := by rw [hw2]; exact r1
      have hq2 : Hid (QK w2 lo g A c L c 0) := by rw [hw2]; exact HR.out.drewN _
      have hk2 : Keep (fun i => i = g) w w2 := by rw [hw2]; exact hk.drewN _
      rw [← hw2]
      clear hw2 r0 r1 r2 rf hk
      go_wp2_with fail
      go_still_tail 17, (by kernel_rfl)
      obtain ⟨w3, hw3⟩ : ∃ w3 : World, w3 = w2.drew := ⟨_, rfl⟩
      change wpList _ _ _ _ _ w2.drew
      rw [← hw3]
      have hq3 : QK w3 lo g A c L c 0 := by rw [hw3]; exact hq2.out.drewN 1
      have hk3 : Keep (fun i => i = g) w w3 := by rw [hw3]; exact hk2.drew
      have hrb : RB w3 (if c = c then A else A.map (·.add c)) t := by
        have := (hq3.rb.cut c c hq3.cap.1).take V
        rw [HL.out trivial, HT.out] at this
        exact this
      rw [if_pos rfl] at hrb
      have HQ3 := Lib.hid hq3
      clear hw3 b0 b1 hq2 hk2 hq3
      go_wp2_with (at_builtin; refine wpList_append_OB _ rfl (.tmp 31) (.tmp 47) _ rfl w3.heap.size _ u_bytes i_byte none 0 0 [] rfl (OB.nil _ _ _) A V 0 t rfl HTL.out hrb (by omega) (Nat.le_refl _) ?_; intro B d w4 ho hg _; refine stop ?_)
      have ho4 : OBs w4 w3.heap.size B t.length d t := by rw [← show V = t.length from HTL.out]; simpa using ho
      have hn4 : New w3 w4 := (Below.refl _ _).grown hg (Nat.le_refl _) (by simp [blk])
      have hq4 := HQ3.out.new hn4
      have r1 := hq4.c1
      have rf := hq4.fr
      have HO := Lib.hid ho4
      have HQ4 := Lib.hid hq4
      have hk4 : Keep (fun i => i = g) w w4 := hk3.trans (.of_new hn4)
      have e6 : IntKind.i64.wrap ((c : Int) + (V : Int)) = ((c + V : Nat) : Int) := by rw [e3]; omega
      refine go ?_
      clear ho hg ho4 hq4 hrb e3
      go_wp2_with fail
      go_ret
      have hqV : c + V ≤ L.length := by have : n = L.length := HN.out; omega
      refine ⟨B, d, by rw [← show V = t.length from HTL.out]; first | rfl | simp, ?_, ⟨c + V, ?_, fun _ => ?_⟩, hk4.trans (Keep.setAt _ _ _ _)⟩
      · refine (OB.base_le HO.out hk3.size).keep (Keep.setAt _ _ _ _) ?_
        rintro i hi rfl
        have := (OB.lt HO.out hi).1
        have := HQ3.out.lt
        omega
      · have := HQ4.out.go_ (c + V) hqV
        simpa using this
      · have := HY.out
        cases this
        rw [← List.drop_drop, HL.out trivial]
    · go_wp2_with fail
      go_quiet (fail)
      obtain ⟨w2, hw2⟩ : ∃ w2 : World, w2 = w1.drewN nq := ⟨_, rfl⟩
      have b0 : w2.cell? ⟨g, 0, none⟩ = some (.slice A n c) := by rw [hw2]; exact r0
      have b1 : w2.cell? ⟨g, 1, none⟩ = some (.int .i64 q) := by rw [hw2]; exact r1
      have hq2 : Hid (QK w2 lo g A c L q 0) := by rw [hw2]; exact HR.out.drewN _
      have hk2 : Keep (fun i => i = g) w w2 := by rw [hw2]; exact hk.drewN _
      rw [← hw2]
      clear hw2 r0 r1 r2 rf hk
      go_wp2_with fail
      go_still_tail 17, (by kernel_rfl)
      obtain ⟨w3, hw3⟩ : ∃ w3 : World, w3 = w2.drew := ⟨_, rfl⟩
      change wpList _ _ _ _ _ w2.drew
      rw [← hw3]
      have hq3 : QK w3 lo g A c L q 0 := by rw [hw3]; exact hq2.out.drewN 1
      have hk3 : Keep (fun i => i = g) w w3 := by rw [hw3]; exact hk2.drew
      have hrb : RB w3 (if c = q then A else A.map (·.add q)) t := by
        have := (hq3.rb.cut q c hq3.cap.1).take V
        rw [HL.out trivial, HT.out] at this
        exact this
      rw [if_neg hcq] at hrb
      have HQ3 := Lib.hid hq3
      clear hw3 b0 b1 hq2 hk2 hq3
      go_wp2_with (at_builtin; refine wpList_append_OB _ rfl (.tmp 31) (.tmp 47) _ rfl w3.heap.size _ u_bytes i_byte none 0 0 [] rfl (OB.nil _ _ _) (A.map (·.add q)) V (c - q) t rfl HTL.out hrb (by omega) (Nat.le_refl _) ?_; intro B d w4 ho hg _; refine stop ?_)
      have ho4 : OBs w4 w3.heap.size B t.length d t := by rw [← show V = t.length from HTL.out]; simpa using ho
      have hn4 : New w3 w4 := (Below.refl _ _).grown hg (Nat.le_refl _) (by simp [blk])
      have hq4 := HQ3.out.new hn4
      have r1 := hq4.c1
      have rf := hq4.fr
      have HO := Lib.hid ho4
      have HQ4 := Lib.hid hq4
      have hk4 : Keep (fun i => i = g) w w4 := hk3.trans (.of_new hn4)
      have e6 : IntKind.i64.wrap ((q : Int) + (V : Int)) = ((q + V : Nat) : Int) := by rw [e3]; omega
      refine go ?_
      clear ho hg ho4 hq4 hrb e3
      go_wp2_with fail
      go_ret
      have hqV : q + V ≤ L.length := by have : n = L.length := HN.out; omega
      refine ⟨B, d, by rw [← show V = t.length from HTL.out]; first | rfl | simp, ?_, ⟨q + V, ?_, fun _ => ?_⟩, hk4.trans (Keep.setAt _ _ _ _)⟩
      · refine (OB.base_le HO.out hk3.size).keep (Keep.setAt _ _ _ _) ?_
        rintro i hi rfl
        have := (OB.lt HO.out hi).1
        have := HQ3.out.lt
        omega
      · have := HQ4.out.go_ (q + V) hqV
        simpa using this
      · have := HY.out
        cases this
        rw [← List.drop_drop, HL.out trivial]
  · have hd : (x1 != 0) = true := by rw [bne_iff_ne]; exact hx1
    have hv0 : V = 0 := HV.out hx1
    subst hv0
    go_wp2_with fail
    go_ret
    have := HX.out
    rw [if_neg (by omega), if_neg (by omega), if_pos hx1] at this
    cases this
    exact ⟨none, 0, rfl, OB.nil _ _ _, ⟨q, HR.out, HL.out⟩, hk⟩
end Go.Proofs.Ytloolhbikfdipaa
