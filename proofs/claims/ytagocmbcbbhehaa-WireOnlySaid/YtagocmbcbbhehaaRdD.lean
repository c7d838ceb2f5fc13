/- pack.Reader.Text: what it does. -/
import Derived.Test.YtagocmbcbbhehaaRdC
namespace Go.Proofs.Ytagocmbcbbhehaa
open Go.RowKit
/-- what a text's reading tells, and what it leaves -/
def rdT (l : List UInt8) (e : Int) : List UInt8 × List UInt8 × Int :=
  if 131072 < (rdU l e).1 then ([], (rdU l e).2.1, 5) else if (rdU l e).2.1.length < (rdU l e).1 then ([], (rdU l e).2.1, 4) else if (rdU l e).2.2 ≠ 0 then ([], (rdU l e).2.1, (rdU l e).2.2) else ((rdU l e).2.1.take (rdU l e).1, (rdU l e).2.1.drop (rdU l e).1, 0)
def GotT (w : World) (lo g : Nat) (t l : List UInt8) (x : Int) (e : Ending) (w' : World) : Prop := ∃ B d, e = .returned (.slice B t.length d) ∧ OBs w' w.heap.size B t.length d t ∧ (∃ A c, RKp w' lo g A c l x) ∧ Keep (fun i => i = g) w w'
theorem rk_err {lo g c : Nat} {A : Option Addr} {l : List UInt8} {e : Int} {w : World} (h : RKp w lo g A c l e) (x : Int) : RKp (w.setCell ⟨g, 1, none⟩ (.int .i64 x)) lo g A c l x :=
  ⟨by rw [dk_set h.cells]; rfl, h.rb.kept (Keep.setAt _ _ _ _) fun ad e => (h.far ad e).1, h.low, h.le, h.cap⟩
set_option maxHeartbeats 1000000 in
theorem textr_rk {lo g c : Nat} {A : Option Addr} {l : List UInt8} {e : Int} {w : World} (h : RKp w lo g A c l e) (t l' : List UInt8) (x : Int) (hx : rdT l e = (t, l', x)) :
    Calls Try.prog 64 #[.pointer (some ⟨g, 0, none⟩)] w (GotT w lo g t l' x) := by
  obtain ⟨V, l1, x1, h1⟩ : ∃ V l1 x1, rdU l e = (V, l1, x1) := ⟨_, _, _, rfl⟩
  have HC := Lib.hid (uint_rk h V l1 x1 h1)
  unfold rdT at hx
  rw [h1] at hx
  have HX := Lib.hid hx
  clear h h1 hx
  go_enter Try.func64, Try.ntmps64
  go_wp2_with fail
  refine HC.out.mono ?_
  rintro e1 w1 ⟨rfl, ⟨A1, c1, hr⟩, hk⟩
  have r0 := hr.c0
  have r1 := hr.c1
  have rf := hr.fr
  obtain ⟨n, hn⟩ : ∃ n, n = l1.length := ⟨_, rfl⟩
  have hcap := hr.cap.1
  have hmx := hr.cap.2
  unfold maxLen at hmx
  rw [← hn] at r0 hcap
  have hw1 : IntKind.u64.wrap (n : Int) = (n : Int) := by rw [IntKind.wrap_u64]; omega
  have HN := Lib.hid hn
  have HR := Lib.hid hr
  clear hn hr
  by_cases hv1 : (131072 : Int) < (V : Int)
  · go_wp2_with fail
    go_ret
    have := HX.out
    rw [if_pos (by show 131072 < V; omega)] at this
    cases this
    exact ⟨none, 0, rfl, OB.nil _ _ _, ⟨A1, c1, rk_err HR.out 5⟩, hk.trans (Keep.setAt _ _ _ _)⟩
  have hd1 : decide ((131072 : Int) < (V : Int)) = false := by simpa using hv1
  by_cases hv2 : (n : Int) < (V : Int)
  · go_wp2_with fail
    go_ret
    have := HX.out
    rw [if_neg (by show ¬ 131072 < V; omega), if_pos (by show l1.length < V; have : n = l1.length := HN.out; omega)] at this
    cases this
    exact ⟨none, 0, rfl, OB.nil _ _ _, ⟨A1, c1, rk_err HR.out 4⟩, hk.trans (Keep.setAt _ _ _ _)⟩
  have hd2 : decide ((n : Int) < (V : Int)) = false := by simpa using hv2
  have HY : Hid ((if x1 ≠ 0 then (([] : List UInt8), l1, x1) else (l1.take V, l1.drop V, (0 : Int))) = (t, l', x)) := by
    have := HX.out
    rw [if_neg (by show ¬ 131072 < V; omega), if_neg (by show ¬ l1.length < V; have : n = l1.length := HN.out; omega)] at this
    exact this
  by_cases hx1 : x1 = 0
  · subst hx1
    have hvc : (V : Int) ≤ (c1 : Int) := by omega
    have hvn : (V : Int) ≤ (n : Int) := by omega
    obtain ⟨z, hz⟩ : ∃ z, z = l1.take V := ⟨_, rfl⟩
    have hzl : V = z.length := by rw [hz, List.length_take]; have : n = l1.length := HN.out; omega
    have hzr : RB w1 A1 z := by rw [hz]; exact HR.out.rb.take _
    have HZ := Lib.hid hz
    have HZL := Lib.hid hzl
    clear hz hzl
    go_wp2_with fail
    refine (clone_any A1 V c1 z w1 HZL.out hzr (by omega)).mono ?_
    rintro e2 w2 ⟨B, d, rfl, ho, hw2⟩
    have hr2 := HR.out.new hw2
    have r02 := hr2.c0
    have rf2 := hr2.fr
    have hnn : n = l1.length := HN.out
    rw [← hnn] at r02
    have HR2 := Lib.hid hr2
    have HNN := Lib.hid hnn
    clear r0 r1 rf hr2 hnn
    go_wp2_with fail
    all_goals go_ret
    all_goals
      have hy := HY.out
      rw [if_neg (by simp), ← show z = l1.take V from HZ.out] at hy
      cases hy
      refine ⟨B, d, by rw [← show V = t.length from HZL.out]; rfl, ?_, ⟨_, _, rk_cut (k := V) HR2.out HNN.out (by omega) (by first | (rw [if_pos (by assumption)]; done) | (rw [if_neg (by assumption)]; done) | (rw [if_neg (by assumption)]; rfl)) (by omega) (by omega)⟩, (hk.trans (.of_new hw2)).trans (Keep.setAt _ _ _ _)⟩
      rw [← show V = t.length from HZL.out]
      refine (OB.base_le ho hk.size).keep (Keep.setAt _ _ _ _) ?_
      rintro i hi rfl
      have := (OB.lt ho hi).1
      have := HR.out.lt
      omega
  · have hd3 : (x1 != 0) = true := by rw [bne_iff_ne]; exact hx1
    go_wp2_with fail
    go_ret
    have := HY.out
    rw [if_pos hx1] at this
    cases this
    exact ⟨none, 0, rfl, OB.nil _ _ _, ⟨A1, c1, HR.out⟩, hk⟩
end Go.Proofs.Ytagocmbcbbhehaa
