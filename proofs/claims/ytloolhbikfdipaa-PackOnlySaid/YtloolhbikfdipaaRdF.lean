/- pack.Reader.Text once more: what it tells lies apart from the bytes that are left. -/
import Derived.Test.YtloolhbikfdipaaQkC
namespace Go.Proofs.Ytloolhbikfdipaa
open Go.RowKit
def GotT2 (w : World) (lo g : Nat) (t l : List UInt8) (x : Int) (e : Ending) (w' : World) : Prop := ∃ B d, e = .returned (.slice B t.length d) ∧ OBs w' w.heap.size B t.length d t ∧ (∃ A c, RKp w' lo g A c l x ∧ (l ≠ [] → ∀ ad, A = some ad → ¬ blk B = some ad.block)) ∧ Keep (fun i => i = g) w w'
theorem rk_cut2 {lo g c n k n' c' : Nat} {A A' B : Option Addr} {l : List UInt8} {e : Int} {w w1 : World} (h : RKp w lo g A c l e) (hr : RB w1 A l) (hn : n = l.length) (hk : k ≤ n) (hA : A' = if c = k then A else A.map (·.add k)) (hn' : n' = n - k) (hc' : c' = c - k) (hB : ∀ i, blk B = some i → w1.heap.size ≤ i) :
    ∃ A2 c2, RKp (w.setCell ⟨g, 0, none⟩ (.slice A' n' c')) lo g A2 c2 (l.drop k) e ∧ (l.drop k ≠ [] → ∀ ad, A2 = some ad → ¬ blk B = some ad.block) := by
  refine ⟨A', c', rk_cut h hn hk hA hn' hc', fun hne ad had hb => ?_⟩
  have hl : 0 < l.length := by
    cases l with
    | nil => simp at hne
    | cons a t => simp
  obtain ⟨ad1, rfl, hcell⟩ := hr.at_ hl
  have hlt := World.block_lt_of_cell? w1 _ hcell
  rw [add_block] at hlt
  have := hB _ hb
  have e : ad.block = ad1.block := by
    rw [hA] at had
    split at had
    · cases had; rfl
    · simp only [Option.map_some, Option.some.injEq] at had
      rw [← had, add_block]
  omega
set_option maxHeartbeats 1000000 in
theorem textr_rk2 {lo g c : Nat} {A : Option Addr} {l : List UInt8} {e : Int} {w : World} (h : RKp w lo g A c l e) (t l' : List UInt8) (x : Int) (hx : rdT l e = (t, l', x)) :
    Calls Try.prog 14 #[.pointer (some ⟨g, 0, none⟩)] w (GotT2 w lo g t l' x) := by
  obtain ⟨V, l1, x1, h1⟩ : ∃ V l1 x1, rdU l e = (V, l1, x1) := ⟨_, _, _, rfl⟩
  have HC := Lib.hid (uint_rk h V l1 x1 h1)
  unfold rdT at hx
  rw [h1] at hx
  have HX := Lib.hid hx
  clear h h1 hx
  go_enter Try.func14, Try.ntmps14
  go_wp2_with fail
  refine HC.out.mono ?_
  rintro e1 w1 ⟨rfl, ⟨A1, c1, hr⟩, hk⟩
  have r0 := hr.c0
  have r1 := hr.c1
  have rf := hr.fr
  obtain ⟨n, hn⟩ : ∃ n, n = l1.length := ⟨_, rfl⟩
  have hcap := hr.cap.1
  have hmx := hr.cap.2
  unfold maxLen at hmx
  rw [← hn] at r0 hcap
  have hw1 : IntKind.u64.wrap (n : Int) = (n : Int) := by rw [IntKind.wrap_u64]; omega
  have HN := Lib.hid hn
  have HR := Lib.hid hr
  clear hn hr
  by_cases hv1 : (131072 : Int) < (V : Int)
  · go_wp2_with fail
    go_ret
    have := HX.out
    rw [if_pos (by show 131072 < V; omega)] at this
    cases this
    exact ⟨none, 0, rfl, OB.nil _ _ _, ⟨A1, c1, rk_err HR.out 5, fun _ _ _ h => by cases h⟩, hk.trans (Keep.setAt _ _ _ _)⟩
  have hd1 : decide ((131072 : Int) < (V : Int)) = false := by simpa using hv1
  by_cases hv2 : (n : Int) < (V : Int)
  · go_wp2_with fail
    go_ret
    have := HX.out
    rw [if_neg (by show ¬ 131072 < V; omega), if_pos (by show l1.length < V; have : n = l1.length := HN.out; omega)] at this
    cases this
    exact ⟨none, 0, rfl, OB.nil _ _ _, ⟨A1, c1, rk_err HR.out 4, fun _ _ _ h => by cases h⟩, hk.trans (Keep.setAt _ _ _ _)⟩
  have hd2 : decide ((n : Int) < (V : Int)) = false := by simpa using hv2
  have HY : Hid ((if x1 ≠ 0 then (([] : List UInt8), l1, x1) else (l1.take V, l1.drop V, (0 : Int))) = (t, l', x)) := by
    have := HX.out
    rw [if_neg (by show ¬ 131072 < V; omega), if_neg (by show ¬ l1.length < V; have : n = l1.length := HN.out; omega)] at this
    exact this
  by_cases hx1 : x1 = 0
  · subst hx1
    have hvc : (V : Int) ≤ (c1 : Int) := by omega
    have hvn : (V : Int) ≤ (n : Int) := by omega
    obtain ⟨z, hz⟩ : ∃ z, z = l1.take V := ⟨_, rfl⟩
    have hzl : V = z.length := by rw [hz, List.length_take]; have : n = l1.length := HN.out; omega
    have hzr : RB w1 A1 z := by rw [hz]; exact HR.out.rb.take _
    have HZ := Lib.hid hz
    have HZL := Lib.hid hzl
    clear hz hzl
    go_wp2_with fail
    refine (clone_any A1 V c1 z w1 HZL.out hzr (by omega)).mono ?_
    rintro e2 w2 ⟨B, d, rfl, ho, hw2⟩
    have hr2 := HR.out.new hw2
    have r02 := hr2.c0
    have rf2 := hr2.fr
    have hnn : n = l1.length := HN.out
    rw [← hnn] at r02
    have HR2 := Lib.hid hr2
    have HNN := Lib.hid hnn
    clear r0 r1 rf hr2 hnn
    go_wp2_with fail
    all_goals go_ret
    all_goals
      have hy := HY.out
      rw [if_neg (by simp), ← show z = l1.take V from HZ.out] at hy
      cases hy
      refine ⟨B, d, by rw [← show V = t.length from HZL.out]; rfl, ?_, rk_cut2 (k := V) HR2.out HR.out.rb HNN.out (by omega) (by first | (rw [if_pos (by assumption)]; done) | (rw [if_neg (by assumption)]; done) | (rw [if_neg (by assumption)]; rfl)) (by omega) (by omega) (fun i hi => (OB.lt ho hi).1), (hk.trans (.of_new hw2)).trans (Keep.setAt _ _ _ _)⟩
      rw [← show V = t.length from HZL.out]
      refine (OB.base_le ho hk.size).keep (Keep.setAt _ _ _ _) ?_
      rintro i hi rfl
      have := (OB.lt ho hi).1
      have := HR.out.lt
      omega
  · have hd3 : (x1 != 0) = true := by rw [bne_iff_ne]; exact hx1
    go_wp2_with fail
    go_ret
    have := HY.out
    rw [if_pos hx1] at this
    cases this
    exact ⟨none, 0, rfl, OB.nil _ _ _, ⟨A1, c1, HR.out, fun _ _ _ h => by cases h⟩, hk⟩
end Go.Proofs.Ytloolhbikfdipaa
