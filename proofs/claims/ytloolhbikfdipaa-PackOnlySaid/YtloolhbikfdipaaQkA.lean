/- hanseref03.Reader: fail, Done, Uint: what they do. -/
import Derived.Test.YtloolhbikfdipaaGotA
import Derived.BigQuiet
import Derived.Deep.LoopGhost
namespace Go.Proofs.Ytloolhbikfdipaa
open Go.RowKit
/-- bytes do not lie in a block without bytes -/
theorem RB.off {w w' : World} {A : Option Addr} {l : List UInt8} {k : Nat} {cs : Array Value} {T : TypeId} {fr : Nat × Nat} (h : RB w A l) (hc : w.heap[k]? = some (.cells cs T fr)) (hu : ∀ (j : Nat) (z : Int), cs[j]? ≠ some (.int .u8 z)) (hk : Keep (fun i => i = k) w w') : RB w' A l := by
  intro j u hj
  obtain ⟨ad, rfl, hcell⟩ := h j u hj
  by_cases hb : (ad.add j).block = k
  · exfalso
    unfold World.cell? at hcell
    rw [hb, hc] at hcell
    simp only at hcell
    split at hcell
    · cases hcell
    · exact hu _ _ hcell
  · exact ⟨ad, rfl, (World.cell?_of_block (hk.block _ (World.block_lt_of_cell? w _ hcell) hb)).trans hcell⟩
theorem no3 {B : Option Addr} {n c : Nat} {p e : Int} : ∀ (j : Nat) (z : Int), (#[Value.slice B n c, .int .i64 p, .int .i64 e] : Array Value)[j]? ≠ some (.int .u8 z) := by
  intro j z
  rcases j with _ | _ | _ | j <;> simp
theorem no2 {B : Option Addr} {n c : Nat} {e : Int} : ∀ (j : Nat) (z : Int), (#[Value.slice B n c, .int .i64 e] : Array Value)[j]? ≠ some (.int .u8 z) := by
  intro j z
  rcases j with _ | _ | j <;> simp
/-- block g is a reader of the page's over the bytes L at A, at place p, with the error e -/
structure QK (w : World) (lo g : Nat) (A : Option Addr) (c : Nat) (L : List UInt8) (p : Nat) (e : Int) : Prop where
  cells : w.heap[g]? = some (.cells #[.slice A L.length c, .int .i64 p, .int .i64 e] 45)
  rb : RB w A L
  le : lo ≤ g
  cap : L.length ≤ c ∧ c ≤ maxLen
  at_ : p ≤ L.length
section
variable {w w' : World} {lo g c p : Nat} {A : Option Addr} {L : List UInt8} {e : Int}
theorem QK.lt (h : QK w lo g A c L p e) : g < w.heap.size := (Array.getElem?_eq_some_iff.1 h.cells).1
theorem QK.c0 (h : QK w lo g A c L p e) : w.cell? ⟨g, 0, none⟩ = some (.slice A L.length c) := cell_of_row w g 0 _ _ _ h.cells
theorem QK.c1 (h : QK w lo g A c L p e) : w.cell? ⟨g, 1, none⟩ = some (.int .i64 p) := cell_of_row w g 1 _ _ _ h.cells
theorem QK.c2 (h : QK w lo g A c L p e) : w.cell? ⟨g, 2, none⟩ = some (.int .i64 e) := cell_of_row w g 2 _ _ _ h.cells
theorem QK.fr (h : QK w lo g A c L p e) (j : Nat) : w.frozen? ⟨g, j, none⟩ = false := frozen_of_row w g j _ _ h.cells
theorem QK.new (h : QK w lo g A c L p e) (hn : New w w') : QK w' lo g A c L p e := ⟨(hn.block g h.lt).trans h.cells, h.rb.new hn, h.le, h.cap, h.at_⟩
theorem QK.drewN (h : QK w lo g A c L p e) (n : Nat) : QK (w.drewN n) lo g A c L p e := ⟨h.cells, h.rb, h.le, h.cap, h.at_⟩
theorem QK.err (h : QK w lo g A c L p e) (y : Int) : QK (w.setCell ⟨g, 2, none⟩ (.int .i64 y)) lo g A c L p y :=
  ⟨by rw [dk_set h.cells]; rfl, h.rb.off h.cells no3 (Keep.setAt _ _ _ _), h.le, h.cap, h.at_⟩
theorem QK.go_ (h : QK w lo g A c L p e) (q : Nat) (hq : q ≤ L.length) : QK (w.setCell ⟨g, 1, none⟩ (.int .i64 q)) lo g A c L q e :=
  ⟨by rw [dk_set h.cells]; rfl, h.rb.off h.cells no3 (Keep.setAt _ _ _ _), h.le, h.cap, hq⟩
end
/-- what a reading call of the page's leaves -/
def QGot (w : World) (lo g : Nat) (A : Option Addr) (c : Nat) (L : List UInt8) (v : Ending) (l : List UInt8) (x : Int) (e : Ending) (w' : World) : Prop := e = v ∧ (∃ q, QK w' lo g A c L q x ∧ (x = 0 → L.drop q = l)) ∧ Keep (fun i => i = g) w w'
theorem fail_qk {lo g c p : Nat} {A : Option Addr} {L : List UInt8} {e : Int} {w : World} (h : QK w lo g A c L p e) (y : Int) (x : Int) (hx : (if e = 0 then y else e) = x) :
    Calls Try.prog 38 #[.pointer (some ⟨g, 0, none⟩), .int .i64 y] w fun v w' => v = .returned (.tuple #[]) ∧ QK w' lo g A c L p x ∧ Keep (fun i => i = g) w w' := by
  have h2 := h.c2
  have hf := h.fr
  have HH := Lib.hid h
  clear h
  by_cases he : e = 0
  · subst he
    rw [if_pos rfl] at hx
    subst hx
    go_enter Try.func38, Try.ntmps38
    go_wp2_with fail
    go_end0
    exact ⟨rfl, HH.out.err y, Keep.setAt _ _ _ _⟩
  · rw [if_neg he] at hx
    subst hx
    have hd : (e == 0) = false := by rw [beq_eq_false_iff_ne]; exact he
    go_enter Try.func38, Try.ntmps38
    go_wp2_with fail
    go_end0
    exact ⟨rfl, HH.out, Keep.refl _ _⟩
set_option maxHeartbeats 1000000 in
theorem done_qk {lo g c p : Nat} {A : Option Addr} {L : List UInt8} {e : Int} {w : World} (h : QK w lo g A c L p e) (x : Int) (hx : (if e = 0 ∧ p < L.length then 4 else e) = x) :
    Calls Try.prog 20 #[.pointer (some ⟨g, 0, none⟩)] w fun v w' => v = .returned (.int .i64 x) ∧ New w w' ∧ Drawn w w' := by
  have h0 := h.c0
  have h1 := h.c1
  have h2 := h.c2
  clear h
  obtain ⟨n, hn⟩ : ∃ n, n = L.length := ⟨_, rfl⟩
  rw [← hn] at h0 hx
  clear hn
  by_cases he : e = 0
  · subst he
    by_cases hl : (p : Int) < (n : Int)
    · rw [if_pos ⟨rfl, by omega⟩] at hx
      subst hx
      go_enter Try.func20, Try.ntmps20
      go_wp2_with fail
      go_quiet (fail)
      go_wp2_with fail
      go_ret
      exact ⟨rfl, New.drewN (New.refl _) _, ⟨_, rfl⟩⟩
    · rw [if_neg (by omega)] at hx
      subst hx
      have hd : decide ((p : Int) < (n : Int)) = false := by simpa using hl
      go_enter Try.func20, Try.ntmps20
      go_wp2_with fail
      go_quiet (fail)
      go_wp2_with fail
      go_ret
      exact ⟨rfl, New.drewN (New.refl _) _, ⟨_, rfl⟩⟩
  · rw [if_neg (fun h => he h.1)] at hx
    subst hx
    have hd : (e == 0) = false := by rw [beq_eq_false_iff_ne]; exact he
    go_enter Try.func20, Try.ntmps20
    go_wp2_with fail
    go_quiet (fail)
    go_wp2_with fail
    go_ret
    exact ⟨rfl, New.drewN (New.refl _) _, ⟨_, rfl⟩⟩
set_option maxHeartbeats 2000000 in
theorem uint_qk {lo g c p : Nat} {A : Option Addr} {L : List UInt8} {e : Int} {w : World} (h : QK w lo g A c L p e) (V : Nat) (l' : List UInt8) (x : Int) (hx : rdU (L.drop p) e = (V, l', x)) :
    Calls Try.prog 31 #[.pointer (some ⟨g, 0, none⟩)] w (QGot w lo g A c L (.returned (.int .u64 V)) l' x) := by
  have h2 := h.c2
  have hf := h.fr
  have HH := Lib.hid h
  have HX := Lib.hid hx
  clear h hx
  by_cases he : e = 0
  · subst he
    go_enter Try.func31, Try.ntmps31
    go_wp2_with fail
    clear h2 hf
    go_loopw [3, 4, 5] (fun v u i wr => ∃ k acc un : Nat, v = .int .u64 acc ∧ u = .int .u64 un ∧ i = .int .i64 k ∧ k ≤ 9 ∧ Hid (un = 2 ^ (7 * k)) ∧ acc < 18446744073709551616 ∧ Hid (acc < 2 ^ (7 * k)) ∧ Hid (rd (L.drop p) = rdF k acc (L.drop (p + k))) ∧ QK wr lo g A c L (p + k) 0 ∧ Keep (fun i => i = g) w wr) (fun _ _ i _ => 10 - (intOf i).toNat)
    case atStart => exact ⟨0, 0, 1, rfl, rfl, rfl, by omega, rfl, by omega, by show 0 < 1; omega, rfl, HH.out, Keep.refl _ _⟩
    case round =>
      obtain ⟨k, acc, un, rfl, rfl, rfl, hk9, HU, hac, HA, HR, hq, hkeep⟩ := hrel
      have h0 := hq.c0
      have h1 := hq.c1
      have h2 := hq.c2
      have hf := hq.fr
      obtain ⟨n, hn⟩ : ∃ n, n = L.length := ⟨_, rfl⟩
      rw [← hn] at h0
      have hpn := hq.at_
      have hcap := hq.cap.1
      have hcm := hq.cap.2
      unfold maxLen at hcm
      rw [← hn] at hpn hcap
      have HN := Lib.hid hn
      have HQ := Lib.hid hq
      obtain ⟨m, hm⟩ : ∃ m, m = p + k := ⟨_, rfl⟩
      rw [← hm] at h1 hpn
      have HM := Lib.hid hm
      clear hn hq hm
      by_cases hlt : (n : Int) ≤ (m : Int)
      · go_wp2_with fail
        go_quiet (fail)
        go_wp2_with fail
        refine (fail_qk (HQ.out.drewN _) 4 4 rfl).mono ?_
        rintro e5 w5 ⟨rfl, hq5, hk5⟩
        go_wp2_with fail
        go_ret
        have hr : rd (L.drop p) = none := by
          rw [HR.out, List.drop_eq_nil_of_le (by have : n = L.length := HN.out; have : m = p + k := HM.out; omega), rdF_nil]
        have := HX.out
        rw [rdU_none hr] at this
        cases this
        exact ⟨rfl, ⟨p + k, hq5, fun h => by cases h⟩, (hkeep.drewN _).trans hk5⟩
      · have hltd : decide ((n : Int) ≤ (m : Int)) = false := by simpa using hlt
        obtain ⟨u, hu⟩ : ∃ u, L[m]? = some u := ⟨_, List.getElem?_eq_getElem (by have : n = L.length := HN.out; omega)⟩
        obtain ⟨ad, rfl, hcell⟩ := HQ.out.rb m u hu
        have hub := UInt8.toNat_lt u
        go_wp2_with fail
        go_quiet (fail)
        obtain ⟨w0, hw0⟩ : ∃ w0 : World, w0 = wr.drewN nq := ⟨_, rfl⟩
        have hq0 : QK w0 lo g (some ad) c L (p + k) 0 := by rw [hw0]; exact HQ.out.drewN _
        have hk0 : Keep (fun i => i = g) w w0 := by rw [hw0]; exact hkeep.drewN _
        have b0 : w0.cell? ⟨g, 0, none⟩ = some (.slice (some ad) n c) := by rw [hw0]; exact h0
        have b1 : w0.cell? ⟨g, 1, none⟩ = some (.int .i64 m) := by rw [hw0]; exact h1
        have b3 : w0.cell? (ad.add m) = some (bv u) := by rw [hw0]; exact hcell
        have HQ0 := Lib.hid hq0
        rw [← hw0]
        clear hw0 h0 h1 h2 hf hq0 hcell hkeep
        go_wp2_with fail
        go_quiet (fail)
        obtain ⟨w1, hw1⟩ : ∃ w1 : World, w1 = w0.drewN nq := ⟨_, rfl⟩
        have hq1 : QK w1 lo g (some ad) c L (p + k) 0 := by rw [hw1]; exact HQ0.out.drewN _
        have hk1 : Keep (fun i => i = g) w w1 := by rw [hw1]; exact hk0.drewN _
        have d1 : w1.cell? ⟨g, 1, none⟩ = some (.int .i64 m) := by rw [hw1]; exact b1
        have df : ∀ j, w1.frozen? ⟨g, j, none⟩ = false := hq1.fr
        have HQ1 := Lib.hid hq1
        rw [← hw1]
        clear hw1 hq1 b0 b1 b3 hk0
        have hm1 : IntKind.i64.wrap ((m : Int) + 1) = (m : Int) + 1 := IntWalk.i64_in _ ⟨by omega, by omega⟩
        have hdr : L.drop (p + k) = u :: L.drop (p + (k + 1)) := by
          have hmm : m = p + k := HM.out
          rw [← hmm, show p + (k + 1) = m + 1 from by omega]
          obtain ⟨hlen, he⟩ := List.getElem?_eq_some_iff.1 hu
          rw [List.drop_eq_getElem_cons hlen, he]
        have hqs : QK (w1.setCell ⟨g, 1, none⟩ (.int .i64 ((m : Int) + 1))) lo g (some ad) c L (p + (k + 1)) 0 := by
          have hmm : m = p + k := HM.out
          rw [show ((m : Int) + 1) = ((p + (k + 1) : Nat) : Int) from by omega]
          exact HQ1.out.go_ _ (by have : n = L.length := HN.out; omega)
        have hks : Keep (fun i => i = g) w (w1.setCell ⟨g, 1, none⟩ (.int .i64 ((m : Int) + 1))) := hk1.trans (Keep.setAt _ _ _ _)
        have HD := Lib.hid hdr
        have HS := Lib.hid hqs
        have HKS := Lib.hid hks
        clear hdr hqs hks hu hk1
        by_cases hfar : k = 9 ∧ 1 < u.toNat
        · obtain ⟨hk, hu1⟩ := hfar
          have hkb : ((k : Int) == 9) = true := by rw [beq_iff_eq]; omega
          have hui : (1 : Int) < (u.toNat : Int) := by omega
          have hrn : rd (L.drop p) = none := by rw [HR.out, HD.out]; exact rdF_far hk hu1
          have HXN := Lib.hid (HX.out.symm.trans (rdU_none hrn))
          clear hrn hk
          go_wp2_with fail
          refine (fail_qk HS.out 4 4 rfl).mono ?_
          rintro e5 w5 ⟨rfl, hq5, hk5⟩
          go_wp2_with fail
          go_ret
          cases HXN.out
          exact ⟨rfl, ⟨_, hq5, fun h => by cases h⟩, HKS.out.trans hk5⟩
        · have hg := or_group (b := u) hk9 hfar HA.out
          have hun : un = 2 ^ (7 * k) := HU.out
          rw [← hun] at hg
          obtain ⟨E, hE⟩ : ∃ E, E = u.toNat % 128 * un := ⟨_, rfl⟩
          rw [← hE] at hg
          have hguard : ((k : Int) == 9) = false ∨ (((k : Int) == 9) = true ∧ decide ((1 : Int) < (u.toNat : Int)) = false) := by
            by_cases hk : k = 9
            · exact .inr ⟨by rw [beq_iff_eq]; omega, by simp; omega⟩
            · exact .inl (by rw [beq_eq_false_iff_ne]; omega)
          obtain ⟨F, hFE⟩ : ∃ F, F = acc + E := ⟨_, rfl⟩
          have hk9d : decide ((9 : Int) < (k : Int)) = false := by simp; omega
          have hmul : IntKind.u64.wrap ((u.toNat : Int) % 128 * (un : Int)) = (E : Int) := by
            have e : ((u.toNat : Int) % 128 * (un : Int)) = (E : Int) := by rw [hE]; simp
            rw [e, IntKind.wrap_u64]
            have := hg.2.1
            omega
          have hF64 : F < 18446744073709551616 := by rw [hFE]; exact hg.2.2.1
          have hadd : IntKind.u64.wrap ((acc : Int) + (E : Int)) = (F : Int) := by
            rw [show (acc : Int) + (E : Int) = (F : Int) from by omega, IntKind.wrap_u64]
            omega
          obtain ⟨U, hUm⟩ : ∃ U : Nat, IntKind.u64.wrap ((un : Int) * 128) = (U : Int) := by
            refine ⟨(IntKind.u64.wrap ((un : Int) * 128)).toNat, ?_⟩
            have : 0 ≤ IntKind.u64.wrap ((un : Int) * 128) := by rw [IntKind.wrap_u64]; exact Int.emod_nonneg _ (by decide)
            omega
          have hFB : Hid (F < 2 ^ (7 * (k + 1))) := by show _ < _; rw [hFE]; exact hg.2.2.2
          have hUN : Hid (k ≤ 8 → U = 2 ^ (7 * (k + 1))) := by
            intro hk8
            have e1 : 2 ^ (7 * (k + 1)) = 128 * 2 ^ (7 * k) := by rw [Nat.mul_add, Nat.pow_add, Nat.mul_comm]
            have e2 : 2 ^ (7 * (k + 1)) ≤ 2 ^ 63 := Nat.pow_le_pow_right (by decide) (by omega)
            have e3 : ((un : Int) * 128) = ((2 ^ (7 * (k + 1)) : Nat) : Int) := by rw [e1, hun]; omega
            rw [e3, IntKind.wrap_u64] at hUm
            omega
          have hm2 : IntKind.i64.wrap ((k : Int) + 1) = (k : Int) + 1 := IntWalk.i64_in _ ⟨by omega, by omega⟩
          have HE := Lib.hid hE
          have HUE := Lib.hid hun
          have HFE := Lib.hid hFE
          have HF := Lib.hid hfar
          clear hg hE hfar hFE hun
          rcases hguard with hgd | ⟨hgk, hgd⟩
          · skip
            by_cases hbig : (u.toNat : Int) < 128
            · have hu128 : ((u.toNat : Int) % 128) = (u.toNat : Int) := by omega
              rw [hu128] at hmul
              by_cases hz : u.toNat = 0 ∧ 0 < k
              · obtain ⟨hz1, hz2⟩ := hz
                have hz0 : ((u.toNat : Int) == 0) = true := by rw [beq_iff_eq]; omega
                have hzk : (0 : Int) < (k : Int) := by omega
                have hrn : rd (L.drop p) = none := by rw [HR.out, HD.out]; exact rdF_zero HF.out hz1 hz2
                have HXN := Lib.hid (HX.out.symm.trans (rdU_none hrn))
                clear hrn hz1
                go_wp2_with fail
                refine (fail_qk HS.out 4 4 rfl).mono ?_
                rintro e5 w5 ⟨rfl, hq5, hk5⟩
                go_wp2_with fail
                go_ret
                cases HXN.out
                exact ⟨rfl, ⟨_, hq5, fun h => by cases h⟩, HKS.out.trans hk5⟩
              · have hrs : rd (L.drop p) = some (F, k + 1) := by rw [HR.out, HD.out, rdF_end HF.out (by omega) hz, HFE.out, HE.out, HUE.out]
                have hzg : ((u.toNat : Int) == 0) = false ∨ (((u.toNat : Int) == 0) = true ∧ decide ((0 : Int) < (k : Int)) = false) := by
                  by_cases h0 : u.toNat = 0
                  · exact .inr ⟨by rw [beq_iff_eq]; omega, by simp; omega⟩
                  · exact .inl (by rw [beq_eq_false_iff_ne]; omega)
                have HXN := Lib.hid (HX.out.symm.trans (rdU_some hrs))
                clear hrs hz
                rcases hzg with hz1 | ⟨hz1, hz2⟩
                · skip
                  go_wp2_with fail
                  go_ret
                  cases HXN.out
                  exact ⟨rfl, ⟨_, HS.out, fun _ => by rw [List.drop_drop]⟩, HKS.out⟩
                · skip
                  have hu0 : u.toNat = 0 := by rw [beq_iff_eq] at hz1; omega
                  have hE0 : E = 0 := by have : E = u.toNat % 128 * un := HE.out; rw [this, hu0]; simp
                  have hF0 : F = acc := by have : F = acc + E := HFE.out; omega
                  have hadd2 : IntKind.u64.wrap (acc : Int) = (acc : Int) := by rw [IntKind.wrap_u64]; omega
                  have hk0 : k = 0 := by simp at hz2; omega
                  have hu' : u = 0 := UInt8.toNat_inj.1 hu0
                  subst hE0 hF0 hk0 hu'
                  clear hmul hadd hu128 hu0 hz1 hz2 hgd hbig hub hk9d hm2
                  go_wp2_with fail
                  go_ret
                  cases HXN.out
                  exact ⟨rfl, ⟨_, HS.out, fun _ => by rw [List.drop_drop]⟩, HKS.out⟩
            · have hbd : decide ((u.toNat : Int) < 128) = false := by simpa using hbig
              have hrr : rd (L.drop p) = rdF (k + 1) F (L.drop (p + (k + 1))) := by rw [HR.out, HD.out, rdF_more HF.out (by omega), HFE.out, HE.out, HUE.out]
              have HRR := Lib.hid hrr
              clear hrr
              have hk8 : k ≤ 8 := by have := HF.out; omega
              go_wp2_with fail
              go_roundw
              case rel => exact ⟨k + 1, F, U, rfl, rfl, by go_num, by omega, hUN.out hk8, hF64, hFB, HRR.out, HS.out, HKS.out⟩
              case measure => simp [intOf]; omega
          · skip
            by_cases hbig : (u.toNat : Int) < 128
            · have hu128 : ((u.toNat : Int) % 128) = (u.toNat : Int) := by omega
              rw [hu128] at hmul
              by_cases hz : u.toNat = 0 ∧ 0 < k
              · obtain ⟨hz1, hz2⟩ := hz
                have hz0 : ((u.toNat : Int) == 0) = true := by rw [beq_iff_eq]; omega
                have hzk : (0 : Int) < (k : Int) := by omega
                have hrn : rd (L.drop p) = none := by rw [HR.out, HD.out]; exact rdF_zero HF.out hz1 hz2
                have HXN := Lib.hid (HX.out.symm.trans (rdU_none hrn))
                clear hrn hz1
                go_wp2_with fail
                refine (fail_qk HS.out 4 4 rfl).mono ?_
                rintro e5 w5 ⟨rfl, hq5, hk5⟩
                go_wp2_with fail
                go_ret
                cases HXN.out
                exact ⟨rfl, ⟨_, hq5, fun h => by cases h⟩, HKS.out.trans hk5⟩
              · have hrs : rd (L.drop p) = some (F, k + 1) := by rw [HR.out, HD.out, rdF_end HF.out (by omega) hz, HFE.out, HE.out, HUE.out]
                have hzg : ((u.toNat : Int) == 0) = false ∨ (((u.toNat : Int) == 0) = true ∧ decide ((0 : Int) < (k : Int)) = false) := by
                  by_cases h0 : u.toNat = 0
                  · exact .inr ⟨by rw [beq_iff_eq]; omega, by simp; omega⟩
                  · exact .inl (by rw [beq_eq_false_iff_ne]; omega)
                have HXN := Lib.hid (HX.out.symm.trans (rdU_some hrs))
                clear hrs hz
                rcases hzg with hz1 | ⟨hz1, hz2⟩
                · skip
                  go_wp2_with fail
                  go_ret
                  cases HXN.out
                  exact ⟨rfl, ⟨_, HS.out, fun _ => by rw [List.drop_drop]⟩, HKS.out⟩
                · skip
                  have hu0 : u.toNat = 0 := by rw [beq_iff_eq] at hz1; omega
                  have hE0 : E = 0 := by have : E = u.toNat % 128 * un := HE.out; rw [this, hu0]; simp
                  have hF0 : F = acc := by have : F = acc + E := HFE.out; omega
                  have hadd2 : IntKind.u64.wrap (acc : Int) = (acc : Int) := by rw [IntKind.wrap_u64]; omega
                  have hk0 : k = 0 := by simp at hz2; omega
                  have hu' : u = 0 := UInt8.toNat_inj.1 hu0
                  subst hE0 hF0 hk0 hu'
                  clear hmul hadd hu128 hu0 hz1 hz2 hgd hbig hub hk9d hm2
                  go_wp2_with fail
                  go_ret
                  cases HXN.out
                  exact ⟨rfl, ⟨_, HS.out, fun _ => by rw [List.drop_drop]⟩, HKS.out⟩
            · have hbd : decide ((u.toNat : Int) < 128) = false := by simpa using hbig
              have hrr : rd (L.drop p) = rdF (k + 1) F (L.drop (p + (k + 1))) := by rw [HR.out, HD.out, rdF_more HF.out (by omega), HFE.out, HE.out, HUE.out]
              have HRR := Lib.hid hrr
              clear hrr
              have hk8 : k ≤ 8 := by have := HF.out; omega
              go_wp2_with fail
              go_roundw
              case rel => exact ⟨k + 1, F, U, rfl, rfl, by go_num, by omega, hUN.out hk8, hF64, hFB, HRR.out, HS.out, HKS.out⟩
              case measure => simp [intOf]; omega
  · have hd : (e != 0) = true := by rw [bne_iff_ne]; exact he
    go_enter Try.func31, Try.ntmps31
    go_wp2_with fail
    go_ret
    have := HX.out
    rw [rdU_err he] at this
    cases this
    exact ⟨rfl, ⟨p, HH.out, fun h => absurd h he⟩, Keep.refl _ _⟩
end Go.Proofs.Ytloolhbikfdipaa
