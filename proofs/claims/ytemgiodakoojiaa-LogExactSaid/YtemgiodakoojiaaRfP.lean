/- hanseref06.Parts: the walk. -/
import Derived.Test.YtemgiodakoojiaaRfB
namespace Go.Proofs.Ytemgiodakoojiaa
set_option linter.unusedVariables false
open Go.RowKit
open Go.Proofs.Ytemgiodakoojiaa.Frm
open Go.Proofs.Ytemgiodakoojiaa.Jr
set_option maxRecDepth 20000 in
set_option maxHeartbeats 4000000 in
theorem rparts_any (A : Option Addr) (n c : Nat) (b : List UInt8) (w : World) (hn : n = b.length) (hr : RB w A b) (hnc : n ≤ c) (hmax : c ≤ maxLen) (hbd : n ≤ 5000000) :
    Calls Try.prog 52 #[.slice A n c] w (Parted w b) := by
  have HN := Lib.hid hn
  have HR := Lib.hid hr
  unfold maxLen at hmax
  clear hn hr
  go_enter Try.func52, Try.ntmps52
  go_wp2_with fail
  go_loopw [5, 6, 7] (fun sv rv v wr => ∃ (en sn k sc rc : Nat) (S R : Option Addr) (xs : List Value) (snap : List UInt8) (rs : List (List UInt8)), sv = .slice S sn sc ∧ rv = .slice R k rc ∧ v = .int .i64 en ∧ en ≤ n ∧ Hid (sn = snap.length) ∧ Hid (k = rs.length) ∧ Hid (At b en snap rs) ∧ Hid (Kept (Since w) wr none S snap) ∧ Hid (Rows_ (Since w) wr none R rc rs xs) ∧ New w wr) (fun _ _ v _ => n - (intOf v).toNat)
  case atStart => exact ⟨0, 0, 0, 0, 0, none, none, [], [], [], rfl, rfl, rfl, Nat.zero_le _, rfl, rfl, At.zero b, Kept.nil _ _ _, Rows_.nil _ _ _, New.refl _⟩
  case round =>
    obtain ⟨en, sn, k, sc, rc, S, R, xs, snap, rs, rfl, rfl, rfl, hen, HSN, HK, HA, HS, HRW, hnew⟩ := hrel
    have HNEW := Lib.hid hnew
    have hkb : k ≤ 600000 := by have := HA.out.many; have : k = rs.length := HK.out; omega
    rcases At.next HA.out with ⟨t, ht⟩ | ⟨h0, t, ht⟩ | ⟨hp, hno⟩
    · -- a record
      have h1 := markOf_le (markOf_some.2 ht)
      rw [List.length_drop] at h1
      have HTL : Hid (en + (9 + t.length) ≤ n) := by have : n = b.length := HN.out; show _ ≤ _; omega
      have hcn : ¬ c = en := by have := HTL.out; omega
      obtain ⟨X, hX⟩ : ∃ X : Option Addr, A.map (·.add en) = X := ⟨_, rfl⟩
      have hrX : RB wr X (b.drop en) := by rw [← hX]; exact (HR.out.new hnew).drop en
      have HF := Lib.hid (rfirst_any X (n - en) (c - en) (b.drop en) wr (by rw [List.length_drop, ← HN.out]) hrX (by omega) (by unfold maxLen; omega))
      have HT := Lib.hid ht
      have henn : (en : Int) ≤ (n : Int) := by omega
      have henc : (en : Int) ≤ (c : Int) := by omega
      have HAN := Lib.hid (HA.out.rec_ ht)
      have hTL : (en : Int) + (9 + (t.length : Int)) ≤ (n : Int) := by have := HTL.out; omega
      clear ht hrX hnew h1
      go_wp2_with fail
      refine HF.out.mono ?_
      intro e w2 h
      unfold Firsted at h
      rw [HT.out] at h
      obtain ⟨P, pc, rfl, hoP, hw2⟩ := h
      rw [List.length_cons, Nat.add_comm t.length 1] at hoP ⊢
      have hpc := hoP.le
      obtain ⟨pg, rfl⟩ : ∃ pg, P = some ⟨pg, 0, none⟩ := by
        rcases Own.form hoP with ⟨_, h, _⟩ | ⟨pg, h, _⟩
        · omega
        · exact ⟨pg, h⟩
      have hKP : Kept (Since w) w2 none (some ⟨pg, 0, none⟩) (82 :: t) := Kept.own hoP (fun i hi => by cases hi) (fun i hi => Nat.le_trans HNEW.out.size hi)
      have c0 : w2.cell? ⟨pg, 0, none⟩ = some (.int .u8 82) := by
        obtain ⟨ad, e, hc⟩ := hoP.rb 0 82 rfl
        cases e
        exact hc
      have HKP := Lib.hid hKP
      have HS2 := Lib.hid (HS.out.new hw2)
      have HRW2 := Lib.hid (HRW.out.new hw2)
      have HN2 := Lib.hid (New.trans HNEW.out hw2)
      have e1 : (1 : Int) ≤ 1 + (t.length : Int) := by omega
      have HPC := Lib.hid hpc
      have e2 : (1 : Int) + (t.length : Int) ≤ (pc : Int) := by omega
      have ho2 := HRW2.out.1
      rw [← HK.out] at ho2
      have HOW := Lib.hid ho2
      clear hKP hoP hw2 hpc HF HS HRW ho2
      by_cases hpc1 : pc = 1
      · subst hpc1
        have ht0 : t = [] := List.eq_nil_of_length_eq_zero (by omega)
        subst ht0
        go_wp2_with (at_builtin; refine wpList_append_at w2 rfl (.tmp 51) (.tmp 54) _ rfl 0 _ (.slice none 0 0) 24 u_rows i_bytes rfl R k rc xs rfl HOW.out (.slice (some ⟨pg, 0, none⟩) 0 0) rfl rfl rfl (by unfold maxLen; omega) (by omega) (Nat.zero_le _) ?_; intro R5 rc5 w5 ho5 hg5 hat5 hb5; refine stop ?_)
        have hnA : New w2 (w2.alloc (.cells #[.slice (some ⟨pg, 0, none⟩) 0 0] 30)) := Below.alloc (Below.refl _ _) (Nat.le_refl _) _
        have hk5 : Keep (fun i => blk R = some i) w2 w5 := (Keep.of_new hnA).trans_new (Keep.of_grown hg5) (fun i hi _ => hi)
        have hRo : ∀ i, blk R5 = some i → Since w i := fun i hi => by
          rcases hat5 with e | e
          · exact HRW2.out.2.1 i (e ▸ hi)
          · rw [e] at hi
            injection hi with hi
            show w.heap.size ≤ i
            have := HN2.out.size
            omega
        rw [HK.out] at ho5
        obtain ⟨hr5, hkp5⟩ := rows_push HRW2.out (HKP.out.drop1 0 (fun h => absurd rfl h)) (Nat.le_refl _) (Nat.zero_le _) hk5 ho5 hRo
        have HR5 := Lib.hid hr5
        have HS5 := Lib.hid (hkp5 HS2.out)
        have HN5 : Hid (New w w5) := Below.trans HN2.out (hk5.below HN2.out.size (fun i hi => HRW2.out.2.1 i hi))
        have HK5 : Hid (k + 1 = (rs ++ [[]]).length) := by show _ = _; rw [List.length_append, ← HK.out]; rfl
        clear hnA hk5 hRo hr5 hkp5 ho5 hg5 hat5 hb5 HS2 HRW2 HN2 HKP HOW
        refine go ?_
        go_wp2_with fail
        go_roundw
        case rel => exact ⟨en + (9 + ([] : List UInt8).length), sn, k + 1, sc, rc5, S, R5, _, snap, rs ++ [[]], rfl, rfl, by go_num, HTL.out, HSN, HK5, HAN, HS5, HR5, HN5.out⟩
        case measure => simp [intOf]; omega
      · skip
        go_wp2_with (at_builtin; refine wpList_append_at w2 rfl (.tmp 51) (.tmp 54) _ rfl 0 _ (.slice none 0 0) 24 u_rows i_bytes rfl R k rc xs rfl HOW.out (.slice (some ⟨pg, 1, none⟩) t.length (pc - 1)) rfl rfl rfl (by unfold maxLen; omega) (by omega) (Nat.zero_le _) ?_; intro R5 rc5 w5 ho5 hg5 hat5 hb5; refine stop ?_)
        have hnA : New w2 (w2.alloc (.cells #[.slice (some ⟨pg, 1, none⟩) t.length (pc - 1)] 30)) := Below.alloc (Below.refl _ _) (Nat.le_refl _) _
        have hk5 : Keep (fun i => blk R = some i) w2 w5 := (Keep.of_new hnA).trans_new (Keep.of_grown hg5) (fun i hi _ => hi)
        have hRo : ∀ i, blk R5 = some i → Since w i := fun i hi => by
          rcases hat5 with e | e
          · exact HRW2.out.2.1 i (e ▸ hi)
          · rw [e] at hi
            injection hi with hi
            show w.heap.size ≤ i
            have := HN2.out.size
            omega
        rw [HK.out] at ho5
        obtain ⟨hr5, hkp5⟩ := rows_push HRW2.out (HKP.out.drop1 1 (fun _ => rfl)) (by have := HPC.out.1; omega) (by have := HPC.out.2; omega) hk5 ho5 hRo
        have HR5 := Lib.hid hr5
        have HS5 := Lib.hid (hkp5 HS2.out)
        have HN5 : Hid (New w w5) := Below.trans HN2.out (hk5.below HN2.out.size (fun i hi => HRW2.out.2.1 i hi))
        have HK5 : Hid (k + 1 = (rs ++ [t]).length) := by show _ = _; rw [List.length_append, ← HK.out]; rfl
        clear hnA hk5 hRo hr5 hkp5 ho5 hg5 hat5 hb5 HS2 HRW2 HN2 HKP HOW
        refine go ?_
        go_wp2_with fail
        go_roundw
        case rel => exact ⟨en + (9 + (t : List UInt8).length), sn, k + 1, sc, rc5, S, R5, _, snap, rs ++ [t], rfl, rfl, by go_num, HTL.out, HSN, HK5, HAN, HS5, HR5, HN5.out⟩
        case measure => simp [intOf]; omega
    · -- a snapshot
      subst h0
      rw [List.drop_zero] at ht
      have h1 := markOf_le (markOf_some.2 ht)
      have HTL : Hid (0 + (9 + t.length) ≤ n) := by have : n = b.length := HN.out; show _ ≤ _; omega
      have HF := Lib.hid (rfirst_any A n c b wr HN.out (HR.out.new hnew) (by omega) (by unfold maxLen; omega))
      have HT := Lib.hid ht
      have hn0 : (0 : Int) < (n : Int) := by have := HTL.out; omega
      have hc0 : (0 : Int) < (c : Int) := by omega
      have hcn : ¬ c = 0 := by omega
      have HAN := Lib.hid (HA.out.snap_ (by rw [List.drop_zero]; exact ht))
      have hTL : (9 + (t.length : Int)) ≤ (n : Int) := by have := HTL.out; omega
      clear ht hnew h1
      go_wp2_with fail
      refine HF.out.mono ?_
      intro e w2 h
      unfold Firsted at h
      rw [HT.out] at h
      obtain ⟨P, pc, rfl, hoP, hw2⟩ := h
      rw [List.length_cons, Nat.add_comm t.length 1] at hoP ⊢
      have hpc := hoP.le
      obtain ⟨pg, rfl⟩ : ∃ pg, P = some ⟨pg, 0, none⟩ := by
        rcases Own.form hoP with ⟨_, h, _⟩ | ⟨pg, h, _⟩
        · omega
        · exact ⟨pg, h⟩
      have hKP : Kept (Since w) w2 none (some ⟨pg, 0, none⟩) (83 :: t) := Kept.own hoP (fun i hi => by cases hi) (fun i hi => Nat.le_trans HNEW.out.size hi)
      have c0 : w2.cell? ⟨pg, 0, none⟩ = some (.int .u8 83) := by
        obtain ⟨ad, e, hc⟩ := hoP.rb 0 83 rfl
        cases e
        exact hc
      have HKP := Lib.hid hKP
      have HRW2 := Lib.hid (HRW.out.new hw2)
      have HN2 := Lib.hid (New.trans HNEW.out hw2)
      have e1 : (1 : Int) ≤ 1 + (t.length : Int) := by omega
      have e2 : (1 : Int) + (t.length : Int) ≤ (pc : Int) := by omega
      clear hKP hoP hw2 hpc HF HS HRW
      by_cases hpc1 : pc = 1
      · subst hpc1
        have ht0 : t = [] := List.eq_nil_of_length_eq_zero (by omega)
        subst ht0
        have HS5 := Lib.hid (HKP.out.drop1 0 (fun h => absurd rfl h))
        go_wp2_with fail
        go_roundw
        case rel => exact ⟨0 + (9 + ([] : List UInt8).length), 0, k, 0, rc, some ⟨pg, 0, none⟩, R, xs, [], rs, rfl, rfl, by go_num, HTL.out, Lib.hid rfl, HK, HAN, HS5, HRW2, HN2.out⟩
        case measure => simp [intOf]; omega
      · have HS5 := Lib.hid (HKP.out.drop1 1 (fun _ => rfl))
        go_wp2_with fail
        go_roundw
        case rel => exact ⟨0 + (9 + t.length), t.length, k, pc - 1, rc, some ⟨pg, 1, none⟩, R, xs, t, rs, rfl, rfl, by go_num, HTL.out, Lib.hid rfl, HK, HAN, HS5, HRW2, HN2.out⟩
        case measure => simp [intOf]; omega
    · -- the end
      have HP := Lib.hid hp
      have henn : (en : Int) ≤ (n : Int) := by omega
      have henc : (en : Int) ≤ (c : Int) := by omega
      obtain ⟨X, hX⟩ : ∃ X : Option Addr, (if c = en then A else A.map (·.add en)) = X := ⟨_, rfl⟩
      have hrX : RB wr X (b.drop en) := by rw [← hX]; exact (HR.out.new hnew).cut en c (by have : n = b.length := HN.out; omega)
      have HF := Lib.hid (rfirst_any X (n - en) (c - en) (b.drop en) wr (by rw [List.length_drop, ← HN.out]) hrX (by omega) (by unfold maxLen; omega))
      clear hp hrX hnew
      rcases hno with hno | hno | ⟨x, t, hno, hx82, hx83⟩
      · have HT := Lib.hid hno
        clear hno
        go_wp2_with fail
        refine HF.out.mono ?_
        intro e w2 h
        unfold Firsted at h
        rw [HT.out] at h
        obtain ⟨rfl, hw2⟩ := h
        have HFIN := Lib.hid (parted_fin (sc := sc) HP.out HSN.out HK.out HS.out HRW.out HNEW.out hw2)
        clear hw2 HF
        go_wp2_with fail
        go_ret3
        exact HFIN.out
      · have HT := Lib.hid hno
        clear hno
        go_wp2_with fail
        refine HF.out.mono ?_
        intro e w2 h
        unfold Firsted at h
        rw [HT.out] at h
        obtain ⟨P, pc, rfl, hoP, hw2⟩ := h
        have HFIN := Lib.hid (parted_fin (sc := sc) HP.out HSN.out HK.out HS.out HRW.out HNEW.out hw2)
        clear hoP hw2 HF
        go_wp2_with fail
        go_ret3
        exact HFIN.out
      · have HT := Lib.hid hno
        have HX8 := Lib.hid hx83
        clear hno hx83
        go_wp2_with fail
        refine HF.out.mono ?_
        intro e w2 h
        unfold Firsted at h
        rw [HT.out] at h
        obtain ⟨P, pc, rfl, hoP, hw2⟩ := h
        rw [List.length_cons, Nat.add_comm t.length 1] at hoP ⊢
        obtain ⟨pg, rfl⟩ : ∃ pg, P = some ⟨pg, 0, none⟩ := by
          rcases Own.form hoP with ⟨_, h, _⟩ | ⟨pg, h, _⟩
          · omega
          · exact ⟨pg, h⟩
        have hc0 : w2.cell? ⟨pg, 0, none⟩ = some (.int .u8 x.toNat) := by
          obtain ⟨ad, e, hc⟩ := hoP.rb 0 x rfl
          cases e
          exact hc
        have HFIN := Lib.hid (parted_fin (sc := sc) HP.out HSN.out HK.out HS.out HRW.out HNEW.out hw2)
        have e1 : (1 : Int) ≤ 1 + (t.length : Int) := by omega
        clear hoP hw2 HF
        by_cases h83 : (x.toNat : Int) = 83
        · have hen0 : (0 : Int) < (en : Int) := by
            rcases HX8.out with h | h
            · exact absurd h83 h
            · omega
          rw [h83] at hc0
          clear hx82 h83
          go_wp2_with fail
          go_ret3
          exact HFIN.out
        · have db82 : ((x.toNat : Int) != 82) = true := by simpa using hx82
          have db83 : ((x.toNat : Int) != 83) = true := by simpa using h83
          go_wp2_with fail
          go_ret3
          exact HFIN.out
end Go.Proofs.Ytemgiodakoojiaa
