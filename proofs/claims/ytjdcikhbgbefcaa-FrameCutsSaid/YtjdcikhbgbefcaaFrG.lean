/- frame.Scan: what it does. -/
import Derived.Test.YtjdcikhbgbefcaaFrF
import Derived.ScopeJumps
namespace Go.Proofs.Ytjdcikhbgbefcaa
open Go.RowKit
open Go.Proofs.Ytjdcikhbgbefcaa.Frm
def Scanned (w : World) (b : List UInt8) (e : Ending) (w' : World) : Prop :=
  ∃ A c, e = .returned (.tuple #[.slice A (scan b).1.length c, .int .i64 ((scan b).2 : Nat)]) ∧ ORs w' w.heap.size A (scan b).1.length c (scan b).1 ∧ New w w'
/-- what stands at the label: the frames so far, and where they end -/
def ScanAt (w : World) (b : List UInt8) (A : Option Addr) (n c : Nat) (a' : Act) (w' : World) : Prop :=
  ∃ (k en : Nat) (A' : Option Addr) (c' : Nat) (ps : List (List UInt8)) (u4 u5 u6 u7 u8 u9 u10 u11 u12 u13 u14 u15 u16 u17 u18 u19 u20 u21 u22 u23 u24 u25 : Value),
    a' = { tmps := #[.slice A n c, undef, .slice A' k c', .int .i64 en, u4, u5, u6, u7, u8, u9, u10, u11, u12, u13, u14, u15, u16, u17, u18, u19, u20, u21, u22, u23, u24, u25], defers := [] } ∧
      ORs w' w.heap.size A' k c' ps ∧ New w w' ∧ en ≤ b.length ∧ 8 * k ≤ en ∧ scan b = (ps ++ (scan (b.drop en)).1, en + (scan (b.drop en)).2)
theorem scanned_fin {w w' : World} {b : List UInt8} {k en c' : Nat} {A' : Option Addr} {ps : List (List UInt8)} (ho : ORs w' w.heap.size A' k c' ps) (hw : New w w') (hs : scan b = (ps ++ (scan (b.drop en)).1, en + (scan (b.drop en)).2)) (h : first (b.drop en) = none) :
    Scanned w b (.returned (.tuple #[.slice A' k c', .int .i64 (en : Int)])) w' := by
  rw [scan_none h] at hs
  simp only [List.append_nil, Nat.add_zero] at hs
  unfold Scanned
  rw [hs]
  have hk := ho.len
  subst hk
  exact ⟨A', c', rfl, ho, hw⟩
theorem scan_next {b p : List UInt8} {en : Nat} {ps : List (List UInt8)} (hs : scan b = (ps ++ (scan (b.drop en)).1, en + (scan (b.drop en)).2)) (h : first (b.drop en) = some p) :
    scan b = ((ps ++ [p]) ++ (scan (b.drop (en + (8 + p.length)))).1, en + (8 + p.length) + (scan (b.drop (en + (8 + p.length)))).2) := by
  rw [hs, scan_some h, List.drop_drop]
  simp [Nat.add_assoc]
set_option maxHeartbeats 600000 in
theorem scan_any (A : Option Addr) (n c : Nat) (b : List UInt8) (w : World) (hn : n = b.length) (hr : RB w A b) (hnc : n ≤ c) (hmax : c ≤ maxLen) (hbd : n ≤ 1099511627776) :
    Calls Try.prog 20 #[.slice A n c] w (Scanned w b) := by
  have HN := Lib.hid hn
  have hM := hmax
  unfold maxLen at hM
  have hcut := fun en => hr.cut en c (by omega)
  clear hn
  go_enter Try.func20, Try.ntmps20
  go_wp2
  refine wp_scope_jumps 0 (ScanAt w b A n c) (fun a' _ => n - (intOf (a'.tmps.getD 3 undef)).toNat) rfl ?_ ?_
  · have hfirst := first_any A n c b w HN.out hr hnc hmax
    have HF := Lib.hid hfirst
    clear hfirst hcut hr
    have hor : ORs w w.heap.size none 0 0 [] := OR.nil _ _ _ _
    have hs0 : scan b = ([] ++ (scan (b.drop 0)).1, 0 + (scan (b.drop 0)).2) := by simp
    have HS := Lib.hid hs0
    clear hs0
    cases hf : first b with
    | none =>
      have HN1 := Lib.hid hf
      clear hf
      go_wp2_with fail
      go_step3
      go_wp2_with fail
      refine HF.out.mono ?_
      intro e w2 h
      unfold Firsted at h
      rw [HN1.out] at h
      obtain ⟨rfl, hw2⟩ := h
      clear HF
      go_wp2_with fail
      simp only [Exit.jump]
      go_ret2
      exact scanned_fin (en := 0) (hor.new hw2) hw2 HS.out HN1.out
    | some p =>
      have hb := (first_some hf).1
      have HP := Lib.hid hb
      have HN1 := Lib.hid hf
      clear hf hb
      go_wp2_with fail
      go_step3
      go_wp2_with fail
      refine HF.out.mono ?_
      intro e w2 h
      unfold Firsted at h
      rw [HN1.out] at h
      obtain ⟨A2, c2, rfl, hob, hw2⟩ := h
      clear HF
      have hpl : 8 + p.length ≤ n := by have := HP.out; have : n = b.length := HN.out; omega
      go_wp2_with (at_builtin; refine wpList_append_OR _ rfl _ _ _ rfl w.heap.size _ _ (by decide) u_rows i_bytes none 0 0 [] rfl (hor.new hw2) A2 p.length c2 p rfl hob (by omega) hw2.size ?_; intro A3 c3 w3 hor3 hb3)
      have hnew3 : New w w3 := Below.trans hw2 hb3
      clear hb3 hw2 hor hob
      go_wp2_with fail
      go_step3
      exact ⟨rfl, 1, 8 + p.length, A3, c3, [p], _, _, _, _, _, _, _, _, _, _, _, _, _, _, _, _, _, _, _, _, _, _, rfl, hor3, hnew3, HP.out, by omega, by have := scan_next HS.out HN1.out; simpa using this⟩
  · clear hr
    rintro a' w1 ⟨k, en, A', c', ps, u4, u5, u6, u7, u8, u9, u10, u11, u12, u13, u14, u15, u16, u17, u18, u19, u20, u21, u22, u23, u24, u25, rfl, hor, hnew, hen, hk8, hs⟩
    have hc' := hor.le
    unfold maxLen at hc'
    have henn : (en : Int) ≤ (n : Int) := by have : n = b.length := HN.out; omega
    have henc : (en : Int) ≤ (c : Int) := by omega
    obtain ⟨X, hX⟩ : ∃ X : Option Addr, (if c = en then A else A.map (·.add en)) = X := ⟨_, rfl⟩
    have hrX := (hcut en).new hnew
    rw [hX] at hrX
    have hfirst := first_any X (n - en) (c - en) (b.drop en) w1 (by rw [List.length_drop, ← HN.out]) hrX (by omega) (by unfold maxLen; omega)
    have HS := Lib.hid hs
    have HF := Lib.hid hfirst
    clear hs hfirst hen hrX
    cases hf : first (b.drop en) with
    | none =>
      have HN1 := Lib.hid hf
      clear hf
      go_wp2_with fail
      refine HF.out.mono ?_
      intro e w2 h
      unfold Firsted at h
      rw [HN1.out] at h
      obtain ⟨rfl, hw2⟩ := h
      clear HF
      go_wp2_with fail
      simp only [Exit.jump]
      go_ret2
      exact scanned_fin (hor.new hw2) (New.trans hnew hw2) HS.out HN1.out
    | some p =>
      have hb := (first_some hf).1
      rw [List.length_drop] at hb
      have hpl : en + (8 + p.length) ≤ n := by have : n = b.length := HN.out; omega
      have hplb : en + (8 + p.length) ≤ b.length := by have : n = b.length := HN.out; omega
      have HN1 := Lib.hid hf
      have HP := Lib.hid (And.intro hpl hplb)
      clear hf hb hpl hplb
      go_wp2_with fail
      refine HF.out.mono ?_
      intro e w2 h
      unfold Firsted at h
      rw [HN1.out] at h
      obtain ⟨A2, c2, rfl, hob, hw2⟩ := h
      clear HF
      obtain ⟨hpl, hplb⟩ := HP.out
      go_wp2_with (at_builtin; refine wpList_append_OR _ rfl _ _ _ rfl w.heap.size _ _ (by decide) u_rows i_bytes A' k c' ps rfl (hor.new hw2) A2 p.length c2 p rfl (hob.base_le hnew.size) (by omega) (Nat.le_trans hnew.size hw2.size) ?_; intro A3 c3 w3 hor3 hb3)
      have hnew3 : New w w3 := Below.trans (New.trans hnew hw2) hb3
      clear hb3 hw2 hnew hor hob
      go_wp2_with fail
      go_step3
      refine ⟨rfl, ⟨k + 1, en + (8 + p.length), A3, c3, ps ++ [p], _, _, _, _, _, _, _, _, _, _, _, _, _, _, _, _, _, _, _, _, _, _, rfl, hor3, hnew3, hplb, by omega, scan_next HS.out HN1.out⟩, ?_⟩
      simp [intOf]
      omega
end Go.Proofs.Ytjdcikhbgbefcaa
