/- hanseref06: Open, Lay, Add, Compact: what they do. -/
import Derived.Test.YtemgiodakoojiaaRfP
namespace Go.Proofs.Ytemgiodakoojiaa
set_option linter.unusedVariables false
open Go.RowKit
open Go.Proofs.Ytemgiodakoojiaa.Frm
open Go.Proofs.Ytemgiodakoojiaa.Jr
theorem DidT.late {T : TypeId} {w w1 w' : World} {base g : Nat} {A : Option Addr} {v e : Ending} {τ : St} (h : DidT T w1 base g A v τ e w') (hn : New w w1) : DidT T w base g A v τ e w' := by
  obtain ⟨A', c', he, h1, hm⟩ := h
  exact ⟨A', c', he, h1, (Moved.of_new hn).trans hm⟩
set_option maxHeartbeats 1000000 in
theorem rlay_yes (mk : UInt8) (B : Option Addr) (m d : Nat) (t : List UInt8) (w : World) (hm : m = t.length) (hr : RB w B t) (hmd : m ≤ 131071) :
    Calls Try.prog 54 #[.int .u8 mk.toNat, .slice B m d] w fun e w' => ∃ F fc, e = .returned (.tuple #[.slice F (9 + t.length) fc, .int .i64 0]) ∧ OBs w' w.heap.size F (9 + t.length) fc (seal_ (mk :: t)) ∧ New w w' := by
  have hal : New w (w.alloc (.cells ([mk].map bv).toArray 5)) := (Below.refl _ _).alloc (Nat.le_refl _) _
  have hlit : OBs (w.alloc (.cells ([mk].map bv).toArray 5)) w.heap.size (some ⟨w.heap.size, 0, none⟩) 1 1 [mk] := OBs.lit (heap_alloc_new w _) (Nat.le_refl _) (by simp [maxLen])
  have hr1 := hr.new hal
  have HM := Lib.hid hm
  clear hm hr
  go_enter Try.func54, Try.ntmps54
  go_wp2_with (at_builtin; refine wpList_append_OB _ rfl (.tmp 7) (.tmp 8) _ rfl w.heap.size _ u_bytes i_byte _ 1 1 [mk] rfl hlit B m d t rfl HM.out hr1 (by omega) hal.size ?_; intro P pc w2 ho2 hg2 _; refine stop ?_)
  have hn2 : New w w2 := Below.trans hal (below_blk hlit hg2 hal.size)
  have hlen : 1 + m = (mk :: t).length := by rw [List.length_cons, ← HM.out]; omega
  have hsl := (rseal_any P (1 + m) pc (mk :: t) w2 hlen (OB.rb ho2)).mono (fun e w' h => h.yes (by rw [← hlen]; omega))
  have HSL := Lib.hid hsl
  have HN2 := Lib.hid hn2
  refine go ?_
  clear ho2 hg2 hlit hal hr1 hlen hsl hn2
  go_wp2_with fail
  refine HSL.out.mono ?_
  rintro e w3 ⟨F, fc, rfl, hf, hw3⟩
  rw [List.length_cons, show 8 + (t.length + 1) = 9 + t.length from by omega] at hf ⊢
  have HF := Lib.hid hf
  have HN3 := Lib.hid (New.trans HN2.out hw3)
  have hs2 := HN2.out.size
  clear hf hw3 HSL
  go_wp2_with fail
  go_ret2
  exact ⟨F, fc, rfl, HF.out.base_le hs2, HN3.out⟩
set_option maxHeartbeats 1000000 in
theorem rlay_no (mk : UInt8) (B : Option Addr) (m d : Nat) (t : List UInt8) (w : World) (hm : m = t.length) (hr : RB w B t) (hmd : 131071 < m) (hmb : m ≤ 1000000) :
    Calls Try.prog 54 #[.int .u8 mk.toNat, .slice B m d] w fun e w' => e = .returned (.tuple #[.slice none 0 0, .int .i64 5]) ∧ New w w' := by
  have hal : New w (w.alloc (.cells ([mk].map bv).toArray 5)) := (Below.refl _ _).alloc (Nat.le_refl _) _
  have hlit : OBs (w.alloc (.cells ([mk].map bv).toArray 5)) w.heap.size (some ⟨w.heap.size, 0, none⟩) 1 1 [mk] := OBs.lit (heap_alloc_new w _) (Nat.le_refl _) (by simp [maxLen])
  have hr1 := hr.new hal
  have HM := Lib.hid hm
  clear hm hr
  go_enter Try.func54, Try.ntmps54
  go_wp2_with (at_builtin; refine wpList_append_OB _ rfl (.tmp 7) (.tmp 8) _ rfl w.heap.size _ u_bytes i_byte _ 1 1 [mk] rfl hlit B m d t rfl HM.out hr1 (by omega) hal.size ?_; intro P pc w2 ho2 hg2 _; refine stop ?_)
  have hn2 : New w w2 := Below.trans hal (below_blk hlit hg2 hal.size)
  have hlen : 1 + m = (mk :: t).length := by rw [List.length_cons, ← HM.out]; omega
  have hsl := (rseal_any P (1 + m) pc (mk :: t) w2 hlen (OB.rb ho2)).mono (fun e w' h => h.no (by rw [← hlen]; omega))
  have HSL := Lib.hid hsl
  have HN2 := Lib.hid hn2
  refine go ?_
  clear ho2 hg2 hlit hal hr1 hlen hsl hn2
  go_wp2_with fail
  refine HSL.out.mono ?_
  rintro e w3 ⟨rfl, rfl⟩
  go_wp2_with fail
  go_ret2
  exact ⟨rfl, HN2.out⟩
section
variable {w : World} {k d : Nat} {B : Option Addr} {ρ : St}
theorem radd (h : DKr w 0 k B d ρ) (X : Option Addr) (m xc : Nat) (t : List UInt8) (hm : m = t.length) (hr : RB w X t) (hmb : m ≤ 1000000) (hlb : ρ.l.length ≤ 6000000) (x : Int) (τ : St) (hx : (if 131071 < t.length then (5, ρ) else ρ.append (seal_ (82 :: t))) = (x, τ)) :
    Calls Try.prog 37 #[.pointer (some ⟨k, 0, none⟩), .slice X m xc] w (DidR w 0 k B (.returned (.int .i64 x)) τ) := by
  have H := Lib.hid h
  have HLB := Lib.hid hlb
  by_cases hbig : 131071 < t.length
  · rw [if_pos hbig] at hx
    cases hx
    have HL := Lib.hid (rlay_no 82 X m xc t w hm hr (by omega) hmb)
    clear hm hr hbig h hlb
    go_enter Try.func37, Try.ntmps37
    go_wp2_with fail
    refine HL.out.mono ?_
    rintro e w1 ⟨rfl, hw1⟩
    have HF : Hid (DidR w 0 k B (.returned (.int .i64 5)) ρ (.returned (.int .i64 5)) w1) := ⟨B, d, rfl, H.out.new hw1, Moved.of_new hw1⟩
    clear hw1
    go_wp2_with fail
    go_ret
    exact HF.out
  · rw [if_neg hbig] at hx
    have HX := Lib.hid hx
    have HL := Lib.hid (rlay_yes 82 X m xc t w hm hr (by omega))
    have HTB : Hid (t.length ≤ 131071) := by show _ ≤ _; omega
    clear hm hr hbig h hx hlb
    go_enter Try.func37, Try.ntmps37
    go_wp2_with fail
    refine HL.out.mono ?_
    rintro e w1 ⟨F, fc, rfl, hf, hw1⟩
    have HAP := Lib.hid ((append_dr (H.out.new hw1) F (9 + t.length) fc (seal_ (82 :: t)) (by rw [seal_length, List.length_cons]; omega) (OB.rb hf) (by have := HLB.out; have := HTB.out; omega) (Nat.zero_le _) x τ HX.out).mono (fun e w' h => h.late hw1))
    clear hf hw1
    go_wp2_with fail
    refine HAP.out.mono ?_
    rintro e w2 hd
    obtain ⟨B', d', rfl, h2⟩ := hd
    have HF : Hid (DidR w 0 k B (.returned (.int .i64 x)) τ (.returned (.int .i64 x)) w2) := ⟨B', d', rfl, h2⟩
    clear h2
    go_wp2_with fail
    go_ret
    exact HF.out
theorem rcompact (h : DKr w 0 k B d ρ) (X : Option Addr) (m xc : Nat) (t : List UInt8) (hm : m = t.length) (hr : RB w X t) (hmb : m ≤ 1000000) (hlb : ρ.l.length ≤ 6000000) (x : Int) (τ : St) (hx : (if 131071 < t.length then (5, ρ) else ρ.rswap (seal_ (83 :: t))) = (x, τ)) :
    Calls Try.prog 33 #[.pointer (some ⟨k, 0, none⟩), .slice X m xc] w (DidR w 0 k B (.returned (.int .i64 x)) τ) := by
  have H := Lib.hid h
  have HLB := Lib.hid hlb
  by_cases hbig : 131071 < t.length
  · rw [if_pos hbig] at hx
    cases hx
    have HL := Lib.hid (rlay_no 83 X m xc t w hm hr (by omega) hmb)
    clear hm hr hbig h hlb
    go_enter Try.func33, Try.ntmps33
    go_wp2_with fail
    refine HL.out.mono ?_
    rintro e w1 ⟨rfl, hw1⟩
    have HF : Hid (DidR w 0 k B (.returned (.int .i64 5)) ρ (.returned (.int .i64 5)) w1) := ⟨B, d, rfl, H.out.new hw1, Moved.of_new hw1⟩
    clear hw1
    go_wp2_with fail
    go_ret
    exact HF.out
  · rw [if_neg hbig] at hx
    have HX := Lib.hid hx
    have HL := Lib.hid (rlay_yes 83 X m xc t w hm hr (by omega))
    have HTB : Hid (t.length ≤ 131071) := by show _ ≤ _; omega
    clear hm hr hbig h hx hlb
    go_enter Try.func33, Try.ntmps33
    go_wp2_with fail
    refine HL.out.mono ?_
    rintro e w1 ⟨F, fc, rfl, hf, hw1⟩
    have HAP := Lib.hid ((swap_dr (H.out.new hw1) F (9 + t.length) fc (seal_ (83 :: t)) (by rw [seal_length, List.length_cons]; omega) (OB.rb hf) (by have := HTB.out; omega) (Nat.zero_le _) x τ HX.out).mono (fun e w' h => h.late hw1))
    clear hf hw1
    go_wp2_with fail
    refine HAP.out.mono ?_
    rintro e w2 hd
    obtain ⟨B', d', rfl, h2⟩ := hd
    have HF : Hid (DidR w 0 k B (.returned (.int .i64 x)) τ (.returned (.int .i64 x)) w2) := ⟨B', d', rfl, h2⟩
    clear h2
    go_wp2_with fail
    go_ret
    exact HF.out
/-- what the page's Open does -/
def ropen_ (ρ : St) : Int × St := if ρ.off then (7, ρ) else if (parts ρ.l).2.2 < ρ.l.length then ρ.rcut (parts ρ.l).2.2 else (0, ρ)
theorem ropen (h : DKr w 0 k B d ρ) (hlb : ρ.l.length ≤ 5000000) (x : Int) (τ : St) (hx : ropen_ ρ = (x, τ)) :
    Calls Try.prog 51 #[.pointer (some ⟨k, 0, none⟩)] w (DidR w 0 k B (.returned (.int .i64 x)) τ) := by
  obtain ⟨l, s, off, tr, kk⟩ := ρ
  have h0 := h.c0
  have h2 := h.c2
  have H := Lib.hid h
  obtain ⟨n, hn⟩ : ∃ n, n = l.length := ⟨_, rfl⟩
  simp only [← hn] at h0 hlb
  have hle := h.own.le
  have hrb := h.own.rb
  simp only [← hn] at hle
  have HN := Lib.hid hn
  have hdM := hle.2
  have hnd := hle.1
  cases off with
  | true =>
    cases hx
    clear h hn hle hrb hdM hnd
    go_enter Try.func51, Try.ntmps51
    go_wp2_with fail
    go_ret
    exact ⟨B, d, rfl, H.out, Moved.refl _ _ _⟩
  | false =>
    have HPA := Lib.hid (rparts_any B n d l w hn hrb hnd hdM hlb)
    have hx' : (if (parts l).2.2 < l.length then St.rcut ⟨l, s, false, tr, kk⟩ (parts l).2.2 else (0, ⟨l, s, false, tr, kk⟩)) = (x, τ) := hx
    have HX := Lib.hid hx'
    unfold maxLen at hdM
    clear h hn hle hrb hx hx'
    go_enter Try.func51, Try.ntmps51
    go_wp2_with fail
    refine HPA.out.mono ?_
    rintro e w1 ⟨S, sc, R, rc, rfl, _, _, hw1⟩
    obtain ⟨en, hen⟩ : ∃ en, en = (parts l).2.2 := ⟨_, rfl⟩
    have hx2 := HX.out
    rw [← hen] at hx2 ⊢
    have HX2 := Lib.hid hx2
    have H1 := Lib.hid (H.out.new hw1)
    have HW := Lib.hid hw1
    have h01 := H1.out.c0
    simp only [← HN.out] at h01
    obtain ⟨sn, hsn⟩ : ∃ sn, sn = (parts l).1.length := ⟨_, rfl⟩
    obtain ⟨rn, hrn⟩ : ∃ rn, rn = (parts l).2.1.length := ⟨_, rfl⟩
    rw [← hsn, ← hrn]
    clear hx2 hw1 hen hsn hrn h0 h2
    by_cases hlt : en < n
    · have hlti : (en : Int) < (n : Int) := by omega
      have hx3 : St.rcut ⟨l, s, false, tr, kk⟩ en = (x, τ) := by
        have := HX2.out
        rwa [if_pos (by rw [← HN.out]; exact hlt)] at this
      have HCU := Lib.hid ((cut_dr H1.out en x τ hx3).mono (fun e w' h => h.late HW.out))
      clear hx3 hlt
      go_wp2_with fail
      refine HCU.out.mono ?_
      rintro e w2 hd
      obtain ⟨B', d', rfl, h2⟩ := hd
      have HF : Hid (DidR w 0 k B (.returned (.int .i64 x)) τ (.returned (.int .i64 x)) w2) := ⟨B', d', rfl, h2⟩
      clear h2
      go_wp2_with fail
      go_ret
      exact HF.out
    · have hlti : ¬ (en : Int) < (n : Int) := by omega
      have hx3 := HX2.out
      rw [if_neg (by rw [← HN.out]; exact hlt)] at hx3
      cases hx3
      have HF : Hid (DidR w 0 k B (.returned (.int .i64 0)) ⟨l, s, false, tr, kk⟩ (.returned (.int .i64 0)) w1) := ⟨B, d, rfl, H1.out, Moved.of_new HW.out⟩
      clear hlt
      go_wp2_with fail
      go_ret
      exact HF.out
end
end Go.Proofs.Ytemgiodakoojiaa
