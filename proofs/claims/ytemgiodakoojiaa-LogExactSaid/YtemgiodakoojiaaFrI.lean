/- hanseref04.First: what it does. -/
import Derived.Test.YtemgiodakoojiaaFrF
import Derived.Test.YtemgiodakoojiaaFrH
import Derived.BigQuiet
namespace Go.Proofs.Ytemgiodakoojiaa
open Go.RowKit
open Go.Proofs.Ytemgiodakoojiaa.Frm
set_option maxHeartbeats 1000000 in
theorem rfirst_none1 (A : Option Addr) (n c : Nat) (b : List UInt8) (w : World) (hn : n = b.length) (hr : RB w A b) (hnc : n ≤ c) (hM : c ≤ 9223372036854775807) (hs : (n : Int) < 8 ∨ (131072 : Int) < (num b : Int) ∨ (n : Int) - 8 < (num b : Int)) :
    Calls Try.prog 61 #[.slice A n c] w (Firsted w b) := by
  have HN := Lib.hid hn
  by_cases h8 : (n : Int) < 8
  · have HO := Lib.hid (first_lt (b := b) (by omega))
    clear hn hs
    go_enter Try.func61, Try.ntmps61
    go_wp2
    go_ret3
    exact firsted_none HO.out (New.refl _)
  · have h4 : 4 ≤ b.length := by omega
    obtain ⟨k, hk'⟩ : ∃ k, k = num b := ⟨_, rfl⟩
    have hk : k < 4294967296 := by rw [hk']; exact num_lt b
    have hget := fun W (h : RB W A b) => rnum_any A n c b W h4 HN.out h
    rw [← hk'] at hget hs
    have hbig : 131072 < k ∨ b.length - 8 < k → first b = none := fun h => first_big (by omega) (by rw [← hk']; exact h)
    have HO := Lib.hid (hbig (by omega))
    clear hk' hn hbig
    by_cases hb1 : (131072 : Int) < (k : Int)
    · clear hs
      go_enter Try.func61, Try.ntmps61
      go_wp2_with (go_at_call 64; refine (hget _ hr).mono ?_; rintro e w' ⟨rfl, j, rfl⟩)
      go_ret3
      exact firsted_none HO.out (New.drewN (New.refl _) _)
    · have hb2 : (n : Int) - 8 < (k : Int) := by omega
      clear hs
      go_enter Try.func61, Try.ntmps61
      go_wp2_with (go_at_call 64; refine (hget _ hr).mono ?_; rintro e w' ⟨rfl, j, rfl⟩)
      go_ret3
      exact firsted_none HO.out (New.drewN (New.refl _) _)
set_option maxHeartbeats 1000000 in
theorem rfirst_core (ad : Addr) (n c k : Nat) (b p : List UInt8) (w : World) (hr : RB w (some ad) b) (hn : n ≤ b.length) (hn' : b.length ≤ n) (hnc : n ≤ c) (hM : c ≤ 9223372036854775807) (h8 : (8 : Int) ≤ (n : Int)) (hb1 : ¬ (131072 : Int) < (k : Int)) (hb2 : ¬ (n : Int) - 8 < (k : Int))
    (hget : ∀ W, RB W (some ad) b → Calls Try.prog 64 #[.slice (some ad) n c] W fun e w' => e = .returned (.int .i64 (k : Int)) ∧ ∃ j, w' = W.drewN j)
    (hp : Hid (p = (b.drop 8).take k)) (hno : Hid (¬ seal_ p = b.take (8 + k) → first b = none)) (hyes : Hid (seal_ p = b.take (8 + k) → first b = some p)) :
    Calls Try.prog 61 #[.slice (some ad) n c] w (Firsted w b) := by
  have f1 : (8 : Int) ≤ 8 + (k : Int) := by omega
  have f2 : 8 + (k : Int) ≤ (c : Int) := by omega
  have hr8 := (cut8 hr (c := c) (by omega)).take k
  rw [← hp.out] at hr8
  obtain ⟨X, hX⟩ : ∃ X : Option Addr, (if c = 8 then some ad else some ⟨ad.block, ad.off + 8, none⟩) = X := ⟨_, rfl⟩
  rw [hX] at hr8
  have hpk : k = p.length := by rw [hp.out, List.length_take, List.length_drop]; omega
  have hbl : 8 + k = (b.take (8 + k)).length := by rw [List.length_take]; omega
  have hrt := hr.take (8 + k)
  have HPK := Lib.hid hpk
  have HP8 : Hid (8 + k - 8 = p.length) := by show _ = _; omega
  have HBL := Lib.hid hbl
  clear hpk hn hn' hbl
  go_enter Try.func61, Try.ntmps61
  go_wp2_with (go_at_call 64; refine (hget _ hr).mono ?_; rintro e w1 ⟨rfl, j, rfl⟩; refine stop ?_)
  obtain ⟨w1, hw1⟩ : ∃ w1, w1 = w.drewN j := ⟨_, rfl⟩
  have hnw : New w w1 := by rw [hw1]; exact New.drewN (New.refl _) _
  rw [← hw1]
  clear hw1
  refine go ?_
  go_wp2_with (at_builtin; refine wpList_append_OB _ rfl _ _ _ rfl w.heap.size _ u_bytes i_byte none 0 0 [] rfl (OB.nil _ _ _) X (8 + k - 8) (c - 8) p rfl HP8.out (hr8.new hnw) (by omega) hnw.size ?_; intro A2 c2 w2 ho2 hg2 hb2; refine stop ?_)
  have hw2 : New w w2 := Below.trans hnw (below_blk (OB.nil w1 w.heap.size 5) hg2 hnw.size)
  have hk131 : p.length ≤ 131072 := by have h : k = p.length := HPK.out; omega
  have ho2 : OBs w2 w.heap.size A2 k c2 p := by
    have h : 0 + (8 + k - 8) = k := by omega
    rw [h] at ho2
    simpa using ho2
  have HSL : Hid (∀ m, m = k → Calls Try.prog 21 #[.slice A2 m c2] w2 fun e w' => ∃ A c, e = .returned (.tuple #[.slice A (8 + p.length) c, .int .i64 0]) ∧ OBs w' w2.heap.size A (8 + p.length) c (seal_ p) ∧ New w2 w') := by
    intro m hm
    subst hm
    have hsl := rseal_any A2 m c2 p w2 HPK.out ho2.rb
    unfold Sealed at hsl
    exact hsl.mono fun e w' h => by rwa [if_pos hk131] at h
  clear hg2 hnw hk131
  refine go ?_
  go_wp2_with fail
  refine (HSL.out _ (by omega)).mono ?_
  rintro e w3 ⟨A3, c3, rfl, ho3, hw3⟩
  have hrt3 := hrt.new (New.trans hw2 hw3)
  have r1 := fun j => run_convert_RB (P := Try.prog) (w3.drewN j) _ _ u_bytes u_byte (8 + p.length) c3 ho3.len.symm (ho3.rb.drewN j) _ u_string
  have r2 := fun j => run_convert_RB (P := Try.prog) (w3.drewN j) _ _ u_bytes u_byte (8 + k) c HBL.out (hrt3.drewN j) _ u_string
  have HL : Hid (8 + p.length = 8 + k) := by show _ = _; have : k = p.length := HPK.out; omega
  have ho2' := ho2.new hw3
  clear ho3 hrt3 HSL ho2 hr8 hrt hr hget
  by_cases heq : seal_ p = b.take (8 + k)
  · have HO := Lib.hid (hyes.out heq)
    have hq : ((seal_ p) != (b.take (8 + k))) = false := by rw [heq]; simp
    have hq2 : ((seal_ p) == (b.take (8 + k))) = true := by rw [heq]; simp
    clear heq hno hyes
    go_wp2_with fail
    go_quiet (fail)
    go_wp2_with fail
    go_ret3
    exact firsted_some HO.out HPK.out (by omega) (ho2'.drewN _) (New.drewN (New.trans hw2 hw3) _)
  · have HO := Lib.hid (hno.out heq)
    have hq : ((seal_ p) != (b.take (8 + k))) = true := by rw [bne_iff_ne]; exact heq
    have hq2 : ((seal_ p) == (b.take (8 + k))) = false := by rw [beq_eq_false_iff_ne]; exact heq
    clear heq hno hyes
    go_wp2_with fail
    go_quiet (fail)
    go_wp2_with fail
    go_ret3
    exact firsted_none HO.out (New.drewN (New.trans hw2 hw3) _)
theorem rfirst_any (A : Option Addr) (n c : Nat) (b : List UInt8) (w : World) (hn : n = b.length) (hr : RB w A b) (hnc : n ≤ c) (hmax : c ≤ maxLen) :
    Calls Try.prog 61 #[.slice A n c] w (Firsted w b) := by
  have hM := hmax
  unfold maxLen at hM
  by_cases hs : (n : Int) < 8 ∨ (131072 : Int) < (num b : Int) ∨ (n : Int) - 8 < (num b : Int)
  · exact rfirst_none1 A n c b w hn hr hnc (by omega) hs
  · have h8 : ¬ (n : Int) < 8 := fun h => hs (.inl h)
    have hb1 : ¬ (131072 : Int) < (num b : Int) := fun h => hs (.inr (.inl h))
    have hb2 : ¬ (n : Int) - 8 < (num b : Int) := fun h => hs (.inr (.inr h))
    obtain ⟨ad, rfl⟩ : ∃ ad, A = some ad := by obtain ⟨ad, h, _⟩ := hr.at_ (j := 0) (by omega); exact ⟨ad, h⟩
    have hpl : ((b.drop 8).take (num b)).length = num b := by rw [List.length_take, List.length_drop]; omega
    refine rfirst_core ad n c (num b) b ((b.drop 8).take (num b)) w hr (by omega) (by omega) hnc (by omega) (by omega) hb1 hb2 (fun W h => rnum_any (some ad) n c b W (by omega) hn h) rfl ?_ ?_
    · show ¬ _ → _
      intro h
      cases hf : first b with
      | none => rfl
      | some q =>
        exfalso
        have h1 := first_some hf
        have h2 := first_seal hf
        rw [h1.2.2.1, h1.2.2.2] at h2
        exact h h2.symm
    · show _ → _
      intro h
      rw [first_iff]
      rw [hpl]
      exact ⟨by omega, h.symm⟩
end Go.Proofs.Ytemgiodakoojiaa
