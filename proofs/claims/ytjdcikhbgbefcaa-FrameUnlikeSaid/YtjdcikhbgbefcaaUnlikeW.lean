/- hanselaw04.FrameUnlike: the walk. -/
import Derived.Test.YtjdcikhbgbefcaaFrD
import Derived.Test.YtjdcikhbgbefcaaFrE
namespace Go.Proofs.Ytjdcikhbgbefcaa
open Go.RowKit
open Go.Proofs.Ytjdcikhbgbefcaa.Frm
set_option maxHeartbeats 1000000 in
theorem unlike_law (A : Option Addr) (n c : Nat) (a : List UInt8) (B : Option Addr) (m d : Nat) (b : List UInt8) (w : World) (hn : n = a.length) (hnc : n ≤ c) (hmax : c ≤ maxLen) (ha : RB w A a) (hm : m = b.length) (hmd : m ≤ d) (hmax' : d ≤ maxLen) (hb : RB w B b) :
    Calls Try.prog 4 #[.slice A n c, .slice B m d] w fun e w' => e = .returned (.bool true) ∧ New w w' := by
  have HN := Lib.hid hn
  have HM := Lib.hid hm
  by_cases hbig : (262144 : Int) < (n : Int)
  · clear hn hm
    go_enter Try.func4, Try.ntmps4
    go_wp2_with fail
    go_ret
    exact ⟨rfl, New.refl _⟩
  by_cases hbig2 : (262144 : Int) < (m : Int)
  · clear hn hm
    go_enter Try.func4, Try.ntmps4
    go_wp2_with fail
    go_ret
    exact ⟨rfl, New.refl _⟩
  by_cases h1 : a.length ≤ 131072
  · by_cases h2 : b.length ≤ 131072
    · have H1 := Lib.hid h1
      have H2 := Lib.hid h2
      have hnm : n ≤ 131072 := by omega
      have hmm : m ≤ 131072 := by omega
      clear hn hm h1 h2
      go_enter Try.func4, Try.ntmps4
      go_wp2_with fail
      refine (seal_yes A n c a w HN.out ha hnc hmax H1.out).mono ?_
      rintro e w1 ⟨⟨A1, c1, rfl, ho1⟩, hw1⟩
      go_wp2_with fail
      refine (seal_yes B m d b w1 HM.out (hb.new hw1) hmd hmax' H2.out).mono ?_
      rintro e w2 ⟨⟨A2, c2, rfl, ho2⟩, hw2⟩
      go_wp2_with fail
      refine (bytes_is A1 A2 _ c1 _ c2 (seal_ a) (seal_ b) w2 ho1.len.symm ho2.len.symm (ho1.rb.new hw2) ho2.rb (a == b) ?_).mono ?_
      · by_cases he : a = b
        · subst he; simp
        · have h3 : ¬ seal_ a = seal_ b := fun h => he (seal_inj H1.out H2.out h)
          rw [beq_eq_false_iff_ne.2 h3, beq_eq_false_iff_ne.2 he]
      rintro e w3 ⟨rfl, rfl⟩
      have hw12 := New.trans hw1 hw2
      obtain ⟨q, hq⟩ : ∃ q, q = (a == b) := ⟨_, rfl⟩
      rw [← hq]
      have HQ := Lib.hid hq
      clear hq
      go_wp2_with fail
      refine (bytes_is A B n c m d a b w2 HN.out HM.out (ha.new hw12) (hb.new hw12) q HQ.out.symm).mono ?_
      rintro e w3 ⟨rfl, rfl⟩
      have hqq : (q == q) = true := by simp
      go_wp2_with fail
      refine (wakes_any _).mono ?_
      rintro e w9 ⟨rfl, hw9⟩
      go_wp2_with fail
      go_ret
      exact ⟨rfl, New.trans hw12 hw9⟩
    · have H1 := Lib.hid h1
      have H2 := Lib.hid h2
      have hnm : n ≤ 131072 := by omega
      have hmm : 131072 < m := by omega
      have hd : decide ((n : Int) ≤ 131072) = true := by simp; omega
      clear hn hm h1 h2
      go_enter Try.func4, Try.ntmps4
      go_wp2_with fail
      refine (seal_yes A n c a w HN.out ha hnc hmax H1.out).mono ?_
      rintro e w1 ⟨⟨A1, c1, rfl, ho1⟩, hw1⟩
      go_wp2_with fail
      refine (seal_no B m d b w1 HM.out (hb.new hw1) hmd hmax' H2.out).mono ?_
      rintro e w2 ⟨rfl, rfl⟩
      go_wp2_with fail
      refine (wakes_any _).mono ?_
      rintro e w9 ⟨rfl, hw9⟩
      go_wp2_with fail
      go_ret
      exact ⟨rfl, New.trans hw1 hw9⟩
  · by_cases h2 : b.length ≤ 131072
    · have H1 := Lib.hid h1
      have H2 := Lib.hid h2
      have hnm : 131072 < n := by omega
      have hmm : m ≤ 131072 := by omega
      have hd : decide ((m : Int) ≤ 131072) = true := by simp; omega
      clear hn hm h1 h2
      go_enter Try.func4, Try.ntmps4
      go_wp2_with fail
      refine (seal_no A n c a w HN.out ha hnc hmax H1.out).mono ?_
      rintro e w1 ⟨rfl, rfl⟩
      go_wp2_with fail
      refine (seal_yes B m d b w HM.out hb hmd hmax' H2.out).mono ?_
      rintro e w2 ⟨⟨A2, c2, rfl, ho2⟩, hw2⟩
      go_wp2_with fail
      refine (wakes_any _).mono ?_
      rintro e w9 ⟨rfl, hw9⟩
      go_wp2_with fail
      go_ret
      exact ⟨rfl, New.trans hw2 hw9⟩
    · have H1 := Lib.hid h1
      have H2 := Lib.hid h2
      have hnm : 131072 < n := by omega
      have hmm : 131072 < m := by omega
      clear hn hm h1 h2
      go_enter Try.func4, Try.ntmps4
      go_wp2_with fail
      refine (seal_no A n c a w HN.out ha hnc hmax H1.out).mono ?_
      rintro e w1 ⟨rfl, rfl⟩
      go_wp2_with fail
      refine (seal_no B m d b w HM.out hb hmd hmax' H2.out).mono ?_
      rintro e w2 ⟨rfl, rfl⟩
      go_wp2_with fail
      refine (wakes_any _).mono ?_
      rintro e w9 ⟨rfl, hw9⟩
      go_wp2_with fail
      go_ret
      exact ⟨rfl, hw9⟩
end Go.Proofs.Ytjdcikhbgbefcaa
