/- wire.writer: what they tell. By a program. -/
import Derived.Test.YtagocmbcbbhehaaWrR
namespace Go.Proofs.Ytagocmbcbbhehaa
set_option linter.unusedVariables false
open Go.RowKit
theorem FText.up {b b' : Nat} {w : World} {c : List Value} {s : Ch} (h : FText b w c s) (hb : b ≤ b') : FText b' w c s := by
  obtain ⟨A, d, l, h1, h2, h3⟩ := h
  exact ⟨A, d, l, h1, fun ad e => Nat.lt_of_lt_of_le (h2 ad e) hb, h3⟩
theorem FList.up {E : Nat → World → List Value → Ch → Prop} {z most b b' : Nat} {w : World} {c : List Value} {s : Ch} (hE : ∀ c s, E b w c s → E b' w c s) (h : FList E z most b w c s) (hb : b ≤ b') : FList E z most b' w c s := by
  obtain ⟨A, n, d, h1, h2, h3, h4⟩ := h
  refine ⟨A, n, d, h1, h2, h3, h4.imp id fun ⟨h5, es, h6, h7, h8⟩ => ⟨h5, es, h6, fun j e he => ?_, h8⟩⟩
  obtain ⟨ad, g1, g2, g3, g4, g5⟩ := h7 j e he
  exact ⟨ad, g1, Nat.lt_of_lt_of_le g2 hb, g3, g4, hE _ _ g5⟩
theorem EInt.up {b b' : Nat} {w : World} {c : List Value} {s : Ch} (h : EInt b w c s) (hb : b ≤ b') : EInt b' w c s := h
theorem EId.up {b b' : Nat} {w : World} {c : List Value} {s : Ch} (h : EId b w c s) (hb : b ≤ b') : EId b' w c s := by
  obtain ⟨c1, c2, s1, s2, h1, h2, e1, e2⟩ := h
  exact ⟨c1, c2, s1, s2, h1, h2, e1, e2⟩
theorem ESpan.up {b b' : Nat} {w : World} {c : List Value} {s : Ch} (h : ESpan b w c s) (hb : b ≤ b') : ESpan b' w c s := by
  obtain ⟨c1, c2, s1, s2, h1, h2, e1, e2⟩ := h
  exact ⟨c1, c2, s1, s2, h1, h2, e1, e2⟩
theorem ESlot.up {b b' : Nat} {w : World} {c : List Value} {s : Ch} (h : ESlot b w c s) (hb : b ≤ b') : ESlot b' w c s := by
  obtain ⟨c1, c2, s1, s2, h1, h2, e1, e2⟩ := h
  exact ⟨c1, c2, s1, s2, h1.up hb, h2, e1, e2⟩
theorem EBusy.up {b b' : Nat} {w : World} {c : List Value} {s : Ch} (h : EBusy b w c s) (hb : b ≤ b') : EBusy b' w c s := by
  obtain ⟨c1, c2, c3, s1, s2, s3, h1, h2, h3, e1, e2⟩ := h
  exact ⟨c1, c2, c3, s1, s2, s3, h1, h2, h3, e1, e2⟩
theorem EPart.up {b b' : Nat} {w : World} {c : List Value} {s : Ch} (h : EPart b w c s) (hb : b ≤ b') : EPart b' w c s := by
  obtain ⟨c1, c2, c3, s1, s2, s3, h1, h2, h3, e1, e2⟩ := h
  exact ⟨c1, c2, c3, s1, s2, s3, h1, h2, h3, e1, e2⟩
theorem EUse.up {b b' : Nat} {w : World} {c : List Value} {s : Ch} (h : EUse b w c s) (hb : b ≤ b') : EUse b' w c s := by
  obtain ⟨c1, c2, c3, s1, s2, s3, h1, h2, h3, e1, e2⟩ := h
  exact ⟨c1, c2, c3, s1, s2, s3, h1, h2, h3, e1, e2⟩
theorem EResv.up {b b' : Nat} {w : World} {c : List Value} {s : Ch} (h : EResv b w c s) (hb : b ≤ b') : EResv b' w c s := by
  obtain ⟨c1, c2, c3, c4, c5, s1, s2, s3, s4, s5, h1, h2, h3, h4, h5, e1, e2⟩ := h
  exact ⟨c1, c2, c3, c4, c5, s1, s2, s3, s4, s5, h1.up hb, h2, h3.up hb, h4, h5, e1, e2⟩
theorem EJob.up {b b' : Nat} {w : World} {c : List Value} {s : Ch} (h : EJob b w c s) (hb : b ≤ b') : EJob b' w c s := by
  obtain ⟨c1, c2, c3, c4, c5, c6, c7, c8, c9, s1, s2, s3, s4, s5, s6, s7, s8, s9, h1, h2, h3, h4, h5, h6, h7, h8, h9, e1, e2⟩ := h
  exact ⟨c1, c2, c3, c4, c5, c6, c7, c8, c9, s1, s2, s3, s4, s5, s6, s7, s8, s9, h1.up hb, h2, h3, h4, h5, h6, h7, FList.up (fun _ _ h => h.up hb) h8 hb, h9, e1, e2⟩
theorem EOffer.up {b b' : Nat} {w : World} {c : List Value} {s : Ch} (h : EOffer b w c s) (hb : b ≤ b') : EOffer b' w c s := by
  obtain ⟨c1, c2, s1, s2, h1, h2, e1, e2⟩ := h
  exact ⟨c1, c2, s1, s2, h1, FList.up (fun _ _ h => h.up hb) h2 hb, e1, e2⟩
theorem EOwn.up {b b' : Nat} {w : World} {c : List Value} {s : Ch} (h : EOwn b w c s) (hb : b ≤ b') : EOwn b' w c s := by
  obtain ⟨c1, c2, c3, c4, c5, c6, c7, c8, c9, c10, c11, c12, s1, s2, s3, s4, s5, s6, s7, s8, s9, s10, s11, s12, h1, h2, h3, h4, h5, h6, h7, h8, h9, h10, h11, h12, e1, e2⟩ := h
  exact ⟨c1, c2, c3, c4, c5, c6, c7, c8, c9, c10, c11, c12, s1, s2, s3, s4, s5, s6, s7, s8, s9, s10, s11, s12, h1.up hb, h2, h3, h4, h5, h6, h7, h8, h9, FList.up (fun _ _ h => h.up hb) h10 hb, FList.up (fun _ _ h => h.up hb) h11 hb, FList.up (fun _ _ h => h.up hb) h12 hb, e1, e2⟩
theorem ECopy.up {b b' : Nat} {w : World} {c : List Value} {s : Ch} (h : ECopy b w c s) (hb : b ≤ b') : ECopy b' w c s := by
  obtain ⟨c1, c2, c3, c4, c5, c6, c7, c8, s1, s2, s3, s4, s5, s6, s7, s8, h1, h2, h3, h4, h5, h6, h7, h8, e1, e2⟩ := h
  exact ⟨c1, c2, c3, c4, c5, c6, c7, c8, s1, s2, s3, s4, s5, s6, s7, s8, h1.up hb, h2, h3, h4, h5, h6, h7, h8, e1, e2⟩
theorem ERec.up {b b' : Nat} {w : World} {c : List Value} {s : Ch} (h : ERec b w c s) (hb : b ≤ b') : ERec b' w c s := by
  obtain ⟨c1, c2, c3, c4, c5, c6, c7, c8, c9, c10, c11, c12, s1, s2, s3, s4, s5, s6, s7, s8, s9, s10, s11, s12, h1, h2, h3, h4, h5, h6, h7, h8, h9, h10, h11, h12, e1, e2⟩ := h
  exact ⟨c1, c2, c3, c4, c5, c6, c7, c8, c9, c10, c11, c12, s1, s2, s3, s4, s5, s6, s7, s8, s9, s10, s11, s12, h1, h2.up hb, h3, h4, h5, h6, h7, h8, h9.up hb, h10.up hb, FList.up (fun _ _ h => h.up hb) h11 hb, FList.up (fun _ _ h => h.up hb) h12 hb, e1, e2⟩
theorem EMsg.up {b b' : Nat} {w : World} {c : List Value} {s : Ch} (h : EMsg b w c s) (hb : b ≤ b') : EMsg b' w c s := by
  obtain ⟨c1, c2, c3, c4, c5, c6, c7, c8, s1, s2, s3, s4, s5, s6, s7, s8, h1, h2, h3, h4, h5, h6, h7, h8, e1, e2⟩ := h
  exact ⟨c1, c2, c3, c4, c5, c6, c7, c8, s1, s2, s3, s4, s5, s6, s7, s8, h1, h2.up hb, h3, h4, h5, h6, h7.up hb, FList.up (fun _ _ h => h.up hb) h8 hb, e1, e2⟩
theorem EFrame.up {b b' : Nat} {w : World} {c : List Value} {s : Ch} (h : EFrame b w c s) (hb : b ≤ b') : EFrame b' w c s := by
  obtain ⟨c1, c2, c3, c4, c5, c6, c7, s1, s2, s3, s4, s5, s6, s7, h1, h2, h3, h4, h5, h6, h7, e1, e2⟩ := h
  exact ⟨c1, c2, c3, c4, c5, c6, c7, s1, s2, s3, s4, s5, s6, s7, h1, h2, h3, h4, h5, h6, h7.up hb, e1, e2⟩
theorem EState.up {b b' : Nat} {w : World} {c : List Value} {s : Ch} (h : EState b w c s) (hb : b ≤ b') : EState b' w c s := by
  obtain ⟨c1, c2, c3, c4, c5, c6, c7, c8, c9, c10, c11, c12, s1, s2, s3, s4, s5, s6, s7, s8, s9, s10, s11, s12, h1, h2, h3, h4, h5, h6, h7, h8, h9, h10, h11, h12, e1, e2⟩ := h
  exact ⟨c1, c2, c3, c4, c5, c6, c7, c8, c9, c10, c11, c12, s1, s2, s3, s4, s5, s6, s7, s8, s9, s10, s11, s12, h1, h2, h3, h4, h5, h6, FList.up (fun _ _ h => h.up hb) h7 hb, FList.up (fun _ _ h => h.up hb) h8 hb, FList.up (fun _ _ h => h.up hb) h9 hb, FList.up (fun _ _ h => h.up hb) h10 hb, FList.up (fun _ _ h => h.up hb) h11 hb, h12, e1, e2⟩
theorem EReply.up {b b' : Nat} {w : World} {c : List Value} {s : Ch} (h : EReply b w c s) (hb : b ≤ b') : EReply b' w c s := by
  obtain ⟨c1, c2, c3, c4, c5, c6, s1, s2, s3, s4, s5, s6, h1, h2, h3, h4, h5, h6, e1, e2⟩ := h
  exact ⟨c1, c2, c3, c4, c5, c6, s1, s2, s3, s4, s5, s6, h1, h2.up hb, h3, h4, h5, h6, e1, e2⟩
end Go.Proofs.Ytagocmbcbbhehaa
