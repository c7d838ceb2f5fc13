/- pack.Writer on wire.writer's block: a field's bytes. -/
import Derived.Test.YtagocmbcbbhehaaWrB
namespace Go.Proofs.Ytagocmbcbbhehaa
set_option linter.unusedVariables false
open Go.RowKit
section
variable {base g c : Nat} {A : Option Addr} {s : Wst} {w : World}
theorem wintC (h : PW w base g A c s.1 s.2) (z : Int) (hz : I64 z) (s1 : Ch) (hs : s1 = [some (iv z)]) (hsz : s.1.length + sz s1 ≤ MX) (hb : base ≤ w.heap.size) : Calls Try.prog 30 #[.pointer (some ⟨g, 0, none⟩), .int .i64 z] w (PutC w base g A s s1) := by
  unfold MX at hsz
  subst hs
  rw [sz_one] at hsz
  obtain ⟨v, h1, h2, h3⟩ := iv_is z hz
  show Calls _ _ _ _ (Put w base g A _ (s.1 ++ iv z) s.2)
  rw [h2] at hsz ⊢
  exact int_pk h v h1 (by omega) hb z h3
theorem wmarkC (h : PW w base g A c s.1 s.2) (b : Bool) (s1 : Ch) (hs : s1 = [some (uv (if b then 1 else 0))]) (hsz : s.1.length + sz s1 ≤ MX) (hb : base ≤ w.heap.size) : Calls Try.prog 32 #[.pointer (some ⟨g, 0, none⟩), .bool b] w (PutC w base g A s s1) := by
  unfold MX at hsz
  subst hs
  rw [sz_one] at hsz
  show Calls _ _ _ _ (Put w base g A _ (s.1 ++ uv (if b then 1 else 0)) s.2)
  exact mark_pk h (by omega) hb b
theorem wamC (h : PW w base g A c s.1 s.2) (n k : Nat) (hn : n ≤ 1048576) (hk : k ≤ 1048576) (re im : Nat) (hre : re = fl n) (him : im = fl k) (s1 : Ch) (hs : s1 = [some (uv n ++ uv k)]) (hsz : s.1.length + sz s1 ≤ MX) (hb : base ≤ w.heap.size) : Calls Try.prog 41 #[.pointer (some ⟨g, 0, none⟩), .complex .f64 re im] w (PutC w base g A s s1) := by
  unfold MX at hsz
  subst hs; subst hre; subst him
  rw [sz_one, List.length_append] at hsz
  exact amount_pk h n k hn hk (by omega) hb
theorem wtextC (h : PW w base g A c s.1 s.2) (T : Option Addr) (d : Nat) (t : List UInt8) (hr : RB w T t) (hT : ∀ ad, T = some ad → ad.block < base) (ht : t.length ≤ 131072) (s1 : Ch) (hs : s1 = [some (uv t.length ++ t)]) (hsz : s.1.length + sz s1 ≤ MX) (hb : base ≤ w.heap.size) : Calls Try.prog 65 #[.pointer (some ⟨g, 0, none⟩), .slice T t.length d] w (PutC w base g A s s1) := by
  unfold MX at hsz
  subst hs
  rw [sz_one, List.length_append] at hsz
  refine text_pk h T t.length d t rfl hr (fun ad e => ⟨?_, ?_, ?_⟩) ht (by omega) hb
  · have := hT ad e; have := h.le; omega
  · intro hA; have := hT ad e; have := (OB.lt h.own hA).1; omega
  · have := hT ad e; omega
end
end Go.Proofs.Ytagocmbcbbhehaa
