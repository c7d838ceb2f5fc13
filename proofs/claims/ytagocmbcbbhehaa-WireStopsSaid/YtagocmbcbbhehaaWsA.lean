/- What the records of hanselaw05.WireStops are, and what wire's functions tell of them. -/
import Derived.Test.YtagocmbcbbhehaaWnC
namespace Go.Proofs.Ytagocmbcbbhehaa
set_option linter.unusedVariables false
open Go.RowKit
theorem FList.move {E : Nat → World → List Value → Ch → Prop} {z most b b' : Nat} {w w' : World} {c : List Value} {s : Ch} (hE : ∀ c s, E b w c s → E b' w' c s) (h : FList E z most b w c s) (hk : Below b w w') (hb : b ≤ b') : FList E z most b' w' c s := by
  obtain ⟨A, n, d, h1, h2, h3, h4⟩ := h
  refine ⟨A, n, d, h1, h2, h3, h4.imp id fun ⟨h5, es, h6, h7, h8⟩ => ⟨h5, es, h6, fun j e he => ?_, h8⟩⟩
  obtain ⟨ad, g1, g2, g3, g4, g5⟩ := h7 j e he
  exact ⟨ad, g1, Nat.lt_of_lt_of_le g2 hb, g3, g4.below hk (by rw [add_block]; exact g2), hE _ _ g5⟩
/-- what is told: some bytes, and a code -/
def Told (X : Int) (w : World) (e : Ending) (w' : World) : Prop := ∃ B m d, e = .returned (.tuple #[.slice B m d, .int .i64 X]) ∧ New w w'
theorem Wrote.told {w w' : World} {cs : Ch} {e : Ending} {X : Int} (h : Wrote w (run cs ([], false)) e w') (hX : X = if none ∈ cs then 6 else 0) : Told X w e w' := by
  obtain ⟨hn, ⟨h1, h2⟩ | ⟨h1, B, d, h2, h3⟩⟩ := h
  · rw [run_long] at h1
    have : none ∈ cs := by simpa using h1
    rw [if_pos this] at hX
    subst hX
    exact ⟨_, _, _, h2, hn⟩
  · rw [run_long] at h1
    have : none ∉ cs := by simpa using h1
    rw [if_neg this] at hX
    subst hX
    exact ⟨_, _, _, h2, hn⟩
theorem iz : (iv 0).length = 1 := by
  have hiv : iv 0 = [0] := by unfold iv; rw [if_pos (by decide)]; exact uv_small (by decide)
  rw [hiv]; rfl
theorem uz : (uv 0).length = 1 := by rw [uv_small (by decide)]; rfl
theorem z_span {b : Nat} {w : World} : ESpan b w [.int .i64 0, .int .i64 0] ([some (iv 0)] ++ [some (iv 0)]) := ⟨_, _, _, _, z_int 0 (by decide), z_int 0 (by decide), rfl, rfl⟩
theorem z_slot {b : Nat} {w : World} : ESlot b w [.int .i64 0, .int .i64 0, .int .i64 0] (([some (iv 0)] ++ [some (iv 0)]) ++ [some (iv 0)]) := ⟨_, _, _, _, z_id, z_int 0 (by decide), rfl, rfl⟩
theorem e_job {b : Nat} {w : World} {p q : Int} (hp : I64 p) (hq : I64 q) {S : Value} {c : Ch} (h : FList EInt 1 8 b w [S] c) :
    ∃ cs, EJob b w [.int .i64 p, .int .i64 q, .int .i64 0, .complex .f64 0 0, .int .i64 0, .int .i64 0, .int .i64 0, .int .i64 0, S, .bool false] cs ∧ sz cs ≤ sz c + 100 ∧ (none ∈ cs ↔ none ∈ c) := by
  refine ⟨_, ⟨_, _, _, _, _, _, _, _, _, _, _, _, _, _, _, _, _, _, ⟨_, _, _, _, z_int p hp, z_int q hq, rfl, rfl⟩, z_int 0 (by decide), z_am, z_int 0 (by decide), z_int 0 (by decide), z_int 0 (by decide), z_int 0 (by decide), h, z_mark, rfl, rfl⟩, ?_, ?_⟩
  · have h1 := iv_le p hp
    have h2 := iv_le q hq
    simp only [sz_append, sz, List.length_append, iz, uz]
    omega
  · simp
theorem e_rec {b : Nat} {w : World} {p q : Int} (hp : I64 p) (hq : I64 q) {S1 S2 S3 : Value} {c1 c2 c3 : Ch} (h1 : FList EInt 1 8 b w [S1] c1) (h2 : FList ESpan 2 8 b w [S2] c2) (h3 : FList ESlot 3 256 b w [S3] c3) :
    ∃ cs, ERec b w [.int .i64 0, .int .i64 0, .int .i64 0, .int .i64 0, .int .i64 0, .int .i64 0, .int .i64 0, .int .i64 0, .bool false, .int .i64 p, .int .i64 q, .int .i64 0, .complex .f64 0 0, .int .i64 0, .int .i64 0, .int .i64 0, .int .i64 0, S1, .bool false, .int .i64 0, .int .i64 0, .complex .f64 0 0, S2, S3] cs ∧ sz cs ≤ sz c1 + sz c2 + sz c3 + 200 ∧ (none ∈ cs ↔ none ∈ c1 ∨ none ∈ c2 ∨ none ∈ c3) := by
  obtain ⟨cj, hj, hj1, hj2⟩ := e_job hp hq h1
  refine ⟨_, ⟨_, _, _, _, _, _, _, _, _, _, _, _, _, _, _, _, _, _, _, _, _, _, _, _, z_int 0 (by decide), z_id, z_int 0 (by decide), z_int 0 (by decide), z_int 0 (by decide), z_int 0 (by decide), z_int 0 (by decide), z_mark, hj, ⟨_, _, _, _, _, _, z_int 0 (by decide), z_int 0 (by decide), z_am, rfl, rfl⟩, h2, h3, rfl, rfl⟩, ?_, ?_⟩
  · simp only [sz_append, sz, List.length_append, iz, uz]
    omega
  · simp [hj2]
theorem z_msg {b : Nat} {w : World} : ∃ cs, EMsg b w [.int .i64 0, .int .i64 0, .int .i64 0, .int .i64 0, .int .i64 0, .int .i64 0, .bool false, .int .i64 0, .int .i64 0, .int .i64 0, .complex .f64 0 0, .int .i64 0, .int .i64 0, .int .i64 0, .int .i64 0, .slice none 0 0, .bool false, .slice none 0 0] cs ∧ sz cs ≤ 300 ∧ none ∉ cs := by
  obtain ⟨cj, hj, hj1, hj2⟩ := e_job (b := b) (w := w) (p := 0) (q := 0) (by decide) (by decide) nil_list
  refine ⟨_, ⟨_, _, _, _, _, _, _, _, _, _, _, _, _, _, _, _, z_int 0 (by decide), z_id, z_int 0 (by decide), z_int 0 (by decide), z_int 0 (by decide), z_mark, hj, nil_list, rfl, rfl⟩, ?_, ?_⟩
  · simp only [sz, uz] at hj1
    simp only [sz_append, sz, iz, uz]
    omega
  · simp [hj2]
theorem e_state {b : Nat} {w : World} {p : Int} (hp : I64 p) {S : Value} {c : Ch} (h : FList ESlot 3 1024 b w [S] c) :
    ∃ cs, EState b w [.int .i64 p, .complex .f64 0 0, .int .i64 0, .bool false, .int .i64 0, .int .i64 0, .slice none 0 0, .slice none 0 0, .slice none 0 0, S, .slice none 0 0, .int .i64 0] cs ∧ sz cs ≤ sz c + 100 ∧ (none ∈ cs ↔ none ∈ c) := by
  refine ⟨_, ⟨_, _, _, _, _, _, _, _, _, _, _, _, _, _, _, _, _, _, _, _, _, _, _, _, z_int p hp, z_am, z_int 0 (by decide), z_mark, z_int 0 (by decide), z_int 0 (by decide), nil_list, nil_list, nil_list, h, nil_list, z_int 0 (by decide), rfl, rfl⟩, ?_, ?_⟩
  · have h1 := iv_le p hp
    simp only [sz_append, sz, List.length_append, iz, uz]
    omega
  · simp
end Go.Proofs.Ytagocmbcbbhehaa
