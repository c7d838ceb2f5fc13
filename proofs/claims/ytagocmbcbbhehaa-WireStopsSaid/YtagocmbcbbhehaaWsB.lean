/- What wire's functions tell of the records of hanselaw05.WireStops. -/
import Derived.Test.YtagocmbcbbhehaaWsA
namespace Go.Proofs.Ytagocmbcbbhehaa
set_option linter.unusedVariables false
open Go.RowKit
theorem grownBy_setRow (W : World) (g : Nat) (cs : Array Value) : W.grownBy (W.setRow g cs) (some g) := by
  refine ⟨rfl, rfl, rfl, ?_, fun k hk hne => ?_⟩
  · simp [World.setRow]
  · have hgk : ¬ g = k := fun h => hne (by rw [h])
    simp [World.setRow, Array.getElem?_modify, hgk]
def code (Y : Nat) : Int := if Y = 0 then 0 else 6
theorem code_of {Y N most : Nat} {cs zs : Ch} (hN : N = most + Y) (hz : none ∉ zs) (h : none ∈ cs ↔ none ∈ zch zs N most) : code Y = if none ∈ cs then 6 else 0 := by
  unfold code
  rw [zch_none _ _ _ hz] at h
  by_cases hy : Y = 0
  · rw [if_pos hy, if_neg (fun h' => by have := h.1 h'; omega)]
  · rw [if_neg hy, if_pos (h.2 (by omega))]
theorem zs2 : none ∉ (([some (iv 0)] ++ [some (iv 0)]) : Ch) := by simp
theorem zs3 : none ∉ ((([some (iv 0)] ++ [some (iv 0)]) ++ [some (iv 0)]) : Ch) := by simp
theorem zs1 : none ∉ ([some (iv 0)] : Ch) := by simp
theorem rec_told {w : World} {cl : List Value} {cs : Ch} {X : Int} (hE : ERec w.heap.size w cl cs) (hsz : sz cs ≤ MX) (hX : X = if none ∈ cs then 6 else 0) : Calls Try.prog 5 #[.agg cl.toArray] w (Told X w) :=
  (wireRec w cl cs hE hsz).mono fun _ _ h => h.told hX
theorem u0 : none ∉ ([some (uv 0)] : Ch) := by simp
theorem rec1_told (w : World) {Y N : Nat} {S : Value} (hY : Y ≤ 1) (hN : N = 8 + Y) (h : FList ESpan 2 8 w.heap.size w [S] (zch ([some (iv 0)] ++ [some (iv 0)]) N 8)) :
    Calls Try.prog 5 #[.agg (List.toArray [.int .i64 0, .int .i64 0, .int .i64 0, .int .i64 0, .int .i64 0, .int .i64 0, .int .i64 0, .int .i64 0, .bool false, .int .i64 0, .int .i64 0, .int .i64 0, .complex .f64 0 0, .int .i64 0, .int .i64 0, .int .i64 0, .int .i64 0, .slice none 0 0, .bool false, .int .i64 0, .int .i64 0, .complex .f64 0 0, S, .slice none 0 0])] w (Told (code Y) w) := by
  obtain ⟨cs, hE, hs, hn⟩ := e_rec (p := 0) (q := 0) (by decide) (by decide) (nil_list (b := w.heap.size) (w := w)) h nil_list
  have h1 := zch_sz ([some (iv 0)] ++ [some (iv 0)]) N 8 (by omega)
  simp only [sz_append, sz, iz, uz] at hs h1
  refine rec_told hE (by unfold MX; omega) (code_of hN zs2 ?_)
  rw [hn]
  simp
theorem rec2_told (w : World) {Y N : Nat} {S : Value} (hY : Y ≤ 1) (hN : N = 256 + Y) (h : FList ESlot 3 256 w.heap.size w [S] (zch (([some (iv 0)] ++ [some (iv 0)]) ++ [some (iv 0)]) N 256)) :
    Calls Try.prog 5 #[.agg (List.toArray [.int .i64 0, .int .i64 0, .int .i64 0, .int .i64 0, .int .i64 0, .int .i64 0, .int .i64 0, .int .i64 0, .bool false, .int .i64 0, .int .i64 0, .int .i64 0, .complex .f64 0 0, .int .i64 0, .int .i64 0, .int .i64 0, .int .i64 0, .slice none 0 0, .bool false, .int .i64 0, .int .i64 0, .complex .f64 0 0, .slice none 0 0, S])] w (Told (code Y) w) := by
  obtain ⟨cs, hE, hs, hn⟩ := e_rec (p := 0) (q := 0) (by decide) (by decide) (nil_list (b := w.heap.size) (w := w)) nil_list h
  have h1 := zch_sz (([some (iv 0)] ++ [some (iv 0)]) ++ [some (iv 0)]) N 256 (by omega)
  simp only [sz_append, sz, iz, uz] at hs h1
  refine rec_told hE (by unfold MX; omega) (code_of hN zs3 ?_)
  rw [hn]
  simp
theorem rec3_told (w : World) {a b : Int} (ha : I64 a) (hb : I64 b) {Y N : Nat} {S : Value} (hY : Y ≤ 1) (hN : N = 8 + Y) (h : FList EInt 1 8 w.heap.size w [S] (zch [some (iv 0)] N 8)) :
    Calls Try.prog 5 #[.agg (List.toArray [.int .i64 0, .int .i64 0, .int .i64 0, .int .i64 0, .int .i64 0, .int .i64 0, .int .i64 0, .int .i64 0, .bool false, .int .i64 a, .int .i64 b, .int .i64 0, .complex .f64 0 0, .int .i64 0, .int .i64 0, .int .i64 0, .int .i64 0, S, .bool false, .int .i64 0, .int .i64 0, .complex .f64 0 0, .slice none 0 0, .slice none 0 0])] w (Told (code Y) w) := by
  obtain ⟨cs, hE, hs, hn⟩ := e_rec (p := a) (q := b) ha hb h (nil_list (b := w.heap.size) (w := w)) nil_list
  have h1 := zch_sz [some (iv 0)] N 8 (by omega)
  simp only [sz, iz, uz] at hs h1
  refine rec_told hE (by unfold MX; omega) (code_of hN zs1 ?_)
  rw [hn]
  simp
theorem state_told (w : World) {a : Int} (ha : I64 a) {Y N : Nat} {S : Value} (hY : Y ≤ 1) (hN : N = 1024 + Y) (h : FList ESlot 3 1024 w.heap.size w [S] (zch (([some (iv 0)] ++ [some (iv 0)]) ++ [some (iv 0)]) N 1024)) :
    Calls Try.prog 7 #[.agg #[.int .i64 a, .complex .f64 0 0, .int .i64 0, .bool false, .int .i64 0, .int .i64 0, .slice none 0 0, .slice none 0 0, .slice none 0 0, S, .slice none 0 0, .int .i64 0]] w (Told (code Y) w) := by
  obtain ⟨cs, hE, hs, hn⟩ := e_state ha h
  have h1 := zch_sz (([some (iv 0)] ++ [some (iv 0)]) ++ [some (iv 0)]) N 1024 (by omega)
  simp only [sz_append, sz, iz] at hs h1
  exact (wireState w _ cs hE (by unfold MX; omega)).mono fun _ _ h' => h'.told (code_of hN zs3 hn)
theorem zmsg_size : ([.int .i64 0, .int .i64 0, .int .i64 0, .int .i64 0, .int .i64 0, .int .i64 0, .bool false, .int .i64 0, .int .i64 0, .int .i64 0, .complex .f64 0 0, .int .i64 0, .int .i64 0, .int .i64 0, .int .i64 0, .slice none 0 0, .bool false, .slice none 0 0] : List Value).toArray.size = 18 := rfl
theorem bundle_told (w : World) {base g Y N : Nat} {e : TypeId} (hY : Y ≤ 1) (hN : N = 16 + Y) (hg : g < w.heap.size)
    (h : w.ownsRow base e 18 (.slice (some ⟨g, 0, none⟩) N N) N (madeCells #[.int .i64 0, .int .i64 0, .int .i64 0, .int .i64 0, .int .i64 0, .int .i64 0, .bool false, .int .i64 0, .int .i64 0, .int .i64 0, .complex .f64 0 0, .int .i64 0, .int .i64 0, .int .i64 0, .int .i64 0, .slice none 0 0, .bool false, .slice none 0 0] (N * 18)).toList) :
    Calls Try.prog 6 #[.slice (some ⟨g, 0, none⟩) N N] w (Told (code Y) w) := by
  obtain ⟨cs, hE, hs, hn⟩ := z_msg (b := w.heap.size) (w := w)
  have h1 := zch_sz cs N 16 (by omega)
  have hm : N * sz cs ≤ 17 * 300 := Nat.mul_le_mul (by omega) hs
  exact (wireBundle w _ N N _ (zero_list h rfl (by decide) hE hg (by unfold maxLen; omega)) (by unfold MX; omega)).mono fun _ _ h' => h'.told (code_of hN hn Iff.rfl)
end Go.Proofs.Ytagocmbcbbhehaa
