/- wire.writer.end: what it tells. -/
import Derived.Test.YtagocmbcbbhehaaWrC
namespace Go.Proofs.Ytagocmbcbbhehaa
set_option linter.unusedVariables false
open Go.RowKit
/-- what is told of all that was written: its bytes, or, where a list was too long, an error -/
def Wrote (w : World) (s : Wst) (e : Ending) (w' : World) : Prop := New w w' ∧ ((s.2 = true ∧ e = .returned (.tuple #[.slice none 0 0, .int .i64 6])) ∨ (s.2 = false ∧ ∃ B d, e = .returned (.tuple #[.slice B s.1.length d, .int .i64 0]) ∧ OBs w' w.heap.size B s.1.length d s.1))
set_option maxRecDepth 20000 in
set_option maxHeartbeats 1000000 in
theorem wend {base g c : Nat} {A : Option Addr} {s : Wst} {w : World} (h : PW w base g A c s.1 s.2) (hmax : s.1.length ≤ MX) :
    Calls Try.prog 16 #[.pointer (some ⟨g, 0, none⟩)] w (Wrote w s) := by
  unfold MX at hmax
  have HB := Lib.hid (bytes_pk h (by omega))
  have H := Lib.hid h
  obtain ⟨l, x⟩ := s
  obtain ⟨n, hn⟩ : ∃ n, n = l.length := ⟨_, rfl⟩
  have HN := Lib.hid hn
  simp only at HB
  rw [← hn] at HB
  clear h hn hmax
  cases x with
  | true =>
    go_enter Try.func16, Try.ntmps16
    go_wp2_with fail
    refine HB.out.mono ?_
    rintro e w1 ⟨B, d, rfl, ho, hw⟩
    have c2 := (H.out.new hw).c2
    have HW := Lib.hid hw
    clear ho hw
    go_wp2_with fail
    go_ret2
    exact ⟨HW.out, .inl ⟨rfl, rfl⟩⟩
  | false =>
    go_enter Try.func16, Try.ntmps16
    go_wp2_with fail
    refine HB.out.mono ?_
    rintro e w1 ⟨B, d, rfl, ho, hw⟩
    have c2 := (H.out.new hw).c2
    have HW := Lib.hid hw
    have HO := Lib.hid ho
    clear ho hw
    go_wp2_with fail
    go_ret2
    refine ⟨HW.out, .inr ⟨rfl, B, d, ?_, ?_⟩⟩
    · show _ = Ending.returned (.tuple #[.slice B l.length d, .int .i64 0])
      rw [← HN.out]
      rfl
    · show OBs w1 w.heap.size B l.length d l
      rw [← HN.out]
      exact HO.out
/-- a writer that is new -/
theorem pw_new (w : World) : PW (w.alloc (.cells #[.slice none 0 0, .int .i64 0, .bool false] 66)) w.heap.size w.heap.size none 0 [] false := ⟨heap_alloc_new w _, OB.nil _ _ _, Nat.le_refl _⟩
end Go.Proofs.Ytagocmbcbbhehaa
