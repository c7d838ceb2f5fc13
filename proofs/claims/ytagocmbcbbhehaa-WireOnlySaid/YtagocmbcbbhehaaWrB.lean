/- What a value is written as: its cells, its bytes. -/
import Derived.Test.YtagocmbcbbhehaaWrA
namespace Go.Proofs.Ytagocmbcbbhehaa
set_option linter.unusedVariables false
open Go.RowKit
/-- what is written: bytes, or, where a list is too long, that it is -/
abbrev Ch := List (Option (List UInt8))
abbrev Wst := List UInt8 × Bool
def put1 (s : Wst) : Option (List UInt8) → Wst
  | some b => (s.1 ++ b, s.2)
  | none => (s.1, true)
def run (cs : Ch) (s : Wst) : Wst := cs.foldl put1 s
def sz : Ch → Nat
  | [] => 0
  | some b :: t => b.length + sz t
  | none :: t => sz t
theorem run_append (a b : Ch) (s : Wst) : run (a ++ b) s = run b (run a s) := List.foldl_append ..
theorem run_one (o : List UInt8) (s : Wst) : run [some o] s = (s.1 ++ o, s.2) := rfl
theorem run_nil (s : Wst) : run [] s = s := rfl
theorem sz_append (a b : Ch) : sz (a ++ b) = sz a + sz b := by
  induction a with
  | nil => simp [sz]
  | cons o t ih => cases o <;> simp [sz, ih, Nat.add_assoc]
theorem sz_one (o : List UInt8) : sz [some o] = o.length := by simp [sz]
theorem run_len (cs : Ch) (s : Wst) : (run cs s).1.length ≤ s.1.length + sz cs := by
  induction cs generalizing s with
  | nil => exact Nat.le_refl _
  | cons o t ih =>
    have := ih (put1 s o)
    cases o with
    | none => exact this
    | some b =>
      have e : (put1 s (some b)).1.length = s.1.length + b.length := by show (s.1 ++ b).length = _; rw [List.length_append]
      rw [e] at this
      show (run t (put1 s (some b))).1.length ≤ s.1.length + (b.length + sz t)
      omega
/-- where every list is short, all is written -/
theorem run_all (bs : List (List UInt8)) (s : Wst) : run (bs.map some) s = (s.1 ++ bs.flatten, s.2) := by
  induction bs generalizing s with
  | nil => show s = _; simp
  | cons b t ih =>
    show run (t.map some) (put1 s (some b)) = _
    rw [ih]
    simp [put1]
theorem run_long (cs : Ch) (s : Wst) : (run cs s).2 = (s.2 || decide (none ∈ cs)) := by
  induction cs generalizing s with
  | nil => show s.2 = _; simp
  | cons o t ih =>
    show (run t (put1 s o)).2 = _
    rw [ih]
    cases o with
    | none => simp [put1]
    | some b => simp [put1]
abbrev MX : Nat := 140737488355000
abbrev PutC (w : World) (base g : Nat) (A : Option Addr) (s : Wst) (cs : Ch) (e : Ending) (w' : World) : Prop := Put w base g A (.returned (.tuple #[])) (run cs s).1 (run cs s).2 e w'
def FInt (c : List Value) (s : Ch) : Prop := ∃ z : Int, I64 z ∧ c = [.int .i64 z] ∧ s = [some (iv z)]
def FMark (c : List Value) (s : Ch) : Prop := ∃ b : Bool, c = [.bool b] ∧ s = [some (uv (if b then 1 else 0))]
def FAm (c : List Value) (s : Ch) : Prop := ∃ n k : Nat, n ≤ 1048576 ∧ k ≤ 1048576 ∧ c = [.complex .f64 (fl n) (fl k)] ∧ s = [some (uv n ++ uv k)]
/-- bytes below block b -/
def FText (b : Nat) (w : World) (c : List Value) (s : Ch) : Prop := ∃ (A : Option Addr) (d : Nat) (l : List UInt8), RB w A l ∧ (∀ ad, A = some ad → ad.block < b) ∧ l.length ≤ 131072 ∧ c = [.slice A l.length d] ∧ s = [some (uv l.length ++ l)]
/-- the cells from a place on -/
def CellsAt (w : World) (ad : Addr) (c : List Value) : Prop := ∀ (i : Nat) (v : Value), c[i]? = some v → w.cell? (ad.add i) = some v
/-- a list's elements lie below block b, z cells each -/
def FList (E : Nat → World → List Value → Ch → Prop) (z most : Nat) (b : Nat) (w : World) (c : List Value) (s : Ch) : Prop :=
  ∃ (A : Option Addr) (n d : Nat), c = [.slice A n d] ∧ n ≤ d ∧ d ≤ maxLen ∧ ((most < n ∧ s = [none]) ∨ (n ≤ most ∧ ∃ es : List (List Value × Ch), es.length = n ∧ (∀ (j : Nat) (e : List Value × Ch), es[j]? = some e → ∃ ad, A = some ad ∧ ad.block < b ∧ e.1.length = z ∧ CellsAt w (ad.add (j * z)) e.1 ∧ E b w e.1 e.2) ∧ s = some (uv n) :: (es.map Prod.snd).flatten))
def EInt (b : Nat) (w : World) (c : List Value) (s : Ch) : Prop := FInt c s
theorem CellsAt.below {w w' : World} {b : Nat} {ad : Addr} {c : List Value} (h : CellsAt w ad c) (hk : Below b w w') (hb : ad.block < b) : CellsAt w' ad c := fun i v hi =>
  (World.cell?_of_block (by rw [add_block]; exact hk.block _ hb)).trans (h i v hi)
theorem FText.below {w w' : World} {b : Nat} {c : List Value} {s : Ch} (h : FText b w c s) (hk : Below b w w') : FText b w' c s := by
  obtain ⟨A, d, l, h1, h2, h3⟩ := h
  exact ⟨A, d, l, h1.keep fun ad e hlt => hk.block _ (h2 ad e), h2, h3⟩
theorem FList.below {E : Nat → World → List Value → Ch → Prop} {z most b : Nat} {w w' : World} {c : List Value} {s : Ch} (hE : ∀ c s, E b w c s → E b w' c s) (h : FList E z most b w c s) (hk : Below b w w') : FList E z most b w' c s := by
  obtain ⟨A, n, d, h1, h2, h3, h4⟩ := h
  refine ⟨A, n, d, h1, h2, h3, h4.imp id fun ⟨h5, es, h6, h7, h8⟩ => ⟨h5, es, h6, fun j e he => ?_, h8⟩⟩
  obtain ⟨ad, g1, g2, g3, g4, g5⟩ := h7 j e he
  exact ⟨ad, g1, g2, g3, g4.below hk (by rw [add_block]; exact g2), hE _ _ g5⟩
theorem EInt.below {w w' : World} {b : Nat} {c : List Value} {s : Ch} (h : EInt b w c s) (hk : Below b w w') : EInt b w' c s := h
theorem FInt.ex {c : List Value} {s : Ch} (h : FInt c s) : ∃ v1, c = [v1] := by obtain ⟨z, _, h, _⟩ := h; exact ⟨_, h⟩
theorem EInt.ex {b : Nat} {w : World} {c : List Value} {s : Ch} (h : EInt b w c s) : ∃ v1, c = [v1] := FInt.ex h
theorem FMark.ex {c : List Value} {s : Ch} (h : FMark c s) : ∃ v1, c = [v1] := by obtain ⟨z, h, _⟩ := h; exact ⟨_, h⟩
theorem FAm.ex {c : List Value} {s : Ch} (h : FAm c s) : ∃ v1, c = [v1] := by obtain ⟨_, _, _, _, h, _⟩ := h; exact ⟨_, h⟩
theorem FText.ex {b : Nat} {w : World} {c : List Value} {s : Ch} (h : FText b w c s) : ∃ v1, c = [v1] := by obtain ⟨_, _, _, _, _, _, h, _⟩ := h; exact ⟨_, h⟩
theorem FList.ex {E : Nat → World → List Value → Ch → Prop} {z most b : Nat} {w : World} {c : List Value} {s : Ch} (h : FList E z most b w c s) : ∃ v1, c = [v1] := by obtain ⟨_, _, _, h, _⟩ := h; exact ⟨_, h⟩
theorem FInt.one {c : List Value} {s : Ch} (h : FInt c s) : ∀ v ∈ c, v.oneCell' = true := by obtain ⟨z, _, rfl, _⟩ := h; intro v hv; rw [List.mem_singleton.1 hv]; rfl
theorem EInt.one {b : Nat} {w : World} {c : List Value} {s : Ch} (h : EInt b w c s) : ∀ v ∈ c, v.oneCell' = true := FInt.one h
theorem FMark.one {c : List Value} {s : Ch} (h : FMark c s) : ∀ v ∈ c, v.oneCell' = true := by obtain ⟨z, rfl, _⟩ := h; intro v hv; rw [List.mem_singleton.1 hv]; rfl
theorem FAm.one {c : List Value} {s : Ch} (h : FAm c s) : ∀ v ∈ c, v.oneCell' = true := by obtain ⟨_, _, _, _, rfl, _⟩ := h; intro v hv; rw [List.mem_singleton.1 hv]; rfl
theorem FText.one {b : Nat} {w : World} {c : List Value} {s : Ch} (h : FText b w c s) : ∀ v ∈ c, v.oneCell' = true := by obtain ⟨_, _, _, _, _, _, rfl, _⟩ := h; intro v hv; rw [List.mem_singleton.1 hv]; rfl
theorem FList.one {E : Nat → World → List Value → Ch → Prop} {z most b : Nat} {w : World} {c : List Value} {s : Ch} (h : FList E z most b w c s) : ∀ v ∈ c, v.oneCell' = true := by obtain ⟨_, _, _, rfl, _⟩ := h; intro v hv; rw [List.mem_singleton.1 hv]; rfl

def EId (b : Nat) (w : World) (c : List Value) (s : Ch) : Prop := ∃ (c1 c2 : List Value) (s1 s2 : Ch), FInt c1 s1 ∧ FInt c2 s2 ∧ c = c1 ++ (c2) ∧ s = s1 ++ (s2)
theorem EId.below {w w' : World} {b : Nat} {c : List Value} {s : Ch} (h : EId b w c s) (hk : Below b w w') : EId b w' c s := by
  obtain ⟨c1, c2, s1, s2, h1, h2, e1, e2⟩ := h
  exact ⟨c1, c2, s1, s2, h1, h2, e1, e2⟩
theorem EId.ex {b : Nat} {w : World} {c : List Value} {s : Ch} (h : EId b w c s) : ∃ v1 v2, c = [v1, v2] := by
  obtain ⟨c1, c2, s1, s2, h1, h2, rfl, rfl⟩ := h
  obtain ⟨v1, rfl⟩ := h1.ex
  obtain ⟨v2, rfl⟩ := h2.ex
  exact ⟨_, _, rfl⟩
def ESpan (b : Nat) (w : World) (c : List Value) (s : Ch) : Prop := ∃ (c1 c2 : List Value) (s1 s2 : Ch), FInt c1 s1 ∧ FInt c2 s2 ∧ c = c1 ++ (c2) ∧ s = s1 ++ (s2)
theorem ESpan.below {w w' : World} {b : Nat} {c : List Value} {s : Ch} (h : ESpan b w c s) (hk : Below b w w') : ESpan b w' c s := by
  obtain ⟨c1, c2, s1, s2, h1, h2, e1, e2⟩ := h
  exact ⟨c1, c2, s1, s2, h1, h2, e1, e2⟩
theorem ESpan.ex {b : Nat} {w : World} {c : List Value} {s : Ch} (h : ESpan b w c s) : ∃ v1 v2, c = [v1, v2] := by
  obtain ⟨c1, c2, s1, s2, h1, h2, rfl, rfl⟩ := h
  obtain ⟨v1, rfl⟩ := h1.ex
  obtain ⟨v2, rfl⟩ := h2.ex
  exact ⟨_, _, rfl⟩
def ESlot (b : Nat) (w : World) (c : List Value) (s : Ch) : Prop := ∃ (c1 c2 : List Value) (s1 s2 : Ch), EId b w c1 s1 ∧ FInt c2 s2 ∧ c = c1 ++ (c2) ∧ s = s1 ++ (s2)
theorem ESlot.below {w w' : World} {b : Nat} {c : List Value} {s : Ch} (h : ESlot b w c s) (hk : Below b w w') : ESlot b w' c s := by
  obtain ⟨c1, c2, s1, s2, h1, h2, e1, e2⟩ := h
  exact ⟨c1, c2, s1, s2, h1.below hk, h2, e1, e2⟩
theorem ESlot.ex {b : Nat} {w : World} {c : List Value} {s : Ch} (h : ESlot b w c s) : ∃ v1 v2 v3, c = [v1, v2, v3] := by
  obtain ⟨c1, c2, s1, s2, h1, h2, rfl, rfl⟩ := h
  obtain ⟨v1, v2, rfl⟩ := h1.ex
  obtain ⟨v3, rfl⟩ := h2.ex
  exact ⟨_, _, _, rfl⟩
def EBusy (b : Nat) (w : World) (c : List Value) (s : Ch) : Prop := ∃ (c1 c2 c3 : List Value) (s1 s2 s3 : Ch), FInt c1 s1 ∧ FInt c2 s2 ∧ FAm c3 s3 ∧ c = c1 ++ (c2 ++ (c3)) ∧ s = s1 ++ (s2 ++ (s3))
theorem EBusy.below {w w' : World} {b : Nat} {c : List Value} {s : Ch} (h : EBusy b w c s) (hk : Below b w w') : EBusy b w' c s := by
  obtain ⟨c1, c2, c3, s1, s2, s3, h1, h2, h3, e1, e2⟩ := h
  exact ⟨c1, c2, c3, s1, s2, s3, h1, h2, h3, e1, e2⟩
theorem EBusy.ex {b : Nat} {w : World} {c : List Value} {s : Ch} (h : EBusy b w c s) : ∃ v1 v2 v3, c = [v1, v2, v3] := by
  obtain ⟨c1, c2, c3, s1, s2, s3, h1, h2, h3, rfl, rfl⟩ := h
  obtain ⟨v1, rfl⟩ := h1.ex
  obtain ⟨v2, rfl⟩ := h2.ex
  obtain ⟨v3, rfl⟩ := h3.ex
  exact ⟨_, _, _, rfl⟩
def EPart (b : Nat) (w : World) (c : List Value) (s : Ch) : Prop := ∃ (c1 c2 c3 : List Value) (s1 s2 s3 : Ch), FInt c1 s1 ∧ FInt c2 s2 ∧ FInt c3 s3 ∧ c = c1 ++ (c2 ++ (c3)) ∧ s = s1 ++ (s2 ++ (s3))
theorem EPart.below {w w' : World} {b : Nat} {c : List Value} {s : Ch} (h : EPart b w c s) (hk : Below b w w') : EPart b w' c s := by
  obtain ⟨c1, c2, c3, s1, s2, s3, h1, h2, h3, e1, e2⟩ := h
  exact ⟨c1, c2, c3, s1, s2, s3, h1, h2, h3, e1, e2⟩
theorem EPart.ex {b : Nat} {w : World} {c : List Value} {s : Ch} (h : EPart b w c s) : ∃ v1 v2 v3, c = [v1, v2, v3] := by
  obtain ⟨c1, c2, c3, s1, s2, s3, h1, h2, h3, rfl, rfl⟩ := h
  obtain ⟨v1, rfl⟩ := h1.ex
  obtain ⟨v2, rfl⟩ := h2.ex
  obtain ⟨v3, rfl⟩ := h3.ex
  exact ⟨_, _, _, rfl⟩
def EUse (b : Nat) (w : World) (c : List Value) (s : Ch) : Prop := ∃ (c1 c2 c3 : List Value) (s1 s2 s3 : Ch), FInt c1 s1 ∧ FInt c2 s2 ∧ FInt c3 s3 ∧ c = c1 ++ (c2 ++ (c3)) ∧ s = s1 ++ (s2 ++ (s3))
theorem EUse.below {w w' : World} {b : Nat} {c : List Value} {s : Ch} (h : EUse b w c s) (hk : Below b w w') : EUse b w' c s := by
  obtain ⟨c1, c2, c3, s1, s2, s3, h1, h2, h3, e1, e2⟩ := h
  exact ⟨c1, c2, c3, s1, s2, s3, h1, h2, h3, e1, e2⟩
theorem EUse.ex {b : Nat} {w : World} {c : List Value} {s : Ch} (h : EUse b w c s) : ∃ v1 v2 v3, c = [v1, v2, v3] := by
  obtain ⟨c1, c2, c3, s1, s2, s3, h1, h2, h3, rfl, rfl⟩ := h
  obtain ⟨v1, rfl⟩ := h1.ex
  obtain ⟨v2, rfl⟩ := h2.ex
  obtain ⟨v3, rfl⟩ := h3.ex
  exact ⟨_, _, _, rfl⟩
def EResv (b : Nat) (w : World) (c : List Value) (s : Ch) : Prop := ∃ (c1 c2 c3 c4 c5 : List Value) (s1 s2 s3 s4 s5 : Ch), EId b w c1 s1 ∧ FInt c2 s2 ∧ EBusy b w c3 s3 ∧ FMark c4 s4 ∧ FInt c5 s5 ∧ c = c1 ++ (c2 ++ (c3 ++ (c4 ++ (c5)))) ∧ s = s1 ++ (s2 ++ (s3 ++ (s4 ++ (s5))))
theorem EResv.below {w w' : World} {b : Nat} {c : List Value} {s : Ch} (h : EResv b w c s) (hk : Below b w w') : EResv b w' c s := by
  obtain ⟨c1, c2, c3, c4, c5, s1, s2, s3, s4, s5, h1, h2, h3, h4, h5, e1, e2⟩ := h
  exact ⟨c1, c2, c3, c4, c5, s1, s2, s3, s4, s5, h1.below hk, h2, h3.below hk, h4, h5, e1, e2⟩
theorem EResv.ex {b : Nat} {w : World} {c : List Value} {s : Ch} (h : EResv b w c s) : ∃ v1 v2 v3 v4 v5 v6 v7 v8, c = [v1, v2, v3, v4, v5, v6, v7, v8] := by
  obtain ⟨c1, c2, c3, c4, c5, s1, s2, s3, s4, s5, h1, h2, h3, h4, h5, rfl, rfl⟩ := h
  obtain ⟨v1, v2, rfl⟩ := h1.ex
  obtain ⟨v3, rfl⟩ := h2.ex
  obtain ⟨v4, v5, v6, rfl⟩ := h3.ex
  obtain ⟨v7, rfl⟩ := h4.ex
  obtain ⟨v8, rfl⟩ := h5.ex
  exact ⟨_, _, _, _, _, _, _, _, rfl⟩
def EJob (b : Nat) (w : World) (c : List Value) (s : Ch) : Prop := ∃ (c1 c2 c3 c4 c5 c6 c7 c8 c9 : List Value) (s1 s2 s3 s4 s5 s6 s7 s8 s9 : Ch), EId b w c1 s1 ∧ FInt c2 s2 ∧ FAm c3 s3 ∧ FInt c4 s4 ∧ FInt c5 s5 ∧ FInt c6 s6 ∧ FInt c7 s7 ∧ FList EInt 1 8 b w c8 s8 ∧ FMark c9 s9 ∧ c = c1 ++ (c2 ++ (c3 ++ (c4 ++ (c5 ++ (c6 ++ (c7 ++ (c8 ++ (c9)))))))) ∧ s = s1 ++ (s2 ++ (s3 ++ (s4 ++ (s5 ++ (s6 ++ (s7 ++ (s8 ++ (s9))))))))
theorem EJob.below {w w' : World} {b : Nat} {c : List Value} {s : Ch} (h : EJob b w c s) (hk : Below b w w') : EJob b w' c s := by
  obtain ⟨c1, c2, c3, c4, c5, c6, c7, c8, c9, s1, s2, s3, s4, s5, s6, s7, s8, s9, h1, h2, h3, h4, h5, h6, h7, h8, h9, e1, e2⟩ := h
  exact ⟨c1, c2, c3, c4, c5, c6, c7, c8, c9, s1, s2, s3, s4, s5, s6, s7, s8, s9, h1.below hk, h2, h3, h4, h5, h6, h7, FList.below (fun _ _ h => h.below hk) h8 hk, h9, e1, e2⟩
theorem EJob.ex {b : Nat} {w : World} {c : List Value} {s : Ch} (h : EJob b w c s) : ∃ v1 v2 v3 v4 v5 v6 v7 v8 v9 v10, c = [v1, v2, v3, v4, v5, v6, v7, v8, v9, v10] := by
  obtain ⟨c1, c2, c3, c4, c5, c6, c7, c8, c9, s1, s2, s3, s4, s5, s6, s7, s8, s9, h1, h2, h3, h4, h5, h6, h7, h8, h9, rfl, rfl⟩ := h
  obtain ⟨v1, v2, rfl⟩ := h1.ex
  obtain ⟨v3, rfl⟩ := h2.ex
  obtain ⟨v4, rfl⟩ := h3.ex
  obtain ⟨v5, rfl⟩ := h4.ex
  obtain ⟨v6, rfl⟩ := h5.ex
  obtain ⟨v7, rfl⟩ := h6.ex
  obtain ⟨v8, rfl⟩ := h7.ex
  obtain ⟨v9, rfl⟩ := h8.ex
  obtain ⟨v10, rfl⟩ := h9.ex
  exact ⟨_, _, _, _, _, _, _, _, _, _, rfl⟩
def EOffer (b : Nat) (w : World) (c : List Value) (s : Ch) : Prop := ∃ (c1 c2 : List Value) (s1 s2 : Ch), FInt c1 s1 ∧ FList ESpan 2 8 b w c2 s2 ∧ c = c1 ++ (c2) ∧ s = s1 ++ (s2)
theorem EOffer.below {w w' : World} {b : Nat} {c : List Value} {s : Ch} (h : EOffer b w c s) (hk : Below b w w') : EOffer b w' c s := by
  obtain ⟨c1, c2, s1, s2, h1, h2, e1, e2⟩ := h
  exact ⟨c1, c2, s1, s2, h1, FList.below (fun _ _ h => h.below hk) h2 hk, e1, e2⟩
theorem EOffer.ex {b : Nat} {w : World} {c : List Value} {s : Ch} (h : EOffer b w c s) : ∃ v1 v2, c = [v1, v2] := by
  obtain ⟨c1, c2, s1, s2, h1, h2, rfl, rfl⟩ := h
  obtain ⟨v1, rfl⟩ := h1.ex
  obtain ⟨v2, rfl⟩ := h2.ex
  exact ⟨_, _, rfl⟩
def EOwn (b : Nat) (w : World) (c : List Value) (s : Ch) : Prop := ∃ (c1 c2 c3 c4 c5 c6 c7 c8 c9 c10 c11 c12 : List Value) (s1 s2 s3 s4 s5 s6 s7 s8 s9 s10 s11 s12 : Ch), EJob b w c1 s1 ∧ FInt c2 s2 ∧ FInt c3 s3 ∧ FInt c4 s4 ∧ FMark c5 s5 ∧ FInt c6 s6 ∧ FInt c7 s7 ∧ FInt c8 s8 ∧ FInt c9 s9 ∧ FList EInt 1 8 b w c10 s10 ∧ FList EOffer 2 8 b w c11 s11 ∧ FList EPart 3 8 b w c12 s12 ∧ c = c1 ++ (c2 ++ (c3 ++ (c4 ++ (c5 ++ (c6 ++ (c7 ++ (c8 ++ (c9 ++ (c10 ++ (c11 ++ (c12))))))))))) ∧ s = s1 ++ (s2 ++ (s3 ++ (s4 ++ (s5 ++ (s6 ++ (s7 ++ (s8 ++ (s9 ++ (s10 ++ (s11 ++ (s12)))))))))))
theorem EOwn.below {w w' : World} {b : Nat} {c : List Value} {s : Ch} (h : EOwn b w c s) (hk : Below b w w') : EOwn b w' c s := by
  obtain ⟨c1, c2, c3, c4, c5, c6, c7, c8, c9, c10, c11, c12, s1, s2, s3, s4, s5, s6, s7, s8, s9, s10, s11, s12, h1, h2, h3, h4, h5, h6, h7, h8, h9, h10, h11, h12, e1, e2⟩ := h
  exact ⟨c1, c2, c3, c4, c5, c6, c7, c8, c9, c10, c11, c12, s1, s2, s3, s4, s5, s6, s7, s8, s9, s10, s11, s12, h1.below hk, h2, h3, h4, h5, h6, h7, h8, h9, FList.below (fun _ _ h => h.below hk) h10 hk, FList.below (fun _ _ h => h.below hk) h11 hk, FList.below (fun _ _ h => h.below hk) h12 hk, e1, e2⟩
theorem EOwn.ex {b : Nat} {w : World} {c : List Value} {s : Ch} (h : EOwn b w c s) : ∃ v1 v2 v3 v4 v5 v6 v7 v8 v9 v10 v11 v12 v13 v14 v15 v16 v17 v18 v19 v20 v21, c = [v1, v2, v3, v4, v5, v6, v7, v8, v9, v10, v11, v12, v13, v14, v15, v16, v17, v18, v19, v20, v21] := by
  obtain ⟨c1, c2, c3, c4, c5, c6, c7, c8, c9, c10, c11, c12, s1, s2, s3, s4, s5, s6, s7, s8, s9, s10, s11, s12, h1, h2, h3, h4, h5, h6, h7, h8, h9, h10, h11, h12, rfl, rfl⟩ := h
  obtain ⟨v1, v2, v3, v4, v5, v6, v7, v8, v9, v10, rfl⟩ := h1.ex
  obtain ⟨v11, rfl⟩ := h2.ex
  obtain ⟨v12, rfl⟩ := h3.ex
  obtain ⟨v13, rfl⟩ := h4.ex
  obtain ⟨v14, rfl⟩ := h5.ex
  obtain ⟨v15, rfl⟩ := h6.ex
  obtain ⟨v16, rfl⟩ := h7.ex
  obtain ⟨v17, rfl⟩ := h8.ex
  obtain ⟨v18, rfl⟩ := h9.ex
  obtain ⟨v19, rfl⟩ := h10.ex
  obtain ⟨v20, rfl⟩ := h11.ex
  obtain ⟨v21, rfl⟩ := h12.ex
  exact ⟨_, _, _, _, _, _, _, _, _, _, _, _, _, _, _, _, _, _, _, _, _, rfl⟩
def ECopy (b : Nat) (w : World) (c : List Value) (s : Ch) : Prop := ∃ (c1 c2 c3 c4 c5 c6 c7 c8 : List Value) (s1 s2 s3 s4 s5 s6 s7 s8 : Ch), EJob b w c1 s1 ∧ FInt c2 s2 ∧ FInt c3 s3 ∧ FInt c4 s4 ∧ FInt c5 s5 ∧ FInt c6 s6 ∧ FInt c7 s7 ∧ FInt c8 s8 ∧ c = c1 ++ (c2 ++ (c3 ++ (c4 ++ (c5 ++ (c6 ++ (c7 ++ (c8))))))) ∧ s = s1 ++ (s2 ++ (s3 ++ (s4 ++ (s5 ++ (s6 ++ (s7 ++ (s8)))))))
theorem ECopy.below {w w' : World} {b : Nat} {c : List Value} {s : Ch} (h : ECopy b w c s) (hk : Below b w w') : ECopy b w' c s := by
  obtain ⟨c1, c2, c3, c4, c5, c6, c7, c8, s1, s2, s3, s4, s5, s6, s7, s8, h1, h2, h3, h4, h5, h6, h7, h8, e1, e2⟩ := h
  exact ⟨c1, c2, c3, c4, c5, c6, c7, c8, s1, s2, s3, s4, s5, s6, s7, s8, h1.below hk, h2, h3, h4, h5, h6, h7, h8, e1, e2⟩
theorem ECopy.ex {b : Nat} {w : World} {c : List Value} {s : Ch} (h : ECopy b w c s) : ∃ v1 v2 v3 v4 v5 v6 v7 v8 v9 v10 v11 v12 v13 v14 v15 v16 v17, c = [v1, v2, v3, v4, v5, v6, v7, v8, v9, v10, v11, v12, v13, v14, v15, v16, v17] := by
  obtain ⟨c1, c2, c3, c4, c5, c6, c7, c8, s1, s2, s3, s4, s5, s6, s7, s8, h1, h2, h3, h4, h5, h6, h7, h8, rfl, rfl⟩ := h
  obtain ⟨v1, v2, v3, v4, v5, v6, v7, v8, v9, v10, rfl⟩ := h1.ex
  obtain ⟨v11, rfl⟩ := h2.ex
  obtain ⟨v12, rfl⟩ := h3.ex
  obtain ⟨v13, rfl⟩ := h4.ex
  obtain ⟨v14, rfl⟩ := h5.ex
  obtain ⟨v15, rfl⟩ := h6.ex
  obtain ⟨v16, rfl⟩ := h7.ex
  obtain ⟨v17, rfl⟩ := h8.ex
  exact ⟨_, _, _, _, _, _, _, _, _, _, _, _, _, _, _, _, _, rfl⟩
def ERec (b : Nat) (w : World) (c : List Value) (s : Ch) : Prop := ∃ (c1 c2 c3 c4 c5 c6 c7 c8 c9 c10 c11 c12 : List Value) (s1 s2 s3 s4 s5 s6 s7 s8 s9 s10 s11 s12 : Ch), FInt c1 s1 ∧ EId b w c2 s2 ∧ FInt c3 s3 ∧ FInt c4 s4 ∧ FInt c5 s5 ∧ FInt c6 s6 ∧ FInt c7 s7 ∧ FMark c8 s8 ∧ EJob b w c9 s9 ∧ EBusy b w c10 s10 ∧ FList ESpan 2 8 b w c11 s11 ∧ FList ESlot 3 256 b w c12 s12 ∧ c = c1 ++ (c2 ++ (c3 ++ (c4 ++ (c5 ++ (c6 ++ (c7 ++ (c8 ++ (c9 ++ (c10 ++ (c11 ++ (c12))))))))))) ∧ s = s1 ++ (s2 ++ (s3 ++ (s4 ++ (s5 ++ (s6 ++ (s7 ++ (s8 ++ (s9 ++ (s10 ++ (s11 ++ (s12)))))))))))
theorem ERec.below {w w' : World} {b : Nat} {c : List Value} {s : Ch} (h : ERec b w c s) (hk : Below b w w') : ERec b w' c s := by
  obtain ⟨c1, c2, c3, c4, c5, c6, c7, c8, c9, c10, c11, c12, s1, s2, s3, s4, s5, s6, s7, s8, s9, s10, s11, s12, h1, h2, h3, h4, h5, h6, h7, h8, h9, h10, h11, h12, e1, e2⟩ := h
  exact ⟨c1, c2, c3, c4, c5, c6, c7, c8, c9, c10, c11, c12, s1, s2, s3, s4, s5, s6, s7, s8, s9, s10, s11, s12, h1, h2.below hk, h3, h4, h5, h6, h7, h8, h9.below hk, h10.below hk, FList.below (fun _ _ h => h.below hk) h11 hk, FList.below (fun _ _ h => h.below hk) h12 hk, e1, e2⟩
theorem ERec.ex {b : Nat} {w : World} {c : List Value} {s : Ch} (h : ERec b w c s) : ∃ v1 v2 v3 v4 v5 v6 v7 v8 v9 v10 v11 v12 v13 v14 v15 v16 v17 v18 v19 v20 v21 v22 v23 v24, c = [v1, v2, v3, v4, v5, v6, v7, v8, v9, v10, v11, v12, v13, v14, v15, v16, v17, v18, v19, v20, v21, v22, v23, v24] := by
  obtain ⟨c1, c2, c3, c4, c5, c6, c7, c8, c9, c10, c11, c12, s1, s2, s3, s4, s5, s6, s7, s8, s9, s10, s11, s12, h1, h2, h3, h4, h5, h6, h7, h8, h9, h10, h11, h12, rfl, rfl⟩ := h
  obtain ⟨v1, rfl⟩ := h1.ex
  obtain ⟨v2, v3, rfl⟩ := h2.ex
  obtain ⟨v4, rfl⟩ := h3.ex
  obtain ⟨v5, rfl⟩ := h4.ex
  obtain ⟨v6, rfl⟩ := h5.ex
  obtain ⟨v7, rfl⟩ := h6.ex
  obtain ⟨v8, rfl⟩ := h7.ex
  obtain ⟨v9, rfl⟩ := h8.ex
  obtain ⟨v10, v11, v12, v13, v14, v15, v16, v17, v18, v19, rfl⟩ := h9.ex
  obtain ⟨v20, v21, v22, rfl⟩ := h10.ex
  obtain ⟨v23, rfl⟩ := h11.ex
  obtain ⟨v24, rfl⟩ := h12.ex
  exact ⟨_, _, _, _, _, _, _, _, _, _, _, _, _, _, _, _, _, _, _, _, _, _, _, _, rfl⟩
def EMsg (b : Nat) (w : World) (c : List Value) (s : Ch) : Prop := ∃ (c1 c2 c3 c4 c5 c6 c7 c8 : List Value) (s1 s2 s3 s4 s5 s6 s7 s8 : Ch), FInt c1 s1 ∧ EId b w c2 s2 ∧ FInt c3 s3 ∧ FInt c4 s4 ∧ FInt c5 s5 ∧ FMark c6 s6 ∧ EJob b w c7 s7 ∧ FList ESpan 2 8 b w c8 s8 ∧ c = c1 ++ (c2 ++ (c3 ++ (c4 ++ (c5 ++ (c6 ++ (c7 ++ (c8))))))) ∧ s = s1 ++ (s2 ++ (s3 ++ (s4 ++ (s5 ++ (s6 ++ (s7 ++ (s8)))))))
theorem EMsg.below {w w' : World} {b : Nat} {c : List Value} {s : Ch} (h : EMsg b w c s) (hk : Below b w w') : EMsg b w' c s := by
  obtain ⟨c1, c2, c3, c4, c5, c6, c7, c8, s1, s2, s3, s4, s5, s6, s7, s8, h1, h2, h3, h4, h5, h6, h7, h8, e1, e2⟩ := h
  exact ⟨c1, c2, c3, c4, c5, c6, c7, c8, s1, s2, s3, s4, s5, s6, s7, s8, h1, h2.below hk, h3, h4, h5, h6, h7.below hk, FList.below (fun _ _ h => h.below hk) h8 hk, e1, e2⟩
theorem EMsg.ex {b : Nat} {w : World} {c : List Value} {s : Ch} (h : EMsg b w c s) : ∃ v1 v2 v3 v4 v5 v6 v7 v8 v9 v10 v11 v12 v13 v14 v15 v16 v17 v18, c = [v1, v2, v3, v4, v5, v6, v7, v8, v9, v10, v11, v12, v13, v14, v15, v16, v17, v18] := by
  obtain ⟨c1, c2, c3, c4, c5, c6, c7, c8, s1, s2, s3, s4, s5, s6, s7, s8, h1, h2, h3, h4, h5, h6, h7, h8, rfl, rfl⟩ := h
  obtain ⟨v1, rfl⟩ := h1.ex
  obtain ⟨v2, v3, rfl⟩ := h2.ex
  obtain ⟨v4, rfl⟩ := h3.ex
  obtain ⟨v5, rfl⟩ := h4.ex
  obtain ⟨v6, rfl⟩ := h5.ex
  obtain ⟨v7, rfl⟩ := h6.ex
  obtain ⟨v8, v9, v10, v11, v12, v13, v14, v15, v16, v17, rfl⟩ := h7.ex
  obtain ⟨v18, rfl⟩ := h8.ex
  exact ⟨_, _, _, _, _, _, _, _, _, _, _, _, _, _, _, _, _, _, rfl⟩
def EFrame (b : Nat) (w : World) (c : List Value) (s : Ch) : Prop := ∃ (c1 c2 c3 c4 c5 c6 c7 : List Value) (s1 s2 s3 s4 s5 s6 s7 : Ch), FInt c1 s1 ∧ FInt c2 s2 ∧ FInt c3 s3 ∧ FInt c4 s4 ∧ FInt c5 s5 ∧ FInt c6 s6 ∧ FText b w c7 s7 ∧ c = c1 ++ (c2 ++ (c3 ++ (c4 ++ (c5 ++ (c6 ++ (c7)))))) ∧ s = s1 ++ (s2 ++ (s3 ++ (s4 ++ (s5 ++ (s6 ++ (s7))))))
theorem EFrame.below {w w' : World} {b : Nat} {c : List Value} {s : Ch} (h : EFrame b w c s) (hk : Below b w w') : EFrame b w' c s := by
  obtain ⟨c1, c2, c3, c4, c5, c6, c7, s1, s2, s3, s4, s5, s6, s7, h1, h2, h3, h4, h5, h6, h7, e1, e2⟩ := h
  exact ⟨c1, c2, c3, c4, c5, c6, c7, s1, s2, s3, s4, s5, s6, s7, h1, h2, h3, h4, h5, h6, h7.below hk, e1, e2⟩
theorem EFrame.ex {b : Nat} {w : World} {c : List Value} {s : Ch} (h : EFrame b w c s) : ∃ v1 v2 v3 v4 v5 v6 v7, c = [v1, v2, v3, v4, v5, v6, v7] := by
  obtain ⟨c1, c2, c3, c4, c5, c6, c7, s1, s2, s3, s4, s5, s6, s7, h1, h2, h3, h4, h5, h6, h7, rfl, rfl⟩ := h
  obtain ⟨v1, rfl⟩ := h1.ex
  obtain ⟨v2, rfl⟩ := h2.ex
  obtain ⟨v3, rfl⟩ := h3.ex
  obtain ⟨v4, rfl⟩ := h4.ex
  obtain ⟨v5, rfl⟩ := h5.ex
  obtain ⟨v6, rfl⟩ := h6.ex
  obtain ⟨v7, rfl⟩ := h7.ex
  exact ⟨_, _, _, _, _, _, _, rfl⟩
def EState (b : Nat) (w : World) (c : List Value) (s : Ch) : Prop := ∃ (c1 c2 c3 c4 c5 c6 c7 c8 c9 c10 c11 c12 : List Value) (s1 s2 s3 s4 s5 s6 s7 s8 s9 s10 s11 s12 : Ch), FInt c1 s1 ∧ FAm c2 s2 ∧ FInt c3 s3 ∧ FMark c4 s4 ∧ FInt c5 s5 ∧ FInt c6 s6 ∧ FList EOwn 21 1024 b w c7 s7 ∧ FList ECopy 17 1024 b w c8 s8 ∧ FList EResv 8 1024 b w c9 s9 ∧ FList ESlot 3 1024 b w c10 s10 ∧ FList EUse 3 1024 b w c11 s11 ∧ FInt c12 s12 ∧ c = c1 ++ (c2 ++ (c3 ++ (c4 ++ (c5 ++ (c6 ++ (c7 ++ (c8 ++ (c9 ++ (c10 ++ (c11 ++ (c12))))))))))) ∧ s = s1 ++ (s2 ++ (s3 ++ (s4 ++ (s5 ++ (s6 ++ (s7 ++ (s8 ++ (s9 ++ (s10 ++ (s11 ++ (s12)))))))))))
theorem EState.below {w w' : World} {b : Nat} {c : List Value} {s : Ch} (h : EState b w c s) (hk : Below b w w') : EState b w' c s := by
  obtain ⟨c1, c2, c3, c4, c5, c6, c7, c8, c9, c10, c11, c12, s1, s2, s3, s4, s5, s6, s7, s8, s9, s10, s11, s12, h1, h2, h3, h4, h5, h6, h7, h8, h9, h10, h11, h12, e1, e2⟩ := h
  exact ⟨c1, c2, c3, c4, c5, c6, c7, c8, c9, c10, c11, c12, s1, s2, s3, s4, s5, s6, s7, s8, s9, s10, s11, s12, h1, h2, h3, h4, h5, h6, FList.below (fun _ _ h => h.below hk) h7 hk, FList.below (fun _ _ h => h.below hk) h8 hk, FList.below (fun _ _ h => h.below hk) h9 hk, FList.below (fun _ _ h => h.below hk) h10 hk, FList.below (fun _ _ h => h.below hk) h11 hk, h12, e1, e2⟩
theorem EState.ex {b : Nat} {w : World} {c : List Value} {s : Ch} (h : EState b w c s) : ∃ v1 v2 v3 v4 v5 v6 v7 v8 v9 v10 v11 v12, c = [v1, v2, v3, v4, v5, v6, v7, v8, v9, v10, v11, v12] := by
  obtain ⟨c1, c2, c3, c4, c5, c6, c7, c8, c9, c10, c11, c12, s1, s2, s3, s4, s5, s6, s7, s8, s9, s10, s11, s12, h1, h2, h3, h4, h5, h6, h7, h8, h9, h10, h11, h12, rfl, rfl⟩ := h
  obtain ⟨v1, rfl⟩ := h1.ex
  obtain ⟨v2, rfl⟩ := h2.ex
  obtain ⟨v3, rfl⟩ := h3.ex
  obtain ⟨v4, rfl⟩ := h4.ex
  obtain ⟨v5, rfl⟩ := h5.ex
  obtain ⟨v6, rfl⟩ := h6.ex
  obtain ⟨v7, rfl⟩ := h7.ex
  obtain ⟨v8, rfl⟩ := h8.ex
  obtain ⟨v9, rfl⟩ := h9.ex
  obtain ⟨v10, rfl⟩ := h10.ex
  obtain ⟨v11, rfl⟩ := h11.ex
  obtain ⟨v12, rfl⟩ := h12.ex
  exact ⟨_, _, _, _, _, _, _, _, _, _, _, _, rfl⟩
theorem EId.one {b : Nat} {w : World} {c : List Value} {s : Ch} (h : EId b w c s) : ∀ v ∈ c, v.oneCell' = true := by
  obtain ⟨c1, c2, s1, s2, h1, h2, rfl, rfl⟩ := h
  intro v hv
  simp only [List.mem_append] at hv
  rcases hv with hv | hv
  · exact h1.one v hv
  · exact h2.one v hv
theorem ESpan.one {b : Nat} {w : World} {c : List Value} {s : Ch} (h : ESpan b w c s) : ∀ v ∈ c, v.oneCell' = true := by
  obtain ⟨c1, c2, s1, s2, h1, h2, rfl, rfl⟩ := h
  intro v hv
  simp only [List.mem_append] at hv
  rcases hv with hv | hv
  · exact h1.one v hv
  · exact h2.one v hv
theorem ESlot.one {b : Nat} {w : World} {c : List Value} {s : Ch} (h : ESlot b w c s) : ∀ v ∈ c, v.oneCell' = true := by
  obtain ⟨c1, c2, s1, s2, h1, h2, rfl, rfl⟩ := h
  intro v hv
  simp only [List.mem_append] at hv
  rcases hv with hv | hv
  · exact h1.one v hv
  · exact h2.one v hv
theorem EBusy.one {b : Nat} {w : World} {c : List Value} {s : Ch} (h : EBusy b w c s) : ∀ v ∈ c, v.oneCell' = true := by
  obtain ⟨c1, c2, c3, s1, s2, s3, h1, h2, h3, rfl, rfl⟩ := h
  intro v hv
  simp only [List.mem_append] at hv
  rcases hv with hv | hv | hv
  · exact h1.one v hv
  · exact h2.one v hv
  · exact h3.one v hv
theorem EPart.one {b : Nat} {w : World} {c : List Value} {s : Ch} (h : EPart b w c s) : ∀ v ∈ c, v.oneCell' = true := by
  obtain ⟨c1, c2, c3, s1, s2, s3, h1, h2, h3, rfl, rfl⟩ := h
  intro v hv
  simp only [List.mem_append] at hv
  rcases hv with hv | hv | hv
  · exact h1.one v hv
  · exact h2.one v hv
  · exact h3.one v hv
theorem EUse.one {b : Nat} {w : World} {c : List Value} {s : Ch} (h : EUse b w c s) : ∀ v ∈ c, v.oneCell' = true := by
  obtain ⟨c1, c2, c3, s1, s2, s3, h1, h2, h3, rfl, rfl⟩ := h
  intro v hv
  simp only [List.mem_append] at hv
  rcases hv with hv | hv | hv
  · exact h1.one v hv
  · exact h2.one v hv
  · exact h3.one v hv
theorem EResv.one {b : Nat} {w : World} {c : List Value} {s : Ch} (h : EResv b w c s) : ∀ v ∈ c, v.oneCell' = true := by
  obtain ⟨c1, c2, c3, c4, c5, s1, s2, s3, s4, s5, h1, h2, h3, h4, h5, rfl, rfl⟩ := h
  intro v hv
  simp only [List.mem_append] at hv
  rcases hv with hv | hv | hv | hv | hv
  · exact h1.one v hv
  · exact h2.one v hv
  · exact h3.one v hv
  · exact h4.one v hv
  · exact h5.one v hv
theorem EJob.one {b : Nat} {w : World} {c : List Value} {s : Ch} (h : EJob b w c s) : ∀ v ∈ c, v.oneCell' = true := by
  obtain ⟨c1, c2, c3, c4, c5, c6, c7, c8, c9, s1, s2, s3, s4, s5, s6, s7, s8, s9, h1, h2, h3, h4, h5, h6, h7, h8, h9, rfl, rfl⟩ := h
  intro v hv
  simp only [List.mem_append] at hv
  rcases hv with hv | hv | hv | hv | hv | hv | hv | hv | hv
  · exact h1.one v hv
  · exact h2.one v hv
  · exact h3.one v hv
  · exact h4.one v hv
  · exact h5.one v hv
  · exact h6.one v hv
  · exact h7.one v hv
  · exact h8.one v hv
  · exact h9.one v hv
theorem EOffer.one {b : Nat} {w : World} {c : List Value} {s : Ch} (h : EOffer b w c s) : ∀ v ∈ c, v.oneCell' = true := by
  obtain ⟨c1, c2, s1, s2, h1, h2, rfl, rfl⟩ := h
  intro v hv
  simp only [List.mem_append] at hv
  rcases hv with hv | hv
  · exact h1.one v hv
  · exact h2.one v hv
theorem EOwn.one {b : Nat} {w : World} {c : List Value} {s : Ch} (h : EOwn b w c s) : ∀ v ∈ c, v.oneCell' = true := by
  obtain ⟨c1, c2, c3, c4, c5, c6, c7, c8, c9, c10, c11, c12, s1, s2, s3, s4, s5, s6, s7, s8, s9, s10, s11, s12, h1, h2, h3, h4, h5, h6, h7, h8, h9, h10, h11, h12, rfl, rfl⟩ := h
  intro v hv
  simp only [List.mem_append] at hv
  rcases hv with hv | hv | hv | hv | hv | hv | hv | hv | hv | hv | hv | hv
  · exact h1.one v hv
  · exact h2.one v hv
  · exact h3.one v hv
  · exact h4.one v hv
  · exact h5.one v hv
  · exact h6.one v hv
  · exact h7.one v hv
  · exact h8.one v hv
  · exact h9.one v hv
  · exact h10.one v hv
  · exact h11.one v hv
  · exact h12.one v hv
theorem ECopy.one {b : Nat} {w : World} {c : List Value} {s : Ch} (h : ECopy b w c s) : ∀ v ∈ c, v.oneCell' = true := by
  obtain ⟨c1, c2, c3, c4, c5, c6, c7, c8, s1, s2, s3, s4, s5, s6, s7, s8, h1, h2, h3, h4, h5, h6, h7, h8, rfl, rfl⟩ := h
  intro v hv
  simp only [List.mem_append] at hv
  rcases hv with hv | hv | hv | hv | hv | hv | hv | hv
  · exact h1.one v hv
  · exact h2.one v hv
  · exact h3.one v hv
  · exact h4.one v hv
  · exact h5.one v hv
  · exact h6.one v hv
  · exact h7.one v hv
  · exact h8.one v hv
theorem ERec.one {b : Nat} {w : World} {c : List Value} {s : Ch} (h : ERec b w c s) : ∀ v ∈ c, v.oneCell' = true := by
  obtain ⟨c1, c2, c3, c4, c5, c6, c7, c8, c9, c10, c11, c12, s1, s2, s3, s4, s5, s6, s7, s8, s9, s10, s11, s12, h1, h2, h3, h4, h5, h6, h7, h8, h9, h10, h11, h12, rfl, rfl⟩ := h
  intro v hv
  simp only [List.mem_append] at hv
  rcases hv with hv | hv | hv | hv | hv | hv | hv | hv | hv | hv | hv | hv
  · exact h1.one v hv
  · exact h2.one v hv
  · exact h3.one v hv
  · exact h4.one v hv
  · exact h5.one v hv
  · exact h6.one v hv
  · exact h7.one v hv
  · exact h8.one v hv
  · exact h9.one v hv
  · exact h10.one v hv
  · exact h11.one v hv
  · exact h12.one v hv
theorem EMsg.one {b : Nat} {w : World} {c : List Value} {s : Ch} (h : EMsg b w c s) : ∀ v ∈ c, v.oneCell' = true := by
  obtain ⟨c1, c2, c3, c4, c5, c6, c7, c8, s1, s2, s3, s4, s5, s6, s7, s8, h1, h2, h3, h4, h5, h6, h7, h8, rfl, rfl⟩ := h
  intro v hv
  simp only [List.mem_append] at hv
  rcases hv with hv | hv | hv | hv | hv | hv | hv | hv
  · exact h1.one v hv
  · exact h2.one v hv
  · exact h3.one v hv
  · exact h4.one v hv
  · exact h5.one v hv
  · exact h6.one v hv
  · exact h7.one v hv
  · exact h8.one v hv
theorem EFrame.one {b : Nat} {w : World} {c : List Value} {s : Ch} (h : EFrame b w c s) : ∀ v ∈ c, v.oneCell' = true := by
  obtain ⟨c1, c2, c3, c4, c5, c6, c7, s1, s2, s3, s4, s5, s6, s7, h1, h2, h3, h4, h5, h6, h7, rfl, rfl⟩ := h
  intro v hv
  simp only [List.mem_append] at hv
  rcases hv with hv | hv | hv | hv | hv | hv | hv
  · exact h1.one v hv
  · exact h2.one v hv
  · exact h3.one v hv
  · exact h4.one v hv
  · exact h5.one v hv
  · exact h6.one v hv
  · exact h7.one v hv
theorem EState.one {b : Nat} {w : World} {c : List Value} {s : Ch} (h : EState b w c s) : ∀ v ∈ c, v.oneCell' = true := by
  obtain ⟨c1, c2, c3, c4, c5, c6, c7, c8, c9, c10, c11, c12, s1, s2, s3, s4, s5, s6, s7, s8, s9, s10, s11, s12, h1, h2, h3, h4, h5, h6, h7, h8, h9, h10, h11, h12, rfl, rfl⟩ := h
  intro v hv
  simp only [List.mem_append] at hv
  rcases hv with hv | hv | hv | hv | hv | hv | hv | hv | hv | hv | hv | hv
  · exact h1.one v hv
  · exact h2.one v hv
  · exact h3.one v hv
  · exact h4.one v hv
  · exact h5.one v hv
  · exact h6.one v hv
  · exact h7.one v hv
  · exact h8.one v hv
  · exact h9.one v hv
  · exact h10.one v hv
  · exact h11.one v hv
  · exact h12.one v hv
end Go.Proofs.Ytagocmbcbbhehaa
