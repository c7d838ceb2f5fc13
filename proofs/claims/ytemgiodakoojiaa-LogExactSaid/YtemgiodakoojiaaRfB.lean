/- hanseref06.Parts: what it tells. -/
import Derived.Test.YtemgiodakoojiaaRfA
namespace Go.Proofs.Ytemgiodakoojiaa
set_option linter.unusedVariables false
open Go.RowKit
open Go.Proofs.Ytemgiodakoojiaa.Frm
open Go.Proofs.Ytemgiodakoojiaa.Jr
/-- a row more -/
theorem rows_push {O : Nat → Prop} {w2 w3 : World} {rc2 rc3 d : Nat} {A R2 R3 B : Option Addr} {t : List UInt8} {recs : List (List UInt8)} {xs : List Value} (hrw : Rows_ O w2 A R2 rc2 recs xs) (hB : Kept O w2 A B t) (hBd : t.length ≤ d) (hdm : d ≤ maxLen)
    (hk : Keep (fun i => blk R2 = some i) w2 w3) (ho3 : Own w3 0 30 R3 (recs.length + 1) rc3 (xs ++ [.slice B t.length d])) (hR3 : ∀ i, blk R3 = some i → O i) :
    Rows_ O w3 A R3 rc3 (recs ++ [t]) (xs ++ [.slice B t.length d]) ∧ ∀ {B : Option Addr} {l : List UInt8}, Kept O w2 A B l → Kept O w3 A B l := by
  obtain ⟨hown, hRO, hrows⟩ := hrw
  have hKept : ∀ {B : Option Addr} {l : List UInt8}, Kept O w2 A B l → Kept O w3 A B l := fun h => h.keep hk (fun i hi => .inl fun cur hcu => by
    obtain ⟨c', h'⟩ := hown.cells_ hi
    rw [h'] at hcu
    injection hcu with hcu
    injection hcu with _ hcu
    exact absurd hcu (by decide)) (.inl rfl)
  refine ⟨⟨by rw [List.length_append]; exact ho3, hR3, fun j l hj => ?_⟩, hKept⟩
  rw [List.getElem?_append] at hj
  have hxl := hown.len
  split at hj
  · rename_i hjl
    obtain ⟨B', d', g1, g2, g3, g4⟩ := hrows j l hj
    exact ⟨B', d', by rw [List.getElem?_append_left (by omega)]; exact g1, g2, g3, hKept g4⟩
  · rename_i hjl
    have hj0 : j = recs.length := by
      have := (List.getElem?_eq_some_iff.1 hj).1
      simp only [List.length_cons, List.length_nil] at this
      omega
    subst hj0
    simp only [Nat.sub_self, List.getElem?_cons_zero, Option.some.injEq] at hj
    subst hj
    exact ⟨B, d, by rw [List.getElem?_append_right (by omega), hxl]; simp, hBd, hdm, hKept hB⟩
theorem Rows_.new {O : Nat → Prop} {w w' : World} {rc : Nat} {A R : Option Addr} {recs : List (List UInt8)} {xs : List Value} (h : Rows_ O w A R rc recs xs) (hn : New w w') : Rows_ O w' A R rc recs xs := by
  obtain ⟨h1, h2, h3⟩ := h
  exact ⟨h1.new hn, h2, fun j l hj => by
    obtain ⟨B, d, g1, g2, g3, g4⟩ := h3 j l hj
    exact ⟨B, d, g1, g2, g3, g4.new hn⟩⟩
theorem Rows_.rr {O : Nat → Prop} {w : World} {rc : Nat} {A R : Option Addr} {recs : List (List UInt8)} {xs : List Value} (h : Rows_ O w A R rc recs xs) : RR w R recs := fun j l hl => by
  obtain ⟨ho, _, h3⟩ := h
  obtain ⟨B, d, hj, g2, g3, g4⟩ := h3 j l hl
  have hjn := (List.getElem?_eq_some_iff.1 hl).1
  rcases ho.form with ⟨_, h0, _⟩ | ⟨g, rfl, _, _⟩
  · omega
  · exact ⟨_, B, d, rfl, by rw [addr_at, ho.at_ rfl hjn, hj], g2, g3, g4.1⟩
/-- what Parts tells -/
def Parted (w : World) (b : List UInt8) (e : Ending) (w' : World) : Prop := ∃ S sc R rc, e = .returned (.tuple #[.slice S (parts b).1.length sc, .slice R (parts b).2.1.length rc, .int .i64 (parts b).2.2]) ∧ RB w' S (parts b).1 ∧ RR w' R (parts b).2.1 ∧ New w w'
theorem parted_fin {w wr w' : World} {b snap : List UInt8} {rs : List (List UInt8)} {en sn k sc rc : Nat} {S R : Option Addr} {xs : List Value} (hp : parts b = (snap, rs, en)) (hsn : sn = snap.length) (hk : k = rs.length) (hS : Kept (Since w) wr none S snap) (hR : Rows_ (Since w) wr none R rc rs xs) (hn : New w wr) (hw : New wr w') :
    Parted w b (.returned (.tuple #[.slice S sn sc, .slice R k rc, .int .i64 en])) w' := by
  subst hsn; subst hk
  refine ⟨S, sc, R, rc, by rw [hp], by rw [hp]; exact (hS.new hw).1, by rw [hp]; exact (hR.new hw).rr, New.trans hn hw⟩
end Go.Proofs.Ytemgiodakoojiaa
