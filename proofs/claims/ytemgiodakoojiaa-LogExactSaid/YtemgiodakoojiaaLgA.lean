/- journal.seal: what it does; a log in memory. -/
import Derived.Test.YtemgiodakoojiaaFrI
import Derived.Test.YtemgiodakoojiaaDkG
namespace Go.Proofs.Ytemgiodakoojiaa
open Go.RowKit
open Go.Proofs.Ytemgiodakoojiaa.Frm
/-- a payload behind its mark, and its frame -/
def Laid (w : World) (m : UInt8) (t : List UInt8) (e : Ending) (w' : World) : Prop :=
  ∃ P pc F fc, e = .returned (.tuple #[.slice P (1 + t.length) pc, .slice F (9 + t.length) fc, .int .i64 0]) ∧ OBs w' w.heap.size P (1 + t.length) pc (m :: t) ∧ OBs w' w.heap.size F (9 + t.length) fc (seal_ (m :: t)) ∧ New w w'
theorem OBs.lit {w : World} {base g : Nat} {l : List UInt8} (hh : w.heap[g]? = some (.cells (l.map bv).toArray 5 (0, 0))) (hb : base ≤ g) (hm : l.length ≤ maxLen) : OBs w base (some ⟨g, 0, none⟩) l.length l.length l :=
  ⟨by simp, .inr ⟨g, l.length, _, rfl, hb, hh, Nat.le_refl _, hm, by simp, by simp [List.take_of_length_le]⟩⟩
set_option maxHeartbeats 1000000 in
theorem lay_yes (mk : UInt8) (B : Option Addr) (m d : Nat) (t : List UInt8) (w : World) (hm : m = t.length) (hr : RB w B t) (hmd : m ≤ 131071) :
    Calls Try.prog 44 #[.int .u8 mk.toNat, .slice B m d] w (Laid w mk t) := by
  have hd1 : decide ((131071 : Int) < (m : Int)) = false := by simp; omega
  have hal : New w (w.alloc (.cells ([mk].map bv).toArray 5)) := (Below.refl _ _).alloc (Nat.le_refl _) _
  have hlit : OBs (w.alloc (.cells ([mk].map bv).toArray 5)) w.heap.size (some ⟨w.heap.size, 0, none⟩) 1 1 [mk] := OBs.lit (heap_alloc_new w _) (Nat.le_refl _) (by simp [maxLen])
  have hr1 := hr.new hal
  have HM := Lib.hid hm
  clear hm hr
  go_enter Try.func44, Try.ntmps44
  go_wp2_with (at_builtin; refine wpList_append_OB _ rfl (.tmp 11) (.tmp 12) _ rfl w.heap.size _ u_bytes i_byte _ 1 1 [mk] rfl hlit B m d t rfl HM.out hr1 (by omega) hal.size ?_; intro P pc w2 ho2 hg2 _; refine stop ?_)
  have hn2 : New w w2 := Below.trans hal (below_blk hlit hg2 hal.size)
  have hlen : 1 + m = (mk :: t).length := by rw [List.length_cons, ← HM.out]; omega
  have HL := Lib.hid hlen
  have HO : Hid (OBs w2 w.heap.size P (1 + m) pc (mk :: t)) := ho2
  have hle := ho2.le
  refine go ?_
  clear ho2 hg2 hlit hal hr1 hlen
  go_wp2_with fail
  refine (seal_yes P (1 + m) pc (mk :: t) w2 HL.out HO.out.rb hle.1 hle.2 (by rw [← HL.out]; omega)).mono ?_
  rintro e w3 ⟨⟨F, fc, rfl, hf⟩, hw3⟩
  rw [← HL.out] at hf ⊢
  have HF := Lib.hid hf
  have HO3 : Hid (OBs w3 w.heap.size P (1 + m) pc (mk :: t)) := HO.out.new hw3
  have hn3 := New.trans hn2 hw3
  have hs2 := hn2.size
  clear hf hw3
  go_wp2_with fail
  go_ret3
  refine ⟨P, pc, F, fc, ?_, ?_, ?_, hn3⟩
  · rw [← show m = t.length from HM.out, show 9 + m = 8 + (1 + m) from by omega]
    rfl
  · rw [← show m = t.length from HM.out]
    exact HO3.out
  · rw [← show m = t.length from HM.out, show 9 + m = 8 + (1 + m) from by omega]
    exact HF.out.base_le hs2
set_option maxHeartbeats 1000000 in
theorem lay_no (mk : UInt8) (B : Option Addr) (m d : Nat) (w : World) (hmd : (131071 : Int) < (m : Int)) :
    Calls Try.prog 44 #[.int .u8 mk.toNat, .slice B m d] w fun e w' => e = .returned (.tuple #[.slice none 0 0, .slice none 0 0, .int .i64 5]) ∧ w = w' := by
  go_enter Try.func44, Try.ntmps44
  go_wp2_with fail
  go_ret3
  exact ⟨rfl, rfl⟩
/-- bytes that a log keeps: they lie in a block of bytes, apart from the disk's bytes (at A) -/
def Kept (O : Nat → Prop) (w : World) (A B : Option Addr) (l : List UInt8) : Prop := RB w B l ∧ (l ≠ [] → ∀ ad, B = some ad → (∃ cur, w.heap[ad.block]? = some (.cells cur 5 (0, 0))) ∧ ¬ blk A = some ad.block ∧ O ad.block)
theorem Kept.nil (O : Nat → Prop) (w : World) (A : Option Addr) : Kept O w A none [] := ⟨RB.nil _ _, fun h => absurd rfl h⟩
/-- what is kept stays, if only blocks of no bytes turn, or the disk's bytes -/
theorem Kept.keep {O S : Nat → Prop} {w w' : World} {A A' B : Option Addr} {l : List UInt8} (h : Kept O w A B l) (hk : Keep S w w') (hS : ∀ i, S i → (∀ cur, w.heap[i]? ≠ some (.cells cur 5 (0, 0))) ∨ blk A = some i ∨ ¬ O i) (hA : blk A' = blk A ∨ ∀ i, blk A' = some i → w.heap.size ≤ i) : Kept O w' A' B l := by
  by_cases hl : l = []
  · subst hl
    exact ⟨RB.nil _ _, fun h => absurd rfl h⟩
  · have key : ∀ ad, B = some ad → ¬ S ad.block := by
      intro ad e hs
      obtain ⟨⟨cur, hc⟩, h2, h4⟩ := h.2 hl ad e
      rcases hS _ hs with h3 | h3 | h3
      · exact h3 cur hc
      · exact h2 h3
      · exact h3 h4
    refine ⟨h.1.kept hk key, fun _ ad e => ?_⟩
    obtain ⟨⟨cur, hc⟩, h2, h4⟩ := h.2 hl ad e
    have hlt := (Array.getElem?_eq_some_iff.1 hc).1
    refine ⟨⟨cur, (hk.block _ hlt (key ad e)).trans hc⟩, fun hb => ?_, h4⟩
    rcases hA with ha | ha
    · exact h2 (ha ▸ hb)
    · have := ha _ hb
      omega
theorem Kept.mono {O O' : Nat → Prop} {w : World} {A B : Option Addr} {l : List UInt8} (h : Kept O w A B l) (hO : ∀ i, i < w.heap.size → O i → O' i) : Kept O' w A B l := ⟨h.1, fun hl ad e => by
  obtain ⟨⟨cur, hc⟩, h2, h3⟩ := h.2 hl ad e
  exact ⟨⟨cur, hc⟩, h2, hO _ (Array.getElem?_eq_some_iff.1 hc).1 h3⟩⟩
theorem Kept.new {O : Nat → Prop} {w w' : World} {A B : Option Addr} {l : List UInt8} (h : Kept O w A B l) (hn : New w w') : Kept O w' A B l := h.keep (S := fun _ => False) (.of_new hn) (fun _ h => h.elim) (.inl rfl)
/-- the disk at g was changed: what is kept stays -/
theorem Kept.moved {O : Nat → Prop} {T : TypeId} {w w' : World} {base g c : Nat} {A A' B : Option Addr} {σ : St} {l : List UInt8} (h : Kept O w A B l) (hd : DK T w base g A c σ) (hm : Moved w w' g A A') : Kept O w' A' B l := by
  refine h.keep hm.keep (fun i hi => ?_) hm.at_
  rcases hi with rfl | hi
  · refine .inl fun cur hc => ?_
    rw [hd.cells] at hc
    injection hc with hc
    injection hc with _ hc
    exact hd.ty hc.symm
  · exact .inr (.inl hi)
/-- a row of bytes of the call's own, apart from the disk's -/
theorem Kept.own {O : Nat → Prop} {w : World} {base n c : Nat} {A B : Option Addr} {l : List UInt8} (ho : OBs w base B n c l) (hA : ∀ i, blk A = some i → i < base) (hO : ∀ i, base ≤ i → O i) : Kept O w A B l := by
  refine ⟨ho.rb, fun _ ad e => ?_⟩
  have hb : blk B = some ad.block := by rw [e]; rfl
  have hle := (OB.lt ho hb).1
  refine ⟨ho.cells_ hb, fun h => ?_, hO _ hle⟩
  have := hA _ h
  omega
/-- a part of what is kept -/
theorem Kept.drop1 {O : Nat → Prop} {w : World} {A : Option Addr} {pg : Nat} {x : UInt8} {l : List UInt8} (h : Kept O w A (some ⟨pg, 0, none⟩) (x :: l)) (o : Nat) (ho : l ≠ [] → o = 1) : Kept O w A (some ⟨pg, o, none⟩) l := by
  by_cases hl : l = []
  · subst hl
    exact ⟨RB.nil _ _, fun h => absurd rfl h⟩
  · rw [ho hl]
    refine ⟨fun j u hu => ?_, fun _ ad e => ?_⟩
    · obtain ⟨ad, e, hc⟩ := h.1 (j + 1) u (by simpa using hu)
      cases e
      exact ⟨_, rfl, by rw [addr_at] at hc; rw [show (⟨pg, 1, none⟩ : Addr).add j = ⟨pg, j + 1, none⟩ from by unfold Addr.add; split <;> simp_all [Nat.add_comm]]; exact hc⟩
    · cases e
      exact h.2 (by simp) ⟨pg, 0, none⟩ rfl
/-- the rows of a log: their cells, and each row -/
def Rows_ (O : Nat → Prop) (w : World) (A R : Option Addr) (rc : Nat) (recs : List (List UInt8)) (xs : List Value) : Prop :=
  Own w 0 30 R recs.length rc xs ∧ (∀ i, blk R = some i → O i) ∧ ∀ (j : Nat) (l : List UInt8), recs[j]? = some l → ∃ B d, xs[j]? = some (.slice B l.length d) ∧ l.length ≤ d ∧ d ≤ maxLen ∧ Kept O w A B l
theorem Rows_.nil (O : Nat → Prop) (w : World) (A : Option Addr) : Rows_ O w A none 0 [] [] := ⟨Own.nil _ _ _, fun i h => (by cases h), fun j l h => (by simp at h)⟩
/-- block dg is a disk, in blocks of O; since w0 only blocks of O were changed -/
structure DiskAt (O : Nat → Prop) (w0 w : World) (dg : Nat) (A : Option Addr) (c : Nat) (σ : St) : Prop where
  a : DKd w 0 dg A c σ
  fr : Keep O w0 w
  up : ∀ i, w0.heap.size ≤ i → O i
  od : O dg
  oA : ∀ i, blk A = some i → O i
/-- block g is a log of the disk at dg -/
structure LogAt (O : Nat → Prop) (w0 w : World) (g dg : Nat) (A : Option Addr) (c : Nat) (σ : St) (snap : List UInt8) (recs : List (List UInt8)) : Prop extends DiskAt O w0 w dg A c σ where
  cells : ∃ S sc R rc, w.heap[g]? = some (.cells #[.pointer (some ⟨dg, 0, none⟩), .slice S snap.length sc, .slice R recs.length rc] 64 (0, 0)) ∧ snap.length ≤ sc ∧ sc ≤ maxLen ∧ Kept O w A S snap ∧ ∃ xs : List Value, Rows_ O w A R rc recs xs
  le : O g
section
variable {O : Nat → Prop} {w0 w w' : World} {g dg c c' : Nat} {A A' : Option Addr} {σ τ : St} {snap : List UInt8} {recs : List (List UInt8)} {v e : Ending}
theorem DiskAt.size (h : DiskAt O w0 w dg A c σ) : w0.heap.size ≤ w.heap.size := h.fr.size
theorem DiskAt.upw (h : DiskAt O w0 w dg A c σ) : ∀ i, w.heap.size ≤ i → O i := fun i hi => h.up i (Nat.le_trans h.size hi)
theorem DiskAt.also (h : DiskAt O w0 w dg A c σ) (hn : New w w') : DiskAt O w0 w' dg A c σ := ⟨h.a.new hn, h.fr.trans (.of_new hn), h.up, h.od, h.oA⟩
theorem DiskAt.moved (h : DiskAt O w0 w dg A c σ) (k1 : DKd w' 0 dg A' c' τ) (hm : Moved w w' dg A A') : DiskAt O w0 w' dg A' c' τ := by
  refine ⟨k1, h.fr.trans_new hm.keep ?_, h.up, h.od, ?_⟩
  · rintro i (rfl | hi) _
    · exact h.od
    · exact h.oA i hi
  · intro i hi
    rcases hm.at_ with ha | ha
    · exact h.oA i (ha ▸ hi)
    · exact h.upw i (ha i hi)
theorem DiskAt.did (h : DiskAt O w0 w dg A c σ) (hd : Did w 0 dg A v τ e w') : ∃ A' c', e = v ∧ DiskAt O w0 w' dg A' c' τ := by
  obtain ⟨A', c', he, k1, hm⟩ := hd
  exact ⟨A', c', he, h.moved k1 hm⟩
/-- blocks apart from the log's are changed -/
theorem LogAt.far {S : Nat → Prop} (h : LogAt O w0 w g dg A c σ snap recs) (hk : Keep S w w') (hS : ∀ i, S i → i < w.heap.size → O i → False) (w1 : World) (O' : Nat → Prop) (hO : ∀ i, i < w.heap.size → O i → O' i) (hfr : Keep O' w1 w') (hup : ∀ i, w1.heap.size ≤ i → O' i) : LogAt O' w1 w' g dg A c σ snap recs := by
  obtain ⟨S', sc, R, rc, h1, h2, h3, h4, xs, h5, h7, h6⟩ := h.cells
  have hg := (Array.getElem?_eq_some_iff.1 h1).1
  have hd := h.a.lt
  have key : ∀ {B : Option Addr} {l : List UInt8}, Kept O w A B l → Kept O' w' A B l := fun hB => by
    have hq : Keep (fun i => S i ∧ i < w.heap.size) w w' := ⟨hk.os, hk.tape, hk.output, hk.size, fun i hi hs => hk.block i hi fun h => hs ⟨h, hi⟩⟩
    have hk' := hB.keep hq (fun i hi => .inr (.inr fun ho => hS i hi.1 hi.2 ho)) (.inl rfl)
    refine ⟨hk'.1, fun hl ad e => ?_⟩
    obtain ⟨h8, h9, h10⟩ := hk'.2 hl ad e
    obtain ⟨⟨cur, hc⟩, _, h11⟩ := hB.2 hl ad e
    exact ⟨h8, h9, hO _ (Array.getElem?_eq_some_iff.1 hc).1 h11⟩
  refine ⟨⟨h.a.keep hk (fun hs => hS _ hs hd h.od) (fun i hi hs => hS i hs (OB.lt h.a.own hi).2 (h.oA i hi)), hfr, hup, hO _ hd h.od, fun i hi => hO _ (OB.lt h.a.own hi).2 (h.oA i hi)⟩, ⟨S', sc, R, rc, (hk.block g hg (fun hs => hS _ hs hg h.le)).trans h1, h2, h3, key h4, xs, h5.keep hk (fun i hi hs => hS i hs (Own.lt h5 hi).2 (h7 i hi)), fun i hi => hO _ (Own.lt h5 hi).2 (h7 i hi), fun j l hj => ?_⟩, hO _ hg h.le⟩
  obtain ⟨B, d, g1, g2, g3, g4⟩ := h6 j l hj
  exact ⟨B, d, g1, g2, g3, key g4⟩
theorem LogAt.also (h : LogAt O w0 w g dg A c σ snap recs) (hn : New w w') : LogAt O w0 w' g dg A c σ snap recs :=
  h.far (S := fun _ => False) (.of_new hn) (fun _ h _ _ => h.elim) w0 O (fun _ _ h => h) (h.fr.trans (.of_new hn)) h.up
theorem LogAt.rb {B : Option Addr} {l : List UInt8} (h : LogAt O w0 w g dg A c σ snap recs) (hr : RB w0 B l) (hB : ∀ ad, B = some ad → ¬ O ad.block) : RB w B l := hr.kept h.fr hB
end
/-- what is done to the disk leaves the log -/
theorem LogAt.moved {O : Nat → Prop} {w0 w w' : World} {g dg c c' : Nat} {A A' : Option Addr} {σ τ : St} {snap : List UInt8} {recs : List (List UInt8)} (h : LogAt O w0 w g dg A c σ snap recs) (k1 : DKd w' 0 dg A' c' τ) (hm : Moved w w' dg A A') : LogAt O w0 w' g dg A' c' τ snap recs := by
  obtain ⟨S, sc, R, rc, h1, h2, h3, h4, xs, h5, h7, h6⟩ := h.cells
  have hS : ∀ i, (i = dg ∨ blk A = some i) → ∀ {cs : Array Value} {T : TypeId} {fr : Nat × Nat}, w.heap[i]? = some (.cells cs T fr) → T = 62 ∨ T = 5 := by
    rintro i (rfl | hi) cs T fr hc
    · rw [h.a.cells] at hc
      injection hc with hc
      injection hc with _ hc
      exact .inl hc.symm
    · obtain ⟨cur, hcc⟩ := h.a.own.cells_ hi
      rw [hcc] at hc
      injection hc with hc
      injection hc with _ hc
      exact .inr hc.symm
  refine ⟨h.toDiskAt.moved k1 hm, ⟨S, sc, R, rc, ?_, h2, h3, h4.moved h.a hm, xs, ?_, h7, fun j l hj => ?_⟩, h.le⟩
  · refine (hm.keep.block g (Array.getElem?_eq_some_iff.1 h1).1 (fun hs => ?_)).trans h1
    rcases hS g hs h1 with h | h <;> exact absurd h (by decide)
  · refine h5.keep hm.keep fun i hi hs => ?_
    obtain ⟨cur, hcc⟩ := h5.cells_ hi
    rcases hS i hs hcc with h | h <;> exact absurd h (by decide)
  · obtain ⟨B, d, g1, g2, g3, g4⟩ := h6 j l hj
    exact ⟨B, d, g1, g2, g3, g4.moved h.a hm⟩
theorem LogAt.did {O : Nat → Prop} {w0 w w' : World} {g dg c : Nat} {A : Option Addr} {σ τ : St} {snap : List UInt8} {recs : List (List UInt8)} {v e : Ending} (h : LogAt O w0 w g dg A c σ snap recs) (hd : Did w 0 dg A v τ e w') : ∃ A' c', e = v ∧ LogAt O w0 w' g dg A' c' τ snap recs := by
  obtain ⟨A', c', he, k1, hm⟩ := hd
  exact ⟨A', c', he, h.moved k1 hm⟩
/-- a record more -/
theorem log_push {O : Nat → Prop} {w0 w2 w3 : World} {g dg c2 sc2 rc2 d rc3 : Nat} {A2 S2 R2 R3 B : Option Addr} {σ : St} {snap t : List UInt8} {recs : List (List UInt8)} {xs : List Value} {o : Obj} (h : LogAt O w0 w2 g dg A2 c2 σ snap recs)
    (hc : w2.heap[g]? = some (.cells #[.pointer (some ⟨dg, 0, none⟩), .slice S2 snap.length sc2, .slice R2 recs.length rc2] 64 (0, 0))) (h1 : snap.length ≤ sc2) (h2 : sc2 ≤ maxLen) (h3 : Kept O w2 A2 S2 snap)
    (hrw : Rows_ O w2 A2 R2 rc2 recs xs)
    (hB : Kept O w2 A2 B t) (hBd : t.length ≤ d) (hdm : d ≤ maxLen) (ho3 : Own w3 0 30 R3 (recs.length + 1) rc3 (xs ++ [.slice B t.length d])) (hg3 : ((w2.drew).alloc o).grownBy w3 (blk R2)) (hR3 : blk R3 = blk R2 ∨ blk R3 = some (w2.drew.heap.size + 1)) :
    LogAt O w0 (w3.setCell ⟨g, 2, none⟩ (.slice R3 (recs.length + 1) rc3)) g dg A2 c2 σ snap (recs ++ [t]) := by
  obtain ⟨hown, hRO, hrows⟩ := hrw
  have hnA : New w2 ((w2.drew).alloc o) := Below.alloc (Below.drew (New.refl w2)) (Nat.le_refl _) o
  have hTR : ∀ i, blk R2 = some i → ∃ cur, w2.heap[i]? = some (.cells cur 30 (0, 0)) := fun i hi => hown.cells_ hi
  have hk : Keep (fun i => blk R2 = some i ∨ i = g) w2 (w3.setCell ⟨g, 2, none⟩ (.slice R3 (recs.length + 1) rc3)) :=
    ((Keep.of_new hnA).trans_new ((Keep.of_grown hg3).mono fun i hi => .inl hi) (fun i hi _ => hi)).trans_new (Keep.setAt _ _ _ _) (fun i hi _ => .inr hi)
  have hu8 : ∀ i, (blk R2 = some i ∨ i = g) → ∀ {cur : Array Value} {T : TypeId} {fr : Nat × Nat}, w2.heap[i]? = some (.cells cur T fr) → T = 30 ∨ T = 64 := by
    rintro i (hi | rfl) cur T fr h
    · obtain ⟨c', h'⟩ := hTR i hi
      rw [h'] at h
      injection h with h
      injection h with _ h
      exact .inl h.symm
    · rw [hc] at h
      injection h with h
      injection h with _ h
      exact .inr h.symm
  have hKept : ∀ {B : Option Addr} {l : List UInt8}, Kept O w2 A2 B l → Kept O (w3.setCell ⟨g, 2, none⟩ (.slice R3 (recs.length + 1) rc3)) A2 B l := fun h => h.keep hk (fun i hi => .inl fun cur hcu => by
    rcases hu8 i hi hcu with h | h <;> exact absurd h (by decide)) (.inl rfl)
  have hgR : ¬ blk R2 = some g := by
    intro hb
    obtain ⟨cur, h'⟩ := hTR g hb
    rw [hc] at h'
    injection h' with h'
    injection h' with _ h'
    exact absurd h' (by decide)
  have hlt := (Array.getElem?_eq_some_iff.1 hc).1
  have hcg3 : w3.heap[g]? = some (.cells #[.pointer (some ⟨dg, 0, none⟩), .slice S2 snap.length sc2, .slice R2 recs.length rc2] 64 (0, 0)) :=
    (((Keep.of_grown hg3).block g (Nat.lt_of_lt_of_le hlt hnA.size) hgR).trans (hnA.block g hlt)).trans hc
  refine ⟨⟨h.a.keep hk (fun hs => ?_) (fun i hi hs => ?_), h.fr.trans_new hk ?_, h.up, h.od, h.oA⟩, ⟨S2, sc2, R3, rc3, ?_, h1, h2, hKept h3, xs ++ [.slice B t.length d], ?_, ?_, fun j l hj => ?_⟩, h.le⟩
  · rcases hu8 dg hs h.a.cells with h | h <;> exact absurd h (by decide)
  · obtain ⟨cur, hcu⟩ := h.a.own.cells_ hi
    rcases hu8 i hs hcu with h | h <;> exact absurd h (by decide)
  · rintro i (hs | rfl) _
    · exact hRO i hs
    · exact h.le
  · rw [dk_set hcg3, List.length_append]
    rfl
  · rw [List.length_append]
    refine ho3.keep (Keep.setAt _ _ _ _) ?_
    rintro i hi rfl
    obtain ⟨cur, hcu⟩ := ho3.cells_ hi
    rw [hcg3] at hcu
    injection hcu with hcu
    injection hcu with _ hcu
    exact absurd hcu (by decide)
  · intro i hi
    rcases hR3 with e | e
    · exact hRO i (e ▸ hi)
    · rw [e] at hi
      injection hi with hi
      refine h.upw i ?_
      rw [← hi]
      exact Nat.le_succ _
  · rw [List.getElem?_append] at hj
    have hxl := hown.len
    split at hj
    · rename_i hjl
      obtain ⟨B', d', g1, g2, g3, g4⟩ := hrows j l hj
      exact ⟨B', d', by rw [List.getElem?_append_left (by omega)]; exact g1, g2, g3, hKept g4⟩
    · rename_i hjl
      have hj0 : j = recs.length := by
        have := (List.getElem?_eq_some_iff.1 hj).1
        simp only [List.length_cons, List.length_nil] at this
        omega
      subst hj0
      simp only [Nat.sub_self, List.getElem?_cons_zero, Option.some.injEq] at hj
      subst hj
      exact ⟨B, d, by rw [List.getElem?_append_right (by omega), hxl]; simp, hBd, hdm, hKept hB⟩
section
variable {P : Program}
/-- 'rows = append(rows, row)' at a step of a region that draws -/
theorem step_append_row {ops : Array Oper} {o : Oper} {a : Act} {K : Act → World → Prop} {Q : Exit → Act → World → Prop} {E : Prop} (W : World) (hgd : o.guard = none) (s x : Operand) (t : TypeId)
    (ho : o.op = .call { callee := .builtin .append, args := #[s, x], argTypes := #[t, t] })
    (base : Nat) (er : TypeId) (ht : P.underlying t = some (.slice er)) (he : (P.info? er).map (fun i => (i.zero, i.size, i.bytes)) = some (some (.slice none 0 0), 1, 24))
    (A : Option Addr) (n c : Nat) (xs : List Value) (hs : a.eval s = .slice A n c) (hown : Own W base er A n c xs) (v : Value) (hv : v.oneCell' = true) {H : Nat} (hH : H = W.heap.size) (hx : a.eval x = .slice (some ⟨H, 0, none⟩) 1 1) (hn : n ≤ 1099511627776) (hbase : base ≤ W.heap.size)
    (h : ∀ A' c' w', Own w' base er A' (n + 1) c' (xs ++ [v]) → (W.alloc (.cells #[v] er)).grownBy w' (blk A) → (blk A' = blk A ∨ blk A' = some (W.heap.size + 1)) → K (a.put o.dst (.slice A' (n + 1) c')) w') :
    if Region.wanted o (yielded ops a.tmps) = true then Oper.wp P o a (W.alloc (.cells #[v] er)) K Q else E := by
  have hw : Region.wanted o (yielded ops a.tmps) = true := by simp [Region.wanted, hgd]
  rw [if_pos hw]
  obtain ⟨i, hi, hz0, hz1, hz2⟩ := info_parts he
  subst hH
  refine wp_append_Own _ s x t ho base er i _ 24 ht hi hz0 hz1 hz2 rfl A n c xs hs (hown.alloc _) (some ⟨W.heap.size, 0, none⟩) 1 1 [v] hx rfl (fun j u hu => ?_) (fun u hu => ?_) (by unfold maxLen; omega) (by omega) (by rw [World.size_alloc]; omega) (fun A' c' w' h2 h3 h4 => h A' c' w' h2 h3 (by rw [World.size_alloc] at h4; exact h4))
  · have hj : j = 0 := by
      have := (List.getElem?_eq_some_iff.1 hu).1
      simp only [List.length_cons, List.length_nil] at this
      omega
    subst hj
    simp only [List.getElem?_cons_zero, Option.some.injEq] at hu
    subst hu
    exact ⟨_, rfl, by rw [addr_at, cell_of_row _ _ 0 _ _ _ (heap_alloc_new W _)]; rfl⟩
  · simp only [List.mem_singleton] at hu
    subst hu
    exact hv
end
end Go.Proofs.Ytemgiodakoojiaa
