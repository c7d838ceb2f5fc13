/- hanselaw04.FrameScans: the walk. -/
import Derived.Test.YtjdcikhbgbefcaaFrD
import Derived.Test.YtjdcikhbgbefcaaFrJ
namespace Go.Proofs.Ytjdcikhbgbefcaa
open Go.RowKit
open Go.Proofs.Ytjdcikhbgbefcaa.Frm
/-- rows of the call's own, with whatever bytes -/
def AnyRows (w : World) (base hi : Nat) (A : Option Addr) (n c : Nat) : Prop :=
  ∃ xs : List Value, Own w base 25 A n c xs ∧ ∀ j : Nat, j < n → ∃ (B : Option Addr) (m d : Nat) (l : List UInt8), xs[j]? = some (Value.slice B m d) ∧ OBs w base B m d l ∧ ∀ k, blk B = some k → k < hi
theorem AnyRows.of {w : World} {base : Nat} {A : Option Addr} {n c : Nat} {ls : List (List UInt8)} (h : ORs w base A n c ls) : AnyRows w base w.heap.size A n c := by
  obtain ⟨xs, ho, hl, hx⟩ := h
  refine ⟨xs, ho, fun j hj => ?_⟩
  obtain ⟨B, d, h1, h2⟩ := hx j _ (List.getElem?_eq_getElem (by omega))
  exact ⟨B, _, d, _, h1, h2, fun k hk => (h2.lt hk).2⟩
theorem AnyRows.at_ {w : World} {base hi : Nat} {A : Option Addr} {n c j : Nat} (h : AnyRows w base hi A n c) (hj : j < n) :
    ∃ (g : Nat) (B : Option Addr) (m d : Nat) (l : List UInt8), A = some ⟨g, 0, none⟩ ∧ w.cell? ⟨g, j, none⟩ = some (.slice B m d) ∧ OBs w base B m d l ∧ ∀ k, blk B = some k → k < hi := by
  obtain ⟨xs, ho, hx⟩ := h
  obtain ⟨B, m, d, l, h1, h2, h3⟩ := hx j hj
  rcases ho.form with ⟨_, h0, _⟩ | ⟨g, rfl, _, _⟩
  · omega
  · exact ⟨g, B, m, d, l, rfl, by rw [ho.at_ rfl hj, h1], h2, h3⟩
theorem AnyRows.spoiled {w w' : World} {base hi : Nat} {A B : Option Addr} {n c m d : Nat} {l : List UInt8} (h : AnyRows w base hi A n c) (hB : OBs w base B m d l) (hk : Keep (fun j => blk B = some j) w w') (hs : SameRows w w') : AnyRows w' base hi A n c := by
  obtain ⟨xs, ho, hx⟩ := h
  refine ⟨xs, ho.keep hk (Own.apart ho hB (by decide)), fun j hj => ?_⟩
  obtain ⟨B', m', d', l', h1, h2, h4⟩ := hx j hj
  obtain ⟨l2, h3⟩ := hs _ _ _ _ _ h2
  exact ⟨B', m', d', l2, h1, h3, h4⟩
set_option maxHeartbeats 1000000 in
theorem scans_law (A : Option Addr) (n c : Nat) (b : List UInt8) (w : World) (hn : n = b.length) (hnc : n ≤ c) (hmax : c ≤ maxLen) (hr : RB w A b) :
    Calls Try.prog 5 #[.slice A n c] w fun e w' => e = .returned (.bool true) ∧ New w w' := by
  have HN := Lib.hid hn
  clear hn
  by_cases hbig : (262144 : Int) < (n : Int)
  · go_enter Try.func5, Try.ntmps5
    go_wp2_with fail
    go_ret
    exact ⟨rfl, New.refl _⟩
  · go_enter Try.func5, Try.ntmps5
    go_wp2_with fail
    refine (twin_any A n c b w HN.out hr (by omega)).mono ?_
    rintro e w1 ⟨A1, c1, rfl, ho1, hw1⟩
    have hl1 := ho1.le
    have hl1' := hl1
    unfold maxLen at hl1'
    go_wp2_with fail
    refine (scan_any A1 n c1 b w1 HN.out ho1.rb hl1.1 hl1.2 (by omega)).mono ?_
    rintro e w2 ⟨A2, c2, rfl, ho2, hw2⟩
    obtain ⟨ps, hps⟩ : ∃ ps, ps = (scan b).1 := ⟨_, rfl⟩
    obtain ⟨en, hen⟩ : ∃ en, en = (scan b).2 := ⟨_, rfl⟩
    have hlen : ps.length ≤ 262144 := by have h1 := scan_count b; have h2 := scan_le b; have : n = b.length := HN.out; rw [hps]; omega
    rw [← hps] at ho2 ⊢
    rw [← hen]
    have HPS := Lib.hid hps
    have HEN := Lib.hid hen
    clear hps hen
    go_wp2_with fail
    refine (rscan_any A n c b w2 HN.out (hr.new (New.trans hw1 hw2)) hnc hmax (by omega)).mono ?_
    rintro e w3 ⟨A3, c3, rfl, ho3, hw3⟩
    rw [← HPS.out] at ho3 ⊢
    rw [← HEN.out]
    go_wp2_with fail
    refine (rows_any A2 A3 ps.length c2 ps.length c3 ps ps w3 rfl rfl (by unfold maxLen; omega) (ho2.rr.new hw3) ho3.rr).mono ?_
    rintro e w4 ⟨rfl, hw4⟩
    simp only [beq_self_eq_true]
    go_wp2_with fail
    refine (bytes_is A1 A n c1 n c b b w4 HN.out HN.out (ho1.rb.new (New.trans hw2 (New.trans hw3 hw4.new))) (hr.new (New.trans hw1 (New.trans hw2 (New.trans hw3 hw4.new)))) true (by simp)).mono ?_
    rintro e w5 ⟨rfl, rfl⟩
    go_wp2_with fail
    have hw24 : New w2 w4 := New.trans hw3 hw4.new
    have har : AnyRows w4 w1.heap.size w2.heap.size A2 ps.length c2 := by
      obtain ⟨xs, ho, hx⟩ := AnyRows.of ho2
      exact ⟨xs, ho.new hw24, fun j hj => by
        obtain ⟨B, m, d, l, h1, h2, h3⟩ := hx j hj
        exact ⟨B, m, d, l, h1, h2.new hw24, h3⟩⟩
    go_loopw [8] (fun i wr => ∃ k : Nat, i = .int .i64 k ∧ k ≤ ps.length ∧ AnyRows wr w1.heap.size w2.heap.size A2 ps.length c2 ∧ Keep (fun i => w1.heap.size ≤ i ∧ i < w2.heap.size) w4 wr) (fun i _ => ps.length - (intOf i).toNat)
    case atStart => exact ⟨0, rfl, Nat.zero_le _, har, Keep.refl _ _⟩
    case round =>
      obtain ⟨k, rfl, hk, har', hkp⟩ := hrel
      by_cases hlt : k < ps.length
      · obtain ⟨g, B, m, d, l, rfl, hcell, hob, hhi⟩ := har'.at_ hlt
        clear har
        go_wp2_with fail
        refine (spoil_any B m d w1.heap.size l wr hob).mono ?_
        rintro e w5 ⟨rfl, _, hk5, hs5⟩
        have har5 := har'.spoiled hob hk5 hs5
        have hkp5 := hkp.trans (hk5.mono (fun i hi => ⟨(hob.lt hi).1, hhi i hi⟩))
        clear har' hkp hk5 hs5 hob hcell
        go_wp2_with fail
        go_roundw
        case rel => exact ⟨k + 1, by go_num, by omega, har5, hkp5⟩
        case measure => simp [intOf]; omega
      · have hw14 : New w1 wr := Below.trans (New.trans hw2 hw24) (hkp.below (Nat.le_trans hw2.size hw24.size) (fun i hi => hi.1))
        have ho3' := (ho3.new hw4.new).keep hkp (fun i hi h => by omega)
        clear har har' hkp
        go_wp2_with fail
        refine (scan_any A1 n c1 b wr HN.out (ho1.new hw14).rb hl1.1 hl1.2 (by omega)).mono ?_
        rintro e w6 ⟨A6, c6, rfl, ho6, hw6⟩
        rw [← HPS.out] at ho6 ⊢
        rw [← HEN.out]
        go_wp2_with fail
        refine (rows_any A6 A3 ps.length c6 ps.length c3 ps ps w6 rfl rfl (by unfold maxLen; omega) ho6.rr (ho3'.rr.new hw6)).mono ?_
        rintro e w7 ⟨rfl, hw7⟩
        simp only [beq_self_eq_true]
        go_wp2_with fail
        refine (bytes_is A1 A n c1 n c b b w7 HN.out HN.out (ho1.rb.new (New.trans hw14 (New.trans hw6 hw7.new))) (hr.new (New.trans hw1 (New.trans hw14 (New.trans hw6 hw7.new)))) true (by simp)).mono ?_
        rintro e w8 ⟨rfl, rfl⟩
        go_wp2_with fail
        refine (wakes_any _).mono ?_
        rintro e w9 ⟨rfl, hw9⟩
        go_wp2_with fail
        go_ret
        exact ⟨rfl, New.trans hw1 (New.trans hw14 (New.trans hw6 (New.trans hw7.new hw9)))⟩
end Go.Proofs.Ytjdcikhbgbefcaa
