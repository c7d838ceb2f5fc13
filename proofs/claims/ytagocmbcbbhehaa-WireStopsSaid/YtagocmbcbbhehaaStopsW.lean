/- hanselaw05.WireStops: the walk. -/
import Derived.Test.YtagocmbcbbhehaaWsB
import Derived.Deep.RegionHeld3
namespace Go.Proofs.Ytagocmbcbbhehaa
set_option linter.unusedVariables false
set_option linter.unusedSimpArgs false
open Go.RowKit
theorem wp_make_full {P : Program} (w : World) {o : Oper} {a : Act} {K : Act → World → Prop} {Q : Exit → Act → World → Prop}
    (l c : Operand) (t : TypeId) (hop : o.op = Op.makeSlice t l c)
    (base : Nat) (e : TypeId) (i : TypeInfo) (z : Value) (size : Nat) (h1 : P.underlying t = some (.slice e)) (h2 : P.info? e = some i) (h3 : i.zero = some z) (h4 : i.size = size)
    (kl kc : IntKind) (L C : Int) (n : Nat) (hl : a.eval l = .int kl L) (hc : a.eval c = .int kc C) (hL : L = (n : Int)) (hC : C = (n : Int)) (b2 : i.bytes * n ≤ 281474976710656) (b3 : n ≤ maxLen) (b4 : base ≤ w.heap.size)
    (hK : ∀ w', w'.ownsRow base e size (.slice (some ⟨w.heap.size, 0, none⟩) n n) n (madeCells z.cells (n * size)).toList → w.grownBy w' none → K (a.put o.dst (.slice (some ⟨w.heap.size, 0, none⟩) n n)) w') : o.wp P a w K Q := by
  obtain ⟨w', hrun, r1, r2⟩ := run_make_full (P := P) w base t e i z size h1 h2 h3 h4 kl kc n b2 b3 b4
  subst hL
  subst hC
  unfold Oper.wp
  simp [execOp, hop, hl, hc, hrun, Result.andThen]
  exact hK w' r1 r2
theorem keep2 {W W' : World} {row : Option Nat} {B : Nat} {u v : Value} (h : W.cell? ⟨B, 0, none⟩ = some u ∧ W.cell? ⟨B, 1, none⟩ = some v) (hg : W.grownBy W' row) (hne : row ≠ some B) : W'.cell? ⟨B, 0, none⟩ = some u ∧ W'.cell? ⟨B, 1, none⟩ = some v :=
  ⟨hg.cell h.1 (fun e => hne e.symm), hg.cell h.2 (fun e => hne e.symm)⟩
theorem fin_row {W : World} {base G N : Nat} (hown : W.ownsRow base 3 1 (.slice (some ⟨G, 0, none⟩) N N) N (madeCells (Value.int .i64 0).cells (N * 1)).toList) (hN : N ≤ maxLen) : FList EInt 1 8 W.heap.size W [.slice (some ⟨G, 0, none⟩) N N] (zch [some (iv 0)] N 8) :=
  zero_list (zc := #[.int .i64 0]) hown rfl (by decide) (z_int 0 (by decide)) (hown.lt _ rfl).2 hN
theorem row_cells {W : World} {g : Nat} {l : List Value} {ty : TypeId} (h : W.heap[g]? = some (.cells l.toArray ty (0, 0))) : CellsAt W ⟨g, 0, none⟩ l := fun i v hi => by
  rw [addr_at, cell_of_row _ _ i _ _ _ h, List.getElem?_toArray]
  exact hi
theorem New.drew1 (w : World) : New w w.drew := ⟨rfl, rfl, rfl, Nat.le_refl _, fun _ _ => rfl⟩
theorem i_msg : (Try.prog.info? 71).map (fun i => (i.zero, i.size, i.bytes)) = some (some (.agg #[.int .i64 0, .int .i64 0, .int .i64 0, .int .i64 0, .int .i64 0, .int .i64 0, .bool false, .int .i64 0, .int .i64 0, .int .i64 0, .complex .f64 0 0, .int .i64 0, .int .i64 0, .int .i64 0, .int .i64 0, .slice none 0 0, .bool false, .slice none 0 0]), 18, 184) := by kernel_rfl
theorem i_slot' : (Try.prog.info? 102).map (fun i => (i.zero, i.size, i.bytes)) = some (some (.agg #[.int .i64 0, .int .i64 0, .int .i64 0]), 3, 24) := by kernel_rfl
theorem make_fun (N : Nat) (hN : N ≤ 1025) : ∃ mk : World → World, ∀ W, (Instr.makeSlice 31 (.int .i64 (N : Int)) (.int .i64 (N : Int))).run Try.prog W = .ok (.slice (some ⟨W.heap.size, 0, none⟩) N N) (mk W) ∧
    (mk W).ownsRow 0 102 3 (.slice (some ⟨W.heap.size, 0, none⟩) N N) N (madeCells #[.int .i64 0, .int .i64 0, .int .i64 0] (N * 3)).toList ∧ W.grownBy (mk W) none := by
  obtain ⟨isl, hisl, zsl0, zsl1, zsl2⟩ := info_parts i_slot'
  have h : ∀ W : World, ∃ w', (Instr.makeSlice 31 (.int .i64 (N : Int)) (.int .i64 (N : Int))).run Try.prog W = .ok (.slice (some ⟨W.heap.size, 0, none⟩) N N) w' ∧
    w'.ownsRow 0 102 3 (.slice (some ⟨W.heap.size, 0, none⟩) N N) N (madeCells #[.int .i64 0, .int .i64 0, .int .i64 0] (N * 3)).toList ∧ W.grownBy w' none := fun W =>
    run_make_full W 0 _ _ isl _ 3 Try.underlying31 hisl zsl0 zsl1 .i64 .i64 N (by rw [zsl2]; omega) (by unfold maxLen; omega) (Nat.zero_le _)
  exact ⟨fun W => (h W).choose, fun W => (h W).choose_spec⟩
macro "tk0 " i:term " , " v:term : tactic => `(tactic| (refine wpAnyH_take (i := $i) (v := $v) rfl (by kernel_rfl) (by kernel_rfl) (by kernel_rfl) (fun _ _ _ h => h) (Or.inl ⟨by rfl, by (intro w hSw; (try dsimp only at hSw); go_simp)⟩) (by assumption) ?_; (try simp only [Act.put, List.setIfInBounds_toArray, List.set_cons_zero, List.set_cons_succ])))
theorem i_span : (Try.prog.info? 98).map (fun i => (i.zero, i.size, i.bytes)) = some (some (.agg #[.int .i64 0, .int .i64 0]), 2, 16) := by kernel_rfl
theorem i_slot : (Try.prog.info? 102).map (fun i => (i.zero, i.size, i.bytes)) = some (some (.agg #[.int .i64 0, .int .i64 0, .int .i64 0]), 3, 24) := by kernel_rfl
set_option maxRecDepth 20000 in
set_option maxHeartbeats 8000000 in
theorem stops_law (y a b : Int) (w : World) (wy : (Lit.int .i64 y).wf = true) (wa : I64 a) (wb : I64 b) :
    Calls Try.prog 3 #[.int .i64 y, .agg #[.int .i64 a, .int .i64 b]] w fun e w' => e = .returned (.bool true) ∧ New w w' := by
  obtain ⟨isp, hisp, zsp0, zsp1, zsp2⟩ := info_parts i_span
  obtain ⟨isl, hisl, zsl0, zsl1, zsl2⟩ := info_parts i_slot
  obtain ⟨iin, hiin, zin0, zin1, zin2⟩ := info_parts i_int
  obtain ⟨ims, hims, zms0, zms1, zms2⟩ := info_parts i_msg
  by_cases h0 : y < 0
  · go_enter Try.func3, Try.ntmps3
    go_wp2_with fail
    go_ret
    exact ⟨rfl, Below.alloc (Below.refl _ _) (Nat.le_refl _) _⟩
  have d0 : decide (y < 0) = false := by simpa using h0
  by_cases h1 : 1 < y
  · go_enter Try.func3, Try.ntmps3
    go_wp2_with fail
    go_ret
    exact ⟨rfl, Below.alloc (Below.refl _ _) (Nat.le_refl _) _⟩
  have d1 : decide (1 < y) = false := by simpa using h1
  obtain ⟨Y, rfl⟩ : ∃ Y : Nat, y = (Y : Int) := ⟨y.toNat, by omega⟩
  have hY : Y ≤ 1 := by omega
  have s8 : IntKind.i64.wrap (8 + (Y : Int)) = ((8 + Y : Nat) : Int) := by rw [show (8 + (Y : Int)) = ((8 + Y : Nat) : Int) from by omega]; exact IntWalk.i64_in _ ⟨by omega, by omega⟩
  have s256 : IntKind.i64.wrap (256 + (Y : Int)) = ((256 + Y : Nat) : Int) := by rw [show (256 + (Y : Int)) = ((256 + Y : Nat) : Int) from by omega]; exact IntWalk.i64_in _ ⟨by omega, by omega⟩
  have s16 : IntKind.i64.wrap (16 + (Y : Int)) = ((16 + Y : Nat) : Int) := by rw [show (16 + (Y : Int)) = ((16 + Y : Nat) : Int) from by omega]; exact IntWalk.i64_in _ ⟨by omega, by omega⟩
  have s1024 : IntKind.i64.wrap (1024 + (Y : Int)) = ((1024 + Y : Nat) : Int) := by rw [show (1024 + (Y : Int)) = ((1024 + Y : Nat) : Int) from by omega]; exact IntWalk.i64_in _ ⟨by omega, by omega⟩
  obtain ⟨N16, hN16⟩ : ∃ N, N = 16 + Y := ⟨_, rfl⟩
  obtain ⟨N1024, hN1024⟩ : ∃ N, N = 1024 + Y := ⟨_, rfl⟩
  rw [← hN16] at s16
  rw [← hN1024] at s1024
  have H16 := Lib.hid hN16
  have H1024 := Lib.hid hN1024
  have b16 : N16 ≤ 17 := by omega
  have b1024 : N1024 ≤ 1025 := by omega
  clear hN16 hN1024
  obtain ⟨N8, hN8⟩ : ∃ N, N = 8 + Y := ⟨_, rfl⟩
  obtain ⟨N256, hN256⟩ : ∃ N, N = 256 + Y := ⟨_, rfl⟩
  rw [← hN8] at s8
  rw [← hN256] at s256
  have H8 := Lib.hid hN8
  have H256 := Lib.hid hN256
  have b8 : N8 ≤ 9 := by omega
  have b256 : N256 ≤ 257 := by omega
  clear hN8 hN256
  go_enter Try.func3, Try.ntmps3
  obtain ⟨w1, hw1⟩ : ∃ w1, w1 = w.alloc (.cells #[.int .i64 a, .int .i64 b] 23) := ⟨_, rfl⟩
  have hn1 : New w w1 := by rw [hw1]; exact (Below.refl _ _).alloc (Nat.le_refl _) _
  have HID : Hid (w1.heap[w.heap.size]? = some (.cells #[.int .i64 a, .int .i64 b] 23 (0, 0))) := by rw [hw1]; exact heap_alloc_new w _
  have HN1 := Lib.hid hn1
  have HW1 := Lib.hid hw1
  clear hw1 hn1
  go_wp2_with (at_make; refine wpList_make_full _ rfl _ _ _ rfl w.heap.size _ isp _ 2 Try.underlying24 hisp zsp0 zsp1 _ _ _ _ N8 rfl rfl (by omega) (by omega) (by rw [zsp2]; omega) (by unfold maxLen; omega) (by rw [World.size_alloc]; omega) ?_; rw [← HW1.out]; intro w2 hown2 hg2; refine stop ?_)
  have HN2 : Hid (New w1 w2) := (Below.refl _ _).grown hg2 (Nat.le_refl _) (by simp)
  obtain ⟨G1, hG1⟩ : ∃ G1, G1 = w1.heap.size := ⟨_, rfl⟩
  rw [← hG1] at hown2 ⊢
  have HR2 := Lib.hid hown2
  have HG1 := Lib.hid hG1
  clear hown2 hg2 hG1
  refine go ?_
  go_wp2_with (refine wpList_store_new w2 rfl 33 (.tmp 5) (.tmp 28) rfl rfl _ [.int .i64 0, .int .i64 0, .int .i64 0, .int .i64 0, .int .i64 0, .int .i64 0, .int .i64 0, .int .i64 0, .bool false, .int .i64 0, .int .i64 0, .int .i64 0, .complex .f64 0 0, .int .i64 0, .int .i64 0, .int .i64 0, .int .i64 0, .slice none 0 0, .bool false, .int .i64 0, .int .i64 0, .complex .f64 0 0, .slice (some ⟨G1, 0, none⟩) N8 N8, .slice none 0 0] rfl 24 (by kernel_rfl) rfl rfl (List.all_eq_true.1 rfl) ?_; refine stop ?_)
  obtain ⟨w3, hw3⟩ : ∃ w3, w3 = w2.alloc (.cells [.int .i64 0, .int .i64 0, .int .i64 0, .int .i64 0, .int .i64 0, .int .i64 0, .int .i64 0, .int .i64 0, .bool false, .int .i64 0, .int .i64 0, .int .i64 0, .complex .f64 0 0, .int .i64 0, .int .i64 0, .int .i64 0, .int .i64 0, .slice none 0 0, .bool false, .int .i64 0, .int .i64 0, .complex .f64 0 0, .slice (some ⟨G1, 0, none⟩) N8 N8, .slice none 0 0].toArray 33) := ⟨_, rfl⟩
  have hn3 : New w2 w3 := by rw [hw3]; exact (Below.refl _ _).alloc (Nat.le_refl _) _
  obtain ⟨P1, hP1⟩ : ∃ P1, P1 = w2.heap.size := ⟨_, rfl⟩
  have HC3 : Hid (w3.heap[P1]? = some (.cells [.int .i64 0, .int .i64 0, .int .i64 0, .int .i64 0, .int .i64 0, .int .i64 0, .int .i64 0, .int .i64 0, .bool false, .int .i64 0, .int .i64 0, .int .i64 0, .complex .f64 0 0, .int .i64 0, .int .i64 0, .int .i64 0, .int .i64 0, .slice none 0 0, .bool false, .int .i64 0, .int .i64 0, .complex .f64 0 0, .slice (some ⟨G1, 0, none⟩) N8 N8, .slice none 0 0].toArray 33 (0, 0))) := by rw [hw3, hP1]; exact heap_alloc_new w2 _
  have HN3 := Lib.hid hn3
  rw [← hw3, ← hP1]
  clear hw3 hn3 hP1
  refine go ?_
  go_wp2_with (at_make; refine wpList_make_full _ rfl _ _ _ rfl w.heap.size _ isl _ 3 Try.underlying31 hisl zsl0 zsl1 _ _ _ _ N256 rfl rfl (by omega) (by omega) (by rw [zsl2]; omega) (by unfold maxLen; omega) (Nat.le_trans HN1.out.size (Nat.le_trans HN2.out.size HN3.out.size)) ?_; intro w4 hown4 hg4; refine stop ?_)
  have HN4 : Hid (New w3 w4) := (Below.refl _ _).grown hg4 (Nat.le_refl _) (by simp)
  obtain ⟨G2, hG2⟩ : ∃ G2, G2 = w3.heap.size := ⟨_, rfl⟩
  rw [← hG2] at hown4 ⊢
  have HR4 := Lib.hid hown4
  have HG2 := Lib.hid hG2
  clear hown4 hg4 hG2
  refine go ?_
  go_wp2_with (refine wpList_store_new w4 rfl 33 (.tmp 6) (.tmp 32) rfl rfl _ [.int .i64 0, .int .i64 0, .int .i64 0, .int .i64 0, .int .i64 0, .int .i64 0, .int .i64 0, .int .i64 0, .bool false, .int .i64 0, .int .i64 0, .int .i64 0, .complex .f64 0 0, .int .i64 0, .int .i64 0, .int .i64 0, .int .i64 0, .slice none 0 0, .bool false, .int .i64 0, .int .i64 0, .complex .f64 0 0, .slice none 0 0, .slice (some ⟨G2, 0, none⟩) N256 N256] rfl 24 (by kernel_rfl) rfl rfl (List.all_eq_true.1 rfl) ?_; refine stop ?_)
  obtain ⟨w5, hw5⟩ : ∃ w5, w5 = w4.alloc (.cells [.int .i64 0, .int .i64 0, .int .i64 0, .int .i64 0, .int .i64 0, .int .i64 0, .int .i64 0, .int .i64 0, .bool false, .int .i64 0, .int .i64 0, .int .i64 0, .complex .f64 0 0, .int .i64 0, .int .i64 0, .int .i64 0, .int .i64 0, .slice none 0 0, .bool false, .int .i64 0, .int .i64 0, .complex .f64 0 0, .slice none 0 0, .slice (some ⟨G2, 0, none⟩) N256 N256].toArray 33) := ⟨_, rfl⟩
  have hn5 : New w4 w5 := by rw [hw5]; exact (Below.refl _ _).alloc (Nat.le_refl _) _
  obtain ⟨P2, hP2⟩ : ∃ P2, P2 = w4.heap.size := ⟨_, rfl⟩
  have HC5 : Hid (w5.heap[P2]? = some (.cells [.int .i64 0, .int .i64 0, .int .i64 0, .int .i64 0, .int .i64 0, .int .i64 0, .int .i64 0, .int .i64 0, .bool false, .int .i64 0, .int .i64 0, .int .i64 0, .complex .f64 0 0, .int .i64 0, .int .i64 0, .int .i64 0, .int .i64 0, .slice none 0 0, .bool false, .int .i64 0, .int .i64 0, .complex .f64 0 0, .slice none 0 0, .slice (some ⟨G2, 0, none⟩) N256 N256].toArray 33 (0, 0))) := by rw [hw5, hP2]; exact heap_alloc_new w4 _
  have HN5 := Lib.hid hn5
  rw [← hw5, ← hP2]
  clear hw5 hn5 hP2
  have HN15 := Lib.hid (New.trans HN2.out (New.trans HN3.out (New.trans HN4.out HN5.out)))
  have bi0 : w5.cell? ⟨w.heap.size, 0, none⟩ = some (.int .i64 a) := cell_of_row _ _ 0 _ _ _ ((HN15.out.block _ (Array.getElem?_eq_some_iff.1 HID.out).1).trans HID.out)
  have bi1 : w5.cell? ⟨w.heap.size, 1, none⟩ = some (.int .i64 b) := cell_of_row _ _ 1 _ _ _ ((HN15.out.block _ (Array.getElem?_eq_some_iff.1 HID.out).1).trans HID.out)
  refine go ?_
  go_wp2_with fail
  have hg0 : w.heap.size < w5.heap.size := by
    have h1 := (Array.getElem?_eq_some_iff.1 HID.out).1
    have h2 := HN15.out.size
    omega
  have SB0 : Hid (w.heap.size < w5.heap.size) := hg0
  clear hg0
  refine wp_region_held_drew (S := fun v => v.cell? ⟨w.heap.size, 0, none⟩ = some (.int .i64 a) ∧ v.cell? ⟨w.heap.size, 1, none⟩ = some (.int .i64 b)) (by kernel_rfl) ⟨bi0, bi1⟩ (fun hHeld => ?_)
  tk0 0, (.agg #[.int .i64 a, .int .i64 b])
  tk0 1, (.int .i64 (Y : Int))
  tk0 2, (.int .i64 (N8 : Int))
  refine wpAnyH_ready (rs := [3, 6]) (by kernel_rfl) (by simp) ?_
  refine AllReadyH.cons (o := _) rfl (fun K hK => ?_) (AllReadyH.cons (o := _) rfl (fun K hK => ?_) AllReadyH.nil)
  · rw [if_pos (by rfl)]
    refine wp_make_full _ _ _ _ rfl w.heap.size _ iin _ 1 Try.underlying26 hiin zin0 zin1 _ _ _ _ N8 rfl rfl rfl rfl (by rw [zin2]; omega) (by unfold maxLen; omega) (Nat.le_of_lt SB0.out) ?_
    rw [show w5.drew.heap.size = w5.heap.size from rfl]
    intro w6 hown6 hg6
    have HO6 := Lib.hid hown6
    have HG6 := Lib.hid hg6
    refine hK.out _ _ (keep2 hHeld hg6 (by simp)) (fun hHeld => ?_)
    clear hK K hown6 hg6
    (try simp only [Act.put, List.setIfInBounds_toArray, List.set_cons_zero, List.set_cons_succ])
    tk0 4, (.agg #[.int .i64 a, .int .i64 b, .int .i64 0, .complex .f64 0 0, .int .i64 0, .int .i64 0, .int .i64 0, .int .i64 0, .slice (some ⟨w5.heap.size, 0, none⟩) N8 N8, .bool false])
    tk0 5, (.agg [.int .i64 0, .int .i64 0, .int .i64 0, .int .i64 0, .int .i64 0, .int .i64 0, .int .i64 0, .int .i64 0, .bool false, .int .i64 a, .int .i64 b, .int .i64 0, .complex .f64 0 0, .int .i64 0, .int .i64 0, .int .i64 0, .int .i64 0, .slice (some ⟨w5.heap.size, 0, none⟩) N8 N8, .bool false, .int .i64 0, .int .i64 0, .complex .f64 0 0, .slice none 0 0, .slice none 0 0].toArray)
    refine wpAnyH_ready (rs := [6]) (by kernel_rfl) (by simp) ?_
    refine AllReadyH.cons (o := _) rfl (fun K hK => ?_) AllReadyH.nil
    rw [if_pos (by rfl)]
    go_simp
    refine hK.out _ _ (keep2 hHeld (World.grownBy_alloc _ _ none) (by simp)) (fun hHeld => ?_)
    clear hK K
    (try simp only [Act.put, List.setIfInBounds_toArray, List.set_cons_zero, List.set_cons_succ])
    refine wpAnyH_ready (rs := [7]) (by kernel_rfl) (by simp) ?_
    refine AllReadyH.cons (o := _) rfl (fun K hK => ?_) AllReadyH.nil
    rw [if_pos (by rfl)]
    refine wp_store_row 33 (.tmp 7) (.tmp 38) rfl w6.heap.size [.int .i64 0, .int .i64 0, .int .i64 0, .int .i64 0, .int .i64 0, .int .i64 0, .int .i64 0, .int .i64 0, .bool false, .int .i64 a, .int .i64 b, .int .i64 0, .complex .f64 0 0, .int .i64 0, .int .i64 0, .int .i64 0, .int .i64 0, .slice (some ⟨w5.heap.size, 0, none⟩) N8 N8, .bool false, .int .i64 0, .int .i64 0, .complex .f64 0 0, .slice none 0 0, .slice none 0 0].toArray rfl rfl 33 _ (heap_alloc_new w6 _) (by kernel_rfl) rfl (ones_all (List.all_eq_true.1 rfl)) ?_
    have hlt : w5.heap.size < w6.heap.size := (HO6.out.lt _ rfl).2
    have hnw6 : New w5 w6 := Below.grown (New.drew1 w5) HG6.out (Nat.le_refl _) (by simp)
    refine hK.out _ _ (keep2 hHeld (grownBy_setRow _ _ _) (by intro h; injection h with h; have := SB0.out; have h' : w5.heap.size < w6.heap.size := hlt; omega)) (fun hHeld => ?_)
    clear hK K
    obtain ⟨P3, hP3⟩ : ∃ P3, P3 = w6.heap.size := ⟨_, rfl⟩
    obtain ⟨G3, hG3⟩ : ∃ G3, G3 = w5.heap.size := ⟨_, rfl⟩
    obtain ⟨w8, hw8⟩ : ∃ w8, w8 = (w6.alloc (.cells #[.int .i64 0, .int .i64 0, .int .i64 0, .int .i64 0, .int .i64 0, .int .i64 0, .int .i64 0, .int .i64 0, .bool false, .int .i64 0, .int .i64 0, .int .i64 0, .complex .f64 0 0, .int .i64 0, .int .i64 0, .int .i64 0, .int .i64 0, .slice none 0 0, .bool false, .int .i64 0, .int .i64 0, .complex .f64 0 0, .slice none 0 0, .slice none 0 0] 33)).setRow w6.heap.size [.int .i64 0, .int .i64 0, .int .i64 0, .int .i64 0, .int .i64 0, .int .i64 0, .int .i64 0, .int .i64 0, .bool false, .int .i64 a, .int .i64 b, .int .i64 0, .complex .f64 0 0, .int .i64 0, .int .i64 0, .int .i64 0, .int .i64 0, .slice (some ⟨w5.heap.size, 0, none⟩) N8 N8, .bool false, .int .i64 0, .int .i64 0, .complex .f64 0 0, .slice none 0 0, .slice none 0 0].toArray := ⟨_, rfl⟩
    have hn8 : New w5 w8 := by
      rw [hw8]
      exact Below.grown (Below.alloc hnw6 hnw6.size _) (grownBy_setRow _ _ _) (by rw [World.size_alloc]; have := hnw6.size; omega) (by intro k hk; injection hk with hk; rw [← hk]; exact hnw6.size)
    have hown8 := (HO6.out.alloc (.cells #[.int .i64 0, .int .i64 0, .int .i64 0, .int .i64 0, .int .i64 0, .int .i64 0, .int .i64 0, .int .i64 0, .bool false, .int .i64 0, .int .i64 0, .int .i64 0, .complex .f64 0 0, .int .i64 0, .int .i64 0, .int .i64 0, .int .i64 0, .slice none 0 0, .bool false, .int .i64 0, .int .i64 0, .complex .f64 0 0, .slice none 0 0, .slice none 0 0] 33)).kept (grownBy_setRow _ w6.heap.size [.int .i64 0, .int .i64 0, .int .i64 0, .int .i64 0, .int .i64 0, .int .i64 0, .int .i64 0, .int .i64 0, .bool false, .int .i64 a, .int .i64 b, .int .i64 0, .complex .f64 0 0, .int .i64 0, .int .i64 0, .int .i64 0, .int .i64 0, .slice (some ⟨w5.heap.size, 0, none⟩) N8 N8, .bool false, .int .i64 0, .int .i64 0, .complex .f64 0 0, .slice none 0 0, .slice none 0 0].toArray) (Or.inr (by show some w5.heap.size ≠ some w6.heap.size; intro h; injection h with h; omega))
    rw [← hw8] at hown8
    have HC8 : Hid (w8.heap[P3]? = some (.cells [.int .i64 0, .int .i64 0, .int .i64 0, .int .i64 0, .int .i64 0, .int .i64 0, .int .i64 0, .int .i64 0, .bool false, .int .i64 a, .int .i64 b, .int .i64 0, .complex .f64 0 0, .int .i64 0, .int .i64 0, .int .i64 0, .int .i64 0, .slice (some ⟨w5.heap.size, 0, none⟩) N8 N8, .bool false, .int .i64 0, .int .i64 0, .complex .f64 0 0, .slice none 0 0, .slice none 0 0].toArray 33 (0, 0))) := by rw [hw8, hP3]; exact setRow_heap _ _ _ _ _ _ (heap_alloc_new w6 _)
    have HF8 := Lib.hid (fin_row hown8 (by unfold maxLen; omega))
    rw [← hG3] at HC8 HF8
    have HN8 := Lib.hid hn8
    have HS8 := Lib.hid hHeld
    (try simp only [Act.put, List.setIfInBounds_toArray, List.set_cons_zero, List.set_cons_succ])
    rw [← hw8] at HS8 ⊢
    rw [← hG3, ← hP3]
    clear hown8 hn8 hw8 hG3 hP3 hHeld hlt hnw6 HO6 HG6
    refine wpAnyH_done (by kernel_rfl) ?_ _
    (try simp only [List.getElem_toArray, List.getElem_cons_succ, List.getElem_cons_zero, Act.put, List.setIfInBounds_toArray, List.set_cons_zero, List.set_cons_succ])
    rcases (show Y = 0 ∨ Y = 1 by omega) with hy | hy
    · have dz : ¬ 0 < Y := by omega
      have hcy : code Y = 0 := by unfold code; rw [if_pos hy]
      have HCY := Lib.hid hcy
      clear hcy hy
      have HN28 := Lib.hid (New.trans HN3.out (New.trans HN4.out (New.trans HN5.out HN8.out)))
      have HN38 := Lib.hid (New.trans HN4.out (New.trans HN5.out HN8.out))
      have HC1 : Hid (w8.heap[P1]? = some (.cells [.int .i64 0, .int .i64 0, .int .i64 0, .int .i64 0, .int .i64 0, .int .i64 0, .int .i64 0, .int .i64 0, .bool false, .int .i64 0, .int .i64 0, .int .i64 0, .complex .f64 0 0, .int .i64 0, .int .i64 0, .int .i64 0, .int .i64 0, .slice none 0 0, .bool false, .int .i64 0, .int .i64 0, .complex .f64 0 0, .slice (some ⟨G1, 0, none⟩) N8 N8, .slice none 0 0].toArray 33 (0, 0))) := (HN38.out.block _ (Array.getElem?_eq_some_iff.1 HC3.out).1).trans HC3.out
      have HT1 := Lib.hid (rec1_told w8 hY H8.out (FList.move (b := w2.heap.size) (w := w2) (fun _ _ h => h) (zero_list (zc := #[.int .i64 0, .int .i64 0]) HR2.out rfl (by decide) (z_span (b := w2.heap.size) (w := w2)) (HR2.out.lt _ rfl).2 (by unfold maxLen; omega)) HN28.out HN28.out.size))
      rw [HCY.out] at HT1
      go_wp2_with (refine wpList_load_ad rfl 33 (.tmp 5) rfl ⟨P1, 0, none⟩ rfl [.int .i64 0, .int .i64 0, .int .i64 0, .int .i64 0, .int .i64 0, .int .i64 0, .int .i64 0, .int .i64 0, .bool false, .int .i64 0, .int .i64 0, .int .i64 0, .complex .f64 0 0, .int .i64 0, .int .i64 0, .int .i64 0, .int .i64 0, .slice none 0 0, .bool false, .int .i64 0, .int .i64 0, .complex .f64 0 0, .slice (some ⟨G1, 0, none⟩) N8 N8, .slice none 0 0] (row_cells HC1.out) _ Try.underlying33 rfl 24 (by kernel_rfl) rfl ?_; refine stop ?_)
      refine go ?_
      go_wp2_with fail
      refine HT1.out.mono ?_
      rintro e w9 ⟨B1, m1, e1, rfl, hn9⟩
      have HN9 := Lib.hid hn9
      clear hn9 HT1 HC1 HN28 HN38
      have HN59 := Lib.hid (New.trans HN8.out HN9.out)
      have HN49 := Lib.hid (New.trans HN5.out HN59.out)
      have HC2 : Hid (w9.heap[P2]? = some (.cells [.int .i64 0, .int .i64 0, .int .i64 0, .int .i64 0, .int .i64 0, .int .i64 0, .int .i64 0, .int .i64 0, .bool false, .int .i64 0, .int .i64 0, .int .i64 0, .complex .f64 0 0, .int .i64 0, .int .i64 0, .int .i64 0, .int .i64 0, .slice none 0 0, .bool false, .int .i64 0, .int .i64 0, .complex .f64 0 0, .slice none 0 0, .slice (some ⟨G2, 0, none⟩) N256 N256].toArray 33 (0, 0))) := (HN59.out.block _ (Array.getElem?_eq_some_iff.1 HC5.out).1).trans HC5.out
      have HT2 := Lib.hid (rec2_told w9 hY H256.out (FList.move (b := w4.heap.size) (w := w4) (fun _ _ h => h) (zero_list (zc := #[.int .i64 0, .int .i64 0, .int .i64 0]) HR4.out rfl (by decide) (z_slot (b := w4.heap.size) (w := w4)) (HR4.out.lt _ rfl).2 (by unfold maxLen; omega)) HN49.out HN49.out.size))
      rw [HCY.out] at HT2
      go_wp2_with (refine wpList_load_ad rfl 33 (.tmp 6) rfl ⟨P2, 0, none⟩ rfl [.int .i64 0, .int .i64 0, .int .i64 0, .int .i64 0, .int .i64 0, .int .i64 0, .int .i64 0, .int .i64 0, .bool false, .int .i64 0, .int .i64 0, .int .i64 0, .complex .f64 0 0, .int .i64 0, .int .i64 0, .int .i64 0, .int .i64 0, .slice none 0 0, .bool false, .int .i64 0, .int .i64 0, .complex .f64 0 0, .slice none 0 0, .slice (some ⟨G2, 0, none⟩) N256 N256] (row_cells HC2.out) _ Try.underlying33 rfl 24 (by kernel_rfl) rfl ?_; refine stop ?_)
      refine go ?_
      go_wp2_with fail
      refine HT2.out.mono ?_
      rintro e w10 ⟨B2, m2, e2, rfl, hn10⟩
      have HN10 := Lib.hid hn10
      clear hn10 HT2 HC2 HN49
      have HN810 := Lib.hid (New.trans HN9.out HN10.out)
      have HC3' : Hid (w10.heap[P3]? = some (.cells [.int .i64 0, .int .i64 0, .int .i64 0, .int .i64 0, .int .i64 0, .int .i64 0, .int .i64 0, .int .i64 0, .bool false, .int .i64 a, .int .i64 b, .int .i64 0, .complex .f64 0 0, .int .i64 0, .int .i64 0, .int .i64 0, .int .i64 0, .slice (some ⟨G3, 0, none⟩) N8 N8, .bool false, .int .i64 0, .int .i64 0, .complex .f64 0 0, .slice none 0 0, .slice none 0 0].toArray 33 (0, 0))) := (HN810.out.block _ (Array.getElem?_eq_some_iff.1 HC8.out).1).trans HC8.out
      have HT3 := Lib.hid (rec3_told w10 wa wb hY H8.out (FList.move (b := w8.heap.size) (w := w8) (fun _ _ h => h) HF8.out HN810.out HN810.out.size))
      rw [HCY.out] at HT3
      go_wp2_with (refine wpList_load_ad rfl 33 (.tmp 7) rfl ⟨P3, 0, none⟩ rfl [.int .i64 0, .int .i64 0, .int .i64 0, .int .i64 0, .int .i64 0, .int .i64 0, .int .i64 0, .int .i64 0, .bool false, .int .i64 a, .int .i64 b, .int .i64 0, .complex .f64 0 0, .int .i64 0, .int .i64 0, .int .i64 0, .int .i64 0, .slice (some ⟨G3, 0, none⟩) N8 N8, .bool false, .int .i64 0, .int .i64 0, .complex .f64 0 0, .slice none 0 0, .slice none 0 0] (row_cells HC3'.out) _ Try.underlying33 rfl 24 (by kernel_rfl) rfl ?_; refine stop ?_)
      refine go ?_
      go_wp2_with fail
      refine HT3.out.mono ?_
      rintro e w11 ⟨B3, m3, e3, rfl, hn11⟩
      have HN11 := Lib.hid hn11
      clear hn11 HT3 HC3'
      go_wp2_with (at_make; refine wpList_make_full _ rfl _ _ _ rfl 0 _ ims _ 18 Try.underlying39 hims zms0 zms1 _ _ _ _ N16 rfl rfl (by omega) (by omega) (by rw [zms2]; omega) (by unfold maxLen; omega) (Nat.zero_le _) ?_; intro w12 hown12 hg12; refine stop ?_)
      have HN12 : Hid (New w11 w12) := (Below.refl _ _).grown hg12 (Nat.le_refl _) (by simp)
      have HT4 := Lib.hid (bundle_told w12 hY H16.out (hown12.lt _ rfl).2 hown12)
      rw [HCY.out] at HT4
      clear hown12 hg12
      refine go ?_
      go_wp2_with fail
      refine HT4.out.mono ?_
      rintro e w13 ⟨B4, m4, e4, rfl, hn13⟩
      have HN13 := Lib.hid hn13
      clear hn13 HT4
      have HN513 := Lib.hid (New.trans HN59.out (New.trans HN10.out (New.trans HN11.out (New.trans HN12.out HN13.out))))
      have c0 : w13.cell? ⟨w.heap.size, 0, none⟩ = some (.int .i64 a) := (World.cell?_of_block (HN513.out.block _ SB0.out)).trans bi0
      obtain ⟨mk, hmk⟩ := make_fun N1024 (by omega)
      have hmk1 := fun W => (hmk W).1
      have HMK := Lib.hid hmk
      clear hmk
      have HS13 : Hid (w.heap.size < w13.heap.size) := Nat.lt_of_lt_of_le SB0.out HN513.out.size
      have HT5 := Lib.hid (state_told (mk w13.drew) wa hY H1024.out (zero_list (zc := #[.int .i64 0, .int .i64 0, .int .i64 0]) (HMK.out w13.drew).2.1 rfl (by decide) (z_slot (b := (mk w13.drew).heap.size) (w := mk w13.drew)) ((HMK.out w13.drew).2.1.lt _ rfl).2 (by unfold maxLen; omega)))
      rw [HCY.out] at HT5
      have c1 : (mk w13.drew).cell? ⟨w.heap.size, 0, none⟩ = some (.int .i64 a) := (HMK.out w13.drew).2.2.cell c0 (by simp)
      have hs14 : w.heap.size < (mk w13.drew).heap.size := Nat.lt_of_lt_of_le HS13.out (HMK.out w13.drew).2.2.size
      have HS14 := Lib.hid hs14
      clear hs14
      go_wp2_with fail
      go_region_held3 (fun v => v.cell? ⟨w.heap.size, 0, none⟩ = some (.int .i64 a)) ((first | exact c0 | exact c1 | exact HS15.out)) ((first
        | (go_at_call 7; refine HT5.out.mono ?_; rintro e w15 ⟨B5, m5, e5, rfl, hn15⟩; have HN15' := Lib.hid hn15; clear hn15; have HS15 : Hid (w15.cell? ⟨w.heap.size, 0, none⟩ = some (.int .i64 a)) := (World.cell?_of_block (HN15'.out.block _ HS14.out)).trans c1)))
      go_wp2_with fail
      refine (wakes5_any w15).mono ?_
      rintro e w16 ⟨rfl, hn16⟩
      have HN16 := Lib.hid hn16
      clear hn16
      go_wp2_with fail
      go_ret
      have hnm : New w13 (mk w13.drew) := Below.grown (New.drew1 w13) (HMK.out w13.drew).2.2 (Nat.le_refl _) (by simp)
      exact ⟨rfl, New.trans HN1.out (New.trans HN15.out (New.trans HN513.out (New.trans hnm (New.trans HN15'.out HN16.out))))⟩
    · have dz : 0 < Y := by omega
      have hcy : code Y = 6 := by unfold code; rw [if_neg (by omega)]
      have HCY := Lib.hid hcy
      clear hcy hy
      have HN28 := Lib.hid (New.trans HN3.out (New.trans HN4.out (New.trans HN5.out HN8.out)))
      have HN38 := Lib.hid (New.trans HN4.out (New.trans HN5.out HN8.out))
      have HC1 : Hid (w8.heap[P1]? = some (.cells [.int .i64 0, .int .i64 0, .int .i64 0, .int .i64 0, .int .i64 0, .int .i64 0, .int .i64 0, .int .i64 0, .bool false, .int .i64 0, .int .i64 0, .int .i64 0, .complex .f64 0 0, .int .i64 0, .int .i64 0, .int .i64 0, .int .i64 0, .slice none 0 0, .bool false, .int .i64 0, .int .i64 0, .complex .f64 0 0, .slice (some ⟨G1, 0, none⟩) N8 N8, .slice none 0 0].toArray 33 (0, 0))) := (HN38.out.block _ (Array.getElem?_eq_some_iff.1 HC3.out).1).trans HC3.out
      have HT1 := Lib.hid (rec1_told w8 hY H8.out (FList.move (b := w2.heap.size) (w := w2) (fun _ _ h => h) (zero_list (zc := #[.int .i64 0, .int .i64 0]) HR2.out rfl (by decide) (z_span (b := w2.heap.size) (w := w2)) (HR2.out.lt _ rfl).2 (by unfold maxLen; omega)) HN28.out HN28.out.size))
      rw [HCY.out] at HT1
      go_wp2_with (refine wpList_load_ad rfl 33 (.tmp 5) rfl ⟨P1, 0, none⟩ rfl [.int .i64 0, .int .i64 0, .int .i64 0, .int .i64 0, .int .i64 0, .int .i64 0, .int .i64 0, .int .i64 0, .bool false, .int .i64 0, .int .i64 0, .int .i64 0, .complex .f64 0 0, .int .i64 0, .int .i64 0, .int .i64 0, .int .i64 0, .slice none 0 0, .bool false, .int .i64 0, .int .i64 0, .complex .f64 0 0, .slice (some ⟨G1, 0, none⟩) N8 N8, .slice none 0 0] (row_cells HC1.out) _ Try.underlying33 rfl 24 (by kernel_rfl) rfl ?_; refine stop ?_)
      refine go ?_
      go_wp2_with fail
      refine HT1.out.mono ?_
      rintro e w9 ⟨B1, m1, e1, rfl, hn9⟩
      have HN9 := Lib.hid hn9
      clear hn9 HT1 HC1 HN28 HN38
      have HN59 := Lib.hid (New.trans HN8.out HN9.out)
      have HN49 := Lib.hid (New.trans HN5.out HN59.out)
      have HC2 : Hid (w9.heap[P2]? = some (.cells [.int .i64 0, .int .i64 0, .int .i64 0, .int .i64 0, .int .i64 0, .int .i64 0, .int .i64 0, .int .i64 0, .bool false, .int .i64 0, .int .i64 0, .int .i64 0, .complex .f64 0 0, .int .i64 0, .int .i64 0, .int .i64 0, .int .i64 0, .slice none 0 0, .bool false, .int .i64 0, .int .i64 0, .complex .f64 0 0, .slice none 0 0, .slice (some ⟨G2, 0, none⟩) N256 N256].toArray 33 (0, 0))) := (HN59.out.block _ (Array.getElem?_eq_some_iff.1 HC5.out).1).trans HC5.out
      have HT2 := Lib.hid (rec2_told w9 hY H256.out (FList.move (b := w4.heap.size) (w := w4) (fun _ _ h => h) (zero_list (zc := #[.int .i64 0, .int .i64 0, .int .i64 0]) HR4.out rfl (by decide) (z_slot (b := w4.heap.size) (w := w4)) (HR4.out.lt _ rfl).2 (by unfold maxLen; omega)) HN49.out HN49.out.size))
      rw [HCY.out] at HT2
      go_wp2_with (refine wpList_load_ad rfl 33 (.tmp 6) rfl ⟨P2, 0, none⟩ rfl [.int .i64 0, .int .i64 0, .int .i64 0, .int .i64 0, .int .i64 0, .int .i64 0, .int .i64 0, .int .i64 0, .bool false, .int .i64 0, .int .i64 0, .int .i64 0, .complex .f64 0 0, .int .i64 0, .int .i64 0, .int .i64 0, .int .i64 0, .slice none 0 0, .bool false, .int .i64 0, .int .i64 0, .complex .f64 0 0, .slice none 0 0, .slice (some ⟨G2, 0, none⟩) N256 N256] (row_cells HC2.out) _ Try.underlying33 rfl 24 (by kernel_rfl) rfl ?_; refine stop ?_)
      refine go ?_
      go_wp2_with fail
      refine HT2.out.mono ?_
      rintro e w10 ⟨B2, m2, e2, rfl, hn10⟩
      have HN10 := Lib.hid hn10
      clear hn10 HT2 HC2 HN49
      have HN810 := Lib.hid (New.trans HN9.out HN10.out)
      have HC3' : Hid (w10.heap[P3]? = some (.cells [.int .i64 0, .int .i64 0, .int .i64 0, .int .i64 0, .int .i64 0, .int .i64 0, .int .i64 0, .int .i64 0, .bool false, .int .i64 a, .int .i64 b, .int .i64 0, .complex .f64 0 0, .int .i64 0, .int .i64 0, .int .i64 0, .int .i64 0, .slice (some ⟨G3, 0, none⟩) N8 N8, .bool false, .int .i64 0, .int .i64 0, .complex .f64 0 0, .slice none 0 0, .slice none 0 0].toArray 33 (0, 0))) := (HN810.out.block _ (Array.getElem?_eq_some_iff.1 HC8.out).1).trans HC8.out
      have HT3 := Lib.hid (rec3_told w10 wa wb hY H8.out (FList.move (b := w8.heap.size) (w := w8) (fun _ _ h => h) HF8.out HN810.out HN810.out.size))
      rw [HCY.out] at HT3
      go_wp2_with (refine wpList_load_ad rfl 33 (.tmp 7) rfl ⟨P3, 0, none⟩ rfl [.int .i64 0, .int .i64 0, .int .i64 0, .int .i64 0, .int .i64 0, .int .i64 0, .int .i64 0, .int .i64 0, .bool false, .int .i64 a, .int .i64 b, .int .i64 0, .complex .f64 0 0, .int .i64 0, .int .i64 0, .int .i64 0, .int .i64 0, .slice (some ⟨G3, 0, none⟩) N8 N8, .bool false, .int .i64 0, .int .i64 0, .complex .f64 0 0, .slice none 0 0, .slice none 0 0] (row_cells HC3'.out) _ Try.underlying33 rfl 24 (by kernel_rfl) rfl ?_; refine stop ?_)
      refine go ?_
      go_wp2_with fail
      refine HT3.out.mono ?_
      rintro e w11 ⟨B3, m3, e3, rfl, hn11⟩
      have HN11 := Lib.hid hn11
      clear hn11 HT3 HC3'
      go_wp2_with (at_make; refine wpList_make_full _ rfl _ _ _ rfl 0 _ ims _ 18 Try.underlying39 hims zms0 zms1 _ _ _ _ N16 rfl rfl (by omega) (by omega) (by rw [zms2]; omega) (by unfold maxLen; omega) (Nat.zero_le _) ?_; intro w12 hown12 hg12; refine stop ?_)
      have HN12 : Hid (New w11 w12) := (Below.refl _ _).grown hg12 (Nat.le_refl _) (by simp)
      have HT4 := Lib.hid (bundle_told w12 hY H16.out (hown12.lt _ rfl).2 hown12)
      rw [HCY.out] at HT4
      clear hown12 hg12
      refine go ?_
      go_wp2_with fail
      refine HT4.out.mono ?_
      rintro e w13 ⟨B4, m4, e4, rfl, hn13⟩
      have HN13 := Lib.hid hn13
      clear hn13 HT4
      have HN513 := Lib.hid (New.trans HN59.out (New.trans HN10.out (New.trans HN11.out (New.trans HN12.out HN13.out))))
      have c0 : w13.cell? ⟨w.heap.size, 0, none⟩ = some (.int .i64 a) := (World.cell?_of_block (HN513.out.block _ SB0.out)).trans bi0
      obtain ⟨mk, hmk⟩ := make_fun N1024 (by omega)
      have hmk1 := fun W => (hmk W).1
      have HMK := Lib.hid hmk
      clear hmk
      have HS13 : Hid (w.heap.size < w13.heap.size) := Nat.lt_of_lt_of_le SB0.out HN513.out.size
      have HT5 := Lib.hid (state_told (mk w13.drew) wa hY H1024.out (zero_list (zc := #[.int .i64 0, .int .i64 0, .int .i64 0]) (HMK.out w13.drew).2.1 rfl (by decide) (z_slot (b := (mk w13.drew).heap.size) (w := mk w13.drew)) ((HMK.out w13.drew).2.1.lt _ rfl).2 (by unfold maxLen; omega)))
      rw [HCY.out] at HT5
      have c1 : (mk w13.drew).cell? ⟨w.heap.size, 0, none⟩ = some (.int .i64 a) := (HMK.out w13.drew).2.2.cell c0 (by simp)
      have hs14 : w.heap.size < (mk w13.drew).heap.size := Nat.lt_of_lt_of_le HS13.out (HMK.out w13.drew).2.2.size
      have HS14 := Lib.hid hs14
      clear hs14
      go_wp2_with fail
      go_region_held3 (fun v => v.cell? ⟨w.heap.size, 0, none⟩ = some (.int .i64 a)) ((first | exact c0 | exact c1 | exact HS15.out)) ((first
        | (go_at_call 7; refine HT5.out.mono ?_; rintro e w15 ⟨B5, m5, e5, rfl, hn15⟩; have HN15' := Lib.hid hn15; clear hn15; have HS15 : Hid (w15.cell? ⟨w.heap.size, 0, none⟩ = some (.int .i64 a)) := (World.cell?_of_block (HN15'.out.block _ HS14.out)).trans c1)))
      go_wp2_with fail
      refine (wakes5_any w15).mono ?_
      rintro e w16 ⟨rfl, hn16⟩
      have HN16 := Lib.hid hn16
      clear hn16
      go_wp2_with fail
      go_ret
      have hnm : New w13 (mk w13.drew) := Below.grown (New.drew1 w13) (HMK.out w13.drew).2.2 (Nat.le_refl _) (by simp)
      exact ⟨rfl, New.trans HN1.out (New.trans HN15.out (New.trans HN513.out (New.trans hnm (New.trans HN15'.out HN16.out))))⟩
  · rw [if_pos (by rfl)]
    go_simp
    refine hK.out _ _ (keep2 hHeld (World.grownBy_alloc _ _ none) (by simp)) (fun hHeld => ?_)
    clear hK K
    (try simp only [Act.put, List.setIfInBounds_toArray, List.set_cons_zero, List.set_cons_succ])
    obtain ⟨w6, hw6⟩ : ∃ w6, w6 = (w5.alloc (.cells #[.int .i64 0, .int .i64 0, .int .i64 0, .int .i64 0, .int .i64 0, .int .i64 0, .int .i64 0, .int .i64 0, .bool false, .int .i64 0, .int .i64 0, .int .i64 0, .complex .f64 0 0, .int .i64 0, .int .i64 0, .int .i64 0, .int .i64 0, .slice none 0 0, .bool false, .int .i64 0, .int .i64 0, .complex .f64 0 0, .slice none 0 0, .slice none 0 0] 33)).drew := ⟨_, rfl⟩
    have hz6 : w6.heap.size = w5.heap.size + 1 := by rw [hw6]; exact World.size_alloc _ _
    have hr6 : w6.heap[w5.heap.size]? = some (.cells #[.int .i64 0, .int .i64 0, .int .i64 0, .int .i64 0, .int .i64 0, .int .i64 0, .int .i64 0, .int .i64 0, .bool false, .int .i64 0, .int .i64 0, .int .i64 0, .complex .f64 0 0, .int .i64 0, .int .i64 0, .int .i64 0, .int .i64 0, .slice none 0 0, .bool false, .int .i64 0, .int .i64 0, .complex .f64 0 0, .slice none 0 0, .slice none 0 0] 33 (0, 0)) := by rw [hw6]; exact heap_alloc_new w5 _
    have hnw6 : New w5 w6 := by rw [hw6]; exact New.trans (Below.alloc (Below.refl _ _) (Nat.le_refl _) _) (New.drew1 _)
    have HZ6 := Lib.hid hz6
    have HR6 := Lib.hid hr6
    have HN6 := Lib.hid hnw6
    rw [← hw6] at hHeld ⊢
    clear hw6 hz6 hr6 hnw6
    refine wpAnyH_ready (rs := [3]) (by kernel_rfl) (by simp) ?_
    refine AllReadyH.cons (o := _) rfl (fun K hK => ?_) AllReadyH.nil
    rw [if_pos (by rfl)]
    refine wp_make_full _ _ _ _ rfl w.heap.size _ iin _ 1 Try.underlying26 hiin zin0 zin1 _ _ _ _ N8 rfl rfl rfl rfl (by rw [zin2]; omega) (by unfold maxLen; omega) (Nat.le_of_lt (Nat.lt_of_lt_of_le SB0.out HN6.out.size)) ?_
    intro w7 hown7 hg7
    have HO7 := Lib.hid hown7
    have HG7 := Lib.hid hg7
    refine hK.out _ _ (keep2 hHeld hg7 (by simp)) (fun hHeld => ?_)
    clear hK K hown7 hg7
    (try simp only [Act.put, List.setIfInBounds_toArray, List.set_cons_zero, List.set_cons_succ])
    tk0 4, (.agg #[.int .i64 a, .int .i64 b, .int .i64 0, .complex .f64 0 0, .int .i64 0, .int .i64 0, .int .i64 0, .int .i64 0, .slice (some ⟨w6.heap.size, 0, none⟩) N8 N8, .bool false])
    tk0 5, (.agg [.int .i64 0, .int .i64 0, .int .i64 0, .int .i64 0, .int .i64 0, .int .i64 0, .int .i64 0, .int .i64 0, .bool false, .int .i64 a, .int .i64 b, .int .i64 0, .complex .f64 0 0, .int .i64 0, .int .i64 0, .int .i64 0, .int .i64 0, .slice (some ⟨w6.heap.size, 0, none⟩) N8 N8, .bool false, .int .i64 0, .int .i64 0, .complex .f64 0 0, .slice none 0 0, .slice none 0 0].toArray)
    refine wpAnyH_ready (rs := [7]) (by kernel_rfl) (by simp) ?_
    refine AllReadyH.cons (o := _) rfl (fun K hK => ?_) AllReadyH.nil
    rw [if_pos (by rfl)]
    have hr7 : w7.heap[w5.heap.size]? = some (.cells #[.int .i64 0, .int .i64 0, .int .i64 0, .int .i64 0, .int .i64 0, .int .i64 0, .int .i64 0, .int .i64 0, .bool false, .int .i64 0, .int .i64 0, .int .i64 0, .complex .f64 0 0, .int .i64 0, .int .i64 0, .int .i64 0, .int .i64 0, .slice none 0 0, .bool false, .int .i64 0, .int .i64 0, .complex .f64 0 0, .slice none 0 0, .slice none 0 0] 33 (0, 0)) := (HG7.out.block _ (by have := HZ6.out; omega) (by simp)).trans HR6.out
    refine wp_store_row 33 (.tmp 7) (.tmp 38) rfl w5.heap.size [.int .i64 0, .int .i64 0, .int .i64 0, .int .i64 0, .int .i64 0, .int .i64 0, .int .i64 0, .int .i64 0, .bool false, .int .i64 a, .int .i64 b, .int .i64 0, .complex .f64 0 0, .int .i64 0, .int .i64 0, .int .i64 0, .int .i64 0, .slice (some ⟨w6.heap.size, 0, none⟩) N8 N8, .bool false, .int .i64 0, .int .i64 0, .complex .f64 0 0, .slice none 0 0, .slice none 0 0].toArray rfl rfl 33 _ hr7 (by kernel_rfl) rfl (ones_all (List.all_eq_true.1 rfl)) ?_
    have hnw7 : New w5 w7 := Below.grown HN6.out HG7.out HN6.out.size (by simp)
    refine hK.out _ _ (keep2 hHeld (grownBy_setRow _ _ _) (by intro h; injection h with h; have := SB0.out; have h' : w5.heap.size = w.heap.size := h; omega)) (fun hHeld => ?_)
    clear hK K
    obtain ⟨P3, hP3⟩ : ∃ P3, P3 = w5.heap.size := ⟨_, rfl⟩
    obtain ⟨G3, hG3⟩ : ∃ G3, G3 = w6.heap.size := ⟨_, rfl⟩
    obtain ⟨w8, hw8⟩ : ∃ w8, w8 = w7.setRow w5.heap.size [.int .i64 0, .int .i64 0, .int .i64 0, .int .i64 0, .int .i64 0, .int .i64 0, .int .i64 0, .int .i64 0, .bool false, .int .i64 a, .int .i64 b, .int .i64 0, .complex .f64 0 0, .int .i64 0, .int .i64 0, .int .i64 0, .int .i64 0, .slice (some ⟨w6.heap.size, 0, none⟩) N8 N8, .bool false, .int .i64 0, .int .i64 0, .complex .f64 0 0, .slice none 0 0, .slice none 0 0].toArray := ⟨_, rfl⟩
    have hn8 : New w5 w8 := by
      rw [hw8]
      exact Below.grown hnw7 (grownBy_setRow _ _ _) hnw7.size (by intro k hk; injection hk with hk; rw [← hk]; exact Nat.le_refl _)
    have hown8 := HO7.out.kept (grownBy_setRow _ w5.heap.size [.int .i64 0, .int .i64 0, .int .i64 0, .int .i64 0, .int .i64 0, .int .i64 0, .int .i64 0, .int .i64 0, .bool false, .int .i64 a, .int .i64 b, .int .i64 0, .complex .f64 0 0, .int .i64 0, .int .i64 0, .int .i64 0, .int .i64 0, .slice (some ⟨w6.heap.size, 0, none⟩) N8 N8, .bool false, .int .i64 0, .int .i64 0, .complex .f64 0 0, .slice none 0 0, .slice none 0 0].toArray) (Or.inr (by show some w6.heap.size ≠ some w5.heap.size; intro h; injection h with h; have := HZ6.out; omega))
    rw [← hw8] at hown8
    have HC8 : Hid (w8.heap[P3]? = some (.cells [.int .i64 0, .int .i64 0, .int .i64 0, .int .i64 0, .int .i64 0, .int .i64 0, .int .i64 0, .int .i64 0, .bool false, .int .i64 a, .int .i64 b, .int .i64 0, .complex .f64 0 0, .int .i64 0, .int .i64 0, .int .i64 0, .int .i64 0, .slice (some ⟨w6.heap.size, 0, none⟩) N8 N8, .bool false, .int .i64 0, .int .i64 0, .complex .f64 0 0, .slice none 0 0, .slice none 0 0].toArray 33 (0, 0))) := by rw [hw8, hP3]; exact setRow_heap _ _ _ _ _ _ hr7
    have HF8 := Lib.hid (fin_row hown8 (by unfold maxLen; omega))
    rw [← hG3] at HC8 HF8
    have HN8 := Lib.hid hn8
    have HS8 := Lib.hid hHeld
    (try simp only [Act.put, List.setIfInBounds_toArray, List.set_cons_zero, List.set_cons_succ])
    rw [← hw8] at HS8 ⊢
    rw [← hG3, ← hP3]
    clear hown8 hn8 hw8 hG3 hP3 hHeld hnw7 HO7 HG7 HR6 HZ6 hr7
    refine wpAnyH_done (by kernel_rfl) ?_ _
    (try simp only [List.getElem_toArray, List.getElem_cons_succ, List.getElem_cons_zero, Act.put, List.setIfInBounds_toArray, List.set_cons_zero, List.set_cons_succ])
    rcases (show Y = 0 ∨ Y = 1 by omega) with hy | hy
    · have dz : ¬ 0 < Y := by omega
      have hcy : code Y = 0 := by unfold code; rw [if_pos hy]
      have HCY := Lib.hid hcy
      clear hcy hy
      have HN28 := Lib.hid (New.trans HN3.out (New.trans HN4.out (New.trans HN5.out HN8.out)))
      have HN38 := Lib.hid (New.trans HN4.out (New.trans HN5.out HN8.out))
      have HC1 : Hid (w8.heap[P1]? = some (.cells [.int .i64 0, .int .i64 0, .int .i64 0, .int .i64 0, .int .i64 0, .int .i64 0, .int .i64 0, .int .i64 0, .bool false, .int .i64 0, .int .i64 0, .int .i64 0, .complex .f64 0 0, .int .i64 0, .int .i64 0, .int .i64 0, .int .i64 0, .slice none 0 0, .bool false, .int .i64 0, .int .i64 0, .complex .f64 0 0, .slice (some ⟨G1, 0, none⟩) N8 N8, .slice none 0 0].toArray 33 (0, 0))) := (HN38.out.block _ (Array.getElem?_eq_some_iff.1 HC3.out).1).trans HC3.out
      have HT1 := Lib.hid (rec1_told w8 hY H8.out (FList.move (b := w2.heap.size) (w := w2) (fun _ _ h => h) (zero_list (zc := #[.int .i64 0, .int .i64 0]) HR2.out rfl (by decide) (z_span (b := w2.heap.size) (w := w2)) (HR2.out.lt _ rfl).2 (by unfold maxLen; omega)) HN28.out HN28.out.size))
      rw [HCY.out] at HT1
      go_wp2_with (refine wpList_load_ad rfl 33 (.tmp 5) rfl ⟨P1, 0, none⟩ rfl [.int .i64 0, .int .i64 0, .int .i64 0, .int .i64 0, .int .i64 0, .int .i64 0, .int .i64 0, .int .i64 0, .bool false, .int .i64 0, .int .i64 0, .int .i64 0, .complex .f64 0 0, .int .i64 0, .int .i64 0, .int .i64 0, .int .i64 0, .slice none 0 0, .bool false, .int .i64 0, .int .i64 0, .complex .f64 0 0, .slice (some ⟨G1, 0, none⟩) N8 N8, .slice none 0 0] (row_cells HC1.out) _ Try.underlying33 rfl 24 (by kernel_rfl) rfl ?_; refine stop ?_)
      refine go ?_
      go_wp2_with fail
      refine HT1.out.mono ?_
      rintro e w9 ⟨B1, m1, e1, rfl, hn9⟩
      have HN9 := Lib.hid hn9
      clear hn9 HT1 HC1 HN28 HN38
      have HN59 := Lib.hid (New.trans HN8.out HN9.out)
      have HN49 := Lib.hid (New.trans HN5.out HN59.out)
      have HC2 : Hid (w9.heap[P2]? = some (.cells [.int .i64 0, .int .i64 0, .int .i64 0, .int .i64 0, .int .i64 0, .int .i64 0, .int .i64 0, .int .i64 0, .bool false, .int .i64 0, .int .i64 0, .int .i64 0, .complex .f64 0 0, .int .i64 0, .int .i64 0, .int .i64 0, .int .i64 0, .slice none 0 0, .bool false, .int .i64 0, .int .i64 0, .complex .f64 0 0, .slice none 0 0, .slice (some ⟨G2, 0, none⟩) N256 N256].toArray 33 (0, 0))) := (HN59.out.block _ (Array.getElem?_eq_some_iff.1 HC5.out).1).trans HC5.out
      have HT2 := Lib.hid (rec2_told w9 hY H256.out (FList.move (b := w4.heap.size) (w := w4) (fun _ _ h => h) (zero_list (zc := #[.int .i64 0, .int .i64 0, .int .i64 0]) HR4.out rfl (by decide) (z_slot (b := w4.heap.size) (w := w4)) (HR4.out.lt _ rfl).2 (by unfold maxLen; omega)) HN49.out HN49.out.size))
      rw [HCY.out] at HT2
      go_wp2_with (refine wpList_load_ad rfl 33 (.tmp 6) rfl ⟨P2, 0, none⟩ rfl [.int .i64 0, .int .i64 0, .int .i64 0, .int .i64 0, .int .i64 0, .int .i64 0, .int .i64 0, .int .i64 0, .bool false, .int .i64 0, .int .i64 0, .int .i64 0, .complex .f64 0 0, .int .i64 0, .int .i64 0, .int .i64 0, .int .i64 0, .slice none 0 0, .bool false, .int .i64 0, .int .i64 0, .complex .f64 0 0, .slice none 0 0, .slice (some ⟨G2, 0, none⟩) N256 N256] (row_cells HC2.out) _ Try.underlying33 rfl 24 (by kernel_rfl) rfl ?_; refine stop ?_)
      refine go ?_
      go_wp2_with fail
      refine HT2.out.mono ?_
      rintro e w10 ⟨B2, m2, e2, rfl, hn10⟩
      have HN10 := Lib.hid hn10
      clear hn10 HT2 HC2 HN49
      have HN810 := Lib.hid (New.trans HN9.out HN10.out)
      have HC3' : Hid (w10.heap[P3]? = some (.cells [.int .i64 0, .int .i64 0, .int .i64 0, .int .i64 0, .int .i64 0, .int .i64 0, .int .i64 0, .int .i64 0, .bool false, .int .i64 a, .int .i64 b, .int .i64 0, .complex .f64 0 0, .int .i64 0, .int .i64 0, .int .i64 0, .int .i64 0, .slice (some ⟨G3, 0, none⟩) N8 N8, .bool false, .int .i64 0, .int .i64 0, .complex .f64 0 0, .slice none 0 0, .slice none 0 0].toArray 33 (0, 0))) := (HN810.out.block _ (Array.getElem?_eq_some_iff.1 HC8.out).1).trans HC8.out
      have HT3 := Lib.hid (rec3_told w10 wa wb hY H8.out (FList.move (b := w8.heap.size) (w := w8) (fun _ _ h => h) HF8.out HN810.out HN810.out.size))
      rw [HCY.out] at HT3
      go_wp2_with (refine wpList_load_ad rfl 33 (.tmp 7) rfl ⟨P3, 0, none⟩ rfl [.int .i64 0, .int .i64 0, .int .i64 0, .int .i64 0, .int .i64 0, .int .i64 0, .int .i64 0, .int .i64 0, .bool false, .int .i64 a, .int .i64 b, .int .i64 0, .complex .f64 0 0, .int .i64 0, .int .i64 0, .int .i64 0, .int .i64 0, .slice (some ⟨G3, 0, none⟩) N8 N8, .bool false, .int .i64 0, .int .i64 0, .complex .f64 0 0, .slice none 0 0, .slice none 0 0] (row_cells HC3'.out) _ Try.underlying33 rfl 24 (by kernel_rfl) rfl ?_; refine stop ?_)
      refine go ?_
      go_wp2_with fail
      refine HT3.out.mono ?_
      rintro e w11 ⟨B3, m3, e3, rfl, hn11⟩
      have HN11 := Lib.hid hn11
      clear hn11 HT3 HC3'
      go_wp2_with (at_make; refine wpList_make_full _ rfl _ _ _ rfl 0 _ ims _ 18 Try.underlying39 hims zms0 zms1 _ _ _ _ N16 rfl rfl (by omega) (by omega) (by rw [zms2]; omega) (by unfold maxLen; omega) (Nat.zero_le _) ?_; intro w12 hown12 hg12; refine stop ?_)
      have HN12 : Hid (New w11 w12) := (Below.refl _ _).grown hg12 (Nat.le_refl _) (by simp)
      have HT4 := Lib.hid (bundle_told w12 hY H16.out (hown12.lt _ rfl).2 hown12)
      rw [HCY.out] at HT4
      clear hown12 hg12
      refine go ?_
      go_wp2_with fail
      refine HT4.out.mono ?_
      rintro e w13 ⟨B4, m4, e4, rfl, hn13⟩
      have HN13 := Lib.hid hn13
      clear hn13 HT4
      have HN513 := Lib.hid (New.trans HN59.out (New.trans HN10.out (New.trans HN11.out (New.trans HN12.out HN13.out))))
      have c0 : w13.cell? ⟨w.heap.size, 0, none⟩ = some (.int .i64 a) := (World.cell?_of_block (HN513.out.block _ SB0.out)).trans bi0
      obtain ⟨mk, hmk⟩ := make_fun N1024 (by omega)
      have hmk1 := fun W => (hmk W).1
      have HMK := Lib.hid hmk
      clear hmk
      have HS13 : Hid (w.heap.size < w13.heap.size) := Nat.lt_of_lt_of_le SB0.out HN513.out.size
      have HT5 := Lib.hid (state_told (mk w13.drew) wa hY H1024.out (zero_list (zc := #[.int .i64 0, .int .i64 0, .int .i64 0]) (HMK.out w13.drew).2.1 rfl (by decide) (z_slot (b := (mk w13.drew).heap.size) (w := mk w13.drew)) ((HMK.out w13.drew).2.1.lt _ rfl).2 (by unfold maxLen; omega)))
      rw [HCY.out] at HT5
      have c1 : (mk w13.drew).cell? ⟨w.heap.size, 0, none⟩ = some (.int .i64 a) := (HMK.out w13.drew).2.2.cell c0 (by simp)
      have hs14 : w.heap.size < (mk w13.drew).heap.size := Nat.lt_of_lt_of_le HS13.out (HMK.out w13.drew).2.2.size
      have HS14 := Lib.hid hs14
      clear hs14
      go_wp2_with fail
      go_region_held3 (fun v => v.cell? ⟨w.heap.size, 0, none⟩ = some (.int .i64 a)) ((first | exact c0 | exact c1 | exact HS15.out)) ((first
        | (go_at_call 7; refine HT5.out.mono ?_; rintro e w15 ⟨B5, m5, e5, rfl, hn15⟩; have HN15' := Lib.hid hn15; clear hn15; have HS15 : Hid (w15.cell? ⟨w.heap.size, 0, none⟩ = some (.int .i64 a)) := (World.cell?_of_block (HN15'.out.block _ HS14.out)).trans c1)))
      go_wp2_with fail
      refine (wakes5_any w15).mono ?_
      rintro e w16 ⟨rfl, hn16⟩
      have HN16 := Lib.hid hn16
      clear hn16
      go_wp2_with fail
      go_ret
      have hnm : New w13 (mk w13.drew) := Below.grown (New.drew1 w13) (HMK.out w13.drew).2.2 (Nat.le_refl _) (by simp)
      exact ⟨rfl, New.trans HN1.out (New.trans HN15.out (New.trans HN513.out (New.trans hnm (New.trans HN15'.out HN16.out))))⟩
    · have dz : 0 < Y := by omega
      have hcy : code Y = 6 := by unfold code; rw [if_neg (by omega)]
      have HCY := Lib.hid hcy
      clear hcy hy
      have HN28 := Lib.hid (New.trans HN3.out (New.trans HN4.out (New.trans HN5.out HN8.out)))
      have HN38 := Lib.hid (New.trans HN4.out (New.trans HN5.out HN8.out))
      have HC1 : Hid (w8.heap[P1]? = some (.cells [.int .i64 0, .int .i64 0, .int .i64 0, .int .i64 0, .int .i64 0, .int .i64 0, .int .i64 0, .int .i64 0, .bool false, .int .i64 0, .int .i64 0, .int .i64 0, .complex .f64 0 0, .int .i64 0, .int .i64 0, .int .i64 0, .int .i64 0, .slice none 0 0, .bool false, .int .i64 0, .int .i64 0, .complex .f64 0 0, .slice (some ⟨G1, 0, none⟩) N8 N8, .slice none 0 0].toArray 33 (0, 0))) := (HN38.out.block _ (Array.getElem?_eq_some_iff.1 HC3.out).1).trans HC3.out
      have HT1 := Lib.hid (rec1_told w8 hY H8.out (FList.move (b := w2.heap.size) (w := w2) (fun _ _ h => h) (zero_list (zc := #[.int .i64 0, .int .i64 0]) HR2.out rfl (by decide) (z_span (b := w2.heap.size) (w := w2)) (HR2.out.lt _ rfl).2 (by unfold maxLen; omega)) HN28.out HN28.out.size))
      rw [HCY.out] at HT1
      go_wp2_with (refine wpList_load_ad rfl 33 (.tmp 5) rfl ⟨P1, 0, none⟩ rfl [.int .i64 0, .int .i64 0, .int .i64 0, .int .i64 0, .int .i64 0, .int .i64 0, .int .i64 0, .int .i64 0, .bool false, .int .i64 0, .int .i64 0, .int .i64 0, .complex .f64 0 0, .int .i64 0, .int .i64 0, .int .i64 0, .int .i64 0, .slice none 0 0, .bool false, .int .i64 0, .int .i64 0, .complex .f64 0 0, .slice (some ⟨G1, 0, none⟩) N8 N8, .slice none 0 0] (row_cells HC1.out) _ Try.underlying33 rfl 24 (by kernel_rfl) rfl ?_; refine stop ?_)
      refine go ?_
      go_wp2_with fail
      refine HT1.out.mono ?_
      rintro e w9 ⟨B1, m1, e1, rfl, hn9⟩
      have HN9 := Lib.hid hn9
      clear hn9 HT1 HC1 HN28 HN38
      have HN59 := Lib.hid (New.trans HN8.out HN9.out)
      have HN49 := Lib.hid (New.trans HN5.out HN59.out)
      have HC2 : Hid (w9.heap[P2]? = some (.cells [.int .i64 0, .int .i64 0, .int .i64 0, .int .i64 0, .int .i64 0, .int .i64 0, .int .i64 0, .int .i64 0, .bool false, .int .i64 0, .int .i64 0, .int .i64 0, .complex .f64 0 0, .int .i64 0, .int .i64 0, .int .i64 0, .int .i64 0, .slice none 0 0, .bool false, .int .i64 0, .int .i64 0, .complex .f64 0 0, .slice none 0 0, .slice (some ⟨G2, 0, none⟩) N256 N256].toArray 33 (0, 0))) := (HN59.out.block _ (Array.getElem?_eq_some_iff.1 HC5.out).1).trans HC5.out
      have HT2 := Lib.hid (rec2_told w9 hY H256.out (FList.move (b := w4.heap.size) (w := w4) (fun _ _ h => h) (zero_list (zc := #[.int .i64 0, .int .i64 0, .int .i64 0]) HR4.out rfl (by decide) (z_slot (b := w4.heap.size) (w := w4)) (HR4.out.lt _ rfl).2 (by unfold maxLen; omega)) HN49.out HN49.out.size))
      rw [HCY.out] at HT2
      go_wp2_with (refine wpList_load_ad rfl 33 (.tmp 6) rfl ⟨P2, 0, none⟩ rfl [.int .i64 0, .int .i64 0, .int .i64 0, .int .i64 0, .int .i64 0, .int .i64 0, .int .i64 0, .int .i64 0, .bool false, .int .i64 0, .int .i64 0, .int .i64 0, .complex .f64 0 0, .int .i64 0, .int .i64 0, .int .i64 0, .int .i64 0, .slice none 0 0, .bool false, .int .i64 0, .int .i64 0, .complex .f64 0 0, .slice none 0 0, .slice (some ⟨G2, 0, none⟩) N256 N256] (row_cells HC2.out) _ Try.underlying33 rfl 24 (by kernel_rfl) rfl ?_; refine stop ?_)
      refine go ?_
      go_wp2_with fail
      refine HT2.out.mono ?_
      rintro e w10 ⟨B2, m2, e2, rfl, hn10⟩
      have HN10 := Lib.hid hn10
      clear hn10 HT2 HC2 HN49
      have HN810 := Lib.hid (New.trans HN9.out HN10.out)
      have HC3' : Hid (w10.heap[P3]? = some (.cells [.int .i64 0, .int .i64 0, .int .i64 0, .int .i64 0, .int .i64 0, .int .i64 0, .int .i64 0, .int .i64 0, .bool false, .int .i64 a, .int .i64 b, .int .i64 0, .complex .f64 0 0, .int .i64 0, .int .i64 0, .int .i64 0, .int .i64 0, .slice (some ⟨G3, 0, none⟩) N8 N8, .bool false, .int .i64 0, .int .i64 0, .complex .f64 0 0, .slice none 0 0, .slice none 0 0].toArray 33 (0, 0))) := (HN810.out.block _ (Array.getElem?_eq_some_iff.1 HC8.out).1).trans HC8.out
      have HT3 := Lib.hid (rec3_told w10 wa wb hY H8.out (FList.move (b := w8.heap.size) (w := w8) (fun _ _ h => h) HF8.out HN810.out HN810.out.size))
      rw [HCY.out] at HT3
      go_wp2_with (refine wpList_load_ad rfl 33 (.tmp 7) rfl ⟨P3, 0, none⟩ rfl [.int .i64 0, .int .i64 0, .int .i64 0, .int .i64 0, .int .i64 0, .int .i64 0, .int .i64 0, .int .i64 0, .bool false, .int .i64 a, .int .i64 b, .int .i64 0, .complex .f64 0 0, .int .i64 0, .int .i64 0, .int .i64 0, .int .i64 0, .slice (some ⟨G3, 0, none⟩) N8 N8, .bool false, .int .i64 0, .int .i64 0, .complex .f64 0 0, .slice none 0 0, .slice none 0 0] (row_cells HC3'.out) _ Try.underlying33 rfl 24 (by kernel_rfl) rfl ?_; refine stop ?_)
      refine go ?_
      go_wp2_with fail
      refine HT3.out.mono ?_
      rintro e w11 ⟨B3, m3, e3, rfl, hn11⟩
      have HN11 := Lib.hid hn11
      clear hn11 HT3 HC3'
      go_wp2_with (at_make; refine wpList_make_full _ rfl _ _ _ rfl 0 _ ims _ 18 Try.underlying39 hims zms0 zms1 _ _ _ _ N16 rfl rfl (by omega) (by omega) (by rw [zms2]; omega) (by unfold maxLen; omega) (Nat.zero_le _) ?_; intro w12 hown12 hg12; refine stop ?_)
      have HN12 : Hid (New w11 w12) := (Below.refl _ _).grown hg12 (Nat.le_refl _) (by simp)
      have HT4 := Lib.hid (bundle_told w12 hY H16.out (hown12.lt _ rfl).2 hown12)
      rw [HCY.out] at HT4
      clear hown12 hg12
      refine go ?_
      go_wp2_with fail
      refine HT4.out.mono ?_
      rintro e w13 ⟨B4, m4, e4, rfl, hn13⟩
      have HN13 := Lib.hid hn13
      clear hn13 HT4
      have HN513 := Lib.hid (New.trans HN59.out (New.trans HN10.out (New.trans HN11.out (New.trans HN12.out HN13.out))))
      have c0 : w13.cell? ⟨w.heap.size, 0, none⟩ = some (.int .i64 a) := (World.cell?_of_block (HN513.out.block _ SB0.out)).trans bi0
      obtain ⟨mk, hmk⟩ := make_fun N1024 (by omega)
      have hmk1 := fun W => (hmk W).1
      have HMK := Lib.hid hmk
      clear hmk
      have HS13 : Hid (w.heap.size < w13.heap.size) := Nat.lt_of_lt_of_le SB0.out HN513.out.size
      have HT5 := Lib.hid (state_told (mk w13.drew) wa hY H1024.out (zero_list (zc := #[.int .i64 0, .int .i64 0, .int .i64 0]) (HMK.out w13.drew).2.1 rfl (by decide) (z_slot (b := (mk w13.drew).heap.size) (w := mk w13.drew)) ((HMK.out w13.drew).2.1.lt _ rfl).2 (by unfold maxLen; omega)))
      rw [HCY.out] at HT5
      have c1 : (mk w13.drew).cell? ⟨w.heap.size, 0, none⟩ = some (.int .i64 a) := (HMK.out w13.drew).2.2.cell c0 (by simp)
      have hs14 : w.heap.size < (mk w13.drew).heap.size := Nat.lt_of_lt_of_le HS13.out (HMK.out w13.drew).2.2.size
      have HS14 := Lib.hid hs14
      clear hs14
      go_wp2_with fail
      go_region_held3 (fun v => v.cell? ⟨w.heap.size, 0, none⟩ = some (.int .i64 a)) ((first | exact c0 | exact c1 | exact HS15.out)) ((first
        | (go_at_call 7; refine HT5.out.mono ?_; rintro e w15 ⟨B5, m5, e5, rfl, hn15⟩; have HN15' := Lib.hid hn15; clear hn15; have HS15 : Hid (w15.cell? ⟨w.heap.size, 0, none⟩ = some (.int .i64 a)) := (World.cell?_of_block (HN15'.out.block _ HS14.out)).trans c1)))
      go_wp2_with fail
      refine (wakes5_any w15).mono ?_
      rintro e w16 ⟨rfl, hn16⟩
      have HN16 := Lib.hid hn16
      clear hn16
      go_wp2_with fail
      go_ret
      have hnm : New w13 (mk w13.drew) := Below.grown (New.drew1 w13) (HMK.out w13.drew).2.2 (Nat.le_refl _) (by simp)
      exact ⟨rfl, New.trans HN1.out (New.trans HN15.out (New.trans HN513.out (New.trans hnm (New.trans HN15'.out HN16.out))))⟩
end Go.Proofs.Ytagocmbcbbhehaa
