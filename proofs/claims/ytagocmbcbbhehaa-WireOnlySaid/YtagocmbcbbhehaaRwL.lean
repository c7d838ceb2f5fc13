/- wire.many: what it tells. By a program. -/
import Derived.Test.YtagocmbcbbhehaaRwI
import Derived.Test.YtagocmbcbbhehaaRwJ
namespace Go.Proofs.Ytagocmbcbbhehaa
set_option linter.unusedVariables false
open Go.RowKit
/-- wire.many of Own -/
theorem i_Own : (Try.prog.info? 111).map (fun i => (i.zero, i.size, i.bytes)) = some (some (.agg #[.int .i64 0, .int .i64 0, .int .i64 0, .complex .f64 0 0, .int .i64 0, .int .i64 0, .int .i64 0, .int .i64 0, .slice none 0 0, .bool false, .int .i64 0, .int .i64 0, .int .i64 0, .bool false, .int .i64 0, .int .i64 0, .int .i64 0, .int .i64 0, .slice none 0 0, .slice none 0 0, .slice none 0 0]), 21, 240) := by kernel_rfl
set_option maxRecDepth 20000 in
set_option maxHeartbeats 8000000 in
theorem mOwn {w : World} {lo g R c : Nat} {A : Option Addr} {l : List UInt8} {e : Int} {lg : Bool} (h : RW w lo g R A c l e lg) (most : Nat) (hm : most ≤ 1024) :
    Calls Try.prog 67 #[.pointer (some ⟨R, 0, none⟩), .int .i64 most, .func (Fn.func 68) #[.pointer (some ⟨R, 0, none⟩)] #[]] w (RedL (FList EOwn 21 most) w lo g R l e lg) := by
  have q0 := h.c0
  have HM := Lib.hid hm
  have hw1 : IntKind.u64.wrap (most : Int) = (most : Int) := by rw [IntKind.wrap_u64]; omega
  have H := Lib.hid h
  clear h hm
  go_enter Try.func67, Try.ntmps67
  go_wp2_with fail
  refine (uint_rw H.out).mono ?_
  rintro en w1 ⟨V, rfl, hV, A1, c1, l1, e1, hr1, hk1, hj1⟩
  have HV := Lib.hid hV
  have HK1 := Lib.hid hk1
  have HJ1 := Lib.hid hj1
  have HR1 := Lib.hid hr1
  have p0 := hr1.c0
  have p1 := hr1.c1
  have pf : w1.frozen? ⟨R, 1, none⟩ = false := frozen_of_row _ _ 1 _ _ hr1.cell
  clear hV hk1 hj1 hr1 q0
  by_cases hlong : most < V
  · have hli : (most : Int) < (V : Int) := by omega
    clear hlong
    go_wp2_with fail
    go_ret
    refine ⟨_, rfl, [some (uv 0)], A1, c1, l1, e1, true, ⟨⟨?_, ?_, HR1.out.rk.low, HR1.out.rk.le, HR1.out.rk.cap⟩, ?_, HR1.out.ord⟩, Keep.trans_new HK1.out (Keep.setAt _ _ _ _) (fun i hi _ => .inr hi), fun u hu => nil_list, by simp, fun _ h2 => by cases h2⟩
    · exact ((Keep.setAt w1 R 1 _).block g HR1.out.rk.lt (by have := HR1.out.ord; omega)).trans HR1.out.rk.cells
    · exact HR1.out.rk.rb.kept (Keep.setAt w1 R 1 _) (fun ad ea => by have := (HR1.out.rk.low ad ea).1; have := HR1.out.ord; omega)
    · rw [dk_set HR1.out.cell]; rfl
  · have hli : ¬ (most : Int) < (V : Int) := by omega
    have hld : decide ((most : Int) < (V : Int)) = false := by simp; omega
    have hldn : decide (most < V) = false := by simp; omega
    have HL := Lib.hid hlong
    clear hlong p1 pf
    have HS := Lib.hid (MI.start (E := EOwn) (z := 21) (ty := 111) HR1.out)
    go_wp2_with fail
    go_loopw [8, 22] (fun v i wr => ∃ (A' : Option Addr) (c' : Nat) (l' : List UInt8) (e' : Int) (lg' : Bool) (es : List (List Value × Ch)) (n : Nat) (B : Option Addr) (d : Nat), v = .slice B n d ∧ n = es.length ∧ i = .int .u64 n ∧ n ≤ V ∧ Hid (MI EOwn 21 111 w1 wr lo g R A' c' l' e' lg' es l1 e1 lg (.slice B n d))) (fun _ i _ => V - (intOf i).toNat)
    case atStart => exact ⟨A1, c1, l1, e1, lg, [], 0, none, 0, rfl, rfl, rfl, Nat.zero_le _, HS⟩
    case round =>
      obtain ⟨A2, c2, l2, e2, g2, es, n, B, d, rfl, hn, rfl, hnV, HI⟩ := hrel
      have HN := Lib.hid hn
      clear hn
      by_cases hlt : n < V
      · have hlt' : (n : Int) < (V : Int) := by omega
        have hwk : IntKind.u64.wrap ((n : Int) + 1) = ((n + 1 : Nat) : Int) := by have := HV.out; rw [IntKind.wrap_u64]; omega
        have r0 := HI.out.rw.c0
        go_wp2_with fail
        refine (rOwn HI.out.rw).mono ?_
        rintro en w3 ⟨cl, rfl, cs, A3, c3, l3, e3, g3, hr3, hk3, hf3, hn3, hj3⟩
        obtain ⟨v1, v2, v3, v4, v5, v6, v7, v8, v9, v10, v11, v12, v13, v14, v15, v16, v17, v18, v19, v20, v21, rfl⟩ := hf3.now.ex
        have HON := Lib.hid hf3.now.one
        have HR3 := Lib.hid hr3
        have HK3 := Lib.hid hk3
        have HF3 := Lib.hid hf3
        have HN3 := Lib.hid hn3
        have HJ3 := Lib.hid hj3
        clear hr3 hk3 hf3 hn3 hj3 r0
        go_wp2_with (refine wpList_append_el HI.out HR3.out HK3.out HF3.out HN3.out HJ3.out rfl HON.out rfl (.tmp 24) (.tmp 27) 41 rfl Try.underlying41 (.agg #[.int .i64 0, .int .i64 0, .int .i64 0, .complex .f64 0 0, .int .i64 0, .int .i64 0, .int .i64 0, .int .i64 0, .slice none 0 0, .bool false, .int .i64 0, .int .i64 0, .int .i64 0, .bool false, .int .i64 0, .int .i64 0, .int .i64 0, .int .i64 0, .slice none 0 0, .slice none 0 0, .slice none 0 0]) 240 i_Own rfl (by decide) (by decide) rfl rfl (by have := HL.out; have := HM.out; have : n = es.length := HN.out; omega) ?_; intro B5 d5 w5 hI; refine stop ?_)
        rw [← HN.out] at hI ⊢
        have HI5 := Lib.hid hI
        clear hI
        refine go ?_
        go_wp2_with fail
        go_roundw
        case rel => exact ⟨_, _, _, _, _, es ++ [([v1, v2, v3, v4, v5, v6, v7, v8, v9, v10, v11, v12, v13, v14, v15, v16, v17, v18, v19, v20, v21], cs)], n + 1, B5, d5, rfl, by rw [List.length_append]; have : n = es.length := HN.out; simp [this], by go_num, by omega, HI5⟩
        case measure => simp [intOf]; omega
      · have hnv : n = V := by omega
        have hlt' : ¬ (n : Int) < (V : Int) := by omega
        subst hnv
        clear hlt
        go_wp2_with fail
        go_ret
        refine ⟨_, rfl, ?_⟩
        have hN : n = es.length := HN.out
        exact HI.out.core (by have := HL.out; omega) HK1.out (fun h0 => by rw [← hN]; exact HJ1.out h0)

/-- wire.many of Copy -/
theorem i_Copy : (Try.prog.info? 115).map (fun i => (i.zero, i.size, i.bytes)) = some (some (.agg #[.int .i64 0, .int .i64 0, .int .i64 0, .complex .f64 0 0, .int .i64 0, .int .i64 0, .int .i64 0, .int .i64 0, .slice none 0 0, .bool false, .int .i64 0, .int .i64 0, .int .i64 0, .int .i64 0, .int .i64 0, .int .i64 0, .int .i64 0]), 17, 160) := by kernel_rfl
set_option maxRecDepth 20000 in
set_option maxHeartbeats 8000000 in
theorem mCopy {w : World} {lo g R c : Nat} {A : Option Addr} {l : List UInt8} {e : Int} {lg : Bool} (h : RW w lo g R A c l e lg) (most : Nat) (hm : most ≤ 1024) :
    Calls Try.prog 69 #[.pointer (some ⟨R, 0, none⟩), .int .i64 most, .func (Fn.func 70) #[.pointer (some ⟨R, 0, none⟩)] #[]] w (RedL (FList ECopy 17 most) w lo g R l e lg) := by
  have q0 := h.c0
  have HM := Lib.hid hm
  have hw1 : IntKind.u64.wrap (most : Int) = (most : Int) := by rw [IntKind.wrap_u64]; omega
  have H := Lib.hid h
  clear h hm
  go_enter Try.func69, Try.ntmps69
  go_wp2_with fail
  refine (uint_rw H.out).mono ?_
  rintro en w1 ⟨V, rfl, hV, A1, c1, l1, e1, hr1, hk1, hj1⟩
  have HV := Lib.hid hV
  have HK1 := Lib.hid hk1
  have HJ1 := Lib.hid hj1
  have HR1 := Lib.hid hr1
  have p0 := hr1.c0
  have p1 := hr1.c1
  have pf : w1.frozen? ⟨R, 1, none⟩ = false := frozen_of_row _ _ 1 _ _ hr1.cell
  clear hV hk1 hj1 hr1 q0
  by_cases hlong : most < V
  · have hli : (most : Int) < (V : Int) := by omega
    clear hlong
    go_wp2_with fail
    go_ret
    refine ⟨_, rfl, [some (uv 0)], A1, c1, l1, e1, true, ⟨⟨?_, ?_, HR1.out.rk.low, HR1.out.rk.le, HR1.out.rk.cap⟩, ?_, HR1.out.ord⟩, Keep.trans_new HK1.out (Keep.setAt _ _ _ _) (fun i hi _ => .inr hi), fun u hu => nil_list, by simp, fun _ h2 => by cases h2⟩
    · exact ((Keep.setAt w1 R 1 _).block g HR1.out.rk.lt (by have := HR1.out.ord; omega)).trans HR1.out.rk.cells
    · exact HR1.out.rk.rb.kept (Keep.setAt w1 R 1 _) (fun ad ea => by have := (HR1.out.rk.low ad ea).1; have := HR1.out.ord; omega)
    · rw [dk_set HR1.out.cell]; rfl
  · have hli : ¬ (most : Int) < (V : Int) := by omega
    have hld : decide ((most : Int) < (V : Int)) = false := by simp; omega
    have hldn : decide (most < V) = false := by simp; omega
    have HL := Lib.hid hlong
    clear hlong p1 pf
    have HS := Lib.hid (MI.start (E := ECopy) (z := 17) (ty := 115) HR1.out)
    go_wp2_with fail
    go_loopw [8, 22] (fun v i wr => ∃ (A' : Option Addr) (c' : Nat) (l' : List UInt8) (e' : Int) (lg' : Bool) (es : List (List Value × Ch)) (n : Nat) (B : Option Addr) (d : Nat), v = .slice B n d ∧ n = es.length ∧ i = .int .u64 n ∧ n ≤ V ∧ Hid (MI ECopy 17 115 w1 wr lo g R A' c' l' e' lg' es l1 e1 lg (.slice B n d))) (fun _ i _ => V - (intOf i).toNat)
    case atStart => exact ⟨A1, c1, l1, e1, lg, [], 0, none, 0, rfl, rfl, rfl, Nat.zero_le _, HS⟩
    case round =>
      obtain ⟨A2, c2, l2, e2, g2, es, n, B, d, rfl, hn, rfl, hnV, HI⟩ := hrel
      have HN := Lib.hid hn
      clear hn
      by_cases hlt : n < V
      · have hlt' : (n : Int) < (V : Int) := by omega
        have hwk : IntKind.u64.wrap ((n : Int) + 1) = ((n + 1 : Nat) : Int) := by have := HV.out; rw [IntKind.wrap_u64]; omega
        have r0 := HI.out.rw.c0
        go_wp2_with fail
        refine (rCopy HI.out.rw).mono ?_
        rintro en w3 ⟨cl, rfl, cs, A3, c3, l3, e3, g3, hr3, hk3, hf3, hn3, hj3⟩
        obtain ⟨v1, v2, v3, v4, v5, v6, v7, v8, v9, v10, v11, v12, v13, v14, v15, v16, v17, rfl⟩ := hf3.now.ex
        have HON := Lib.hid hf3.now.one
        have HR3 := Lib.hid hr3
        have HK3 := Lib.hid hk3
        have HF3 := Lib.hid hf3
        have HN3 := Lib.hid hn3
        have HJ3 := Lib.hid hj3
        clear hr3 hk3 hf3 hn3 hj3 r0
        go_wp2_with (refine wpList_append_el HI.out HR3.out HK3.out HF3.out HN3.out HJ3.out rfl HON.out rfl (.tmp 24) (.tmp 27) 42 rfl Try.underlying42 (.agg #[.int .i64 0, .int .i64 0, .int .i64 0, .complex .f64 0 0, .int .i64 0, .int .i64 0, .int .i64 0, .int .i64 0, .slice none 0 0, .bool false, .int .i64 0, .int .i64 0, .int .i64 0, .int .i64 0, .int .i64 0, .int .i64 0, .int .i64 0]) 160 i_Copy rfl (by decide) (by decide) rfl rfl (by have := HL.out; have := HM.out; have : n = es.length := HN.out; omega) ?_; intro B5 d5 w5 hI; refine stop ?_)
        rw [← HN.out] at hI ⊢
        have HI5 := Lib.hid hI
        clear hI
        refine go ?_
        go_wp2_with fail
        go_roundw
        case rel => exact ⟨_, _, _, _, _, es ++ [([v1, v2, v3, v4, v5, v6, v7, v8, v9, v10, v11, v12, v13, v14, v15, v16, v17], cs)], n + 1, B5, d5, rfl, by rw [List.length_append]; have : n = es.length := HN.out; simp [this], by go_num, by omega, HI5⟩
        case measure => simp [intOf]; omega
      · have hnv : n = V := by omega
        have hlt' : ¬ (n : Int) < (V : Int) := by omega
        subst hnv
        clear hlt
        go_wp2_with fail
        go_ret
        refine ⟨_, rfl, ?_⟩
        have hN : n = es.length := HN.out
        exact HI.out.core (by have := HL.out; omega) HK1.out (fun h0 => by rw [← hN]; exact HJ1.out h0)

/-- wire.many of Msg -/
theorem i_Msg : (Try.prog.info? 71).map (fun i => (i.zero, i.size, i.bytes)) = some (some (.agg #[.int .i64 0, .int .i64 0, .int .i64 0, .int .i64 0, .int .i64 0, .int .i64 0, .bool false, .int .i64 0, .int .i64 0, .int .i64 0, .complex .f64 0 0, .int .i64 0, .int .i64 0, .int .i64 0, .int .i64 0, .slice none 0 0, .bool false, .slice none 0 0]), 18, 184) := by kernel_rfl
set_option maxRecDepth 20000 in
set_option maxHeartbeats 8000000 in
theorem mMsg {w : World} {lo g R c : Nat} {A : Option Addr} {l : List UInt8} {e : Int} {lg : Bool} (h : RW w lo g R A c l e lg) (most : Nat) (hm : most ≤ 1024) :
    Calls Try.prog 62 #[.pointer (some ⟨R, 0, none⟩), .int .i64 most, .func (Fn.func 63) #[.pointer (some ⟨R, 0, none⟩)] #[]] w (RedL (FList EMsg 18 most) w lo g R l e lg) := by
  have q0 := h.c0
  have HM := Lib.hid hm
  have hw1 : IntKind.u64.wrap (most : Int) = (most : Int) := by rw [IntKind.wrap_u64]; omega
  have H := Lib.hid h
  clear h hm
  go_enter Try.func62, Try.ntmps62
  go_wp2_with fail
  refine (uint_rw H.out).mono ?_
  rintro en w1 ⟨V, rfl, hV, A1, c1, l1, e1, hr1, hk1, hj1⟩
  have HV := Lib.hid hV
  have HK1 := Lib.hid hk1
  have HJ1 := Lib.hid hj1
  have HR1 := Lib.hid hr1
  have p0 := hr1.c0
  have p1 := hr1.c1
  have pf : w1.frozen? ⟨R, 1, none⟩ = false := frozen_of_row _ _ 1 _ _ hr1.cell
  clear hV hk1 hj1 hr1 q0
  by_cases hlong : most < V
  · have hli : (most : Int) < (V : Int) := by omega
    clear hlong
    go_wp2_with fail
    go_ret
    refine ⟨_, rfl, [some (uv 0)], A1, c1, l1, e1, true, ⟨⟨?_, ?_, HR1.out.rk.low, HR1.out.rk.le, HR1.out.rk.cap⟩, ?_, HR1.out.ord⟩, Keep.trans_new HK1.out (Keep.setAt _ _ _ _) (fun i hi _ => .inr hi), fun u hu => nil_list, by simp, fun _ h2 => by cases h2⟩
    · exact ((Keep.setAt w1 R 1 _).block g HR1.out.rk.lt (by have := HR1.out.ord; omega)).trans HR1.out.rk.cells
    · exact HR1.out.rk.rb.kept (Keep.setAt w1 R 1 _) (fun ad ea => by have := (HR1.out.rk.low ad ea).1; have := HR1.out.ord; omega)
    · rw [dk_set HR1.out.cell]; rfl
  · have hli : ¬ (most : Int) < (V : Int) := by omega
    have hld : decide ((most : Int) < (V : Int)) = false := by simp; omega
    have hldn : decide (most < V) = false := by simp; omega
    have HL := Lib.hid hlong
    clear hlong p1 pf
    have HS := Lib.hid (MI.start (E := EMsg) (z := 18) (ty := 71) HR1.out)
    go_wp2_with fail
    go_loopw [8, 22] (fun v i wr => ∃ (A' : Option Addr) (c' : Nat) (l' : List UInt8) (e' : Int) (lg' : Bool) (es : List (List Value × Ch)) (n : Nat) (B : Option Addr) (d : Nat), v = .slice B n d ∧ n = es.length ∧ i = .int .u64 n ∧ n ≤ V ∧ Hid (MI EMsg 18 71 w1 wr lo g R A' c' l' e' lg' es l1 e1 lg (.slice B n d))) (fun _ i _ => V - (intOf i).toNat)
    case atStart => exact ⟨A1, c1, l1, e1, lg, [], 0, none, 0, rfl, rfl, rfl, Nat.zero_le _, HS⟩
    case round =>
      obtain ⟨A2, c2, l2, e2, g2, es, n, B, d, rfl, hn, rfl, hnV, HI⟩ := hrel
      have HN := Lib.hid hn
      clear hn
      by_cases hlt : n < V
      · have hlt' : (n : Int) < (V : Int) := by omega
        have hwk : IntKind.u64.wrap ((n : Int) + 1) = ((n + 1 : Nat) : Int) := by have := HV.out; rw [IntKind.wrap_u64]; omega
        have r0 := HI.out.rw.c0
        go_wp2_with fail
        refine (rMsg HI.out.rw).mono ?_
        rintro en w3 ⟨cl, rfl, cs, A3, c3, l3, e3, g3, hr3, hk3, hf3, hn3, hj3⟩
        obtain ⟨v1, v2, v3, v4, v5, v6, v7, v8, v9, v10, v11, v12, v13, v14, v15, v16, v17, v18, rfl⟩ := hf3.now.ex
        have HON := Lib.hid hf3.now.one
        have HR3 := Lib.hid hr3
        have HK3 := Lib.hid hk3
        have HF3 := Lib.hid hf3
        have HN3 := Lib.hid hn3
        have HJ3 := Lib.hid hj3
        clear hr3 hk3 hf3 hn3 hj3 r0
        go_wp2_with (refine wpList_append_el HI.out HR3.out HK3.out HF3.out HN3.out HJ3.out rfl HON.out rfl (.tmp 24) (.tmp 27) 39 rfl Try.underlying39 (.agg #[.int .i64 0, .int .i64 0, .int .i64 0, .int .i64 0, .int .i64 0, .int .i64 0, .bool false, .int .i64 0, .int .i64 0, .int .i64 0, .complex .f64 0 0, .int .i64 0, .int .i64 0, .int .i64 0, .int .i64 0, .slice none 0 0, .bool false, .slice none 0 0]) 184 i_Msg rfl (by decide) (by decide) rfl rfl (by have := HL.out; have := HM.out; have : n = es.length := HN.out; omega) ?_; intro B5 d5 w5 hI; refine stop ?_)
        rw [← HN.out] at hI ⊢
        have HI5 := Lib.hid hI
        clear hI
        refine go ?_
        go_wp2_with fail
        go_roundw
        case rel => exact ⟨_, _, _, _, _, es ++ [([v1, v2, v3, v4, v5, v6, v7, v8, v9, v10, v11, v12, v13, v14, v15, v16, v17, v18], cs)], n + 1, B5, d5, rfl, by rw [List.length_append]; have : n = es.length := HN.out; simp [this], by go_num, by omega, HI5⟩
        case measure => simp [intOf]; omega
      · have hnv : n = V := by omega
        have hlt' : ¬ (n : Int) < (V : Int) := by omega
        subst hnv
        clear hlt
        go_wp2_with fail
        go_ret
        refine ⟨_, rfl, ?_⟩
        have hN : n = es.length := HN.out
        exact HI.out.core (by have := HL.out; omega) HK1.out (fun h0 => by rw [← hN]; exact HJ1.out h0)

end Go.Proofs.Ytagocmbcbbhehaa
