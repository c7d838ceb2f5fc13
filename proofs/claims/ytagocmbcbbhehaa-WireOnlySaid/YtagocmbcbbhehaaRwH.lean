/- wire.many: what it tells. By a program. -/
import Derived.Test.YtagocmbcbbhehaaRwM
import Derived.Test.YtagocmbcbbhehaaRwF
namespace Go.Proofs.Ytagocmbcbbhehaa
set_option linter.unusedVariables false
open Go.RowKit
/-- wire.many of Int -/
theorem i_Int : (Try.prog.info? 3).map (fun i => (i.zero, i.size, i.bytes)) = some (some (.int .i64 0), 1, 8) := by kernel_rfl
set_option maxRecDepth 20000 in
set_option maxHeartbeats 8000000 in
theorem mInt {w : World} {lo g R c : Nat} {A : Option Addr} {l : List UInt8} {e : Int} {lg : Bool} (h : RW w lo g R A c l e lg) (most : Nat) (hm : most ≤ 1024) :
    Calls Try.prog 84 #[.pointer (some ⟨R, 0, none⟩), .int .i64 most, .func (Fn.func 53) #[.pointer (some ⟨g, 0, none⟩)] #[]] w (RedL (FList EInt 1 most) w lo g R l e lg) := by
  have q0 := h.c0
  have HM := Lib.hid hm
  have hw1 : IntKind.u64.wrap (most : Int) = (most : Int) := by rw [IntKind.wrap_u64]; omega
  have H := Lib.hid h
  clear h hm
  go_enter Try.func84, Try.ntmps84
  go_wp2_with fail
  refine (uint_rw H.out).mono ?_
  rintro en w1 ⟨V, rfl, hV, A1, c1, l1, e1, hr1, hk1, hj1⟩
  have HV := Lib.hid hV
  have HK1 := Lib.hid hk1
  have HJ1 := Lib.hid hj1
  have HR1 := Lib.hid hr1
  have p0 := hr1.c0
  have p1 := hr1.c1
  have pf : w1.frozen? ⟨R, 1, none⟩ = false := frozen_of_row _ _ 1 _ _ hr1.cell
  clear hV hk1 hj1 hr1 q0
  by_cases hlong : most < V
  · have hli : (most : Int) < (V : Int) := by omega
    clear hlong
    go_wp2_with fail
    go_ret
    refine ⟨_, rfl, [some (uv 0)], A1, c1, l1, e1, true, ⟨⟨?_, ?_, HR1.out.rk.low, HR1.out.rk.le, HR1.out.rk.cap⟩, ?_, HR1.out.ord⟩, Keep.trans_new HK1.out (Keep.setAt _ _ _ _) (fun i hi _ => .inr hi), fun u hu => nil_list, by simp, fun _ h2 => by cases h2⟩
    · exact ((Keep.setAt w1 R 1 _).block g HR1.out.rk.lt (by have := HR1.out.ord; omega)).trans HR1.out.rk.cells
    · exact HR1.out.rk.rb.kept (Keep.setAt w1 R 1 _) (fun ad ea => by have := (HR1.out.rk.low ad ea).1; have := HR1.out.ord; omega)
    · rw [dk_set HR1.out.cell]; rfl
  · have hli : ¬ (most : Int) < (V : Int) := by omega
    have hld : decide ((most : Int) < (V : Int)) = false := by simp; omega
    have hldn : decide (most < V) = false := by simp; omega
    have HL := Lib.hid hlong
    clear hlong p1 pf
    have HS := Lib.hid (MI.start (E := EInt) (z := 1) (ty := 3) HR1.out)
    go_wp2_with fail
    go_loopw [8, 22] (fun v i wr => ∃ (A' : Option Addr) (c' : Nat) (l' : List UInt8) (e' : Int) (lg' : Bool) (es : List (List Value × Ch)) (n : Nat) (B : Option Addr) (d : Nat), v = .slice B n d ∧ n = es.length ∧ i = .int .u64 n ∧ n ≤ V ∧ Hid (MI EInt 1 3 w1 wr lo g R A' c' l' e' lg' es l1 e1 lg (.slice B n d))) (fun _ i _ => V - (intOf i).toNat)
    case atStart => exact ⟨A1, c1, l1, e1, lg, [], 0, none, 0, rfl, rfl, rfl, Nat.zero_le _, HS⟩
    case round =>
      obtain ⟨A2, c2, l2, e2, g2, es, n, B, d, rfl, hn, rfl, hnV, HI⟩ := hrel
      have HN := Lib.hid hn
      clear hn
      by_cases hlt : n < V
      · have hlt' : (n : Int) < (V : Int) := by omega
        have hwk : IntKind.u64.wrap ((n : Int) + 1) = ((n + 1 : Nat) : Int) := by have := HV.out; rw [IntKind.wrap_u64]; omega
        have r0 := HI.out.rw.c0
        go_wp2_with fail
        refine (int_rw HI.out.rw).mono ?_
        rintro en w3 ⟨z3, rfl, hz3, A3, c3, l3, e3, hr3, hk3, hj3⟩
        have HZ3 := Lib.hid hz3
        have HR3 := Lib.hid hr3
        have HK3 := Lib.hid hk3
        have HJ3 := Lib.hid hj3
        have HF3 : Hid (Fut wr.heap.size w3 EInt [.int .i64 z3] [some (iv z3)]) := fun _ _ => z_int z3 HZ3.out
        have HN3 : Hid (none ∉ ([some (iv z3)] : Ch)) := by show none ∉ _; simp
        have HX3 : Hid (e3 = 0 → g2 = false → e2 = 0 ∧ g2 = false ∧ l2 = flat [some (iv z3)] ++ l3) := fun h1 h2 => ⟨(HJ3.out h1).1, h2, by rw [(HJ3.out h1).2]; simp [flat]⟩
        clear hr3 hk3 hz3 hj3 r0
        go_wp2_with (refine wpList_append_el HI.out HR3.out HK3.out HF3.out HN3.out HX3.out rfl (FInt.one (z_int z3 HZ3.out)) rfl (.tmp 24) (.tmp 27) 26 rfl Try.underlying26 (.int .i64 0) 8 i_Int rfl (by decide) (by decide) rfl rfl (by have := HL.out; have := HM.out; have : n = es.length := HN.out; omega) ?_; intro B5 d5 w5 hI; refine stop ?_)
        rw [← HN.out] at hI ⊢
        have HI5 := Lib.hid hI
        clear hI
        refine go ?_
        go_wp2_with fail
        go_roundw
        case rel => exact ⟨_, _, _, _, _, es ++ [([.int .i64 z3], [some (iv z3)])], n + 1, B5, d5, rfl, by rw [List.length_append]; have : n = es.length := HN.out; simp [this], by go_num, by omega, HI5⟩
        case measure => simp [intOf]; omega
      · have hnv : n = V := by omega
        have hlt' : ¬ (n : Int) < (V : Int) := by omega
        subst hnv
        clear hlt
        go_wp2_with fail
        go_ret
        refine ⟨_, rfl, ?_⟩
        have hN : n = es.length := HN.out
        exact HI.out.core (by have := HL.out; omega) HK1.out (fun h0 => by rw [← hN]; exact HJ1.out h0)

/-- wire.many of Span -/
theorem i_Span : (Try.prog.info? 98).map (fun i => (i.zero, i.size, i.bytes)) = some (some (.agg #[.int .i64 0, .int .i64 0]), 2, 16) := by kernel_rfl
set_option maxRecDepth 20000 in
set_option maxHeartbeats 8000000 in
theorem mSpan {w : World} {lo g R c : Nat} {A : Option Addr} {l : List UInt8} {e : Int} {lg : Bool} (h : RW w lo g R A c l e lg) (most : Nat) (hm : most ≤ 1024) :
    Calls Try.prog 58 #[.pointer (some ⟨R, 0, none⟩), .int .i64 most, .func (Fn.func 59) #[.pointer (some ⟨R, 0, none⟩)] #[]] w (RedL (FList ESpan 2 most) w lo g R l e lg) := by
  have q0 := h.c0
  have HM := Lib.hid hm
  have hw1 : IntKind.u64.wrap (most : Int) = (most : Int) := by rw [IntKind.wrap_u64]; omega
  have H := Lib.hid h
  clear h hm
  go_enter Try.func58, Try.ntmps58
  go_wp2_with fail
  refine (uint_rw H.out).mono ?_
  rintro en w1 ⟨V, rfl, hV, A1, c1, l1, e1, hr1, hk1, hj1⟩
  have HV := Lib.hid hV
  have HK1 := Lib.hid hk1
  have HJ1 := Lib.hid hj1
  have HR1 := Lib.hid hr1
  have p0 := hr1.c0
  have p1 := hr1.c1
  have pf : w1.frozen? ⟨R, 1, none⟩ = false := frozen_of_row _ _ 1 _ _ hr1.cell
  clear hV hk1 hj1 hr1 q0
  by_cases hlong : most < V
  · have hli : (most : Int) < (V : Int) := by omega
    clear hlong
    go_wp2_with fail
    go_ret
    refine ⟨_, rfl, [some (uv 0)], A1, c1, l1, e1, true, ⟨⟨?_, ?_, HR1.out.rk.low, HR1.out.rk.le, HR1.out.rk.cap⟩, ?_, HR1.out.ord⟩, Keep.trans_new HK1.out (Keep.setAt _ _ _ _) (fun i hi _ => .inr hi), fun u hu => nil_list, by simp, fun _ h2 => by cases h2⟩
    · exact ((Keep.setAt w1 R 1 _).block g HR1.out.rk.lt (by have := HR1.out.ord; omega)).trans HR1.out.rk.cells
    · exact HR1.out.rk.rb.kept (Keep.setAt w1 R 1 _) (fun ad ea => by have := (HR1.out.rk.low ad ea).1; have := HR1.out.ord; omega)
    · rw [dk_set HR1.out.cell]; rfl
  · have hli : ¬ (most : Int) < (V : Int) := by omega
    have hld : decide ((most : Int) < (V : Int)) = false := by simp; omega
    have hldn : decide (most < V) = false := by simp; omega
    have HL := Lib.hid hlong
    clear hlong p1 pf
    have HS := Lib.hid (MI.start (E := ESpan) (z := 2) (ty := 98) HR1.out)
    go_wp2_with fail
    go_loopw [8, 22] (fun v i wr => ∃ (A' : Option Addr) (c' : Nat) (l' : List UInt8) (e' : Int) (lg' : Bool) (es : List (List Value × Ch)) (n : Nat) (B : Option Addr) (d : Nat), v = .slice B n d ∧ n = es.length ∧ i = .int .u64 n ∧ n ≤ V ∧ Hid (MI ESpan 2 98 w1 wr lo g R A' c' l' e' lg' es l1 e1 lg (.slice B n d))) (fun _ i _ => V - (intOf i).toNat)
    case atStart => exact ⟨A1, c1, l1, e1, lg, [], 0, none, 0, rfl, rfl, rfl, Nat.zero_le _, HS⟩
    case round =>
      obtain ⟨A2, c2, l2, e2, g2, es, n, B, d, rfl, hn, rfl, hnV, HI⟩ := hrel
      have HN := Lib.hid hn
      clear hn
      by_cases hlt : n < V
      · have hlt' : (n : Int) < (V : Int) := by omega
        have hwk : IntKind.u64.wrap ((n : Int) + 1) = ((n + 1 : Nat) : Int) := by have := HV.out; rw [IntKind.wrap_u64]; omega
        have r0 := HI.out.rw.c0
        go_wp2_with fail
        refine (rSpan HI.out.rw).mono ?_
        rintro en w3 ⟨cl, rfl, cs, A3, c3, l3, e3, g3, hr3, hk3, hf3, hn3, hj3⟩
        obtain ⟨v1, v2, rfl⟩ := hf3.now.ex
        have HON := Lib.hid hf3.now.one
        have HR3 := Lib.hid hr3
        have HK3 := Lib.hid hk3
        have HF3 := Lib.hid hf3
        have HN3 := Lib.hid hn3
        have HJ3 := Lib.hid hj3
        clear hr3 hk3 hf3 hn3 hj3 r0
        go_wp2_with (refine wpList_append_el HI.out HR3.out HK3.out HF3.out HN3.out HJ3.out rfl HON.out rfl (.tmp 24) (.tmp 27) 24 rfl Try.underlying24 (.agg #[.int .i64 0, .int .i64 0]) 16 i_Span rfl (by decide) (by decide) rfl rfl (by have := HL.out; have := HM.out; have : n = es.length := HN.out; omega) ?_; intro B5 d5 w5 hI; refine stop ?_)
        rw [← HN.out] at hI ⊢
        have HI5 := Lib.hid hI
        clear hI
        refine go ?_
        go_wp2_with fail
        go_roundw
        case rel => exact ⟨_, _, _, _, _, es ++ [([v1, v2], cs)], n + 1, B5, d5, rfl, by rw [List.length_append]; have : n = es.length := HN.out; simp [this], by go_num, by omega, HI5⟩
        case measure => simp [intOf]; omega
      · have hnv : n = V := by omega
        have hlt' : ¬ (n : Int) < (V : Int) := by omega
        subst hnv
        clear hlt
        go_wp2_with fail
        go_ret
        refine ⟨_, rfl, ?_⟩
        have hN : n = es.length := HN.out
        exact HI.out.core (by have := HL.out; omega) HK1.out (fun h0 => by rw [← hN]; exact HJ1.out h0)

/-- wire.many of Slot -/
theorem i_Slot : (Try.prog.info? 102).map (fun i => (i.zero, i.size, i.bytes)) = some (some (.agg #[.int .i64 0, .int .i64 0, .int .i64 0]), 3, 24) := by kernel_rfl
set_option maxRecDepth 20000 in
set_option maxHeartbeats 8000000 in
theorem mSlot {w : World} {lo g R c : Nat} {A : Option Addr} {l : List UInt8} {e : Int} {lg : Bool} (h : RW w lo g R A c l e lg) (most : Nat) (hm : most ≤ 1024) :
    Calls Try.prog 60 #[.pointer (some ⟨R, 0, none⟩), .int .i64 most, .func (Fn.func 61) #[.pointer (some ⟨R, 0, none⟩)] #[]] w (RedL (FList ESlot 3 most) w lo g R l e lg) := by
  have q0 := h.c0
  have HM := Lib.hid hm
  have hw1 : IntKind.u64.wrap (most : Int) = (most : Int) := by rw [IntKind.wrap_u64]; omega
  have H := Lib.hid h
  clear h hm
  go_enter Try.func60, Try.ntmps60
  go_wp2_with fail
  refine (uint_rw H.out).mono ?_
  rintro en w1 ⟨V, rfl, hV, A1, c1, l1, e1, hr1, hk1, hj1⟩
  have HV := Lib.hid hV
  have HK1 := Lib.hid hk1
  have HJ1 := Lib.hid hj1
  have HR1 := Lib.hid hr1
  have p0 := hr1.c0
  have p1 := hr1.c1
  have pf : w1.frozen? ⟨R, 1, none⟩ = false := frozen_of_row _ _ 1 _ _ hr1.cell
  clear hV hk1 hj1 hr1 q0
  by_cases hlong : most < V
  · have hli : (most : Int) < (V : Int) := by omega
    clear hlong
    go_wp2_with fail
    go_ret
    refine ⟨_, rfl, [some (uv 0)], A1, c1, l1, e1, true, ⟨⟨?_, ?_, HR1.out.rk.low, HR1.out.rk.le, HR1.out.rk.cap⟩, ?_, HR1.out.ord⟩, Keep.trans_new HK1.out (Keep.setAt _ _ _ _) (fun i hi _ => .inr hi), fun u hu => nil_list, by simp, fun _ h2 => by cases h2⟩
    · exact ((Keep.setAt w1 R 1 _).block g HR1.out.rk.lt (by have := HR1.out.ord; omega)).trans HR1.out.rk.cells
    · exact HR1.out.rk.rb.kept (Keep.setAt w1 R 1 _) (fun ad ea => by have := (HR1.out.rk.low ad ea).1; have := HR1.out.ord; omega)
    · rw [dk_set HR1.out.cell]; rfl
  · have hli : ¬ (most : Int) < (V : Int) := by omega
    have hld : decide ((most : Int) < (V : Int)) = false := by simp; omega
    have hldn : decide (most < V) = false := by simp; omega
    have HL := Lib.hid hlong
    clear hlong p1 pf
    have HS := Lib.hid (MI.start (E := ESlot) (z := 3) (ty := 102) HR1.out)
    go_wp2_with fail
    go_loopw [8, 22] (fun v i wr => ∃ (A' : Option Addr) (c' : Nat) (l' : List UInt8) (e' : Int) (lg' : Bool) (es : List (List Value × Ch)) (n : Nat) (B : Option Addr) (d : Nat), v = .slice B n d ∧ n = es.length ∧ i = .int .u64 n ∧ n ≤ V ∧ Hid (MI ESlot 3 102 w1 wr lo g R A' c' l' e' lg' es l1 e1 lg (.slice B n d))) (fun _ i _ => V - (intOf i).toNat)
    case atStart => exact ⟨A1, c1, l1, e1, lg, [], 0, none, 0, rfl, rfl, rfl, Nat.zero_le _, HS⟩
    case round =>
      obtain ⟨A2, c2, l2, e2, g2, es, n, B, d, rfl, hn, rfl, hnV, HI⟩ := hrel
      have HN := Lib.hid hn
      clear hn
      by_cases hlt : n < V
      · have hlt' : (n : Int) < (V : Int) := by omega
        have hwk : IntKind.u64.wrap ((n : Int) + 1) = ((n + 1 : Nat) : Int) := by have := HV.out; rw [IntKind.wrap_u64]; omega
        have r0 := HI.out.rw.c0
        go_wp2_with fail
        refine (rSlot HI.out.rw).mono ?_
        rintro en w3 ⟨cl, rfl, cs, A3, c3, l3, e3, g3, hr3, hk3, hf3, hn3, hj3⟩
        obtain ⟨v1, v2, v3, rfl⟩ := hf3.now.ex
        have HON := Lib.hid hf3.now.one
        have HR3 := Lib.hid hr3
        have HK3 := Lib.hid hk3
        have HF3 := Lib.hid hf3
        have HN3 := Lib.hid hn3
        have HJ3 := Lib.hid hj3
        clear hr3 hk3 hf3 hn3 hj3 r0
        go_wp2_with (refine wpList_append_el HI.out HR3.out HK3.out HF3.out HN3.out HJ3.out rfl HON.out rfl (.tmp 24) (.tmp 27) 31 rfl Try.underlying31 (.agg #[.int .i64 0, .int .i64 0, .int .i64 0]) 24 i_Slot rfl (by decide) (by decide) rfl rfl (by have := HL.out; have := HM.out; have : n = es.length := HN.out; omega) ?_; intro B5 d5 w5 hI; refine stop ?_)
        rw [← HN.out] at hI ⊢
        have HI5 := Lib.hid hI
        clear hI
        refine go ?_
        go_wp2_with fail
        go_roundw
        case rel => exact ⟨_, _, _, _, _, es ++ [([v1, v2, v3], cs)], n + 1, B5, d5, rfl, by rw [List.length_append]; have : n = es.length := HN.out; simp [this], by go_num, by omega, HI5⟩
        case measure => simp [intOf]; omega
      · have hnv : n = V := by omega
        have hlt' : ¬ (n : Int) < (V : Int) := by omega
        subst hnv
        clear hlt
        go_wp2_with fail
        go_ret
        refine ⟨_, rfl, ?_⟩
        have hN : n = es.length := HN.out
        exact HI.out.core (by have := HL.out; omega) HK1.out (fun h0 => by rw [← hN]; exact HJ1.out h0)

/-- wire.many of Part -/
theorem i_Part : (Try.prog.info? 165).map (fun i => (i.zero, i.size, i.bytes)) = some (some (.agg #[.int .i64 0, .int .i64 0, .int .i64 0]), 3, 24) := by kernel_rfl
set_option maxRecDepth 20000 in
set_option maxHeartbeats 8000000 in
theorem mPart {w : World} {lo g R c : Nat} {A : Option Addr} {l : List UInt8} {e : Int} {lg : Bool} (h : RW w lo g R A c l e lg) (most : Nat) (hm : most ≤ 1024) :
    Calls Try.prog 88 #[.pointer (some ⟨R, 0, none⟩), .int .i64 most, .func (Fn.func 89) #[.pointer (some ⟨R, 0, none⟩)] #[]] w (RedL (FList EPart 3 most) w lo g R l e lg) := by
  have q0 := h.c0
  have HM := Lib.hid hm
  have hw1 : IntKind.u64.wrap (most : Int) = (most : Int) := by rw [IntKind.wrap_u64]; omega
  have H := Lib.hid h
  clear h hm
  go_enter Try.func88, Try.ntmps88
  go_wp2_with fail
  refine (uint_rw H.out).mono ?_
  rintro en w1 ⟨V, rfl, hV, A1, c1, l1, e1, hr1, hk1, hj1⟩
  have HV := Lib.hid hV
  have HK1 := Lib.hid hk1
  have HJ1 := Lib.hid hj1
  have HR1 := Lib.hid hr1
  have p0 := hr1.c0
  have p1 := hr1.c1
  have pf : w1.frozen? ⟨R, 1, none⟩ = false := frozen_of_row _ _ 1 _ _ hr1.cell
  clear hV hk1 hj1 hr1 q0
  by_cases hlong : most < V
  · have hli : (most : Int) < (V : Int) := by omega
    clear hlong
    go_wp2_with fail
    go_ret
    refine ⟨_, rfl, [some (uv 0)], A1, c1, l1, e1, true, ⟨⟨?_, ?_, HR1.out.rk.low, HR1.out.rk.le, HR1.out.rk.cap⟩, ?_, HR1.out.ord⟩, Keep.trans_new HK1.out (Keep.setAt _ _ _ _) (fun i hi _ => .inr hi), fun u hu => nil_list, by simp, fun _ h2 => by cases h2⟩
    · exact ((Keep.setAt w1 R 1 _).block g HR1.out.rk.lt (by have := HR1.out.ord; omega)).trans HR1.out.rk.cells
    · exact HR1.out.rk.rb.kept (Keep.setAt w1 R 1 _) (fun ad ea => by have := (HR1.out.rk.low ad ea).1; have := HR1.out.ord; omega)
    · rw [dk_set HR1.out.cell]; rfl
  · have hli : ¬ (most : Int) < (V : Int) := by omega
    have hld : decide ((most : Int) < (V : Int)) = false := by simp; omega
    have hldn : decide (most < V) = false := by simp; omega
    have HL := Lib.hid hlong
    clear hlong p1 pf
    have HS := Lib.hid (MI.start (E := EPart) (z := 3) (ty := 165) HR1.out)
    go_wp2_with fail
    go_loopw [8, 22] (fun v i wr => ∃ (A' : Option Addr) (c' : Nat) (l' : List UInt8) (e' : Int) (lg' : Bool) (es : List (List Value × Ch)) (n : Nat) (B : Option Addr) (d : Nat), v = .slice B n d ∧ n = es.length ∧ i = .int .u64 n ∧ n ≤ V ∧ Hid (MI EPart 3 165 w1 wr lo g R A' c' l' e' lg' es l1 e1 lg (.slice B n d))) (fun _ i _ => V - (intOf i).toNat)
    case atStart => exact ⟨A1, c1, l1, e1, lg, [], 0, none, 0, rfl, rfl, rfl, Nat.zero_le _, HS⟩
    case round =>
      obtain ⟨A2, c2, l2, e2, g2, es, n, B, d, rfl, hn, rfl, hnV, HI⟩ := hrel
      have HN := Lib.hid hn
      clear hn
      by_cases hlt : n < V
      · have hlt' : (n : Int) < (V : Int) := by omega
        have hwk : IntKind.u64.wrap ((n : Int) + 1) = ((n + 1 : Nat) : Int) := by have := HV.out; rw [IntKind.wrap_u64]; omega
        have r0 := HI.out.rw.c0
        go_wp2_with fail
        refine (rPart HI.out.rw).mono ?_
        rintro en w3 ⟨cl, rfl, cs, A3, c3, l3, e3, g3, hr3, hk3, hf3, hn3, hj3⟩
        obtain ⟨v1, v2, v3, rfl⟩ := hf3.now.ex
        have HON := Lib.hid hf3.now.one
        have HR3 := Lib.hid hr3
        have HK3 := Lib.hid hk3
        have HF3 := Lib.hid hf3
        have HN3 := Lib.hid hn3
        have HJ3 := Lib.hid hj3
        clear hr3 hk3 hf3 hn3 hj3 r0
        go_wp2_with (refine wpList_append_el HI.out HR3.out HK3.out HF3.out HN3.out HJ3.out rfl HON.out rfl (.tmp 24) (.tmp 27) 109 rfl Try.underlying109 (.agg #[.int .i64 0, .int .i64 0, .int .i64 0]) 24 i_Part rfl (by decide) (by decide) rfl rfl (by have := HL.out; have := HM.out; have : n = es.length := HN.out; omega) ?_; intro B5 d5 w5 hI; refine stop ?_)
        rw [← HN.out] at hI ⊢
        have HI5 := Lib.hid hI
        clear hI
        refine go ?_
        go_wp2_with fail
        go_roundw
        case rel => exact ⟨_, _, _, _, _, es ++ [([v1, v2, v3], cs)], n + 1, B5, d5, rfl, by rw [List.length_append]; have : n = es.length := HN.out; simp [this], by go_num, by omega, HI5⟩
        case measure => simp [intOf]; omega
      · have hnv : n = V := by omega
        have hlt' : ¬ (n : Int) < (V : Int) := by omega
        subst hnv
        clear hlt
        go_wp2_with fail
        go_ret
        refine ⟨_, rfl, ?_⟩
        have hN : n = es.length := HN.out
        exact HI.out.core (by have := HL.out; omega) HK1.out (fun h0 => by rw [← hN]; exact HJ1.out h0)

/-- wire.many of Use -/
theorem i_Use : (Try.prog.info? 123).map (fun i => (i.zero, i.size, i.bytes)) = some (some (.agg #[.int .i64 0, .int .i64 0, .int .i64 0]), 3, 24) := by kernel_rfl
set_option maxRecDepth 20000 in
set_option maxHeartbeats 8000000 in
theorem mUse {w : World} {lo g R c : Nat} {A : Option Addr} {l : List UInt8} {e : Int} {lg : Bool} (h : RW w lo g R A c l e lg) (most : Nat) (hm : most ≤ 1024) :
    Calls Try.prog 73 #[.pointer (some ⟨R, 0, none⟩), .int .i64 most, .func (Fn.func 74) #[.pointer (some ⟨R, 0, none⟩)] #[]] w (RedL (FList EUse 3 most) w lo g R l e lg) := by
  have q0 := h.c0
  have HM := Lib.hid hm
  have hw1 : IntKind.u64.wrap (most : Int) = (most : Int) := by rw [IntKind.wrap_u64]; omega
  have H := Lib.hid h
  clear h hm
  go_enter Try.func73, Try.ntmps73
  go_wp2_with fail
  refine (uint_rw H.out).mono ?_
  rintro en w1 ⟨V, rfl, hV, A1, c1, l1, e1, hr1, hk1, hj1⟩
  have HV := Lib.hid hV
  have HK1 := Lib.hid hk1
  have HJ1 := Lib.hid hj1
  have HR1 := Lib.hid hr1
  have p0 := hr1.c0
  have p1 := hr1.c1
  have pf : w1.frozen? ⟨R, 1, none⟩ = false := frozen_of_row _ _ 1 _ _ hr1.cell
  clear hV hk1 hj1 hr1 q0
  by_cases hlong : most < V
  · have hli : (most : Int) < (V : Int) := by omega
    clear hlong
    go_wp2_with fail
    go_ret
    refine ⟨_, rfl, [some (uv 0)], A1, c1, l1, e1, true, ⟨⟨?_, ?_, HR1.out.rk.low, HR1.out.rk.le, HR1.out.rk.cap⟩, ?_, HR1.out.ord⟩, Keep.trans_new HK1.out (Keep.setAt _ _ _ _) (fun i hi _ => .inr hi), fun u hu => nil_list, by simp, fun _ h2 => by cases h2⟩
    · exact ((Keep.setAt w1 R 1 _).block g HR1.out.rk.lt (by have := HR1.out.ord; omega)).trans HR1.out.rk.cells
    · exact HR1.out.rk.rb.kept (Keep.setAt w1 R 1 _) (fun ad ea => by have := (HR1.out.rk.low ad ea).1; have := HR1.out.ord; omega)
    · rw [dk_set HR1.out.cell]; rfl
  · have hli : ¬ (most : Int) < (V : Int) := by omega
    have hld : decide ((most : Int) < (V : Int)) = false := by simp; omega
    have hldn : decide (most < V) = false := by simp; omega
    have HL := Lib.hid hlong
    clear hlong p1 pf
    have HS := Lib.hid (MI.start (E := EUse) (z := 3) (ty := 123) HR1.out)
    go_wp2_with fail
    go_loopw [8, 22] (fun v i wr => ∃ (A' : Option Addr) (c' : Nat) (l' : List UInt8) (e' : Int) (lg' : Bool) (es : List (List Value × Ch)) (n : Nat) (B : Option Addr) (d : Nat), v = .slice B n d ∧ n = es.length ∧ i = .int .u64 n ∧ n ≤ V ∧ Hid (MI EUse 3 123 w1 wr lo g R A' c' l' e' lg' es l1 e1 lg (.slice B n d))) (fun _ i _ => V - (intOf i).toNat)
    case atStart => exact ⟨A1, c1, l1, e1, lg, [], 0, none, 0, rfl, rfl, rfl, Nat.zero_le _, HS⟩
    case round =>
      obtain ⟨A2, c2, l2, e2, g2, es, n, B, d, rfl, hn, rfl, hnV, HI⟩ := hrel
      have HN := Lib.hid hn
      clear hn
      by_cases hlt : n < V
      · have hlt' : (n : Int) < (V : Int) := by omega
        have hwk : IntKind.u64.wrap ((n : Int) + 1) = ((n + 1 : Nat) : Int) := by have := HV.out; rw [IntKind.wrap_u64]; omega
        have r0 := HI.out.rw.c0
        go_wp2_with fail
        refine (rUse HI.out.rw).mono ?_
        rintro en w3 ⟨cl, rfl, cs, A3, c3, l3, e3, g3, hr3, hk3, hf3, hn3, hj3⟩
        obtain ⟨v1, v2, v3, rfl⟩ := hf3.now.ex
        have HON := Lib.hid hf3.now.one
        have HR3 := Lib.hid hr3
        have HK3 := Lib.hid hk3
        have HF3 := Lib.hid hf3
        have HN3 := Lib.hid hn3
        have HJ3 := Lib.hid hj3
        clear hr3 hk3 hf3 hn3 hj3 r0
        go_wp2_with (refine wpList_append_el HI.out HR3.out HK3.out HF3.out HN3.out HJ3.out rfl HON.out rfl (.tmp 24) (.tmp 27) 44 rfl Try.underlying44 (.agg #[.int .i64 0, .int .i64 0, .int .i64 0]) 24 i_Use rfl (by decide) (by decide) rfl rfl (by have := HL.out; have := HM.out; have : n = es.length := HN.out; omega) ?_; intro B5 d5 w5 hI; refine stop ?_)
        rw [← HN.out] at hI ⊢
        have HI5 := Lib.hid hI
        clear hI
        refine go ?_
        go_wp2_with fail
        go_roundw
        case rel => exact ⟨_, _, _, _, _, es ++ [([v1, v2, v3], cs)], n + 1, B5, d5, rfl, by rw [List.length_append]; have : n = es.length := HN.out; simp [this], by go_num, by omega, HI5⟩
        case measure => simp [intOf]; omega
      · have hnv : n = V := by omega
        have hlt' : ¬ (n : Int) < (V : Int) := by omega
        subst hnv
        clear hlt
        go_wp2_with fail
        go_ret
        refine ⟨_, rfl, ?_⟩
        have hN : n = es.length := HN.out
        exact HI.out.core (by have := HL.out; omega) HK1.out (fun h0 => by rw [← hN]; exact HJ1.out h0)

/-- wire.many of Resv -/
theorem i_Resv : (Try.prog.info? 119).map (fun i => (i.zero, i.size, i.bytes)) = some (some (.agg #[.int .i64 0, .int .i64 0, .int .i64 0, .int .i64 0, .int .i64 0, .complex .f64 0 0, .bool false, .int .i64 0]), 8, 72) := by kernel_rfl
set_option maxRecDepth 20000 in
set_option maxHeartbeats 8000000 in
theorem mResv {w : World} {lo g R c : Nat} {A : Option Addr} {l : List UInt8} {e : Int} {lg : Bool} (h : RW w lo g R A c l e lg) (most : Nat) (hm : most ≤ 1024) :
    Calls Try.prog 71 #[.pointer (some ⟨R, 0, none⟩), .int .i64 most, .func (Fn.func 72) #[.pointer (some ⟨R, 0, none⟩)] #[]] w (RedL (FList EResv 8 most) w lo g R l e lg) := by
  have q0 := h.c0
  have HM := Lib.hid hm
  have hw1 : IntKind.u64.wrap (most : Int) = (most : Int) := by rw [IntKind.wrap_u64]; omega
  have H := Lib.hid h
  clear h hm
  go_enter Try.func71, Try.ntmps71
  go_wp2_with fail
  refine (uint_rw H.out).mono ?_
  rintro en w1 ⟨V, rfl, hV, A1, c1, l1, e1, hr1, hk1, hj1⟩
  have HV := Lib.hid hV
  have HK1 := Lib.hid hk1
  have HJ1 := Lib.hid hj1
  have HR1 := Lib.hid hr1
  have p0 := hr1.c0
  have p1 := hr1.c1
  have pf : w1.frozen? ⟨R, 1, none⟩ = false := frozen_of_row _ _ 1 _ _ hr1.cell
  clear hV hk1 hj1 hr1 q0
  by_cases hlong : most < V
  · have hli : (most : Int) < (V : Int) := by omega
    clear hlong
    go_wp2_with fail
    go_ret
    refine ⟨_, rfl, [some (uv 0)], A1, c1, l1, e1, true, ⟨⟨?_, ?_, HR1.out.rk.low, HR1.out.rk.le, HR1.out.rk.cap⟩, ?_, HR1.out.ord⟩, Keep.trans_new HK1.out (Keep.setAt _ _ _ _) (fun i hi _ => .inr hi), fun u hu => nil_list, by simp, fun _ h2 => by cases h2⟩
    · exact ((Keep.setAt w1 R 1 _).block g HR1.out.rk.lt (by have := HR1.out.ord; omega)).trans HR1.out.rk.cells
    · exact HR1.out.rk.rb.kept (Keep.setAt w1 R 1 _) (fun ad ea => by have := (HR1.out.rk.low ad ea).1; have := HR1.out.ord; omega)
    · rw [dk_set HR1.out.cell]; rfl
  · have hli : ¬ (most : Int) < (V : Int) := by omega
    have hld : decide ((most : Int) < (V : Int)) = false := by simp; omega
    have hldn : decide (most < V) = false := by simp; omega
    have HL := Lib.hid hlong
    clear hlong p1 pf
    have HS := Lib.hid (MI.start (E := EResv) (z := 8) (ty := 119) HR1.out)
    go_wp2_with fail
    go_loopw [8, 22] (fun v i wr => ∃ (A' : Option Addr) (c' : Nat) (l' : List UInt8) (e' : Int) (lg' : Bool) (es : List (List Value × Ch)) (n : Nat) (B : Option Addr) (d : Nat), v = .slice B n d ∧ n = es.length ∧ i = .int .u64 n ∧ n ≤ V ∧ Hid (MI EResv 8 119 w1 wr lo g R A' c' l' e' lg' es l1 e1 lg (.slice B n d))) (fun _ i _ => V - (intOf i).toNat)
    case atStart => exact ⟨A1, c1, l1, e1, lg, [], 0, none, 0, rfl, rfl, rfl, Nat.zero_le _, HS⟩
    case round =>
      obtain ⟨A2, c2, l2, e2, g2, es, n, B, d, rfl, hn, rfl, hnV, HI⟩ := hrel
      have HN := Lib.hid hn
      clear hn
      by_cases hlt : n < V
      · have hlt' : (n : Int) < (V : Int) := by omega
        have hwk : IntKind.u64.wrap ((n : Int) + 1) = ((n + 1 : Nat) : Int) := by have := HV.out; rw [IntKind.wrap_u64]; omega
        have r0 := HI.out.rw.c0
        go_wp2_with fail
        refine (rResv HI.out.rw).mono ?_
        rintro en w3 ⟨cl, rfl, cs, A3, c3, l3, e3, g3, hr3, hk3, hf3, hn3, hj3⟩
        obtain ⟨v1, v2, v3, v4, v5, v6, v7, v8, rfl⟩ := hf3.now.ex
        have HON := Lib.hid hf3.now.one
        have HR3 := Lib.hid hr3
        have HK3 := Lib.hid hk3
        have HF3 := Lib.hid hf3
        have HN3 := Lib.hid hn3
        have HJ3 := Lib.hid hj3
        clear hr3 hk3 hf3 hn3 hj3 r0
        go_wp2_with (refine wpList_append_el HI.out HR3.out HK3.out HF3.out HN3.out HJ3.out rfl HON.out rfl (.tmp 24) (.tmp 27) 43 rfl Try.underlying43 (.agg #[.int .i64 0, .int .i64 0, .int .i64 0, .int .i64 0, .int .i64 0, .complex .f64 0 0, .bool false, .int .i64 0]) 72 i_Resv rfl (by decide) (by decide) rfl rfl (by have := HL.out; have := HM.out; have : n = es.length := HN.out; omega) ?_; intro B5 d5 w5 hI; refine stop ?_)
        rw [← HN.out] at hI ⊢
        have HI5 := Lib.hid hI
        clear hI
        refine go ?_
        go_wp2_with fail
        go_roundw
        case rel => exact ⟨_, _, _, _, _, es ++ [([v1, v2, v3, v4, v5, v6, v7, v8], cs)], n + 1, B5, d5, rfl, by rw [List.length_append]; have : n = es.length := HN.out; simp [this], by go_num, by omega, HI5⟩
        case measure => simp [intOf]; omega
      · have hnv : n = V := by omega
        have hlt' : ¬ (n : Int) < (V : Int) := by omega
        subst hnv
        clear hlt
        go_wp2_with fail
        go_ret
        refine ⟨_, rfl, ?_⟩
        have hN : n = es.length := HN.out
        exact HI.out.core (by have := HL.out; omega) HK1.out (fun h0 => by rw [← hN]; exact HJ1.out h0)

end Go.Proofs.Ytagocmbcbbhehaa
