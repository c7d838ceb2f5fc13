/- hanselaw06.DiskParts: the walk. -/
import Derived.Test.YtnhoofcllijmiaaDkF
import Derived.Deep.LoopGhost
namespace Go.Proofs.Ytnhoofcllijmiaa
open Go.RowKit
theorem flat_le (ls : List (List UInt8)) (k : Nat) (h : ∀ j l, j < k → ls[j]? = some l → l.length ≤ 4096) : (ls.take k).flatten.length ≤ 4096 * k := by
  induction k with
  | zero => simp
  | succ k ih =>
    have := ih fun j l hj hl => h j l (by omega) hl
    rw [List.take_add_one]
    cases hk : ls[k]? with
    | none => simp only [Option.toList_none, List.append_nil]; omega
    | some l =>
      have := h k l (by omega) hk
      simp only [Option.toList_some, List.flatten_append, List.length_append, List.flatten_singleton]
      omega
set_option maxHeartbeats 2000000 in
theorem parts_law (A : Option Addr) (n c : Nat) (ls : List (List UInt8)) (w : World) (hn : n = ls.length) (_ : n ≤ c) (_ : c ≤ maxLen) (hr : RR w A ls) :
    Calls Try.prog 3 #[.slice A n c] w fun e w' => e = .returned (.bool true) ∧ New w w' := by
  have HN := Lib.hid hn
  clear hn
  by_cases h1 : (60 : Int) < (n : Int)
  · go_enter Try.func3, Try.ntmps3
    go_wp2_with fail
    go_ret
    exact ⟨rfl, New.refl _⟩
  have hn60 : n ≤ 60 := by omega
  go_enter Try.func3, Try.ntmps3
  go_wp2_with fail
  go_loopw [3, 4] (fun v i wr => ∃ (k m : Nat) (A' : Option Addr) (c' : Nat), i = .int .i64 k ∧ k ≤ n ∧ v = .slice A' m c' ∧ OBs wr w.heap.size A' m c' (ls.take k).flatten ∧ Hid (∀ j l, j < k → ls[j]? = some l → l.length ≤ 4096) ∧ New w wr) (fun _ i _ => n - (intOf i).toNat)
  case atStart => exact ⟨0, 0, none, 0, rfl, Nat.zero_le _, rfl, OB.nil _ _ _, fun j l h => by omega, New.refl _⟩
  case round =>
    obtain ⟨k, m, A', c', rfl, hk, rfl, hob, hsm, hnew⟩ := hrel
    have hm : m ≤ 4096 * k := by
      have := flat_le ls k hsm.out
      have := hob.len
      omega
    by_cases hlt : k < n
    · obtain ⟨l, hl⟩ : ∃ l, ls[k]? = some l := ⟨_, List.getElem?_eq_getElem (by rw [← HN.out]; exact hlt)⟩
      obtain ⟨ad, B, d, rfl, hcell, hd, hdm, hb⟩ := (hr.new hnew) k l hl
      obtain ⟨q, hq⟩ : ∃ q, q = l.length := ⟨_, rfl⟩
      rw [← hq] at hcell hd
      have HL := Lib.hid hl
      have HQ := Lib.hid hq
      clear hl hq
      by_cases hbig : (4096 : Int) < (q : Int)
      · go_wp2_with fail
        go_ret
        exact ⟨rfl, hnew⟩
      · go_wp2_with (at_builtin; refine wpList_append_OB _ rfl (.tmp 27) (.tmp 31) _ rfl w.heap.size _ u_bytes i_byte A' m c' _ rfl hob B q d l rfl HQ.out hb (by omega) hnew.size ?_; intro A2 c2 w2 ho2 hg2 _; refine stop ?_)
        have ho3 : OBs w2 w.heap.size A2 (m + q) c2 (ls.take (k + 1)).flatten := by
          rw [List.take_add_one, HL.out]
          simpa using ho2
        have hs2 : Hid (∀ j l, j < k + 1 → ls[j]? = some l → l.length ≤ 4096) := by
          intro j l' hj hl'
          by_cases hjk : j = k
          · subst hjk
            rw [show ls[j]? = some l from HL.out] at hl'
            cases hl'
            have : q = l.length := HQ.out
            omega
          · exact hsm.out j l' (by omega) hl'
        have hn2 : New w w2 := Below.trans hnew (below_blk hob hg2 hnew.size)
        refine go ?_
        clear ho2 hg2 hob hb hcell
        go_wp2_with fail
        go_roundw
        case rel => exact ⟨k + 1, m + q, A2, c2, by go_num, by omega, rfl, ho3, hs2, hn2⟩
        case measure => simp [intOf]; omega
    · have hkn : k = n := by omega
      subst hkn
      have hob3 : OBs wr w.heap.size A' m c' ls.flatten := by
        have := hob
        rw [HN.out, List.take_length] at this
        exact this
      clear hob
      have hall : Hid (ls.flatten.length = m) := hob3.len
      obtain ⟨w0, hw0⟩ : ∃ w0 : World, w0 = wr := ⟨_, rfl⟩
      rw [← hw0] at hob3 hnew ⊢
      clear hw0
      go_wp2_with fail
      refine (new_one w0).mono ?_
      rintro e w1 ⟨ga, rfl, h⟩
      go_wp2_with fail
      refine (new_two h).mono ?_
      rintro e w2 ⟨gb, rfl, h⟩
      go_wp2_with fail
      refine (append_dk h.b A' m c' ls.flatten hob3.len.symm (h.rb hob3.rb) (by simp [St.new]; omega) h.size 0 ⟨ls.flatten, 0, false, false, 0⟩ rfl).mono ?_
      intro e w3 hd
      obtain ⟨B3, d3, rfl, h⟩ := h.right hd
      clear hd
      go_wp2_with fail
      go_loopw [7] (fun i wr => ∃ (j : Nat) (A4 : Option Addr) (c4 : Nat), i = .int .i64 j ∧ j ≤ k ∧ Two 52 52 w0 wr ga A4 c4 ⟨(ls.take j).flatten, 0, false, false, 0⟩ gb B3 d3 ⟨ls.flatten, 0, false, false, 0⟩) (fun i _ => k - (intOf i).toNat)
      case atStart => exact ⟨0, none, 0, rfl, Nat.zero_le _, h⟩
      case round =>
        obtain ⟨j, A4, c4, rfl, hj, h⟩ := hrel
        by_cases hlt : j < k
        · obtain ⟨l, hl⟩ : ∃ l, ls[j]? = some l := ⟨_, List.getElem?_eq_getElem (by have : k = ls.length := HN.out; omega)⟩
          obtain ⟨ad, B, d, rfl, hcell, hd, hdm, hb⟩ := (hr.new (New.trans hnew h.new)) j l hl
          have hj1 := flat_le ls j fun i l' hi hl' => hsm.out i l' (by omega) hl'
          have hl4 := hsm.out j l hlt hl
          obtain ⟨q, hq⟩ : ∃ q, q = l.length := ⟨_, rfl⟩
          rw [← hq] at hcell hd
          have HL := Lib.hid hl
          have HQ := Lib.hid hq
          have HA := Lib.hid (append_dk h.a B q d l HQ.out hb (by show (ls.take j).flatten.length + q ≤ _; omega) h.size 0 ⟨(ls.take (j + 1)).flatten, 0, false, false, 0⟩ (by
            show ((0 : Int), (⟨(ls.take j).flatten ++ l, 0, false, false, 0⟩ : St)) = _
            rw [List.take_add_one, hl]
            simp))
          clear hl hq hj1 hl4
          go_wp2_with fail
          refine HA.out.mono ?_
          intro e w5 hd
          obtain ⟨A5, c5, rfl, h⟩ := h.left hd
          clear hd hcell hb
          go_wp2_with fail
          go_roundw
          case rel => exact ⟨j + 1, A5, c5, by go_num, by omega, h⟩
          case measure => simp [intOf]; omega
        · have hjk : j = k := by omega
          subst hjk
          have h' : Two 52 52 w0 wr ga A4 c4 ⟨ls.flatten, 0, false, false, 0⟩ gb B3 d3 ⟨ls.flatten, 0, false, false, 0⟩ := by
            have := h
            rw [HN.out, List.take_length] at this
            exact this
          clear h
          obtain ⟨z, hz⟩ : ∃ z, z = ls.flatten := ⟨_, rfl⟩
          rw [← hz] at h' hob3
          have hzl : Hid (z.length ≤ 140737488355328) := by
            show _ ≤ _
            have : ls.flatten.length = m := hall.out
            rw [hz]
            omega
          clear hz
          have h := h'
          clear h'
          go_wp2_with fail
          refine (read_dk h.a z 0 rfl hzl.out).mono ?_
          rintro e w17 ⟨X, cx, rfl, ox, hw⟩
          replace h := h.also hw
          clear hw
          go_wp2_with fail
          refine (read_dk h.b z 0 rfl hzl.out).mono ?_
          rintro e w18 ⟨Y, cy, rfl, oy, hw⟩
          replace h := h.also hw
          have ox := ox.new hw
          clear hw
          go_wp2_with fail
          refine (bytes_is X Y z.length cx z.length cy z z w18 rfl rfl ox.rb oy.rb true (by simp)).mono ?_
          rintro e w19 ⟨rfl, rfl⟩
          go_wp2_with fail
          refine (bytes_is X A' z.length cx m c' z z w18 rfl hob3.len.symm ox.rb (h.rb hob3.rb) true (by simp)).mono ?_
          rintro e w19 ⟨rfl, rfl⟩
          go_wp2_with fail
          refine (synced_dk h.a).mono ?_
          rintro e w20 ⟨rfl, rfl⟩
          go_wp2_with fail
          refine (wakes_any _).mono ?_
          rintro e w23 ⟨rfl, hw⟩
          go_wp2_with fail
          go_ret
          exact ⟨rfl, New.trans hnew (New.trans h.new hw)⟩
end Go.Proofs.Ytnhoofcllijmiaa
