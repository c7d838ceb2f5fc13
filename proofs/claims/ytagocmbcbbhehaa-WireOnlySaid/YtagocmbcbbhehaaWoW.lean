/- hanselaw05.WireOnly: the walk. By a program. -/
import Derived.Test.YtagocmbcbbhehaaRwQ
import Derived.Test.YtagocmbcbbhehaaRwS
import Derived.Test.YtagocmbcbbhehaaWnC
import Derived.Deep.Cut
namespace Go.Proofs.Ytagocmbcbbhehaa
set_option linter.unusedVariables false
open Go.RowKit
/-- what is told of what was read: the bytes k again -/
def Back (k : List UInt8) (w : World) (e : Ending) (w' : World) : Prop := New w w' ∧ ∃ B d, e = .returned (.tuple #[.slice B k.length d, .int .i64 0]) ∧ RB w' B k
theorem Wrote.back {w w' : World} {cs : Ch} {e : Ending} {k : List UInt8} (h : Wrote w (run cs ([], false)) e w') (hn : none ∉ cs) (hf : flat cs = k) : Back k w e w' := by
  rw [run_flat cs hn, hf, List.nil_append] at h
  obtain ⟨h1, ⟨h2, _⟩ | ⟨_, B, d, h3, h4⟩⟩ := h
  · cases h2
  · exact ⟨h1, B, d, h3, OB.rb h4⟩
theorem sz_back {cs : Ch} {k : List UInt8} (hf : flat cs = k) (hk : k.length ≤ 65536) : sz cs ≤ MX := by
  rw [sz_flat, hf]
  unfold MX
  omega
set_option maxRecDepth 20000 in
set_option maxHeartbeats 8000000 in
theorem only_any (A : Option Addr) (n c : Nat) (k : List UInt8) (w : World) (hn : n = k.length) (hk : RB w A k) :
    Calls Try.prog 4 #[.slice A n c] w fun e w' => e = .returned (.bool true) ∧ New w w' := by
  have HN := Lib.hid hn
  have HK := Lib.hid hk
  clear hn hk
  by_cases hlong : 65536 < n
  · have hli : (65536 : Int) < (n : Int) := by omega
    go_enter Try.func4, Try.ntmps4
    go_wp2_with fail
    go_ret
    exact ⟨rfl, New.refl _⟩
  have hle : n ≤ 65536 := by omega
  have hli : ¬ (65536 : Int) < (n : Int) := by omega
  have HLE := Lib.hid hle
  have HKL : Hid (k.length ≤ 65536) := by have : n = k.length := HN.out; show k.length ≤ 65536; omega
  clear hlong hle
  go_enter Try.func4, Try.ntmps4
  go_wp2_with fail
  refine (readRec A n c k w HN.out HK.out HLE.out).mono ?_
  rintro en a1 ⟨hn, cl, x, rfl, hz, hon, hx⟩
  have HNa := Lib.hid hn
  have HZ := Lib.hid hz
  have HON := Lib.hid hon
  have HX := Lib.hid hx
  clear hn hz hon hx
  go_wp2_with (refine wpList_store_new a1 rfl 33 (.tmp 3) (.tmp 22) rfl rfl _ cl rfl 24 (by kernel_rfl) HZ.out rfl HON.out ?_; refine stop ?_)
  obtain ⟨gb, hgb⟩ : ∃ gb, gb = a1.heap.size := ⟨_, rfl⟩
  obtain ⟨b1, hb⟩ : ∃ b, b = a1.alloc (.cells cl.toArray 33) := ⟨_, rfl⟩
  have hnb : New a1 b1 := by rw [hb]; exact (Below.refl _ _).alloc (Nat.le_refl _) _
  have HB : Hid (b1.heap[gb]? = some (.cells cl.toArray 33 (0, 0))) := by rw [hb, hgb]; exact heap_alloc_new _ _
  have HNb := Lib.hid (New.trans HNa.out hnb)
  have HKb := Lib.hid (Keep.of_new (S := fun i => i < w.heap.size) hnb)
  rw [← hb, ← hgb]
  clear hb hgb hnb
  refine go ?_
  go_upto_if 25 with fail
  go_cut [] from 16 (fun wx => Hid (New w wx))
  case first =>
    by_cases hx0 : x = 0
    · subst hx0
      obtain ⟨cs, hf, hnn, hfl⟩ := HX.out rfl
      have HC := Lib.hid (wireRec b1 cl cs ((hf.on HKb.out).now) (sz_back hfl HKL.out))
      have HNN := Lib.hid hnn
      have HFL := Lib.hid hfl
      clear hf hnn hfl
      go_wp2_with (refine wpList_load_ad rfl 33 (.tmp 3) rfl ⟨gb, 0, none⟩ rfl cl (cells_of HB.out) _ Try.underlying33 rfl 24 (by kernel_rfl) HZ.out ?_; refine stop ?_)
      refine go ?_
      go_wp2_with fail
      refine HC.out.mono ?_
      intro en y1 hw
      obtain ⟨hn3, B3, d3, rfl, hr3⟩ := hw.back HNN.out HFL.out
      have HN3 := Lib.hid (New.trans HNb.out hn3)
      have HR3 := Lib.hid hr3
      clear hw hn3 hr3 HC
      go_wp2_with fail
      refine (bytes_is B3 A k.length d3 n c k k y1 rfl HN.out HR3.out (HK.out.new HN3.out) true (by simp)).mono ?_
      rintro e y1' ⟨rfl, rfl⟩
      go_wp2_with fail
      go_meet
      exact HN3
    · have hx0' : (x == 0) = false := by simpa using hx0
      go_wp2_with fail
      go_meet
      exact HNb
  case rest =>
  rename_i wq _
  have HW1 := hcut
  clear hcut
  go_wp2_with fail
  refine (readBundle A n c k wc HN.out (HK.out.new HW1.out) HLE.out).mono ?_
  rintro en a2 ⟨hn, L, M, K, x, rfl, hx⟩
  have HNb := Lib.hid (New.trans HW1.out hn)
  have HX := Lib.hid hx
  clear hn hx
  go_upto_if 45 with fail
  go_cut [] from 16 (fun wx => Hid (New w wx))
  case first =>
    by_cases hx0 : x = 0
    · subst hx0
      obtain ⟨cs, hf, hnn, hfl⟩ := HX.out rfl
      have HC := Lib.hid (wireBundle a2 L M K cs hf.now (sz_back hfl HKL.out))
      have HNN := Lib.hid hnn
      have HFL := Lib.hid hfl
      clear hf hnn hfl
      go_wp2_with fail
      refine HC.out.mono ?_
      intro en y2 hw
      obtain ⟨hn3, B3, d3, rfl, hr3⟩ := hw.back HNN.out HFL.out
      have HN3 := Lib.hid (New.trans HNb.out hn3)
      have HR3 := Lib.hid hr3
      clear hw hn3 hr3 HC
      go_wp2_with fail
      refine (bytes_is B3 A k.length d3 n c k k y2 rfl HN.out HR3.out (HK.out.new HN3.out) true (by simp)).mono ?_
      rintro e y2' ⟨rfl, rfl⟩
      go_wp2_with fail
      go_meet
      exact HN3
    · have hx0' : (x == 0) = false := by simpa using hx0
      go_wp2_with fail
      go_meet
      exact HNb
  case rest =>
  rename_i wq _
  have HW2 := hcut
  clear hcut
  go_wp2_with fail
  refine (readFrame A n c k wc HN.out (HK.out.new HW2.out) HLE.out).mono ?_
  rintro en a3 ⟨hn, cl, x, rfl, hz, hon, hx⟩
  have HNa := Lib.hid (New.trans HW2.out hn)
  have HZ := Lib.hid hz
  have HON := Lib.hid hon
  have HX := Lib.hid hx
  clear hn hz hon hx
  go_wp2_with (refine wpList_store_new a3 rfl 55 (.tmp 10) (.tmp 62) rfl rfl _ cl rfl 7 (by kernel_rfl) HZ.out rfl HON.out ?_; refine stop ?_)
  obtain ⟨gb, hgb⟩ : ∃ gb, gb = a3.heap.size := ⟨_, rfl⟩
  obtain ⟨b3, hb⟩ : ∃ b, b = a3.alloc (.cells cl.toArray 55) := ⟨_, rfl⟩
  have hnb : New a3 b3 := by rw [hb]; exact (Below.refl _ _).alloc (Nat.le_refl _) _
  have HB : Hid (b3.heap[gb]? = some (.cells cl.toArray 55 (0, 0))) := by rw [hb, hgb]; exact heap_alloc_new _ _
  have HNb := Lib.hid (New.trans HNa.out hnb)
  have HKb := Lib.hid (Keep.of_new (S := fun i => i < wc.heap.size) hnb)
  rw [← hb, ← hgb]
  clear hb hgb hnb
  refine go ?_
  go_upto_if 65 with fail
  go_cut [] from 16 (fun wx => Hid (New w wx))
  case first =>
    by_cases hx0 : x = 0
    · subst hx0
      obtain ⟨cs, hf, hnn, hfl⟩ := HX.out rfl
      have HC := Lib.hid (wireFrame b3 cl cs ((hf.on HKb.out).now) (sz_back hfl HKL.out))
      have HNN := Lib.hid hnn
      have HFL := Lib.hid hfl
      clear hf hnn hfl
      go_wp2_with (refine wpList_load_ad rfl 55 (.tmp 10) rfl ⟨gb, 0, none⟩ rfl cl (cells_of HB.out) _ Try.underlying55 rfl 7 (by kernel_rfl) HZ.out ?_; refine stop ?_)
      refine go ?_
      go_wp2_with fail
      refine HC.out.mono ?_
      intro en y3 hw
      obtain ⟨hn3, B3, d3, rfl, hr3⟩ := hw.back HNN.out HFL.out
      have HN3 := Lib.hid (New.trans HNb.out hn3)
      have HR3 := Lib.hid hr3
      clear hw hn3 hr3 HC
      go_wp2_with fail
      refine (bytes_is B3 A k.length d3 n c k k y3 rfl HN.out HR3.out (HK.out.new HN3.out) true (by simp)).mono ?_
      rintro e y3' ⟨rfl, rfl⟩
      go_wp2_with fail
      go_meet
      exact HN3
    · have hx0' : (x == 0) = false := by simpa using hx0
      go_wp2_with fail
      go_meet
      exact HNb
  case rest =>
  rename_i wq _
  have HW3 := hcut
  clear hcut
  go_wp2_with fail
  refine (readState A n c k wc HN.out (HK.out.new HW3.out) HLE.out).mono ?_
  rintro en a4 ⟨hn, cl, x, rfl, hz, hon, hx⟩
  have HNa := Lib.hid (New.trans HW3.out hn)
  have HZ := Lib.hid hz
  have HON := Lib.hid hon
  have HX := Lib.hid hx
  clear hn hz hon hx
  go_wp2_with (refine wpList_store_new a4 rfl 46 (.tmp 13) (.tmp 82) rfl rfl _ cl rfl 12 (by kernel_rfl) HZ.out rfl HON.out ?_; refine stop ?_)
  obtain ⟨gb, hgb⟩ : ∃ gb, gb = a4.heap.size := ⟨_, rfl⟩
  obtain ⟨b4, hb⟩ : ∃ b, b = a4.alloc (.cells cl.toArray 46) := ⟨_, rfl⟩
  have hnb : New a4 b4 := by rw [hb]; exact (Below.refl _ _).alloc (Nat.le_refl _) _
  have HB : Hid (b4.heap[gb]? = some (.cells cl.toArray 46 (0, 0))) := by rw [hb, hgb]; exact heap_alloc_new _ _
  have HNb := Lib.hid (New.trans HNa.out hnb)
  have HKb := Lib.hid (Keep.of_new (S := fun i => i < wc.heap.size) hnb)
  rw [← hb, ← hgb]
  clear hb hgb hnb
  refine go ?_
  go_upto_if 85 with fail
  go_cut [] from 16 (fun wx => Hid (New w wx))
  case first =>
    by_cases hx0 : x = 0
    · subst hx0
      obtain ⟨cs, hf, hnn, hfl⟩ := HX.out rfl
      have HC := Lib.hid (wireState b4 cl cs ((hf.on HKb.out).now) (sz_back hfl HKL.out))
      have HNN := Lib.hid hnn
      have HFL := Lib.hid hfl
      clear hf hnn hfl
      go_wp2_with (refine wpList_load_ad rfl 46 (.tmp 13) rfl ⟨gb, 0, none⟩ rfl cl (cells_of HB.out) _ Try.underlying46 rfl 12 (by kernel_rfl) HZ.out ?_; refine stop ?_)
      refine go ?_
      go_wp2_with fail
      refine HC.out.mono ?_
      intro en y4 hw
      obtain ⟨hn3, B3, d3, rfl, hr3⟩ := hw.back HNN.out HFL.out
      have HN3 := Lib.hid (New.trans HNb.out hn3)
      have HR3 := Lib.hid hr3
      clear hw hn3 hr3 HC
      go_wp2_with fail
      refine (bytes_is B3 A k.length d3 n c k k y4 rfl HN.out HR3.out (HK.out.new HN3.out) true (by simp)).mono ?_
      rintro e y4' ⟨rfl, rfl⟩
      go_wp2_with fail
      go_meet
      exact HN3
    · have hx0' : (x == 0) = false := by simpa using hx0
      go_wp2_with fail
      go_meet
      exact HNb
  case rest =>
  rename_i wq _
  have HW4 := hcut
  clear hcut
  go_wp2_with fail
  refine (wakes5_any wc).mono ?_
  rintro e wz ⟨rfl, hnz⟩
  have HNZ := Lib.hid (New.trans HW4.out hnz)
  clear hnz
  go_wp2_with fail
  go_ret
  exact ⟨rfl, HNZ.out⟩
theorem only_law (A : Option Addr) (n c : Nat) (k : List UInt8) (w : World) (hn : n = k.length) (_ : n ≤ c) (_ : c ≤ maxLen) (hk : RB w A k) :
    Calls Try.prog 4 #[.slice A n c] w fun e w' => e = .returned (.bool true) ∧ New w w' := only_any A n c k w hn hk
end Go.Proofs.Ytagocmbcbbhehaa
