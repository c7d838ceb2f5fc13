/- Bytes onto bytes at a step of a region that draws; what a crash leaves of two pieces. -/
import Derived.Test.YtemgiodakoojiaaDkF
import Derived.Deep.RegionHeld3
namespace Go.Proofs.Ytemgiodakoojiaa
open Go.RowKit
section
variable {P : Program}
theorem wp_append_OB (w : World) {o : Oper} {a : Act} {K : Act → World → Prop} {Q : Exit → Act → World → Prop} (s x : Operand) (t : TypeId)
    (ho : o.op = .call { callee := .builtin .append, args := #[s, x], argTypes := #[t, t] })
    (base : Nat) (e : TypeId) (ht : P.underlying t = some (.slice e)) (he : (P.info? e).map (fun i => (i.zero, i.size, i.bytes)) = some (some (.int .u8 0), 1, 1))
    (A : Option Addr) (n c : Nat) (l : List UInt8) (hs : a.eval s = .slice A n c) (hown : OB w base e A n c l)
    (B : Option Addr) (m d : Nat) (k : List UInt8) (hx : a.eval x = .slice B m d) (hm : m = k.length) (hk : RB w B k)
    (hbytes : n + m ≤ 140737488355328) (hbase : base ≤ w.heap.size)
    (h : ∀ A' c' w', OB w' base e A' (n + m) c' (l ++ k) → w.grownBy w' (blk A) → (blk A' = blk A ∨ blk A' = some w.heap.size) → K (a.put o.dst (.slice A' (n + m) c')) w') : o.wp P a w K Q := by
  obtain ⟨i, hi, hz0, hz1, hz2⟩ := info_parts he
  refine wp_append_Own w s x t ho base e i _ 1 ht hi hz0 hz1 hz2 rfl A n c _ hs hown B m d (k.map bv) hx (by simp [hm]) (fun j u hu => ?_) (bytes_one k) (by unfold maxLen; omega) (by omega) hbase (fun A' c' w' h2 h3 h4 => h A' c' w' ?_ h3 h4)
  · rw [List.getElem?_map, Option.map_eq_some_iff] at hu
    obtain ⟨b, hb, rfl⟩ := hu
    exact hk j b hb
  · unfold OB
    rw [List.map_append]
    exact h2
end
theorem crash_lr (l r : List UInt8) (tr : Bool) (kk x : Int) (k : Nat) (hk : (k : Int) = min (max x 0) r.length) : (⟨l ++ r, l.length, false, tr, kk⟩ : St).crash x = ⟨l ++ r.take k, l.length, true, false, 0⟩ := by
  have e : St.left ⟨l ++ r, l.length, false, tr, kk⟩ x = l.length + k := by
    unfold St.left
    show l.length + (min (max x 0) (((l ++ r).length : Int) - l.length)).toNat = _
    rw [List.length_append]
    omega
  show (⟨(l ++ r).take (St.left ⟨l ++ r, l.length, false, tr, kk⟩ x), l.length, true, false, 0⟩ : St) = _
  rw [e, List.take_append, List.take_of_length_le (by omega), Nat.add_sub_cancel_left]
end Go.Proofs.Ytemgiodakoojiaa
