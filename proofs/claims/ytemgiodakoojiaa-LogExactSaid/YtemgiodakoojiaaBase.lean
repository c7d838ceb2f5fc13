/- Closed facts of this translation: the types' rows. -/
import Derived.Test.YtemgiodakoojiaaChecked
import Derived.Test.YtemgiodakoojiaaApp
import Derived.Test.YtemgiodakoojiaaBits
namespace Go.Proofs.Ytemgiodakoojiaa
open Go.RowKit
theorem u_bytes : Try.prog.underlying 30 = some (.slice 5) := by kernel_rfl
theorem u_byte : Try.prog.underlying 5 = some (.int .u8) := by kernel_rfl
theorem u_string : Try.prog.underlying 9 = some .string := by kernel_rfl
theorem i_byte : (Try.prog.info? 5).map (fun i => (i.zero, i.size, i.bytes)) = some (some (.int .u8 0), 1, 1) := by kernel_rfl
theorem u_rows : Try.prog.underlying 22 = some (.slice 30) := by kernel_rfl
theorem i_bytes : (Try.prog.info? 30).map (fun i => (i.zero, i.size, i.bytes)) = some (some (.slice none 0 0), 1, 24) := by kernel_rfl
theorem i_int : (Try.prog.info? 3).map (fun i => (i.zero, i.size, i.bytes)) = some (some (.int .i64 0), 1, 8) := by kernel_rfl
/-- a slice of bytes of the call's own -/
abbrev OBs (w : World) (base : Nat) (A : Option Addr) (n c : Nat) (l : List UInt8) : Prop := OB w base 5 A n c l
end Go.Proofs.Ytemgiodakoojiaa
