/- Closed facts of this translation: the types' rows. -/
import Derived.Test.YtagocmbcbbhehaaChecked
import Derived.Test.YtagocmbcbbhehaaApp
import Derived.Test.YtagocmbcbbhehaaBits
namespace Go.Proofs.Ytagocmbcbbhehaa
open Go.RowKit
theorem u_bytes : Try.prog.underlying 35 = some (.slice 5) := by kernel_rfl
theorem u_byte : Try.prog.underlying 5 = some (.int .u8) := by kernel_rfl
theorem u_string : Try.prog.underlying 9 = some .string := by kernel_rfl
theorem i_byte : (Try.prog.info? 5).map (fun i => (i.zero, i.size, i.bytes)) = some (some (.int .u8 0), 1, 1) := by kernel_rfl
theorem u_ints : Try.prog.underlying 26 = some (.slice 3) := by kernel_rfl
theorem i_int : (Try.prog.info? 3).map (fun i => (i.zero, i.size, i.bytes)) = some (some (.int .i64 0), 1, 8) := by kernel_rfl
/-- a slice of bytes of the call's own -/
abbrev OBs (w : World) (base : Nat) (A : Option Addr) (n c : Nat) (l : List UInt8) : Prop := OB w base 5 A n c l
end Go.Proofs.Ytagocmbcbbhehaa
