/- hanselaw06.wakes: what it answers. -/
import Derived.Test.YtemgiodakoojiaaDkD
namespace Go.Proofs.Ytemgiodakoojiaa
open Go.RowKit
end Go.Proofs.Ytemgiodakoojiaa
