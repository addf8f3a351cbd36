/- Contracts of readValue at bools and ints. -/
import Derived.Test.YtnhagokkamobaaaDoorRd2
namespace Go.Proofs.YtnhagokkamobaaaDoor
open Go.RowKit
variable {X : Option Addr × Nat}

end Go.Proofs.YtnhagokkamobaaaDoor
