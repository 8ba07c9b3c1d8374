-- words that the printed texts of this claim need; a program of this session has left out the others; Lean checks them.
import Derived.Test.YtlbcffdjdbjgcaaWInv
import Derived.Test.YtlbcffdjdbjgcaaWFootNe
namespace Go.Proofs.YtlbcffdjdbjgcaaW.PrintWords
open Go.RowKit
end Go.Proofs.YtlbcffdjdbjgcaaW.PrintWords
namespace Go.Proofs.YtlbcffdjdbjgcaaW.PrintLast
section
variable {ops : Array Oper} {a : Act} {o og : Oper} {g : Nat} {t : Tmp} {u : Bool}
end
end Go.Proofs.YtlbcffdjdbjgcaaW.PrintLast
