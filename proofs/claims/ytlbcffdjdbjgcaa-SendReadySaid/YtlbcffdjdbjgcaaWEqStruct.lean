-- words that the printed texts of this claim need; a program of this session has left out the others; Lean checks them.
import Derived.Test.YtlbcffdjdbjgcaaWWords
import Derived.Laws.StructEq
/-! ### 53. '==' of structs as_ one Bool -/
namespace Go.Proofs.YtlbcffdjdbjgcaaW.PrintWords
open Go.RowKit
section
variable {P : Program} {d : Nat} {xs ys : Array Value} {f : Field} {fs : List Field} {a b : Value} {r s : Bool} {w : World}
end
end Go.Proofs.YtlbcffdjdbjgcaaW.PrintWords
