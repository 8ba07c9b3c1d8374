-- words that the printed texts of this claim need; a program of this session has left out the others; Lean checks them.
import Derived.Test.YtlbcffdjdbjgcaaWN
/-! ### 52. A row that stays read whatever happens to a block (a set of blocks) doesn't lie there -/
namespace Go.Proofs.YtlbcffdjdbjgcaaW.PrintWords
open Go.RowKit
namespace Kd
section
variable {α : Type} {d : Kd α} {W : World} {g n : Nat} {S ok : Nat → Prop} {A : Option Addr} {ad : Addr} {xs : List α}
end
end Kd
end Go.Proofs.YtlbcffdjdbjgcaaW.PrintWords
