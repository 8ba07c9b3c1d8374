/-
  No cell of these rows narrows 'for every input' (looked for: loops, veiled, ifaces, maps, wideKeys, modest, calm, conditions, laid).
  DERIVED. THE GIVEN ROWS OF THIS SEAT. 3 by the template 'for every input the law returns true; each argument reads behind the call as it read before'; 0 by the template 'total and deterministic' (their statements: YtihcdgkhhmkniaaTotals.lean).
  GIVEN WITH THE SEED: the statements are not yours to turn. If you find one false, say at which input.
  Laid BY PROGRAM, IN A SANDBOX (cutbox-rows.mjs): the forced cells as the released guide's own fill.sh prints them over the translation 0c82971145144ca0… (all of the seat's roots in one cut). By AI agents, Wed Nov 11 2026. No macro, syntax, notation, axiom, sorry.
-/
import Derived.Test.YtihcdgkhhmkniaaChecked
import GoSem.Claim
import GoSem.ClaimJoined
import GoSem.ClaimMapViews
import Derived.JoinedTies
import Derived.KernelRfl
namespace Go.Proofs.Ytihcdgkhhmkniaa
/- THE CELL 'sum', in the pinned program and in every row, IS THE sha256 OF THE DUMP (.gsa) THAT YtihcdgkhhmkniaaProg.lean LOADS. Nothing in Lean hashes anything: it is a label: what it is worth is what the hold of that sum in a sandbox is worth. -/
noncomputable def Try.pinned : Pinned := { name := "ytihcdgkhhmkniaa", sum := "0c82971145144ca03a8162862e5a4ca6ffcd5e8614ef51a98374b90e69e1f86d", checked := Try.checked }
namespace Rows
def none {H : Type} : Left H := { results := [], args := [] }

/-- 'withylaw12.EidAfter': WHATEVER THE INPUT: true; the input reads as it did. -/
def eidAfterSpec : ChangeSpec := { name := "eidAfter", fn := fun _ => fun
  | [d1, d2, d3] => { results := [.lit (.bool true)], args := [d1, d2, d3] }
  | _ => none }
def eidAfterRow : OpenClaim := { program := "ytihcdgkhhmkniaa", sum := "0c82971145144ca03a8162862e5a4ca6ffcd5e8614ef51a98374b90e69e1f86d", func := "withy/withylaw12.EidAfter", spec := "eidAfter", apart := false }
def EidAfterSaid : Prop := eidAfterRow.holds Try.pinned (OpenSpec.ofChange eidAfterSpec)

/-- ITS FALSE NEIGHBOUR: 'it returns false'. Refute it at one input. -/
def eidAfterWrong : ChangeSpec := { name := "eidAfter", fn := fun _ => fun
  | [d1, d2, d3] => { results := [.lit (.bool false)], args := [d1, d2, d3] }
  | _ => none }
def EidAfterWrongFalsely : Prop := eidAfterRow.holds Try.pinned (OpenSpec.ofChange eidAfterWrong)

/-- 'withylaw12.EidMax': WHATEVER THE INPUT: true; the input reads as it did. -/
def eidMaxSpec : ChangeSpec := { name := "eidMax", fn := fun _ => fun
  | [d] => { results := [.lit (.bool true)], args := [d] }
  | _ => none }
def eidMaxRow : OpenClaim := { program := "ytihcdgkhhmkniaa", sum := "0c82971145144ca03a8162862e5a4ca6ffcd5e8614ef51a98374b90e69e1f86d", func := "withy/withylaw12.EidMax", spec := "eidMax", apart := false }
def EidMaxSaid : Prop := eidMaxRow.holds Try.pinned (OpenSpec.ofChange eidMaxSpec)

/-- ITS FALSE NEIGHBOUR: 'it returns false'. Refute it at one input. -/
def eidMaxWrong : ChangeSpec := { name := "eidMax", fn := fun _ => fun
  | [d] => { results := [.lit (.bool false)], args := [d] }
  | _ => none }
def EidMaxWrongFalsely : Prop := eidMaxRow.holds Try.pinned (OpenSpec.ofChange eidMaxWrong)

/-- 'withylaw12.EidOrders': WHATEVER THE INPUT: true; the input reads as it did. -/
def eidOrdersSpec : ChangeSpec := { name := "eidOrders", fn := fun _ => fun
  | [d1, d2, d3] => { results := [.lit (.bool true)], args := [d1, d2, d3] }
  | _ => none }
def eidOrdersRow : OpenClaim := { program := "ytihcdgkhhmkniaa", sum := "0c82971145144ca03a8162862e5a4ca6ffcd5e8614ef51a98374b90e69e1f86d", func := "withy/withylaw12.EidOrders", spec := "eidOrders", apart := false }
def EidOrdersSaid : Prop := eidOrdersRow.holds Try.pinned (OpenSpec.ofChange eidOrdersSpec)

/-- ITS FALSE NEIGHBOUR: 'it returns false'. Refute it at one input. -/
def eidOrdersWrong : ChangeSpec := { name := "eidOrders", fn := fun _ => fun
  | [d1, d2, d3] => { results := [.lit (.bool false)], args := [d1, d2, d3] }
  | _ => none }
def EidOrdersWrongFalsely : Prop := eidOrdersRow.holds Try.pinned (OpenSpec.ofChange eidOrdersWrong)

/- THE SECOND FORM. 'bulk': how many values and letters a reading holds, each counted each time it is reached (what is shared counts as often as it is met; a slice's spare places count too). A statement '..UptoSaid' is the law's where the arguments, and the package variables that the reading takes, are together of bulk at most 1048576: NARROWER than '..Said'. Prove '..Said' where nothing that the law and all that it calls make is longer than what came in: it says more and counts as full. Else prove '..UptoSaid'. A law counts once. -/
mutual
def uptoBulk {H : Type} : DataW H → Nat
  | .lit (.string bytes) => bytes.length + 1
  | .lit _ => 1
  | .nil => 1
  | .ptr d => uptoBulk d + 1
  | .slice elems spare => uptoBulkAll elems + uptoBulkAll spare + 1
  | .agg parts => uptoBulkAll parts + 1
  | .iface _ d => uptoBulk d + 1
  | .map entries => uptoBulkEntries entries + 1
  | .held _ => 1
def uptoBulkAll {H : Type} : List (DataW H) → Nat
  | [] => 0
  | d :: r => uptoBulk d + uptoBulkAll r
def uptoBulkEntries {H : Type} : List (Lit × DataW H) → Nat
  | [] => 0
  | x :: r => uptoBulkEntry x + uptoBulkEntries r
def uptoBulkEntry {H : Type} : Lit × DataW H → Nat
  | (.string bytes, d) => bytes.length + uptoBulk d + 1
  | (_, d) => uptoBulk d + 1
 end
def uptoSmall : (H : Type) → List (DataW H) → Bool := fun _ ds => decide (uptoBulkAll ds ≤ 1048576)
def OpenSpec.upto (s : _root_.Go.ChangeSpec) : _root_.Go.OpenSpec := { _root_.Go.OpenSpec.ofChange s with cond := some uptoSmall }

/-- 'withylaw12.EidAfter', WHERE WHAT IT READS IS OF BULK AT MOST 1048576: true; the input reads as it did. -/
def eidAfterUptoRow : OpenClaim := { program := "ytihcdgkhhmkniaa", sum := "0c82971145144ca03a8162862e5a4ca6ffcd5e8614ef51a98374b90e69e1f86d", func := "withy/withylaw12.EidAfter", spec := "eidAfter", apart := false, narrowed := true }
def EidAfterUptoSaid : Prop := eidAfterUptoRow.holds Try.pinned (OpenSpec.upto eidAfterSpec)

/-- 'withylaw12.EidMax', WHERE WHAT IT READS IS OF BULK AT MOST 1048576: true; the input reads as it did. -/
def eidMaxUptoRow : OpenClaim := { program := "ytihcdgkhhmkniaa", sum := "0c82971145144ca03a8162862e5a4ca6ffcd5e8614ef51a98374b90e69e1f86d", func := "withy/withylaw12.EidMax", spec := "eidMax", apart := false, narrowed := true }
def EidMaxUptoSaid : Prop := eidMaxUptoRow.holds Try.pinned (OpenSpec.upto eidMaxSpec)

/-- 'withylaw12.EidOrders', WHERE WHAT IT READS IS OF BULK AT MOST 1048576: true; the input reads as it did. -/
def eidOrdersUptoRow : OpenClaim := { program := "ytihcdgkhhmkniaa", sum := "0c82971145144ca03a8162862e5a4ca6ffcd5e8614ef51a98374b90e69e1f86d", func := "withy/withylaw12.EidOrders", spec := "eidOrders", apart := false, narrowed := true }
def EidOrdersUptoSaid : Prop := eidOrdersUptoRow.holds Try.pinned (OpenSpec.upto eidOrdersSpec)

end Rows
end Go.Proofs.Ytihcdgkhhmkniaa
