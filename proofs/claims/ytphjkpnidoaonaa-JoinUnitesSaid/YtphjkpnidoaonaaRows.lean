/-
  No cell of these rows narrows 'for every input' (looked for: loops, veiled, ifaces, maps, wideKeys, modest, calm, conditions, laid).
  DERIVED. THE GIVEN ROWS OF THIS SEAT. 4 by the template 'for every input the law returns true; each argument reads behind the call as it read before'; 0 by the template 'total and deterministic' (their statements: YtphjkpnidoaonaaTotals.lean).
  GIVEN WITH THE SEED: the statements are not yours to turn. If you find one false, say at which input.
  Laid BY PROGRAM, IN A SANDBOX (cutbox-rows.mjs): the forced cells as the released guide's own fill.sh prints them over the translation 0854d20c50efbb13… (all of the seat's roots in one cut). By AI agents, Wed Nov 11 2026. No macro, syntax, notation, axiom, sorry.
-/
import Derived.Test.YtphjkpnidoaonaaChecked
import GoSem.Claim
import GoSem.ClaimJoined
import GoSem.ClaimMapViews
import Derived.JoinedTies
import Derived.KernelRfl
namespace Go.Proofs.Ytphjkpnidoaonaa
/- THE CELL 'sum', in the pinned program and in every row, IS THE sha256 OF THE DUMP (.gsa) THAT YtphjkpnidoaonaaProg.lean LOADS. Nothing in Lean hashes anything: it is a label: what it is worth is what the hold of that sum in a sandbox is worth. -/
noncomputable def Try.pinned : Pinned := { name := "ytphjkpnidoaonaa", sum := "0854d20c50efbb13340e87c201dc4381410239619dae652b07e462e2a8d8af33", checked := Try.checked }
namespace Rows
def none {H : Type} : Left H := { results := [], args := [] }

/-- 'withylaw06.JoinOrder': WHATEVER THE INPUT: true; the input reads as it did. -/
def joinOrderSpec : ChangeSpec := { name := "joinOrder", fn := fun _ => fun
  | [d1, d2] => { results := [.lit (.bool true)], args := [d1, d2] }
  | _ => none }
def joinOrderRow : OpenClaim := { program := "ytphjkpnidoaonaa", sum := "0854d20c50efbb13340e87c201dc4381410239619dae652b07e462e2a8d8af33", func := "withy/withylaw06.JoinOrder", spec := "joinOrder", apart := false }
def JoinOrderSaid : Prop := joinOrderRow.holds Try.pinned (OpenSpec.ofChange joinOrderSpec)

/-- ITS FALSE NEIGHBOUR: 'it returns false'. Refute it at one input. -/
def joinOrderWrong : ChangeSpec := { name := "joinOrder", fn := fun _ => fun
  | [d1, d2] => { results := [.lit (.bool false)], args := [d1, d2] }
  | _ => none }
def JoinOrderWrongFalsely : Prop := joinOrderRow.holds Try.pinned (OpenSpec.ofChange joinOrderWrong)

/-- 'withylaw06.JoinCounts': WHATEVER THE INPUT: true; the input reads as it did. -/
def joinCountsSpec : ChangeSpec := { name := "joinCounts", fn := fun _ => fun
  | [d1, d2] => { results := [.lit (.bool true)], args := [d1, d2] }
  | _ => none }
def joinCountsRow : OpenClaim := { program := "ytphjkpnidoaonaa", sum := "0854d20c50efbb13340e87c201dc4381410239619dae652b07e462e2a8d8af33", func := "withy/withylaw06.JoinCounts", spec := "joinCounts", apart := false }
def JoinCountsSaid : Prop := joinCountsRow.holds Try.pinned (OpenSpec.ofChange joinCountsSpec)

/-- ITS FALSE NEIGHBOUR: 'it returns false'. Refute it at one input. -/
def joinCountsWrong : ChangeSpec := { name := "joinCounts", fn := fun _ => fun
  | [d1, d2] => { results := [.lit (.bool false)], args := [d1, d2] }
  | _ => none }
def JoinCountsWrongFalsely : Prop := joinCountsRow.holds Try.pinned (OpenSpec.ofChange joinCountsWrong)

/-- 'withylaw06.JoinUnites': WHATEVER THE INPUT: true; the input reads as it did. -/
def joinUnitesSpec : ChangeSpec := { name := "joinUnites", fn := fun _ => fun
  | [d1, d2, d3] => { results := [.lit (.bool true)], args := [d1, d2, d3] }
  | _ => none }
def joinUnitesRow : OpenClaim := { program := "ytphjkpnidoaonaa", sum := "0854d20c50efbb13340e87c201dc4381410239619dae652b07e462e2a8d8af33", func := "withy/withylaw06.JoinUnites", spec := "joinUnites", apart := false }
def JoinUnitesSaid : Prop := joinUnitesRow.holds Try.pinned (OpenSpec.ofChange joinUnitesSpec)

/-- ITS FALSE NEIGHBOUR: 'it returns false'. Refute it at one input. -/
def joinUnitesWrong : ChangeSpec := { name := "joinUnites", fn := fun _ => fun
  | [d1, d2, d3] => { results := [.lit (.bool false)], args := [d1, d2, d3] }
  | _ => none }
def JoinUnitesWrongFalsely : Prop := joinUnitesRow.holds Try.pinned (OpenSpec.ofChange joinUnitesWrong)

/-- 'withylaw06.JoinNobody': WHATEVER THE INPUT: true; the input reads as it did. -/
def joinNobodySpec : ChangeSpec := { name := "joinNobody", fn := fun _ => fun
  | [d1, d2] => { results := [.lit (.bool true)], args := [d1, d2] }
  | _ => none }
def joinNobodyRow : OpenClaim := { program := "ytphjkpnidoaonaa", sum := "0854d20c50efbb13340e87c201dc4381410239619dae652b07e462e2a8d8af33", func := "withy/withylaw06.JoinNobody", spec := "joinNobody", apart := false }
def JoinNobodySaid : Prop := joinNobodyRow.holds Try.pinned (OpenSpec.ofChange joinNobodySpec)

/-- ITS FALSE NEIGHBOUR: 'it returns false'. Refute it at one input. -/
def joinNobodyWrong : ChangeSpec := { name := "joinNobody", fn := fun _ => fun
  | [d1, d2] => { results := [.lit (.bool false)], args := [d1, d2] }
  | _ => none }
def JoinNobodyWrongFalsely : Prop := joinNobodyRow.holds Try.pinned (OpenSpec.ofChange joinNobodyWrong)

/- THE SECOND FORM. 'bulk': how many values and letters a reading holds, each counted each time it is reached (what is shared counts as often as it is met; a slice's spare places count too). A statement '..UptoSaid' is the law's where the arguments, and the package variables that the reading takes, are together of bulk at most 1048576: NARROWER than '..Said'. Prove '..Said' where nothing that the law and all that it calls make is longer than what came in: it says more and counts as full. Else prove '..UptoSaid'. A law counts once. -/
mutual
def uptoBulk {H : Type} : DataW H → Nat
  | .lit (.string bytes) => bytes.length + 1
  | .lit _ => 1
  | .nil => 1
  | .ptr d => uptoBulk d + 1
  | .slice elems spare => uptoBulkAll elems + uptoBulkAll spare + 1
  | .agg parts => uptoBulkAll parts + 1
  | .iface _ d => uptoBulk d + 1
  | .map entries => uptoBulkEntries entries + 1
  | .held _ => 1
def uptoBulkAll {H : Type} : List (DataW H) → Nat
  | [] => 0
  | d :: r => uptoBulk d + uptoBulkAll r
def uptoBulkEntries {H : Type} : List (Lit × DataW H) → Nat
  | [] => 0
  | x :: r => uptoBulkEntry x + uptoBulkEntries r
def uptoBulkEntry {H : Type} : Lit × DataW H → Nat
  | (.string bytes, d) => bytes.length + uptoBulk d + 1
  | (_, d) => uptoBulk d + 1
 end
def uptoSmall : (H : Type) → List (DataW H) → Bool := fun _ ds => decide (uptoBulkAll ds ≤ 1048576)
def OpenSpec.upto (s : _root_.Go.ChangeSpec) : _root_.Go.OpenSpec := { _root_.Go.OpenSpec.ofChange s with cond := some uptoSmall }

/-- 'withylaw06.JoinOrder', WHERE WHAT IT READS IS OF BULK AT MOST 1048576: true; the input reads as it did. -/
def joinOrderUptoRow : OpenClaim := { program := "ytphjkpnidoaonaa", sum := "0854d20c50efbb13340e87c201dc4381410239619dae652b07e462e2a8d8af33", func := "withy/withylaw06.JoinOrder", spec := "joinOrder", apart := false, narrowed := true }
def JoinOrderUptoSaid : Prop := joinOrderUptoRow.holds Try.pinned (OpenSpec.upto joinOrderSpec)

/-- 'withylaw06.JoinCounts', WHERE WHAT IT READS IS OF BULK AT MOST 1048576: true; the input reads as it did. -/
def joinCountsUptoRow : OpenClaim := { program := "ytphjkpnidoaonaa", sum := "0854d20c50efbb13340e87c201dc4381410239619dae652b07e462e2a8d8af33", func := "withy/withylaw06.JoinCounts", spec := "joinCounts", apart := false, narrowed := true }
def JoinCountsUptoSaid : Prop := joinCountsUptoRow.holds Try.pinned (OpenSpec.upto joinCountsSpec)

/-- 'withylaw06.JoinUnites', WHERE WHAT IT READS IS OF BULK AT MOST 1048576: true; the input reads as it did. -/
def joinUnitesUptoRow : OpenClaim := { program := "ytphjkpnidoaonaa", sum := "0854d20c50efbb13340e87c201dc4381410239619dae652b07e462e2a8d8af33", func := "withy/withylaw06.JoinUnites", spec := "joinUnites", apart := false, narrowed := true }
def JoinUnitesUptoSaid : Prop := joinUnitesUptoRow.holds Try.pinned (OpenSpec.upto joinUnitesSpec)

/-- 'withylaw06.JoinNobody', WHERE WHAT IT READS IS OF BULK AT MOST 1048576: true; the input reads as it did. -/
def joinNobodyUptoRow : OpenClaim := { program := "ytphjkpnidoaonaa", sum := "0854d20c50efbb13340e87c201dc4381410239619dae652b07e462e2a8d8af33", func := "withy/withylaw06.JoinNobody", spec := "joinNobody", apart := false, narrowed := true }
def JoinNobodyUptoSaid : Prop := joinNobodyUptoRow.holds Try.pinned (OpenSpec.upto joinNobodySpec)

end Rows
end Go.Proofs.Ytphjkpnidoaonaa
