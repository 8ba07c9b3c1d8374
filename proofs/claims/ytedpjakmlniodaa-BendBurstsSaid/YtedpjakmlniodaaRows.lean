/-
  No cell of these rows narrows 'for every input' (looked for: loops, veiled, ifaces, maps, wideKeys, modest, calm, conditions, laid).
  DERIVED. THE GIVEN ROWS OF THIS SEAT. 4 by the template 'for every input the law returns true; each argument reads behind the call as it read before'; 0 by the template 'total and deterministic' (their statements: YtedpjakmlniodaaTotals.lean).
  GIVEN WITH THE SEED: the statements are not yours to turn. If you find one false, say at which input.
  Laid BY PROGRAM, IN A SANDBOX (cutbox-rows.mjs): the forced cells as the released guide's own fill.sh prints them over the translation e13cc392d7324b6e… (all of the seat's roots in one cut). By AI agents, Wed Nov 11 2026. No macro, syntax, notation, axiom, sorry.
-/
import Derived.Test.YtedpjakmlniodaaChecked
import GoSem.Claim
import GoSem.ClaimJoined
import GoSem.ClaimMapViews
import Derived.JoinedTies
import Derived.KernelRfl
namespace Go.Proofs.Ytedpjakmlniodaa
/- THE CELL 'sum', in the pinned program and in every row, IS THE sha256 OF THE DUMP (.gsa) THAT YtedpjakmlniodaaProg.lean LOADS. Nothing in Lean hashes anything: it is a label: what it is worth is what the hold of that sum in a sandbox is worth. -/
noncomputable def Try.pinned : Pinned := { name := "ytedpjakmlniodaa", sum := "e13cc392d7324b6e835424a198d518ca2c9ad3cf5c414b6ed553745059dadf65", checked := Try.checked }
namespace Rows
def none {H : Type} : Left H := { results := [], args := [] }

/-- 'withylaw04.BendUnlike': WHATEVER THE INPUT: true; the input reads as it did. -/
def bendUnlikeSpec : ChangeSpec := { name := "bendUnlike", fn := fun _ => fun
  | [d1, d2] => { results := [.lit (.bool true)], args := [d1, d2] }
  | _ => none }
def bendUnlikeRow : OpenClaim := { program := "ytedpjakmlniodaa", sum := "e13cc392d7324b6e835424a198d518ca2c9ad3cf5c414b6ed553745059dadf65", func := "withy/withylaw04.BendUnlike", spec := "bendUnlike", apart := false }
def BendUnlikeSaid : Prop := bendUnlikeRow.holds Try.pinned (OpenSpec.ofChange bendUnlikeSpec)

/-- ITS FALSE NEIGHBOUR: 'it returns false'. Refute it at one input. -/
def bendUnlikeWrong : ChangeSpec := { name := "bendUnlike", fn := fun _ => fun
  | [d1, d2] => { results := [.lit (.bool false)], args := [d1, d2] }
  | _ => none }
def BendUnlikeWrongFalsely : Prop := bendUnlikeRow.holds Try.pinned (OpenSpec.ofChange bendUnlikeWrong)

/-- 'withylaw04.BendApart': WHATEVER THE INPUT: true; the input reads as it did. -/
def bendApartSpec : ChangeSpec := { name := "bendApart", fn := fun _ => fun
  | [d1, d2] => { results := [.lit (.bool true)], args := [d1, d2] }
  | _ => none }
def bendApartRow : OpenClaim := { program := "ytedpjakmlniodaa", sum := "e13cc392d7324b6e835424a198d518ca2c9ad3cf5c414b6ed553745059dadf65", func := "withy/withylaw04.BendApart", spec := "bendApart", apart := false }
def BendApartSaid : Prop := bendApartRow.holds Try.pinned (OpenSpec.ofChange bendApartSpec)

/-- ITS FALSE NEIGHBOUR: 'it returns false'. Refute it at one input. -/
def bendApartWrong : ChangeSpec := { name := "bendApart", fn := fun _ => fun
  | [d1, d2] => { results := [.lit (.bool false)], args := [d1, d2] }
  | _ => none }
def BendApartWrongFalsely : Prop := bendApartRow.holds Try.pinned (OpenSpec.ofChange bendApartWrong)

/-- 'withylaw04.BendSpoils': WHATEVER THE INPUT: true; the input reads as it did. -/
def bendSpoilsSpec : ChangeSpec := { name := "bendSpoils", fn := fun _ => fun
  | [d1, d2, d3] => { results := [.lit (.bool true)], args := [d1, d2, d3] }
  | _ => none }
def bendSpoilsRow : OpenClaim := { program := "ytedpjakmlniodaa", sum := "e13cc392d7324b6e835424a198d518ca2c9ad3cf5c414b6ed553745059dadf65", func := "withy/withylaw04.BendSpoils", spec := "bendSpoils", apart := false }
def BendSpoilsSaid : Prop := bendSpoilsRow.holds Try.pinned (OpenSpec.ofChange bendSpoilsSpec)

/-- ITS FALSE NEIGHBOUR: 'it returns false'. Refute it at one input. -/
def bendSpoilsWrong : ChangeSpec := { name := "bendSpoils", fn := fun _ => fun
  | [d1, d2, d3] => { results := [.lit (.bool false)], args := [d1, d2, d3] }
  | _ => none }
def BendSpoilsWrongFalsely : Prop := bendSpoilsRow.holds Try.pinned (OpenSpec.ofChange bendSpoilsWrong)

/-- 'withylaw04.BendBursts': WHATEVER THE INPUT: true; the input reads as it did. -/
def bendBurstsSpec : ChangeSpec := { name := "bendBursts", fn := fun _ => fun
  | [d1, d2, d3] => { results := [.lit (.bool true)], args := [d1, d2, d3] }
  | _ => none }
def bendBurstsRow : OpenClaim := { program := "ytedpjakmlniodaa", sum := "e13cc392d7324b6e835424a198d518ca2c9ad3cf5c414b6ed553745059dadf65", func := "withy/withylaw04.BendBursts", spec := "bendBursts", apart := false }
def BendBurstsSaid : Prop := bendBurstsRow.holds Try.pinned (OpenSpec.ofChange bendBurstsSpec)

/-- ITS FALSE NEIGHBOUR: 'it returns false'. Refute it at one input. -/
def bendBurstsWrong : ChangeSpec := { name := "bendBursts", fn := fun _ => fun
  | [d1, d2, d3] => { results := [.lit (.bool false)], args := [d1, d2, d3] }
  | _ => none }
def BendBurstsWrongFalsely : Prop := bendBurstsRow.holds Try.pinned (OpenSpec.ofChange bendBurstsWrong)

/- THE SECOND FORM. 'bulk': how many values and letters a reading holds, each counted each time it is reached (what is shared counts as often as it is met; a slice's spare places count too). A statement '..UptoSaid' is the law's where the arguments, and the package variables that the reading takes, are together of bulk at most 1048576: NARROWER than '..Said'. Prove '..Said' where nothing that the law and all that it calls make is longer than what came in: it says more and counts as full. Else prove '..UptoSaid'. A law counts once. -/
mutual
def uptoBulk {H : Type} : DataW H → Nat
  | .lit (.string bytes) => bytes.length + 1
  | .lit _ => 1
  | .nil => 1
  | .ptr d => uptoBulk d + 1
  | .slice elems spare => uptoBulkAll elems + uptoBulkAll spare + 1
  | .agg parts => uptoBulkAll parts + 1
  | .iface _ d => uptoBulk d + 1
  | .map entries => uptoBulkEntries entries + 1
  | .held _ => 1
def uptoBulkAll {H : Type} : List (DataW H) → Nat
  | [] => 0
  | d :: r => uptoBulk d + uptoBulkAll r
def uptoBulkEntries {H : Type} : List (Lit × DataW H) → Nat
  | [] => 0
  | x :: r => uptoBulkEntry x + uptoBulkEntries r
def uptoBulkEntry {H : Type} : Lit × DataW H → Nat
  | (.string bytes, d) => bytes.length + uptoBulk d + 1
  | (_, d) => uptoBulk d + 1
 end
def uptoSmall : (H : Type) → List (DataW H) → Bool := fun _ ds => decide (uptoBulkAll ds ≤ 1048576)
def OpenSpec.upto (s : _root_.Go.ChangeSpec) : _root_.Go.OpenSpec := { _root_.Go.OpenSpec.ofChange s with cond := some uptoSmall }

/-- 'withylaw04.BendUnlike', WHERE WHAT IT READS IS OF BULK AT MOST 1048576: true; the input reads as it did. -/
def bendUnlikeUptoRow : OpenClaim := { program := "ytedpjakmlniodaa", sum := "e13cc392d7324b6e835424a198d518ca2c9ad3cf5c414b6ed553745059dadf65", func := "withy/withylaw04.BendUnlike", spec := "bendUnlike", apart := false, narrowed := true }
def BendUnlikeUptoSaid : Prop := bendUnlikeUptoRow.holds Try.pinned (OpenSpec.upto bendUnlikeSpec)

/-- 'withylaw04.BendApart', WHERE WHAT IT READS IS OF BULK AT MOST 1048576: true; the input reads as it did. -/
def bendApartUptoRow : OpenClaim := { program := "ytedpjakmlniodaa", sum := "e13cc392d7324b6e835424a198d518ca2c9ad3cf5c414b6ed553745059dadf65", func := "withy/withylaw04.BendApart", spec := "bendApart", apart := false, narrowed := true }
def BendApartUptoSaid : Prop := bendApartUptoRow.holds Try.pinned (OpenSpec.upto bendApartSpec)

/-- 'withylaw04.BendSpoils', WHERE WHAT IT READS IS OF BULK AT MOST 1048576: true; the input reads as it did. -/
def bendSpoilsUptoRow : OpenClaim := { program := "ytedpjakmlniodaa", sum := "e13cc392d7324b6e835424a198d518ca2c9ad3cf5c414b6ed553745059dadf65", func := "withy/withylaw04.BendSpoils", spec := "bendSpoils", apart := false, narrowed := true }
def BendSpoilsUptoSaid : Prop := bendSpoilsUptoRow.holds Try.pinned (OpenSpec.upto bendSpoilsSpec)

/-- 'withylaw04.BendBursts', WHERE WHAT IT READS IS OF BULK AT MOST 1048576: true; the input reads as it did. -/
def bendBurstsUptoRow : OpenClaim := { program := "ytedpjakmlniodaa", sum := "e13cc392d7324b6e835424a198d518ca2c9ad3cf5c414b6ed553745059dadf65", func := "withy/withylaw04.BendBursts", spec := "bendBursts", apart := false, narrowed := true }
def BendBurstsUptoSaid : Prop := bendBurstsUptoRow.holds Try.pinned (OpenSpec.upto bendBurstsSpec)

end Rows
end Go.Proofs.Ytedpjakmlniodaa
