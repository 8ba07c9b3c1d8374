/-
  No cell of these rows narrows 'for every input' (looked for: loops, veiled, ifaces, maps, wideKeys, modest, calm, conditions, laid).
  DERIVED. THE GIVEN ROWS OF THIS SEAT. 5 by the template 'for every input the law returns true; each argument reads behind the call as it read before'; 0 by the template 'total and deterministic' (their statements: YtdjbpnpfgabdjaaTotals.lean).
  GIVEN WITH THE SEED: the statements are not yours to turn. If you find one false, say at which input.
  Laid BY PROGRAM, IN A SANDBOX (cutbox-rows.mjs): the forced cells as the released guide's own fill.sh prints them over the translation 38e1ca48e21d7a90… (all of the seat's roots in one cut). By AI agents, Wed Nov 11 2026. No macro, syntax, notation, axiom, sorry.
-/
import Derived.Test.YtdjbpnpfgabdjaaChecked
import GoSem.Claim
import GoSem.ClaimJoined
import GoSem.ClaimMapViews
import Derived.JoinedTies
import Derived.KernelRfl
namespace Go.Proofs.Ytdjbpnpfgabdjaa
/- THE CELL 'sum', in the pinned program and in every row, IS THE sha256 OF THE DUMP (.gsa) THAT YtdjbpnpfgabdjaaProg.lean LOADS. Nothing in Lean hashes anything: it is a label: what it is worth is what the hold of that sum in a sandbox is worth. -/
noncomputable def Try.pinned : Pinned := { name := "ytdjbpnpfgabdjaa", sum := "38e1ca48e21d7a908629f52f6c5b05d9b8109dfa2c91ae24ce97f575732d9978", checked := Try.checked }
namespace Rows
def none {H : Type} : Left H := { results := [], args := [] }

/-- 'withylaw16.HandHears': WHATEVER THE INPUT: true; the input reads as it did. -/
def handHearsSpec : ChangeSpec := { name := "handHears", fn := fun _ => fun
  | [d1, d2, d3] => { results := [.lit (.bool true)], args := [d1, d2, d3] }
  | _ => none }
def handHearsRow : OpenClaim := { program := "ytdjbpnpfgabdjaa", sum := "38e1ca48e21d7a908629f52f6c5b05d9b8109dfa2c91ae24ce97f575732d9978", func := "withy/withylaw16.HandHears", spec := "handHears", apart := false }
def HandHearsSaid : Prop := handHearsRow.holds Try.pinned (OpenSpec.ofChange handHearsSpec)

/-- ITS FALSE NEIGHBOUR: 'it returns false'. Refute it at one input. -/
def handHearsWrong : ChangeSpec := { name := "handHears", fn := fun _ => fun
  | [d1, d2, d3] => { results := [.lit (.bool false)], args := [d1, d2, d3] }
  | _ => none }
def HandHearsWrongFalsely : Prop := handHearsRow.holds Try.pinned (OpenSpec.ofChange handHearsWrong)

/-- 'withylaw16.HandNew': WHATEVER THE INPUT: true; the input reads as it did. -/
def handNewSpec : ChangeSpec := { name := "handNew", fn := fun _ => fun
  | [d1, d2, d3] => { results := [.lit (.bool true)], args := [d1, d2, d3] }
  | _ => none }
def handNewRow : OpenClaim := { program := "ytdjbpnpfgabdjaa", sum := "38e1ca48e21d7a908629f52f6c5b05d9b8109dfa2c91ae24ce97f575732d9978", func := "withy/withylaw16.HandNew", spec := "handNew", apart := false }
def HandNewSaid : Prop := handNewRow.holds Try.pinned (OpenSpec.ofChange handNewSpec)

/-- ITS FALSE NEIGHBOUR: 'it returns false'. Refute it at one input. -/
def handNewWrong : ChangeSpec := { name := "handNew", fn := fun _ => fun
  | [d1, d2, d3] => { results := [.lit (.bool false)], args := [d1, d2, d3] }
  | _ => none }
def HandNewWrongFalsely : Prop := handNewRow.holds Try.pinned (OpenSpec.ofChange handNewWrong)

/-- 'withylaw16.HandOver': WHATEVER THE INPUT: true; the input reads as it did. -/
def handOverSpec : ChangeSpec := { name := "handOver", fn := fun _ => fun
  | [d1, d2] => { results := [.lit (.bool true)], args := [d1, d2] }
  | _ => none }
def handOverRow : OpenClaim := { program := "ytdjbpnpfgabdjaa", sum := "38e1ca48e21d7a908629f52f6c5b05d9b8109dfa2c91ae24ce97f575732d9978", func := "withy/withylaw16.HandOver", spec := "handOver", apart := false }
def HandOverSaid : Prop := handOverRow.holds Try.pinned (OpenSpec.ofChange handOverSpec)

/-- ITS FALSE NEIGHBOUR: 'it returns false'. Refute it at one input. -/
def handOverWrong : ChangeSpec := { name := "handOver", fn := fun _ => fun
  | [d1, d2] => { results := [.lit (.bool false)], args := [d1, d2] }
  | _ => none }
def HandOverWrongFalsely : Prop := handOverRow.holds Try.pinned (OpenSpec.ofChange handOverWrong)

/-- 'withylaw16.HandMeets': WHATEVER THE INPUT: true; the input reads as it did. -/
def handMeetsSpec : ChangeSpec := { name := "handMeets", fn := fun _ => fun
  | [d1, d2] => { results := [.lit (.bool true)], args := [d1, d2] }
  | _ => none }
def handMeetsRow : OpenClaim := { program := "ytdjbpnpfgabdjaa", sum := "38e1ca48e21d7a908629f52f6c5b05d9b8109dfa2c91ae24ce97f575732d9978", func := "withy/withylaw16.HandMeets", spec := "handMeets", apart := false }
def HandMeetsSaid : Prop := handMeetsRow.holds Try.pinned (OpenSpec.ofChange handMeetsSpec)

/-- ITS FALSE NEIGHBOUR: 'it returns false'. Refute it at one input. -/
def handMeetsWrong : ChangeSpec := { name := "handMeets", fn := fun _ => fun
  | [d1, d2] => { results := [.lit (.bool false)], args := [d1, d2] }
  | _ => none }
def HandMeetsWrongFalsely : Prop := handMeetsRow.holds Try.pinned (OpenSpec.ofChange handMeetsWrong)

/-- 'withylaw16.HandAgrees': WHATEVER THE INPUT: true; the input reads as it did. -/
def handAgreesSpec : ChangeSpec := { name := "handAgrees", fn := fun _ => fun
  | [d1, d2] => { results := [.lit (.bool true)], args := [d1, d2] }
  | _ => none }
def handAgreesRow : OpenClaim := { program := "ytdjbpnpfgabdjaa", sum := "38e1ca48e21d7a908629f52f6c5b05d9b8109dfa2c91ae24ce97f575732d9978", func := "withy/withylaw16.HandAgrees", spec := "handAgrees", apart := false }
def HandAgreesSaid : Prop := handAgreesRow.holds Try.pinned (OpenSpec.ofChange handAgreesSpec)

/-- ITS FALSE NEIGHBOUR: 'it returns false'. Refute it at one input. -/
def handAgreesWrong : ChangeSpec := { name := "handAgrees", fn := fun _ => fun
  | [d1, d2] => { results := [.lit (.bool false)], args := [d1, d2] }
  | _ => none }
def HandAgreesWrongFalsely : Prop := handAgreesRow.holds Try.pinned (OpenSpec.ofChange handAgreesWrong)

/- THE SECOND FORM. 'bulk': how many values and letters a reading holds, each counted each time it is reached (what is shared counts as often as it is met; a slice's spare places count too). A statement '..UptoSaid' is the law's where the arguments, and the package variables that the reading takes, are together of bulk at most 1048576: NARROWER than '..Said'. Prove '..Said' where nothing that the law and all that it calls make is longer than what came in: it says more and counts as full. Else prove '..UptoSaid'. A law counts once. -/
mutual
def uptoBulk {H : Type} : DataW H → Nat
  | .lit (.string bytes) => bytes.length + 1
  | .lit _ => 1
  | .nil => 1
  | .ptr d => uptoBulk d + 1
  | .slice elems spare => uptoBulkAll elems + uptoBulkAll spare + 1
  | .agg parts => uptoBulkAll parts + 1
  | .iface _ d => uptoBulk d + 1
  | .map entries => uptoBulkEntries entries + 1
  | .held _ => 1
def uptoBulkAll {H : Type} : List (DataW H) → Nat
  | [] => 0
  | d :: r => uptoBulk d + uptoBulkAll r
def uptoBulkEntries {H : Type} : List (Lit × DataW H) → Nat
  | [] => 0
  | x :: r => uptoBulkEntry x + uptoBulkEntries r
def uptoBulkEntry {H : Type} : Lit × DataW H → Nat
  | (.string bytes, d) => bytes.length + uptoBulk d + 1
  | (_, d) => uptoBulk d + 1
 end
def uptoSmall : (H : Type) → List (DataW H) → Bool := fun _ ds => decide (uptoBulkAll ds ≤ 1048576)
def OpenSpec.upto (s : _root_.Go.ChangeSpec) : _root_.Go.OpenSpec := { _root_.Go.OpenSpec.ofChange s with cond := some uptoSmall }

/-- 'withylaw16.HandHears', WHERE WHAT IT READS IS OF BULK AT MOST 1048576: true; the input reads as it did. -/
def handHearsUptoRow : OpenClaim := { program := "ytdjbpnpfgabdjaa", sum := "38e1ca48e21d7a908629f52f6c5b05d9b8109dfa2c91ae24ce97f575732d9978", func := "withy/withylaw16.HandHears", spec := "handHears", apart := false, narrowed := true }
def HandHearsUptoSaid : Prop := handHearsUptoRow.holds Try.pinned (OpenSpec.upto handHearsSpec)

/-- 'withylaw16.HandNew', WHERE WHAT IT READS IS OF BULK AT MOST 1048576: true; the input reads as it did. -/
def handNewUptoRow : OpenClaim := { program := "ytdjbpnpfgabdjaa", sum := "38e1ca48e21d7a908629f52f6c5b05d9b8109dfa2c91ae24ce97f575732d9978", func := "withy/withylaw16.HandNew", spec := "handNew", apart := false, narrowed := true }
def HandNewUptoSaid : Prop := handNewUptoRow.holds Try.pinned (OpenSpec.upto handNewSpec)

/-- 'withylaw16.HandOver', WHERE WHAT IT READS IS OF BULK AT MOST 1048576: true; the input reads as it did. -/
def handOverUptoRow : OpenClaim := { program := "ytdjbpnpfgabdjaa", sum := "38e1ca48e21d7a908629f52f6c5b05d9b8109dfa2c91ae24ce97f575732d9978", func := "withy/withylaw16.HandOver", spec := "handOver", apart := false, narrowed := true }
def HandOverUptoSaid : Prop := handOverUptoRow.holds Try.pinned (OpenSpec.upto handOverSpec)

/-- 'withylaw16.HandMeets', WHERE WHAT IT READS IS OF BULK AT MOST 1048576: true; the input reads as it did. -/
def handMeetsUptoRow : OpenClaim := { program := "ytdjbpnpfgabdjaa", sum := "38e1ca48e21d7a908629f52f6c5b05d9b8109dfa2c91ae24ce97f575732d9978", func := "withy/withylaw16.HandMeets", spec := "handMeets", apart := false, narrowed := true }
def HandMeetsUptoSaid : Prop := handMeetsUptoRow.holds Try.pinned (OpenSpec.upto handMeetsSpec)

/-- 'withylaw16.HandAgrees', WHERE WHAT IT READS IS OF BULK AT MOST 1048576: true; the input reads as it did. -/
def handAgreesUptoRow : OpenClaim := { program := "ytdjbpnpfgabdjaa", sum := "38e1ca48e21d7a908629f52f6c5b05d9b8109dfa2c91ae24ce97f575732d9978", func := "withy/withylaw16.HandAgrees", spec := "handAgrees", apart := false, narrowed := true }
def HandAgreesUptoSaid : Prop := handAgreesUptoRow.holds Try.pinned (OpenSpec.upto handAgreesSpec)

end Rows
end Go.Proofs.Ytdjbpnpfgabdjaa
