/-
  No cell of these rows narrows 'for every input' (looked for: loops, veiled, ifaces, maps, wideKeys, modest, calm, conditions, laid).
  DERIVED. THE GIVEN ROWS OF THIS SEAT. 4 by the template 'for every input the law returns true; each argument reads behind the call as it read before'; 0 by the template 'total and deterministic' (their statements: YtlbcffdjdbjgcaaTotals.lean).
  GIVEN WITH THE SEED: the statements are not yours to turn. If you find one false, say at which input.
  Laid BY PROGRAM, IN A SANDBOX (cutbox-rows.mjs): the forced cells as the released guide's own fill.sh prints them over the translation 19d6b2592899a768… (all of the seat's roots in one cut). By AI agents, Wed Nov 11 2026. No macro, syntax, notation, axiom, sorry.
-/
import Derived.Test.YtlbcffdjdbjgcaaChecked
import GoSem.Claim
import GoSem.ClaimJoined
import GoSem.ClaimMapViews
import Derived.JoinedTies
import Derived.KernelRfl
namespace Go.Proofs.Ytlbcffdjdbjgcaa
/- THE CELL 'sum', in the pinned program and in every row, IS THE sha256 OF THE DUMP (.gsa) THAT YtlbcffdjdbjgcaaProg.lean LOADS. Nothing in Lean hashes anything: it is a label: what it is worth is what the hold of that sum in a sandbox is worth. -/
noncomputable def Try.pinned : Pinned := { name := "ytlbcffdjdbjgcaa", sum := "19d6b2592899a7682596575950ea72764c7bf40be568e0bb4955cef74db6d403", checked := Try.checked }
namespace Rows
def none {H : Type} : Left H := { results := [], args := [] }

/-- 'withylaw14.SendAcks': WHATEVER THE INPUT: true; the input reads as it did. -/
def sendAcksSpec : ChangeSpec := { name := "sendAcks", fn := fun _ => fun
  | [d1, d2] => { results := [.lit (.bool true)], args := [d1, d2] }
  | _ => none }
def sendAcksRow : OpenClaim := { program := "ytlbcffdjdbjgcaa", sum := "19d6b2592899a7682596575950ea72764c7bf40be568e0bb4955cef74db6d403", func := "withy/withylaw14.SendAcks", spec := "sendAcks", unfollowed := true, recurses := true, apart := false }
def SendAcksSaid : Prop := sendAcksRow.holds Try.pinned (OpenSpec.ofChange sendAcksSpec)

/-- ITS FALSE NEIGHBOUR: 'it returns false'. Refute it at one input. -/
def sendAcksWrong : ChangeSpec := { name := "sendAcks", fn := fun _ => fun
  | [d1, d2] => { results := [.lit (.bool false)], args := [d1, d2] }
  | _ => none }
def SendAcksWrongFalsely : Prop := sendAcksRow.holds Try.pinned (OpenSpec.ofChange sendAcksWrong)

/-- 'withylaw14.SendReady': WHATEVER THE INPUT: true; the input reads as it did. -/
def sendReadySpec : ChangeSpec := { name := "sendReady", fn := fun _ => fun
  | [d1, d2] => { results := [.lit (.bool true)], args := [d1, d2] }
  | _ => none }
def sendReadyRow : OpenClaim := { program := "ytlbcffdjdbjgcaa", sum := "19d6b2592899a7682596575950ea72764c7bf40be568e0bb4955cef74db6d403", func := "withy/withylaw14.SendReady", spec := "sendReady", unfollowed := true, recurses := true, apart := false }
def SendReadySaid : Prop := sendReadyRow.holds Try.pinned (OpenSpec.ofChange sendReadySpec)

/-- ITS FALSE NEIGHBOUR: 'it returns false'. Refute it at one input. -/
def sendReadyWrong : ChangeSpec := { name := "sendReady", fn := fun _ => fun
  | [d1, d2] => { results := [.lit (.bool false)], args := [d1, d2] }
  | _ => none }
def SendReadyWrongFalsely : Prop := sendReadyRow.holds Try.pinned (OpenSpec.ofChange sendReadyWrong)

/-- 'withylaw14.SendNumbers': WHATEVER THE INPUT: true; the input reads as it did. -/
def sendNumbersSpec : ChangeSpec := { name := "sendNumbers", fn := fun _ => fun
  | [d1, d2] => { results := [.lit (.bool true)], args := [d1, d2] }
  | _ => none }
def sendNumbersRow : OpenClaim := { program := "ytlbcffdjdbjgcaa", sum := "19d6b2592899a7682596575950ea72764c7bf40be568e0bb4955cef74db6d403", func := "withy/withylaw14.SendNumbers", spec := "sendNumbers", unfollowed := true, recurses := true, apart := false }
def SendNumbersSaid : Prop := sendNumbersRow.holds Try.pinned (OpenSpec.ofChange sendNumbersSpec)

/-- ITS FALSE NEIGHBOUR: 'it returns false'. Refute it at one input. -/
def sendNumbersWrong : ChangeSpec := { name := "sendNumbers", fn := fun _ => fun
  | [d1, d2] => { results := [.lit (.bool false)], args := [d1, d2] }
  | _ => none }
def SendNumbersWrongFalsely : Prop := sendNumbersRow.holds Try.pinned (OpenSpec.ofChange sendNumbersWrong)

/-- 'withylaw14.SendPushes': WHATEVER THE INPUT: true; the input reads as it did. -/
def sendPushesSpec : ChangeSpec := { name := "sendPushes", fn := fun _ => fun
  | [d1, d2, d3] => { results := [.lit (.bool true)], args := [d1, d2, d3] }
  | _ => none }
def sendPushesRow : OpenClaim := { program := "ytlbcffdjdbjgcaa", sum := "19d6b2592899a7682596575950ea72764c7bf40be568e0bb4955cef74db6d403", func := "withy/withylaw14.SendPushes", spec := "sendPushes", unfollowed := true, recurses := true, apart := false }
def SendPushesSaid : Prop := sendPushesRow.holds Try.pinned (OpenSpec.ofChange sendPushesSpec)

/-- ITS FALSE NEIGHBOUR: 'it returns false'. Refute it at one input. -/
def sendPushesWrong : ChangeSpec := { name := "sendPushes", fn := fun _ => fun
  | [d1, d2, d3] => { results := [.lit (.bool false)], args := [d1, d2, d3] }
  | _ => none }
def SendPushesWrongFalsely : Prop := sendPushesRow.holds Try.pinned (OpenSpec.ofChange sendPushesWrong)

/- THE SECOND FORM. 'bulk': how many values and letters a reading holds, each counted each time it is reached (what is shared counts as often as it is met; a slice's spare places count too). A statement '..UptoSaid' is the law's where the arguments, and the package variables that the reading takes, are together of bulk at most 1048576: NARROWER than '..Said'. Prove '..Said' where nothing that the law and all that it calls make is longer than what came in: it says more and counts as full. Else prove '..UptoSaid'. A law counts once. -/
mutual
def uptoBulk {H : Type} : DataW H → Nat
  | .lit (.string bytes) => bytes.length + 1
  | .lit _ => 1
  | .nil => 1
  | .ptr d => uptoBulk d + 1
  | .slice elems spare => uptoBulkAll elems + uptoBulkAll spare + 1
  | .agg parts => uptoBulkAll parts + 1
  | .iface _ d => uptoBulk d + 1
  | .map entries => uptoBulkEntries entries + 1
  | .held _ => 1
def uptoBulkAll {H : Type} : List (DataW H) → Nat
  | [] => 0
  | d :: r => uptoBulk d + uptoBulkAll r
def uptoBulkEntries {H : Type} : List (Lit × DataW H) → Nat
  | [] => 0
  | x :: r => uptoBulkEntry x + uptoBulkEntries r
def uptoBulkEntry {H : Type} : Lit × DataW H → Nat
  | (.string bytes, d) => bytes.length + uptoBulk d + 1
  | (_, d) => uptoBulk d + 1
 end
def uptoSmall : (H : Type) → List (DataW H) → Bool := fun _ ds => decide (uptoBulkAll ds ≤ 1048576)
def OpenSpec.upto (s : _root_.Go.ChangeSpec) : _root_.Go.OpenSpec := { _root_.Go.OpenSpec.ofChange s with cond := some uptoSmall }

/-- 'withylaw14.SendAcks', WHERE WHAT IT READS IS OF BULK AT MOST 1048576: true; the input reads as it did. -/
def sendAcksUptoRow : OpenClaim := { program := "ytlbcffdjdbjgcaa", sum := "19d6b2592899a7682596575950ea72764c7bf40be568e0bb4955cef74db6d403", func := "withy/withylaw14.SendAcks", spec := "sendAcks", unfollowed := true, recurses := true, apart := false, narrowed := true }
def SendAcksUptoSaid : Prop := sendAcksUptoRow.holds Try.pinned (OpenSpec.upto sendAcksSpec)

/-- 'withylaw14.SendReady', WHERE WHAT IT READS IS OF BULK AT MOST 1048576: true; the input reads as it did. -/
def sendReadyUptoRow : OpenClaim := { program := "ytlbcffdjdbjgcaa", sum := "19d6b2592899a7682596575950ea72764c7bf40be568e0bb4955cef74db6d403", func := "withy/withylaw14.SendReady", spec := "sendReady", unfollowed := true, recurses := true, apart := false, narrowed := true }
def SendReadyUptoSaid : Prop := sendReadyUptoRow.holds Try.pinned (OpenSpec.upto sendReadySpec)

/-- 'withylaw14.SendNumbers', WHERE WHAT IT READS IS OF BULK AT MOST 1048576: true; the input reads as it did. -/
def sendNumbersUptoRow : OpenClaim := { program := "ytlbcffdjdbjgcaa", sum := "19d6b2592899a7682596575950ea72764c7bf40be568e0bb4955cef74db6d403", func := "withy/withylaw14.SendNumbers", spec := "sendNumbers", unfollowed := true, recurses := true, apart := false, narrowed := true }
def SendNumbersUptoSaid : Prop := sendNumbersUptoRow.holds Try.pinned (OpenSpec.upto sendNumbersSpec)

/-- 'withylaw14.SendPushes', WHERE WHAT IT READS IS OF BULK AT MOST 1048576: true; the input reads as it did. -/
def sendPushesUptoRow : OpenClaim := { program := "ytlbcffdjdbjgcaa", sum := "19d6b2592899a7682596575950ea72764c7bf40be568e0bb4955cef74db6d403", func := "withy/withylaw14.SendPushes", spec := "sendPushes", unfollowed := true, recurses := true, apart := false, narrowed := true }
def SendPushesUptoSaid : Prop := sendPushesUptoRow.holds Try.pinned (OpenSpec.upto sendPushesSpec)

end Rows
end Go.Proofs.Ytlbcffdjdbjgcaa
