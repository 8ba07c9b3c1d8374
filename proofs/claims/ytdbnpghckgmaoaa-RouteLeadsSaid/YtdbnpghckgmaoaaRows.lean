/-
  No cell of these rows narrows 'for every input' (looked for: loops, veiled, ifaces, maps, wideKeys, modest, calm, conditions, laid).
  DERIVED. THE GIVEN ROWS OF THIS SEAT. 5 by the template 'for every input the law returns true; each argument reads behind the call as it read before'; 0 by the template 'total and deterministic' (their statements: YtdbnpghckgmaoaaTotals.lean).
  GIVEN WITH THE SEED: the statements are not yours to turn. If you find one false, say at which input.
  Laid BY PROGRAM, IN A SANDBOX (cutbox-rows.mjs): the forced cells as the released guide's own fill.sh prints them over the translation 94961d4dae04091b… (all of the seat's roots in one cut). By AI agents, Wed Nov 11 2026. No macro, syntax, notation, axiom, sorry.
-/
import Derived.Test.YtdbnpghckgmaoaaChecked
import GoSem.Claim
import GoSem.ClaimJoined
import GoSem.ClaimMapViews
import Derived.JoinedTies
import Derived.KernelRfl
namespace Go.Proofs.Ytdbnpghckgmaoaa
/- THE CELL 'sum', in the pinned program and in every row, IS THE sha256 OF THE DUMP (.gsa) THAT YtdbnpghckgmaoaaProg.lean LOADS. Nothing in Lean hashes anything: it is a label: what it is worth is what the hold of that sum in a sandbox is worth. -/
noncomputable def Try.pinned : Pinned := { name := "ytdbnpghckgmaoaa", sum := "94961d4dae04091b7c67b5f62f50956fdcc4e534a58e1a473d1dad1dfe83070a", checked := Try.checked }
namespace Rows
def none {H : Type} : Left H := { results := [], args := [] }

/-- 'withylaw11.RouteHops': WHATEVER THE INPUT: true; the input reads as it did. -/
def routeHopsSpec : ChangeSpec := { name := "routeHops", fn := fun _ => fun
  | [d1, d2, d3] => { results := [.lit (.bool true)], args := [d1, d2, d3] }
  | _ => none }
def routeHopsRow : OpenClaim := { program := "ytdbnpghckgmaoaa", sum := "94961d4dae04091b7c67b5f62f50956fdcc4e534a58e1a473d1dad1dfe83070a", func := "withy/withylaw11.RouteHops", spec := "routeHops", unfollowed := true, recurses := true, plainKeys := false, apart := false }
def RouteHopsSaid : Prop := routeHopsRow.holds Try.pinned (OpenSpec.ofChange routeHopsSpec)

/-- ITS FALSE NEIGHBOUR: 'it returns false'. Refute it at one input. -/
def routeHopsWrong : ChangeSpec := { name := "routeHops", fn := fun _ => fun
  | [d1, d2, d3] => { results := [.lit (.bool false)], args := [d1, d2, d3] }
  | _ => none }
def RouteHopsWrongFalsely : Prop := routeHopsRow.holds Try.pinned (OpenSpec.ofChange routeHopsWrong)

/-- 'withylaw11.RouteGoes': WHATEVER THE INPUT: true; the input reads as it did. -/
def routeGoesSpec : ChangeSpec := { name := "routeGoes", fn := fun _ => fun
  | [d1, d2, d3] => { results := [.lit (.bool true)], args := [d1, d2, d3] }
  | _ => none }
def routeGoesRow : OpenClaim := { program := "ytdbnpghckgmaoaa", sum := "94961d4dae04091b7c67b5f62f50956fdcc4e534a58e1a473d1dad1dfe83070a", func := "withy/withylaw11.RouteGoes", spec := "routeGoes", unfollowed := true, recurses := true, plainKeys := false, apart := false }
def RouteGoesSaid : Prop := routeGoesRow.holds Try.pinned (OpenSpec.ofChange routeGoesSpec)

/-- ITS FALSE NEIGHBOUR: 'it returns false'. Refute it at one input. -/
def routeGoesWrong : ChangeSpec := { name := "routeGoes", fn := fun _ => fun
  | [d1, d2, d3] => { results := [.lit (.bool false)], args := [d1, d2, d3] }
  | _ => none }
def RouteGoesWrongFalsely : Prop := routeGoesRow.holds Try.pinned (OpenSpec.ofChange routeGoesWrong)

/-- 'withylaw11.RouteBack': WHATEVER THE INPUT: true; the input reads as it did. -/
def routeBackSpec : ChangeSpec := { name := "routeBack", fn := fun _ => fun
  | [d1, d2, d3] => { results := [.lit (.bool true)], args := [d1, d2, d3] }
  | _ => none }
def routeBackRow : OpenClaim := { program := "ytdbnpghckgmaoaa", sum := "94961d4dae04091b7c67b5f62f50956fdcc4e534a58e1a473d1dad1dfe83070a", func := "withy/withylaw11.RouteBack", spec := "routeBack", unfollowed := true, recurses := true, plainKeys := false, apart := false }
def RouteBackSaid : Prop := routeBackRow.holds Try.pinned (OpenSpec.ofChange routeBackSpec)

/-- ITS FALSE NEIGHBOUR: 'it returns false'. Refute it at one input. -/
def routeBackWrong : ChangeSpec := { name := "routeBack", fn := fun _ => fun
  | [d1, d2, d3] => { results := [.lit (.bool false)], args := [d1, d2, d3] }
  | _ => none }
def RouteBackWrongFalsely : Prop := routeBackRow.holds Try.pinned (OpenSpec.ofChange routeBackWrong)

/-- 'withylaw11.RouteTables': WHATEVER THE INPUT: true; the input reads as it did. -/
def routeTablesSpec : ChangeSpec := { name := "routeTables", fn := fun _ => fun
  | [d1, d2] => { results := [.lit (.bool true)], args := [d1, d2] }
  | _ => none }
def routeTablesRow : OpenClaim := { program := "ytdbnpghckgmaoaa", sum := "94961d4dae04091b7c67b5f62f50956fdcc4e534a58e1a473d1dad1dfe83070a", func := "withy/withylaw11.RouteTables", spec := "routeTables", unfollowed := true, recurses := true, plainKeys := false, apart := false }
def RouteTablesSaid : Prop := routeTablesRow.holds Try.pinned (OpenSpec.ofChange routeTablesSpec)

/-- ITS FALSE NEIGHBOUR: 'it returns false'. Refute it at one input. -/
def routeTablesWrong : ChangeSpec := { name := "routeTables", fn := fun _ => fun
  | [d1, d2] => { results := [.lit (.bool false)], args := [d1, d2] }
  | _ => none }
def RouteTablesWrongFalsely : Prop := routeTablesRow.holds Try.pinned (OpenSpec.ofChange routeTablesWrong)

/-- 'withylaw11.RouteLeads': WHATEVER THE INPUT: true; the input reads as it did. -/
def routeLeadsSpec : ChangeSpec := { name := "routeLeads", fn := fun _ => fun
  | [d1, d2] => { results := [.lit (.bool true)], args := [d1, d2] }
  | _ => none }
def routeLeadsRow : OpenClaim := { program := "ytdbnpghckgmaoaa", sum := "94961d4dae04091b7c67b5f62f50956fdcc4e534a58e1a473d1dad1dfe83070a", func := "withy/withylaw11.RouteLeads", spec := "routeLeads", unfollowed := true, recurses := true, plainKeys := false, apart := false }
def RouteLeadsSaid : Prop := routeLeadsRow.holds Try.pinned (OpenSpec.ofChange routeLeadsSpec)

/-- ITS FALSE NEIGHBOUR: 'it returns false'. Refute it at one input. -/
def routeLeadsWrong : ChangeSpec := { name := "routeLeads", fn := fun _ => fun
  | [d1, d2] => { results := [.lit (.bool false)], args := [d1, d2] }
  | _ => none }
def RouteLeadsWrongFalsely : Prop := routeLeadsRow.holds Try.pinned (OpenSpec.ofChange routeLeadsWrong)

/- THE SECOND FORM. 'bulk': how many values and letters a reading holds, each counted each time it is reached (what is shared counts as often as it is met; a slice's spare places count too). A statement '..UptoSaid' is the law's where the arguments, and the package variables that the reading takes, are together of bulk at most 1048576: NARROWER than '..Said'. Prove '..Said' where nothing that the law and all that it calls make is longer than what came in: it says more and counts as full. Else prove '..UptoSaid'. A law counts once. -/
mutual
def uptoBulk {H : Type} : DataW H → Nat
  | .lit (.string bytes) => bytes.length + 1
  | .lit _ => 1
  | .nil => 1
  | .ptr d => uptoBulk d + 1
  | .slice elems spare => uptoBulkAll elems + uptoBulkAll spare + 1
  | .agg parts => uptoBulkAll parts + 1
  | .iface _ d => uptoBulk d + 1
  | .map entries => uptoBulkEntries entries + 1
  | .held _ => 1
def uptoBulkAll {H : Type} : List (DataW H) → Nat
  | [] => 0
  | d :: r => uptoBulk d + uptoBulkAll r
def uptoBulkEntries {H : Type} : List (Lit × DataW H) → Nat
  | [] => 0
  | x :: r => uptoBulkEntry x + uptoBulkEntries r
def uptoBulkEntry {H : Type} : Lit × DataW H → Nat
  | (.string bytes, d) => bytes.length + uptoBulk d + 1
  | (_, d) => uptoBulk d + 1
 end
def uptoSmall : (H : Type) → List (DataW H) → Bool := fun _ ds => decide (uptoBulkAll ds ≤ 1048576)
def OpenSpec.upto (s : _root_.Go.ChangeSpec) : _root_.Go.OpenSpec := { _root_.Go.OpenSpec.ofChange s with cond := some uptoSmall }

/-- 'withylaw11.RouteHops', WHERE WHAT IT READS IS OF BULK AT MOST 1048576: true; the input reads as it did. -/
def routeHopsUptoRow : OpenClaim := { program := "ytdbnpghckgmaoaa", sum := "94961d4dae04091b7c67b5f62f50956fdcc4e534a58e1a473d1dad1dfe83070a", func := "withy/withylaw11.RouteHops", spec := "routeHops", unfollowed := true, recurses := true, plainKeys := false, apart := false, narrowed := true }
def RouteHopsUptoSaid : Prop := routeHopsUptoRow.holds Try.pinned (OpenSpec.upto routeHopsSpec)

/-- 'withylaw11.RouteGoes', WHERE WHAT IT READS IS OF BULK AT MOST 1048576: true; the input reads as it did. -/
def routeGoesUptoRow : OpenClaim := { program := "ytdbnpghckgmaoaa", sum := "94961d4dae04091b7c67b5f62f50956fdcc4e534a58e1a473d1dad1dfe83070a", func := "withy/withylaw11.RouteGoes", spec := "routeGoes", unfollowed := true, recurses := true, plainKeys := false, apart := false, narrowed := true }
def RouteGoesUptoSaid : Prop := routeGoesUptoRow.holds Try.pinned (OpenSpec.upto routeGoesSpec)

/-- 'withylaw11.RouteBack', WHERE WHAT IT READS IS OF BULK AT MOST 1048576: true; the input reads as it did. -/
def routeBackUptoRow : OpenClaim := { program := "ytdbnpghckgmaoaa", sum := "94961d4dae04091b7c67b5f62f50956fdcc4e534a58e1a473d1dad1dfe83070a", func := "withy/withylaw11.RouteBack", spec := "routeBack", unfollowed := true, recurses := true, plainKeys := false, apart := false, narrowed := true }
def RouteBackUptoSaid : Prop := routeBackUptoRow.holds Try.pinned (OpenSpec.upto routeBackSpec)

/-- 'withylaw11.RouteTables', WHERE WHAT IT READS IS OF BULK AT MOST 1048576: true; the input reads as it did. -/
def routeTablesUptoRow : OpenClaim := { program := "ytdbnpghckgmaoaa", sum := "94961d4dae04091b7c67b5f62f50956fdcc4e534a58e1a473d1dad1dfe83070a", func := "withy/withylaw11.RouteTables", spec := "routeTables", unfollowed := true, recurses := true, plainKeys := false, apart := false, narrowed := true }
def RouteTablesUptoSaid : Prop := routeTablesUptoRow.holds Try.pinned (OpenSpec.upto routeTablesSpec)

/-- 'withylaw11.RouteLeads', WHERE WHAT IT READS IS OF BULK AT MOST 1048576: true; the input reads as it did. -/
def routeLeadsUptoRow : OpenClaim := { program := "ytdbnpghckgmaoaa", sum := "94961d4dae04091b7c67b5f62f50956fdcc4e534a58e1a473d1dad1dfe83070a", func := "withy/withylaw11.RouteLeads", spec := "routeLeads", unfollowed := true, recurses := true, plainKeys := false, apart := false, narrowed := true }
def RouteLeadsUptoSaid : Prop := routeLeadsUptoRow.holds Try.pinned (OpenSpec.upto routeLeadsSpec)

end Rows
end Go.Proofs.Ytdbnpghckgmaoaa
