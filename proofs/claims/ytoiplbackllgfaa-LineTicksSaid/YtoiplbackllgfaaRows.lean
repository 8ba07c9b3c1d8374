/-
  No cell of these rows narrows 'for every input' (looked for: loops, veiled, ifaces, maps, wideKeys, modest, calm, conditions, laid).
  DERIVED. THE GIVEN ROWS OF THIS SEAT. 5 by the template 'for every input the law returns true; each argument reads behind the call as it read before'; 0 by the template 'total and deterministic' (their statements: YtoiplbackllgfaaTotals.lean).
  GIVEN WITH THE SEED: the statements are not yours to turn. If you find one false, say at which input.
  Laid BY PROGRAM, IN A SANDBOX (cutbox-rows.mjs): the forced cells as the released guide's own fill.sh prints them over the translation 64c9243231bfa465… (all of the seat's roots in one cut). By AI agents, Wed Nov 11 2026. No macro, syntax, notation, axiom, sorry.
-/
import Derived.Test.YtoiplbackllgfaaChecked
import GoSem.Claim
import GoSem.ClaimJoined
import GoSem.ClaimMapViews
import Derived.JoinedTies
import Derived.KernelRfl
namespace Go.Proofs.Ytoiplbackllgfaa
/- THE CELL 'sum', in the pinned program and in every row, IS THE sha256 OF THE DUMP (.gsa) THAT YtoiplbackllgfaaProg.lean LOADS. Nothing in Lean hashes anything: it is a label: what it is worth is what the hold of that sum in a sandbox is worth. -/
noncomputable def Try.pinned : Pinned := { name := "ytoiplbackllgfaa", sum := "64c9243231bfa4655b2e56aad92c09a3cf43b1b0ed32e3c71a093e4548bff3df", checked := Try.checked }
namespace Rows
def none {H : Type} : Left H := { results := [], args := [] }

/-- 'withylaw17.LineHears': WHATEVER THE INPUT: true; the input reads as it did. -/
def lineHearsSpec : ChangeSpec := { name := "lineHears", fn := fun _ => fun
  | [d1, d2, d3] => { results := [.lit (.bool true)], args := [d1, d2, d3] }
  | _ => none }
def lineHearsRow : OpenClaim := { program := "ytoiplbackllgfaa", sum := "64c9243231bfa4655b2e56aad92c09a3cf43b1b0ed32e3c71a093e4548bff3df", func := "withy/withylaw17.LineHears", spec := "lineHears", unfollowed := true, recurses := true, apart := false }
def LineHearsSaid : Prop := lineHearsRow.holds Try.pinned (OpenSpec.ofChange lineHearsSpec)

/-- ITS FALSE NEIGHBOUR: 'it returns false'. Refute it at one input. -/
def lineHearsWrong : ChangeSpec := { name := "lineHears", fn := fun _ => fun
  | [d1, d2, d3] => { results := [.lit (.bool false)], args := [d1, d2, d3] }
  | _ => none }
def LineHearsWrongFalsely : Prop := lineHearsRow.holds Try.pinned (OpenSpec.ofChange lineHearsWrong)

/-- 'withylaw17.LineStale': WHATEVER THE INPUT: true; the input reads as it did. -/
def lineStaleSpec : ChangeSpec := { name := "lineStale", fn := fun _ => fun
  | [d1, d2] => { results := [.lit (.bool true)], args := [d1, d2] }
  | _ => none }
def lineStaleRow : OpenClaim := { program := "ytoiplbackllgfaa", sum := "64c9243231bfa4655b2e56aad92c09a3cf43b1b0ed32e3c71a093e4548bff3df", func := "withy/withylaw17.LineStale", spec := "lineStale", unfollowed := true, recurses := true, apart := false }
def LineStaleSaid : Prop := lineStaleRow.holds Try.pinned (OpenSpec.ofChange lineStaleSpec)

/-- ITS FALSE NEIGHBOUR: 'it returns false'. Refute it at one input. -/
def lineStaleWrong : ChangeSpec := { name := "lineStale", fn := fun _ => fun
  | [d1, d2] => { results := [.lit (.bool false)], args := [d1, d2] }
  | _ => none }
def LineStaleWrongFalsely : Prop := lineStaleRow.holds Try.pinned (OpenSpec.ofChange lineStaleWrong)

/-- 'withylaw17.LineTurns': WHATEVER THE INPUT: true; the input reads as it did. -/
def lineTurnsSpec : ChangeSpec := { name := "lineTurns", fn := fun _ => fun
  | [d1, d2, d3] => { results := [.lit (.bool true)], args := [d1, d2, d3] }
  | _ => none }
def lineTurnsRow : OpenClaim := { program := "ytoiplbackllgfaa", sum := "64c9243231bfa4655b2e56aad92c09a3cf43b1b0ed32e3c71a093e4548bff3df", func := "withy/withylaw17.LineTurns", spec := "lineTurns", unfollowed := true, recurses := true, apart := false }
def LineTurnsSaid : Prop := lineTurnsRow.holds Try.pinned (OpenSpec.ofChange lineTurnsSpec)

/-- ITS FALSE NEIGHBOUR: 'it returns false'. Refute it at one input. -/
def lineTurnsWrong : ChangeSpec := { name := "lineTurns", fn := fun _ => fun
  | [d1, d2, d3] => { results := [.lit (.bool false)], args := [d1, d2, d3] }
  | _ => none }
def LineTurnsWrongFalsely : Prop := lineTurnsRow.holds Try.pinned (OpenSpec.ofChange lineTurnsWrong)

/-- 'withylaw17.LineTicks': WHATEVER THE INPUT: true; the input reads as it did. -/
def lineTicksSpec : ChangeSpec := { name := "lineTicks", fn := fun _ => fun
  | [d1, d2] => { results := [.lit (.bool true)], args := [d1, d2] }
  | _ => none }
def lineTicksRow : OpenClaim := { program := "ytoiplbackllgfaa", sum := "64c9243231bfa4655b2e56aad92c09a3cf43b1b0ed32e3c71a093e4548bff3df", func := "withy/withylaw17.LineTicks", spec := "lineTicks", unfollowed := true, recurses := true, apart := false }
def LineTicksSaid : Prop := lineTicksRow.holds Try.pinned (OpenSpec.ofChange lineTicksSpec)

/-- ITS FALSE NEIGHBOUR: 'it returns false'. Refute it at one input. -/
def lineTicksWrong : ChangeSpec := { name := "lineTicks", fn := fun _ => fun
  | [d1, d2] => { results := [.lit (.bool false)], args := [d1, d2] }
  | _ => none }
def LineTicksWrongFalsely : Prop := lineTicksRow.holds Try.pinned (OpenSpec.ofChange lineTicksWrong)

/-- 'withylaw17.LineCarries': WHATEVER THE INPUT: true; the input reads as it did. -/
def lineCarriesSpec : ChangeSpec := { name := "lineCarries", fn := fun _ => fun
  | [d1, d2] => { results := [.lit (.bool true)], args := [d1, d2] }
  | _ => none }
def lineCarriesRow : OpenClaim := { program := "ytoiplbackllgfaa", sum := "64c9243231bfa4655b2e56aad92c09a3cf43b1b0ed32e3c71a093e4548bff3df", func := "withy/withylaw17.LineCarries", spec := "lineCarries", unfollowed := true, recurses := true, apart := false }
def LineCarriesSaid : Prop := lineCarriesRow.holds Try.pinned (OpenSpec.ofChange lineCarriesSpec)

/-- ITS FALSE NEIGHBOUR: 'it returns false'. Refute it at one input. -/
def lineCarriesWrong : ChangeSpec := { name := "lineCarries", fn := fun _ => fun
  | [d1, d2] => { results := [.lit (.bool false)], args := [d1, d2] }
  | _ => none }
def LineCarriesWrongFalsely : Prop := lineCarriesRow.holds Try.pinned (OpenSpec.ofChange lineCarriesWrong)

/- THE SECOND FORM. 'bulk': how many values and letters a reading holds, each counted each time it is reached (what is shared counts as often as it is met; a slice's spare places count too). A statement '..UptoSaid' is the law's where the arguments, and the package variables that the reading takes, are together of bulk at most 1048576: NARROWER than '..Said'. Prove '..Said' where nothing that the law and all that it calls make is longer than what came in: it says more and counts as full. Else prove '..UptoSaid'. A law counts once. -/
mutual
def uptoBulk {H : Type} : DataW H → Nat
  | .lit (.string bytes) => bytes.length + 1
  | .lit _ => 1
  | .nil => 1
  | .ptr d => uptoBulk d + 1
  | .slice elems spare => uptoBulkAll elems + uptoBulkAll spare + 1
  | .agg parts => uptoBulkAll parts + 1
  | .iface _ d => uptoBulk d + 1
  | .map entries => uptoBulkEntries entries + 1
  | .held _ => 1
def uptoBulkAll {H : Type} : List (DataW H) → Nat
  | [] => 0
  | d :: r => uptoBulk d + uptoBulkAll r
def uptoBulkEntries {H : Type} : List (Lit × DataW H) → Nat
  | [] => 0
  | x :: r => uptoBulkEntry x + uptoBulkEntries r
def uptoBulkEntry {H : Type} : Lit × DataW H → Nat
  | (.string bytes, d) => bytes.length + uptoBulk d + 1
  | (_, d) => uptoBulk d + 1
 end
def uptoSmall : (H : Type) → List (DataW H) → Bool := fun _ ds => decide (uptoBulkAll ds ≤ 1048576)
def OpenSpec.upto (s : _root_.Go.ChangeSpec) : _root_.Go.OpenSpec := { _root_.Go.OpenSpec.ofChange s with cond := some uptoSmall }

/-- 'withylaw17.LineHears', WHERE WHAT IT READS IS OF BULK AT MOST 1048576: true; the input reads as it did. -/
def lineHearsUptoRow : OpenClaim := { program := "ytoiplbackllgfaa", sum := "64c9243231bfa4655b2e56aad92c09a3cf43b1b0ed32e3c71a093e4548bff3df", func := "withy/withylaw17.LineHears", spec := "lineHears", unfollowed := true, recurses := true, apart := false, narrowed := true }
def LineHearsUptoSaid : Prop := lineHearsUptoRow.holds Try.pinned (OpenSpec.upto lineHearsSpec)

/-- 'withylaw17.LineStale', WHERE WHAT IT READS IS OF BULK AT MOST 1048576: true; the input reads as it did. -/
def lineStaleUptoRow : OpenClaim := { program := "ytoiplbackllgfaa", sum := "64c9243231bfa4655b2e56aad92c09a3cf43b1b0ed32e3c71a093e4548bff3df", func := "withy/withylaw17.LineStale", spec := "lineStale", unfollowed := true, recurses := true, apart := false, narrowed := true }
def LineStaleUptoSaid : Prop := lineStaleUptoRow.holds Try.pinned (OpenSpec.upto lineStaleSpec)

/-- 'withylaw17.LineTurns', WHERE WHAT IT READS IS OF BULK AT MOST 1048576: true; the input reads as it did. -/
def lineTurnsUptoRow : OpenClaim := { program := "ytoiplbackllgfaa", sum := "64c9243231bfa4655b2e56aad92c09a3cf43b1b0ed32e3c71a093e4548bff3df", func := "withy/withylaw17.LineTurns", spec := "lineTurns", unfollowed := true, recurses := true, apart := false, narrowed := true }
def LineTurnsUptoSaid : Prop := lineTurnsUptoRow.holds Try.pinned (OpenSpec.upto lineTurnsSpec)

/-- 'withylaw17.LineTicks', WHERE WHAT IT READS IS OF BULK AT MOST 1048576: true; the input reads as it did. -/
def lineTicksUptoRow : OpenClaim := { program := "ytoiplbackllgfaa", sum := "64c9243231bfa4655b2e56aad92c09a3cf43b1b0ed32e3c71a093e4548bff3df", func := "withy/withylaw17.LineTicks", spec := "lineTicks", unfollowed := true, recurses := true, apart := false, narrowed := true }
def LineTicksUptoSaid : Prop := lineTicksUptoRow.holds Try.pinned (OpenSpec.upto lineTicksSpec)

/-- 'withylaw17.LineCarries', WHERE WHAT IT READS IS OF BULK AT MOST 1048576: true; the input reads as it did. -/
def lineCarriesUptoRow : OpenClaim := { program := "ytoiplbackllgfaa", sum := "64c9243231bfa4655b2e56aad92c09a3cf43b1b0ed32e3c71a093e4548bff3df", func := "withy/withylaw17.LineCarries", spec := "lineCarries", unfollowed := true, recurses := true, apart := false, narrowed := true }
def LineCarriesUptoSaid : Prop := lineCarriesUptoRow.holds Try.pinned (OpenSpec.upto lineCarriesSpec)

end Rows
end Go.Proofs.Ytoiplbackllgfaa
