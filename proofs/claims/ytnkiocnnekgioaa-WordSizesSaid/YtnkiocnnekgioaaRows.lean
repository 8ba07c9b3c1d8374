/-
  No cell of these rows narrows 'for every input' (looked for: loops, veiled, ifaces, maps, wideKeys, modest, calm, conditions, laid).
  DERIVED. THE GIVEN ROWS OF THIS SEAT. 4 by the template 'for every input the law returns true; each argument reads behind the call as it read before'; 0 by the template 'total and deterministic' (their statements: YtnkiocnnekgioaaTotals.lean).
  GIVEN WITH THE SEED: the statements are not yours to turn. If you find one false, say at which input.
  Laid BY PROGRAM, IN A SANDBOX (cutbox-rows.mjs): the forced cells as the released guide's own fill.sh prints them over the translation 1c6e0f80527c8401… (all of the seat's roots in one cut). By AI agents, Wed Nov 11 2026. No macro, syntax, notation, axiom, sorry.
-/
import Derived.Test.YtnkiocnnekgioaaChecked
import GoSem.Claim
import GoSem.ClaimJoined
import GoSem.ClaimMapViews
import Derived.JoinedTies
import Derived.KernelRfl
namespace Go.Proofs.Ytnkiocnnekgioaa
/- THE CELL 'sum', in the pinned program and in every row, IS THE sha256 OF THE DUMP (.gsa) THAT YtnkiocnnekgioaaProg.lean LOADS. Nothing in Lean hashes anything: it is a label: what it is worth is what the hold of that sum in a sandbox is worth. -/
noncomputable def Try.pinned : Pinned := { name := "ytnkiocnnekgioaa", sum := "1c6e0f80527c8401e28a0fb7b70a09798e6ecd9a9e5e665560f071b13725ac07", checked := Try.checked }
namespace Rows
def none {H : Type} : Left H := { results := [], args := [] }

/-- 'withylaw13.WordCodes': WHATEVER THE INPUT: true; the input reads as it did. -/
def wordCodesSpec : ChangeSpec := { name := "wordCodes", fn := fun _ => fun
  | [d] => { results := [.lit (.bool true)], args := [d] }
  | _ => none }
def wordCodesRow : OpenClaim := { program := "ytnkiocnnekgioaa", sum := "1c6e0f80527c8401e28a0fb7b70a09798e6ecd9a9e5e665560f071b13725ac07", func := "withy/withylaw13.WordCodes", spec := "wordCodes", unfollowed := true, recurses := true, apart := false }
def WordCodesSaid : Prop := wordCodesRow.holds Try.pinned (OpenSpec.ofChange wordCodesSpec)

/-- ITS FALSE NEIGHBOUR: 'it returns false'. Refute it at one input. -/
def wordCodesWrong : ChangeSpec := { name := "wordCodes", fn := fun _ => fun
  | [d] => { results := [.lit (.bool false)], args := [d] }
  | _ => none }
def WordCodesWrongFalsely : Prop := wordCodesRow.holds Try.pinned (OpenSpec.ofChange wordCodesWrong)

/-- 'withylaw13.WordDecodes': WHATEVER THE INPUT: true; the input reads as it did. -/
def wordDecodesSpec : ChangeSpec := { name := "wordDecodes", fn := fun _ => fun
  | [d] => { results := [.lit (.bool true)], args := [d] }
  | _ => none }
def wordDecodesRow : OpenClaim := { program := "ytnkiocnnekgioaa", sum := "1c6e0f80527c8401e28a0fb7b70a09798e6ecd9a9e5e665560f071b13725ac07", func := "withy/withylaw13.WordDecodes", spec := "wordDecodes", unfollowed := true, recurses := true, apart := false }
def WordDecodesSaid : Prop := wordDecodesRow.holds Try.pinned (OpenSpec.ofChange wordDecodesSpec)

/-- ITS FALSE NEIGHBOUR: 'it returns false'. Refute it at one input. -/
def wordDecodesWrong : ChangeSpec := { name := "wordDecodes", fn := fun _ => fun
  | [d] => { results := [.lit (.bool false)], args := [d] }
  | _ => none }
def WordDecodesWrongFalsely : Prop := wordDecodesRow.holds Try.pinned (OpenSpec.ofChange wordDecodesWrong)

/-- 'withylaw13.WordSizes': WHATEVER THE INPUT: true; the input reads as it did. -/
def wordSizesSpec : ChangeSpec := { name := "wordSizes", fn := fun _ => fun
  | [d1, d2] => { results := [.lit (.bool true)], args := [d1, d2] }
  | _ => none }
def wordSizesRow : OpenClaim := { program := "ytnkiocnnekgioaa", sum := "1c6e0f80527c8401e28a0fb7b70a09798e6ecd9a9e5e665560f071b13725ac07", func := "withy/withylaw13.WordSizes", spec := "wordSizes", unfollowed := true, recurses := true, apart := false }
def WordSizesSaid : Prop := wordSizesRow.holds Try.pinned (OpenSpec.ofChange wordSizesSpec)

/-- ITS FALSE NEIGHBOUR: 'it returns false'. Refute it at one input. -/
def wordSizesWrong : ChangeSpec := { name := "wordSizes", fn := fun _ => fun
  | [d1, d2] => { results := [.lit (.bool false)], args := [d1, d2] }
  | _ => none }
def WordSizesWrongFalsely : Prop := wordSizesRow.holds Try.pinned (OpenSpec.ofChange wordSizesWrong)

/-- 'withylaw13.WordSame': WHATEVER THE INPUT: true; the input reads as it did. -/
def wordSameSpec : ChangeSpec := { name := "wordSame", fn := fun _ => fun
  | [d1, d2] => { results := [.lit (.bool true)], args := [d1, d2] }
  | _ => none }
def wordSameRow : OpenClaim := { program := "ytnkiocnnekgioaa", sum := "1c6e0f80527c8401e28a0fb7b70a09798e6ecd9a9e5e665560f071b13725ac07", func := "withy/withylaw13.WordSame", spec := "wordSame", unfollowed := true, recurses := true, apart := false }
def WordSameSaid : Prop := wordSameRow.holds Try.pinned (OpenSpec.ofChange wordSameSpec)

/-- ITS FALSE NEIGHBOUR: 'it returns false'. Refute it at one input. -/
def wordSameWrong : ChangeSpec := { name := "wordSame", fn := fun _ => fun
  | [d1, d2] => { results := [.lit (.bool false)], args := [d1, d2] }
  | _ => none }
def WordSameWrongFalsely : Prop := wordSameRow.holds Try.pinned (OpenSpec.ofChange wordSameWrong)

/- THE SECOND FORM. 'bulk': how many values and letters a reading holds, each counted each time it is reached (what is shared counts as often as it is met; a slice's spare places count too). A statement '..UptoSaid' is the law's where the arguments, and the package variables that the reading takes, are together of bulk at most 1048576: NARROWER than '..Said'. Prove '..Said' where nothing that the law and all that it calls make is longer than what came in: it says more and counts as full. Else prove '..UptoSaid'. A law counts once. -/
mutual
def uptoBulk {H : Type} : DataW H → Nat
  | .lit (.string bytes) => bytes.length + 1
  | .lit _ => 1
  | .nil => 1
  | .ptr d => uptoBulk d + 1
  | .slice elems spare => uptoBulkAll elems + uptoBulkAll spare + 1
  | .agg parts => uptoBulkAll parts + 1
  | .iface _ d => uptoBulk d + 1
  | .map entries => uptoBulkEntries entries + 1
  | .held _ => 1
def uptoBulkAll {H : Type} : List (DataW H) → Nat
  | [] => 0
  | d :: r => uptoBulk d + uptoBulkAll r
def uptoBulkEntries {H : Type} : List (Lit × DataW H) → Nat
  | [] => 0
  | x :: r => uptoBulkEntry x + uptoBulkEntries r
def uptoBulkEntry {H : Type} : Lit × DataW H → Nat
  | (.string bytes, d) => bytes.length + uptoBulk d + 1
  | (_, d) => uptoBulk d + 1
 end
def uptoSmall : (H : Type) → List (DataW H) → Bool := fun _ ds => decide (uptoBulkAll ds ≤ 1048576)
def OpenSpec.upto (s : _root_.Go.ChangeSpec) : _root_.Go.OpenSpec := { _root_.Go.OpenSpec.ofChange s with cond := some uptoSmall }

/-- 'withylaw13.WordCodes', WHERE WHAT IT READS IS OF BULK AT MOST 1048576: true; the input reads as it did. -/
def wordCodesUptoRow : OpenClaim := { program := "ytnkiocnnekgioaa", sum := "1c6e0f80527c8401e28a0fb7b70a09798e6ecd9a9e5e665560f071b13725ac07", func := "withy/withylaw13.WordCodes", spec := "wordCodes", unfollowed := true, recurses := true, apart := false, narrowed := true }
def WordCodesUptoSaid : Prop := wordCodesUptoRow.holds Try.pinned (OpenSpec.upto wordCodesSpec)

/-- 'withylaw13.WordDecodes', WHERE WHAT IT READS IS OF BULK AT MOST 1048576: true; the input reads as it did. -/
def wordDecodesUptoRow : OpenClaim := { program := "ytnkiocnnekgioaa", sum := "1c6e0f80527c8401e28a0fb7b70a09798e6ecd9a9e5e665560f071b13725ac07", func := "withy/withylaw13.WordDecodes", spec := "wordDecodes", unfollowed := true, recurses := true, apart := false, narrowed := true }
def WordDecodesUptoSaid : Prop := wordDecodesUptoRow.holds Try.pinned (OpenSpec.upto wordDecodesSpec)

/-- 'withylaw13.WordSizes', WHERE WHAT IT READS IS OF BULK AT MOST 1048576: true; the input reads as it did. -/
def wordSizesUptoRow : OpenClaim := { program := "ytnkiocnnekgioaa", sum := "1c6e0f80527c8401e28a0fb7b70a09798e6ecd9a9e5e665560f071b13725ac07", func := "withy/withylaw13.WordSizes", spec := "wordSizes", unfollowed := true, recurses := true, apart := false, narrowed := true }
def WordSizesUptoSaid : Prop := wordSizesUptoRow.holds Try.pinned (OpenSpec.upto wordSizesSpec)

/-- 'withylaw13.WordSame', WHERE WHAT IT READS IS OF BULK AT MOST 1048576: true; the input reads as it did. -/
def wordSameUptoRow : OpenClaim := { program := "ytnkiocnnekgioaa", sum := "1c6e0f80527c8401e28a0fb7b70a09798e6ecd9a9e5e665560f071b13725ac07", func := "withy/withylaw13.WordSame", spec := "wordSame", unfollowed := true, recurses := true, apart := false, narrowed := true }
def WordSameUptoSaid : Prop := wordSameUptoRow.holds Try.pinned (OpenSpec.upto wordSameSpec)

end Rows
end Go.Proofs.Ytnkiocnnekgioaa
