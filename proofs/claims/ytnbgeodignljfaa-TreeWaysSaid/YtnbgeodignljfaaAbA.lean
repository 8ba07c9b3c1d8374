/- From a contract over the abstract memory to the statement's row: a law that comes back with true. -/
import Derived.Test.YtnbgeodignljfaaAb9
namespace Go.Proofs.Ytnbgeodignljfaa.Ab
set_option linter.unusedVariables false
set_option linter.unusedSimpArgs false
set_option linter.unusedSectionVars false
open Go.RowKit

/-- No names. -/
def noH : AHeap := fun _ => none
def noR : Ren := fun _ => none
theorem Sim.empty (W : World) : Sim W noR noH W := by
  refine ⟨Below.refl _ _, fun _ _ h => ?_, fun _ _ h => ?_, fun _ _ _ _ _ _ _ h => ?_, ⟨0, fun _ _ => rfl⟩⟩ <;> cases h
theorem ACall.law {P : Program} {f : FuncId} {args args' : List Value} {s s' : AHeap} {W : World} {ρ : Ren} (h : ACall P f args s (.bool true) s') (hS : Sim W ρ s W) (ha : All2 (VR ρ) args args') :
    Calls P f args'.toArray W fun e w' => e = .returned (.bool true) ∧ Below W.heap.size W w' := by
  refine (h.2 W ρ W args' ha hS).mono ?_
  rintro e w' ⟨ρ', v', rfl, hv, _, hS'⟩
  refine ⟨?_, hS'.below⟩
  cases hv with
  | v h => cases h with | v h => cases h with | a h => cases h; rfl
end Go.Proofs.Ytnbgeodignljfaa.Ab
