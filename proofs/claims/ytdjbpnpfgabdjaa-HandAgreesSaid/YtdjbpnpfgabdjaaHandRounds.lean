/- hand, plain: rounds, one after the other. -/
import Derived.Test.YtdjbpnpfgabdjaaHandAgree
namespace Go.Proofs.Ytdjbpnpfgabdjaa.HP
set_option linter.unusedVariables false
set_option linter.unusedSimpArgs false
set_option linter.unusedSectionVars false
variable {limit : Int}
/-- What holds behind n rounds; c notes lay there ahead of the first one. -/
structure PN (limit : Int) (c n : Nat) (x : Pr) : Prop where
  inv : Inv limit x
  n0 : n = 0 → x.notes ≤ c
  n1 : 1 ≤ n → x.notes = 0
  n2 : 2 ≤ n → Near x
  n3 : 3 ≤ n → Good x
theorem PN.next (hl : 1 ≤ limit ∧ limit ≤ 2147483647) {c n : Nat} {x y : Pr} (h : PN limit c n x) (r : Round limit x y) : PN limit c (n + 1) y :=
  ⟨(r.ok hl h.inv).1, fun e => by omega, fun _ => (r.ok hl h.inv).2, fun e => (r.near hl h.inv (h.n1 (by omega))).1, fun e => (r.near hl h.inv (h.n1 (by omega))).2 (h.n2 (by omega))⟩
theorem PN.start {c : Nat} {x : Pr} (h : Inv limit x) (hc : x.notes ≤ c) : PN limit c 0 x := ⟨h, fun _ => hc, fun e => by omega, fun e => by omega, fun e => by omega⟩
theorem PN.le {c n : Nat} {x : Pr} (h : PN limit c n x) : x.notes ≤ c := by
  by_cases e : n = 0
  · exact h.n0 e
  · rw [h.n1 (by omega)]; omega
theorem PN.weight {c n : Nat} {x : Pr} (h : PN limit c n x) : (tick limit x).weight ≤ 2 * c + 20 := by
  have h1 := h.le
  have h2 := Pr.weight_le (tick limit x)
  have h3 := step_notes (limit := limit) x ⟨1, 1, 0⟩
  have h4 := step_notes (limit := limit) (step limit x ⟨1, 1, 0⟩) ⟨1, 2, 0⟩
  have h5 : (tick limit x).notes = (step limit (step limit x ⟨1, 1, 0⟩) ⟨1, 2, 0⟩).notes := rfl
  omega
/-- What an end has sent when the ends below it have ticked. -/
def tk (limit : Int) (x : Pr) : Nat → Pr
  | 0 => x
  | 1 => x
  | 2 => step limit x ⟨1, 1, 0⟩
  | _ => tick limit x
end Go.Proofs.Ytdjbpnpfgabdjaa.HP
