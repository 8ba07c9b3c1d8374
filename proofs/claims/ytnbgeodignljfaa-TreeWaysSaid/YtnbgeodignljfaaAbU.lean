/- More rules: guards whose operation was skipped; truths told by what they decide. -/
import Derived.Test.YtnbgeodignljfaaAbK
namespace Go.Proofs.Ytnbgeodignljfaa.Ab
set_option linter.unusedVariables false
set_option linter.unusedSimpArgs false
set_option linter.unusedSectionVars false
open Go.RowKit
theorem yl_undef {ops : Array Oper} {tm : Env} {j : Nat} {e : Tmp} (hd : (ops[j]?).bind (·.dst) = some e) (hb : Ev tm (.tmp e) undef) : yl ops tm j = none := by
  have : tm e = undef := hb.eq
  unfold yl; rw [hd]
  show (match tm e with | .bool b => some b | _ => none) = none
  rw [this]; rfl
theorem S.guardU {P : Program} {ops : Array Oper} {r : List Oper} {tm : Env} {s : AHeap} {K : Env → AHeap → Prop} {d : Option Tmp} {t : TypeId} {p : String} {af : Array Edge} {op : Op} {j : Nat} {want : Bool} {e : Tmp}
    (hd : (ops[j]?).bind (·.dst) = some e) (hb : Ev tm (.tmp e) undef) (h : AOps P ops r (put tm d undef) s K) : AOps P ops (⟨d, op, t, p, af, some (j, want)⟩ :: r) tm s K := by
  unfold AOps
  simp only
  rw [yl_undef hd hb, if_neg (by simp)]; exact h
theorem D.guardU {P : Program} {ops : Array Oper} {C : List (List Nat)} {W : List (Nat × List Nat)} {i : Nat} {r : List Oper} {tm : Env} {s : AHeap} {K : Env → AHeap → Prop} {d : Option Tmp} {t : TypeId} {p : String} {af : Array Edge} {op : Op} {j : Nat} {want : Bool} {e : Tmp}
    (hd : (ops[j]?).bind (·.dst) = some e) (hb : Ev tm (.tmp e) undef) (h : AOpsD P ops C W (i + 1) r (put tm d undef) s K) : AOpsD P ops C W i (⟨d, op, t, p, af, some (j, want)⟩ :: r) tm s K :=
  .inr ⟨by show yl ops tm j ≠ some want; rw [yl_undef hd hb]; simp, h⟩
theorem bdec {P : Prop} {b : Bool} {i : Decidable P} (h : b = true ↔ P) : Value.bool b = Value.bool (@decide P i) := by
  congr 1; rw [Bool.eq_iff_iff, decide_eq_true_iff]; exact h
theorem mem {P : Program} {n : Nat} {c : Code} {Q : AExit → Env → AHeap → Prop} {tm : Env} {s : AHeap} (Mp : AHeap → Prop) (h : Mp s) (hr : ∀ s2, Mp s2 → AWp P n c Q tm s2) : AWp P n c Q tm s := hr s h
end Go.Proofs.Ytnbgeodignljfaa.Ab
