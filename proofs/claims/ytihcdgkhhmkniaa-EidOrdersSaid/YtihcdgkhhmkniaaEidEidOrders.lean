/- What the functions on names of fragments answer, as plain terms. -/
import Derived.Test.YtihcdgkhhmkniaaEvLib
import Derived.Test.YtihcdgkhhmkniaaPEidOrdersx
set_option linter.unusedSimpArgs false
set_option linter.unusedVariables false
namespace Go.Proofs.Ytihcdgkhhmkniaa.PEidOrders
open Go.RowKit Go.Proofs.YtihcdgkhhmkniaaW.PrintWords Go.Proofs.YtihcdgkhhmkniaaW.PrintLast Go.Proofs.Ytihcdgkhhmkniaa.EvLib

/-- The name of the next epoch, or why there is none. -/
def afterV (a b c : Int) : Int × Int × Int := if 1 ≤ c ∧ c ≤ 64 ∧ 0 ≤ a ∧ a ≤ 2147483647 ∧ 1 ≤ b ∧ b ≤ 2147483647 then (if a ≥ b then (0, 0, 10) else (a + 1, c, 0)) else (0, 0, 1)

theorem after_yes (a b c : Int) (h : ¬ (1 ≤ c ∧ c ≤ 64 ∧ 0 ≤ a ∧ a ≤ 2147483647 ∧ 1 ≤ b ∧ b ≤ 2147483647)) : Ev (fun k => eid_After.j0 k a b c true) (afterV a b c) := by
  unfold afterV
  rw [if_neg h]
  refine Ev.step (fun k => ?_) (Ev.now _)
  simp only [eid_After.j0]
  rfl
theorem after_no (a b c : Int) (h : 1 ≤ c ∧ c ≤ 64 ∧ 0 ≤ a ∧ a ≤ 2147483647 ∧ 1 ≤ b ∧ b ≤ 2147483647) : Ev (fun k => eid_After.j0 k a b c false) (afterV a b c) := by
  unfold afterV
  rw [if_pos h]
  refine Ev.step (fun k => ?_) (Ev.now _)
  simp only [eid_After.j0]
  have hw : wrap64 (a + 1) = a + 1 := wrap_up h.2.2.1 (by omega)
  rw [hw]
  by_cases hab : a ≥ b
  · rw [if_pos hab, if_pos hab]; rfl
  · rw [if_neg hab, if_neg hab]; rfl
theorem node_v (a : Int) : edge_Node.f a = some (decide (1 ≤ a ∧ a ≤ 64)) := by
  unfold edge_Node.f
  by_cases h : a ≥ 1
  · rw [if_pos h]; congr 1; rw [decide_eq_decide]; omega
  · rw [if_neg h, decide_eq_false (by omega)]
theorem eid_After.ev (a b c : Int) : Ev (fun k => eid_After.f k a b c) (afterV a b c) := by
  unfold eid_After.f
  refine Ev.plain (node_v c) ?_
  refine Ev.cases (fun h1 => ?_) (fun h1 => ?_)
  · have h1' := of_decide_eq_true h1
    refine Ev.cases (fun h2 => after_yes _ _ _ (by omega)) (fun h2 => ?_)
    refine Ev.cases (fun h3 => after_yes _ _ _ (by omega)) (fun h3 => ?_)
    refine Ev.cases (fun h4 => after_yes _ _ _ (by omega)) (fun h4 => ?_)
    by_cases h5 : b > 2147483647
    · rw [decide_eq_true h5]; exact after_yes _ _ _ (by omega)
    · rw [decide_eq_false h5]; exact after_no _ _ _ (by omega)
  · refine after_yes _ _ _ (fun h => h1 (decide_eq_true (by omega)))
theorem awake_ev : Ev (fun k => withylaw12_awake.f k) true := by
  refine Ev.bind (eid_After.ev 4 9 3) ?_
  have e : afterV 4 9 3 = (5, 3, 0) := by decide
  rw [e]
  exact Ev.now _
/-- How numbers are ordered. -/
def cmpV (x y : Int) : Int := if x < y then -1 else if x > y then 1 else 0
theorem cmp_v (x y : Int) : cmp_Compare_int.f x y = some (cmpV x y) := by
  unfold cmp_Compare_int.f cmp_isNaN_int.f cmpV
  simp only [bne_self_eq_false, Option.bind_some, Bool.false_eq_true, if_false]
  by_cases h : x < y
  · rw [if_pos h, if_pos h]
  · rw [if_neg h, if_neg h]
    by_cases h2 : x > y
    · rw [if_pos h2, if_pos h2]
    · rw [if_neg h2, if_neg h2]
/-- How names are ordered. -/
def eidV (a b c d : Int) : Int := if cmpV a c = 0 then cmpV b d else cmpV a c
theorem or_ev (t u : Int) : Ev (fun k => cmp_Or_int.f k [t, u]) (if t = 0 then u else t) := by
  refine Ev.of (k := 3) (cmp_Or_int.mono [t, u]) ?_
  unfold cmp_Or_int.f
  by_cases h : t = 0
  · by_cases h2 : u = 0
    · subst h; subst h2; simp [cmp_Or_int.l0, rd, wrap64]
    · subst h
      simp [cmp_Or_int.l0, rd, wrap64, h2]
  · simp [cmp_Or_int.l0, rd, h]
theorem eid_Compare.ev (a b c d : Int) : Ev (fun k => eid_Compare.f k a b c d) (eidV a b c d) := by
  unfold eid_Compare.f
  refine Ev.plain (cmp_v a c) ?_
  refine Ev.plain (cmp_v b d) ?_
  exact Ev.bind (or_ev _ _) (Ev.now _)
/-- Is a name ahead of another one? -/
abbrev lessV (a b c d : Int) : Prop := a < c ∨ a = c ∧ b < d
theorem eidV_lt (a b c d : Int) : eidV a b c d < 0 ↔ lessV a b c d := by
  unfold eidV cmpV lessV
  (repeat' split) <;> omega
theorem eidV_zero (a b c d : Int) : eidV a b c d = 0 ↔ a = c ∧ b = d := by
  unfold eidV cmpV
  (repeat' split) <;> omega
theorem eidV_swap (a b c d : Int) : eidV c d a b = -(eidV a b c d) := by
  unfold eidV cmpV
  (repeat' split) <;> omega
theorem eidV_bounds (a b c d : Int) : -1 ≤ eidV a b c d ∧ eidV a b c d ≤ 1 := by
  unfold eidV cmpV
  (repeat' split) <;> omega
end Go.Proofs.Ytihcdgkhhmkniaa.PEidOrders
