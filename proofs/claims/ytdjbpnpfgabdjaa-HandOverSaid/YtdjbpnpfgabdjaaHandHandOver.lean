/- What the functions on a session's ends answer, as plain terms. -/
import Derived.Test.YtdjbpnpfgabdjaaEvLib
import Derived.Test.YtdjbpnpfgabdjaaPHandOverx
set_option linter.unusedSimpArgs false
set_option linter.unusedVariables false
namespace Go.Proofs.Ytdjbpnpfgabdjaa.PHandOver
open Go.RowKit Go.Proofs.YtdjbpnpfgabdjaaW.PrintWords Go.Proofs.YtdjbpnpfgabdjaaW.PrintLast Go.Proofs.Ytdjbpnpfgabdjaa.EvLib

/-- May an end be? -/
abbrev MayV (a b c : Int) (d : Bool) : Prop := (0 ≤ a ∧ a ≤ 2147483647) ∧ (d = true ∧ b = 0 ∧ c = 0 ∨ d = false ∧ (b ≠ 0 ∧ b = a ∧ c = 0 ∨ b = 0 ∧ c > a ∧ c ≤ 2147483647))
theorem mayT (a b c : Int) : MayV a b c true ↔ (0 ≤ a ∧ a ≤ 2147483647) ∧ b = 0 ∧ c = 0 := by simp [MayV]
theorem mayF (a b c : Int) : MayV a b c false ↔ (0 ≤ a ∧ a ≤ 2147483647) ∧ (b ≠ 0 ∧ b = a ∧ c = 0 ∨ b = 0 ∧ c > a ∧ c ≤ 2147483647) := by simp [MayV]
theorem check_v (a b c : Int) (d : Bool) : hand_Check.f a b c d = some (if MayV a b c d then 0 else 1) := by
  unfold hand_Check.f hand_count.f
  by_cases hm : (0 ≤ a ∧ a ≤ 2147483647)
  · simp only [if_pos (show a ≥ 0 from hm.1), Option.bind_some, decide_eq_true hm.2, if_true]
    cases d
    · simp only [mayF, Bool.false_eq_true, if_false]
      (repeat' split) <;> first | rfl | (exfalso; omega)
    · simp only [mayT, if_true]
      (repeat' split) <;> first | rfl | (exfalso; omega)
  · have e : ((if a ≥ 0 then some (decide (a ≤ 2147483647)) else some false) : Option Bool) = some false := by
      by_cases h : a ≥ 0
      · rw [if_pos h, decide_eq_false (by omega)]
      · rw [if_neg h]
    simp only [e, Option.bind_some, Bool.false_eq_true, if_false]
    have hn : ¬ MayV a b c d := fun h => hm h.1
    simp only [if_neg hn]
    (repeat' split) <;> rfl
-- theorem may_j (a b c : Int) (d x : Bool) (hx : x = true ↔ ¬ (0 ≤ a ∧ a ≤ 2147483647)) : Ev (fun k => withyref16_May.j0 k x a b c d) (decide (MayV a b c d)) := by
--   refine Ev.step (fun k => ?_) (Ev.now _)
--   simp only [withyref16_May.j0]
--   by_cases h : x = true
--   · rw [if_pos h, decide_eq_false (fun h2 => hx.1 h h2.1)]
--   · have h' : (0 ≤ a ∧ a ≤ 2147483647) := Decidable.byContradiction (fun h2 => h (hx.2 h2))
--     rw [if_neg h]
--     cases d
--     · simp only [mayF, Bool.false_eq_true, if_false]
--       (repeat' split) <;> first | (congr 1; rw [Bool.eq_iff_iff]; simp only [beq_iff_eq, decide_eq_true_iff]; omega) | (congr 1; rw [decide_eq_decide]; omega) | (congr 1; symm; rw [decide_eq_false_iff_not]; omega)
--     · simp only [mayT, if_true]
--       (repeat' split) <;> first | (congr 1; rw [Bool.eq_iff_iff]; simp only [beq_iff_eq, decide_eq_true_iff]; omega) | (congr 1; symm; rw [decide_eq_false_iff_not]; omega)
-- theorem may_ev (a b c : Int) (d : Bool) : Ev (fun k => withyref16_May.f k a b c d) (decide (MayV a b c d)) := by
--   unfold withyref16_May.f
--   refine Ev.cases (fun h => ?_) (fun h => ?_)
--   · exact may_j _ _ _ _ _ ⟨fun _ => by omega, fun _ => rfl⟩
--   · refine may_j _ _ _ _ _ ?_
--     rw [decide_eq_true_iff]
--     omega
/-- A new end, or why there is none. -/
def newV (a l : Int) : Int × Int × Int × Bool × Int := if 0 ≤ a ∧ a ≤ 2147483647 ∧ 1 ≤ l ∧ l ≤ 2147483647 then (if a ≥ l then (a, 0, 0, true, 0) else (a, 0, a + 1, false, 0)) else (0, 0, 0, false, 1)
theorem count_v (a b : Int) : hand_count.f a b = some (decide (b ≤ a ∧ a ≤ 2147483647)) := by
  unfold hand_count.f
  by_cases h : a ≥ b
  · rw [if_pos h]; congr 1; rw [decide_eq_decide]; omega
  · rw [if_neg h, decide_eq_false (by omega)]
theorem new_yes (a l : Int) (h : ¬ (0 ≤ a ∧ a ≤ 2147483647 ∧ 1 ≤ l ∧ l ≤ 2147483647)) : Ev (fun k => hand_New.j0 k a l true) (newV a l) := by
  unfold newV
  rw [if_neg h]
  refine Ev.step (fun k => ?_) (Ev.now _)
  simp only [hand_New.j0]
  rfl
theorem new_ev (a l : Int) : Ev (fun k => hand_New.f k a l) (newV a l) := by
  unfold hand_New.f
  refine Ev.plain (count_v a 0) ?_
  refine Ev.cases (fun h1 => ?_) (fun h1 => ?_)
  · have h1' := of_decide_eq_true h1
    refine Ev.plain (count_v l 1) ?_
    by_cases h2 : 1 ≤ l ∧ l ≤ 2147483647
    · rw [decide_eq_true h2]
      refine Ev.step (fun k => ?_) (Ev.now _)
      simp only [hand_New.j0, newV]
      rw [if_pos (c := 0 ≤ a ∧ a ≤ 2147483647 ∧ 1 ≤ l ∧ l ≤ 2147483647) (by omega)]
      rw [wrap_up (by omega) (by omega)]
      by_cases h3 : a ≥ l
      · rw [if_pos h3, if_pos h3]; rfl
      · rw [if_neg h3, if_neg h3]; rfl
    · rw [decide_eq_false h2]; exact new_yes _ _ (by omega)
  · exact new_yes _ _ (fun h => h1 (decide_eq_true (by omega)))
/-- What a proposal is to an end that may be. -/
def hearV (a b c : Int) (d : Bool) (p l : Int) : Int × Int × Int × Bool × Bool × Bool := if d = true ∨ p < 1 ∨ p > l then (a, b, c, d, false, false) else if b = 0 then (a, b, mx c p, d, p == mx c p, false) else if p > b then (a, 0, p, false, true, true) else (a, b, c, d, p == b, false)
def helloV (a b c : Int) (d : Bool) (p l : Int) : Int × Int × Int × Bool × Bool × Bool × Int := if MayV a b c d ∧ 1 ≤ l ∧ l ≤ 2147483647 then ((hearV a b c d p l).1, (hearV a b c d p l).2.1, (hearV a b c d p l).2.2.1, (hearV a b c d p l).2.2.2.1, (hearV a b c d p l).2.2.2.2.1, (hearV a b c d p l).2.2.2.2.2, 0) else (0, 0, 0, false, false, false, 1)
theorem hello_j1 (a b c : Int) (d : Bool) (p l : Int) (x : Bool) (hx : x = true ↔ (d = true ∨ p < 1 ∨ p > l)) : Ev (fun k => hand_Hello.j1 k p x a b c d) ((hearV a b c d p l).1, (hearV a b c d p l).2.1, (hearV a b c d p l).2.2.1, (hearV a b c d p l).2.2.2.1, (hearV a b c d p l).2.2.2.2.1, (hearV a b c d p l).2.2.2.2.2, 0) := by
  refine Ev.step (fun k => ?_) (Ev.now _)
  simp only [hand_Hello.j1, hearV]
  by_cases h : x = true
  · have h' := hx.1 h
    rw [if_pos h]
    simp only [if_pos h']
  · have h' := mt hx.2 h
    rw [if_neg h]
    simp only [if_neg h']
    by_cases h2 : b = 0
    · simp only [if_pos h2]
    · simp only [if_neg h2]
      by_cases h3 : p > b
      · simp only [if_pos h3]
      · simp only [if_neg h3]
theorem hello_ev (a b c : Int) (d : Bool) (p l : Int) : Ev (fun k => hand_Hello.f k a b c d p l) (helloV a b c d p l) := by
  have no : ¬ (MayV a b c d ∧ 1 ≤ l ∧ l ≤ 2147483647) → Ev (fun k => hand_Hello.j0 k p l true a b c d) (helloV a b c d p l) := by
    intro h
    unfold helloV
    rw [if_neg h]
    refine Ev.step (fun k => ?_) (Ev.now _)
    simp only [hand_Hello.j0]
    rfl
  unfold hand_Hello.f
  refine Ev.plain (check_v a b c d) ?_
  by_cases h : MayV a b c d
  · rw [if_pos h]
    refine Ev.pos rfl ?_
    refine Ev.plain (count_v l 1) ?_
    by_cases h2 : 1 ≤ l ∧ l ≤ 2147483647
    · rw [decide_eq_true h2]
      refine Ev.step (f := fun k => _) (fun k => by simp only [hand_Hello.j0]; rfl) ?_
      refine Ev.neg (fun h => Bool.noConfusion h) ?_
      unfold helloV
      rw [if_pos ⟨h, h2⟩]
      refine Ev.cases (fun h3 => ?_) (fun h3 => ?_)
      · exact hello_j1 _ _ _ _ _ _ _ ⟨fun _ => .inl h3, fun _ => rfl⟩
      · refine Ev.cases (fun h4 => ?_) (fun h4 => ?_)
        · exact hello_j1 _ _ _ _ _ _ _ ⟨fun _ => .inr (.inl h4), fun _ => rfl⟩
        · refine hello_j1 _ _ _ _ _ _ _ ?_
          rw [decide_eq_true_iff]
          constructor
          · exact fun h => .inr (.inr h)
          · rintro (h | h | h)
            · exact absurd h h3
            · exact absurd h h4
            · exact h
    · rw [decide_eq_false h2]; exact no (fun h => h2 h.2)
  · rw [if_neg h]
    refine Ev.neg (by decide) (no (fun h2 => h h2.1))
/-- What a welcome is to an end. -/
def takeV (a b c : Int) (d : Bool) (p : Int) : Int × Int × Int × Bool × Bool := if c = 0 ∨ p ≠ c then (a, b, c, d, false) else (p, p, 0, false, true)
def welcomeV (a b c : Int) (d : Bool) (p : Int) : Int × Int × Int × Bool × Bool × Int := if MayV a b c d then ((takeV a b c d p).1, (takeV a b c d p).2.1, (takeV a b c d p).2.2.1, (takeV a b c d p).2.2.2.1, (takeV a b c d p).2.2.2.2, 0) else (0, 0, 0, false, false, 1)
theorem welcome_v (a b c : Int) (d : Bool) (p : Int) : hand_Welcome.f a b c d p = some (welcomeV a b c d p) := by
  unfold hand_Welcome.f welcomeV takeV
  rw [check_v]
  by_cases h : MayV a b c d
  · simp only [if_pos h, Option.bind_some, if_true]
    by_cases h1 : c = 0
    · simp [h1]
    · by_cases h2 : p = c
      · simp [h1, h2]
      · simp [h1, h2]
  · simp [if_neg h]
theorem awake_ev : Ev (fun k => withylaw16_awake.f k) true := by
  unfold withylaw16_awake.f
  refine Ev.bind (new_ev 0 9) ?_
  refine Ev.bind (hello_ev _ _ _ _ 3 9) ?_
  refine Ev.plain (welcome_v _ _ _ _ 3) ?_
  have e1 : newV 0 9 = (0, 0, 1, false, 0) := by decide
  rw [e1]
  have e2 : helloV 0 0 1 false 3 9 = (0, 0, 3, false, true, false, 0) := by decide
  simp only [e2]
  have e3 : welcomeV 0 0 3 false 3 = (3, 3, 0, false, true, 0) := by decide
  simp only [e3]
  exact Ev.now _
/-- An end whose session ends. -/
def closeV (a b c : Int) (d : Bool) (l : Int) : Int × Int × Int × Bool × Int := if MayV a b c d ∧ 1 ≤ l ∧ l ≤ 2147483647 then (if b = 0 then (a, b, c, d, 0) else newV a l) else (0, 0, 0, false, 1)
theorem close_ev (a b c : Int) (d : Bool) (l : Int) : Ev (fun k => hand_Close.f k a b c d l) (closeV a b c d l) := by
  have no : ¬ (MayV a b c d ∧ 1 ≤ l ∧ l ≤ 2147483647) → Ev (fun k => hand_Close.j0 k l true a b c d) (closeV a b c d l) := by
    intro h
    unfold closeV
    rw [if_neg h]
    refine Ev.step (fun k => ?_) (Ev.now _)
    simp only [hand_Close.j0]
    rfl
  unfold hand_Close.f
  refine Ev.plain (check_v a b c d) ?_
  by_cases h : MayV a b c d
  · rw [if_pos h]
    refine Ev.pos rfl ?_
    refine Ev.plain (count_v l 1) ?_
    by_cases h2 : 1 ≤ l ∧ l ≤ 2147483647
    · rw [decide_eq_true h2]
      refine Ev.step (f := fun k => _) (fun k => by simp only [hand_Close.j0]; rfl) ?_
      refine Ev.neg (fun h => Bool.noConfusion h) ?_
      unfold closeV
      rw [if_pos ⟨h, h2⟩]
      refine Ev.cases (fun h3 => ?_) (fun h3 => ?_)
      · rw [if_pos h3]; exact Ev.now _
      · rw [if_neg h3]
        exact Ev.bind (new_ev a l) (Ev.now _)
    · rw [decide_eq_false h2]; exact no (fun h => h2 h.2)
  · rw [if_neg h]
    refine Ev.neg (by decide) (no (fun h2 => h h2.1))
end Go.Proofs.Ytdjbpnpfgabdjaa.PHandOver
