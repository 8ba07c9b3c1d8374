/- For any last number, limit and end: a new end, and one whose session ends, are the reference's. What is left of that statement when the program's machine is taken away. -/
import Derived.Test.YtdjbpnpfgabdjaaHandHandNew
set_option linter.unusedVariables false
namespace Go.Proofs.Ytdjbpnpfgabdjaa.Pure
open Go.RowKit Go.Proofs.Ytdjbpnpfgabdjaa.PHandNew Go.Proofs.YtdjbpnpfgabdjaaW.PrintWords Go.Proofs.YtdjbpnpfgabdjaaW.PrintLast Go.Proofs.Ytdjbpnpfgabdjaa.EvLib

theorem limit_v (l : Int) : withyref16_Limit.f l = some (decide (1 ≤ l ∧ l ≤ 2147483647)) := by
  unfold withyref16_Limit.f
  by_cases h : l ≥ 1
  · rw [if_pos h]; congr 1; rw [decide_eq_decide]; omega
  · rw [if_neg h, decide_eq_false (by omega)]
theorem rnew_v (a l : Int) (h : 0 ≤ a ∧ a ≤ 2147483647 ∧ 1 ≤ l ∧ l ≤ 2147483647) : withyref16_New.f a l = some ((newV a l).1, (newV a l).2.1, (newV a l).2.2.1, (newV a l).2.2.2.1) := by
  unfold withyref16_New.f newV
  rw [wrap_up (by omega) (by omega)]
  simp only [if_pos h]
  by_cases h2 : a ≥ l
  · simp only [if_pos h2]; rw [if_pos (by omega)]
  · simp only [if_neg h2]; rw [if_neg (by omega)]
theorem new_ok (a l : Int) (h : 0 ≤ a ∧ a ≤ 2147483647 ∧ 1 ≤ l ∧ l ≤ 2147483647) : (newV a l).2.2.2.2 = 0 ∧ MayV (newV a l).1 (newV a l).2.1 (newV a l).2.2.1 (newV a l).2.2.2.1 := by
  unfold newV
  simp only [if_pos h]
  by_cases h2 : a ≥ l
  · simp only [if_pos h2]; exact ⟨trivial, ⟨h.1, h.2.1⟩, .inl ⟨rfl, rfl, rfl⟩⟩
  · simp only [if_neg h2]; refine ⟨trivial, ⟨h.1, h.2.1⟩, .inr ⟨rfl, .inr ⟨rfl, ?_, ?_⟩⟩⟩ <;> omega
theorem rclose_v (a b c : Int) (d : Bool) (l : Int) (h : MayV a b c d) (hl : 1 ≤ l ∧ l ≤ 2147483647) : withyref16_Close.f a b c d l = some ((closeV a b c d l).1, (closeV a b c d l).2.1, (closeV a b c d l).2.2.1, (closeV a b c d l).2.2.2.1) ∧ (closeV a b c d l).2.2.2.2 = 0 := by
  have hb : 0 ≤ b := by rcases h with ⟨h0, h | h⟩ <;> omega
  have hn : 0 ≤ a ∧ a ≤ 2147483647 ∧ 1 ≤ l ∧ l ≤ 2147483647 := ⟨h.1.1, h.1.2, hl⟩
  unfold withyref16_Close.f closeV
  simp only [if_pos (show MayV a b c d ∧ 1 ≤ l ∧ l ≤ 2147483647 from ⟨h, hl⟩)]
  by_cases h2 : b = 0
  · simp only [if_pos h2]; rw [if_neg (by omega)]; exact ⟨rfl, trivial⟩
  · simp only [if_neg h2]; rw [if_pos (by omega), rnew_v a l hn]; exact ⟨rfl, (new_ok a l hn).1⟩

theorem HandNew : withylaw16_HandNew.Pure := by
  intro a l x y z d _ _ _ _ _
  refine Ev.rounds (g := fun k => withylaw16_HandNew.f k a l x y z d) ?_
  have last : Ev (fun k => withylaw16_HandNew.j1 k l (closeV x y z d l).2.2.2.2 x y z d (closeV x y z d l).1 (closeV x y z d l).2.1 (closeV x y z d l).2.2.1 (closeV x y z d l).2.2.2.1) true := by
    refine Ev.step (f := fun k => _) (fun k => by simp only [withylaw16_HandNew.j1]; rfl) ?_
    refine Ev.bind (may_ev x y z d) ?_
    have no : ¬ (MayV x y z d ∧ 1 ≤ l ∧ l ≤ 2147483647) → Ev (fun k => withylaw16_HandNew.j2 k l (closeV x y z d l).2.2.2.2 true x y z d (closeV x y z d l).1 (closeV x y z d l).2.1 (closeV x y z d l).2.2.1 (closeV x y z d l).2.2.2.1) true := by
      intro h
      have e : closeV x y z d l = (0, 0, 0, false, 1) := by unfold closeV; rw [if_neg h]
      rw [e]
      refine Ev.step (f := fun k => _) (fun k => by simp only [withylaw16_HandNew.j2]; rfl) ?_
      refine Ev.pos trivial ?_
      refine Ev.pos trivial ?_
      refine Ev.pos (by decide) ?_
      exact Ev.bind awake_ev (Ev.now _)
    by_cases hm : MayV x y z d
    · rw [decide_eq_true hm]
      refine Ev.pos rfl ?_
      refine Ev.plain (limit_v l) ?_
      by_cases hl : 1 ≤ l ∧ l ≤ 2147483647
      · rw [decide_eq_true hl]
        have hc := rclose_v x y z d l hm hl
        refine Ev.step (f := fun k => _) (fun k => by simp only [withylaw16_HandNew.j2]; rfl) ?_
        refine Ev.neg (fun h => Bool.noConfusion h) ?_
        refine Ev.pos hc.2 ?_
        refine Ev.plain hc.1 ?_
        refine Ev.pos (by simp) ?_
        exact Ev.bind awake_ev (Ev.now _)
      · rw [decide_eq_false hl]; exact no (fun h => hl h.2)
    · rw [decide_eq_false hm]
      exact Ev.neg (fun h => Bool.noConfusion h) (no (fun h => hm h.1))
  have bad : ¬ (0 ≤ a ∧ a ≤ 2147483647 ∧ 1 ≤ l ∧ l ≤ 2147483647) → Ev (fun k => withylaw16_HandNew.j0 k a l (newV a l).2.2.2.2 (closeV x y z d l).2.2.2.2 true x y z d (newV a l).1 (newV a l).2.1 (newV a l).2.2.1 (newV a l).2.2.2.1 (closeV x y z d l).1 (closeV x y z d l).2.1 (closeV x y z d l).2.2.1 (closeV x y z d l).2.2.2.1) true := by
    intro h
    have e : newV a l = (0, 0, 0, false, 1) := by unfold newV; rw [if_neg h]
    rw [e]
    refine Ev.step (f := fun k => _) (fun k => by simp only [withylaw16_HandNew.j0]; rfl) ?_
    refine Ev.pos trivial ?_
    refine Ev.pos trivial ?_
    exact Ev.neg (by decide) last
  unfold withylaw16_HandNew.f
  refine Ev.bind (new_ev a l) ?_
  refine Ev.bind (close_ev x y z d l) ?_
  refine Ev.plain (check_v x y z d) ?_
  refine Ev.bind (may_ev x y z d) ?_
  refine Ev.neg (by by_cases h : MayV x y z d <;> simp [h]) ?_
  refine Ev.cases (fun h1 => bad (by omega)) (fun h1 => ?_)
  refine Ev.cases (fun h2 => bad (by omega)) (fun h2 => ?_)
  refine Ev.plain (limit_v l) ?_
  by_cases hl : 1 ≤ l ∧ l ≤ 2147483647
  · rw [decide_eq_true hl]
    have hn : 0 ≤ a ∧ a ≤ 2147483647 ∧ 1 ≤ l ∧ l ≤ 2147483647 := by omega
    have hk := new_ok a l hn
    refine Ev.step (f := fun k => _) (fun k => by simp only [withylaw16_HandNew.j0]; rfl) ?_
    refine Ev.neg (fun h => Bool.noConfusion h) ?_
    refine Ev.pos hk.1 ?_
    refine Ev.plain (rnew_v a l hn) ?_
    refine Ev.neg (by simp) ?_
    refine Ev.bind (may_ev _ _ _ _) ?_
    exact Ev.pos (decide_eq_true hk.2) last
  · rw [decide_eq_false hl]; exact bad (by omega)
end Go.Proofs.Ytdjbpnpfgabdjaa.Pure
