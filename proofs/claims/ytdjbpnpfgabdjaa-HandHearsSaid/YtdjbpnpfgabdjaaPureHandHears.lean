/- For any end, number and limit: what a proposal and a welcome are to it is the reference's answer. What is left of that statement when the program's machine is taken away. -/
import Derived.Test.YtdjbpnpfgabdjaaHandHandHears
set_option linter.unusedVariables false
namespace Go.Proofs.Ytdjbpnpfgabdjaa.Pure
open Go.RowKit Go.Proofs.Ytdjbpnpfgabdjaa.PHandHears Go.Proofs.YtdjbpnpfgabdjaaW.PrintWords Go.Proofs.YtdjbpnpfgabdjaaW.PrintLast Go.Proofs.Ytdjbpnpfgabdjaa.EvLib

theorem limit_v (l : Int) : withyref16_Limit.f l = some (decide (1 ≤ l ∧ l ≤ 2147483647)) := by
  unfold withyref16_Limit.f
  by_cases h : l ≥ 1
  · rw [if_pos h]; congr 1; rw [decide_eq_decide]; omega
  · rw [if_neg h, decide_eq_false (by omega)]
theorem rwelcome_v (a b c : Int) (d : Bool) (p : Int) (h : MayV a b c d) : withyref16_Welcome.f a b c d p = some (takeV a b c d p) := by
  unfold withyref16_Welcome.f takeV
  have hc : 0 ≤ c := by rcases h with ⟨h0, h | h⟩ <;> omega
  by_cases h1 : c > 0
  · rw [if_pos h1]
    by_cases h2 : c = p
    · rw [if_pos h2, if_neg (by omega)]
    · rw [if_neg h2, if_pos (by omega)]
  · rw [if_neg h1, if_pos (by omega)]
theorem rhello_j (a b c : Int) (d : Bool) (p l : Int) (x : Bool) (h : MayV a b c d) (hx : x = true ↔ (d = true ∨ p < 1 ∨ p > l)) : Ev (fun k => withyref16_Hello.j0 k p x a b c d) (hearV a b c d p l) := by
  refine Ev.step (fun k => ?_) (Ev.now _)
  simp only [withyref16_Hello.j0, hearV]
  by_cases h0 : x = true
  · rw [if_pos h0, if_pos (hx.1 h0)]
  · have h1 := mt hx.2 h0
    rw [if_neg h0, if_neg h1]
    by_cases h2 : b > 0
    · rw [if_pos h2, if_neg (show ¬ b = 0 by omega)]
      split <;> rfl
    · have hb : b = 0 := by rcases h with ⟨h0, h | h⟩ <;> omega
      rw [if_neg h2, if_pos hb]
      unfold mx
      by_cases h3 : p > c
      · rw [if_pos h3]
        simp only [hb]
        split
        · rfl
        · exfalso; omega
      · rw [if_neg h3]
        split
        · exfalso; omega
        · rfl
theorem rhello_ev (a b c : Int) (d : Bool) (p l : Int) (h : MayV a b c d) : Ev (fun k => withyref16_Hello.f k a b c d p l) (hearV a b c d p l) := by
  unfold withyref16_Hello.f
  refine Ev.cases (fun h3 => ?_) (fun h3 => ?_)
  · exact rhello_j _ _ _ _ _ _ _ h ⟨fun _ => .inl h3, fun _ => rfl⟩
  · refine Ev.cases (fun h4 => ?_) (fun h4 => ?_)
    · exact rhello_j _ _ _ _ _ _ _ h ⟨fun _ => .inr (.inl h4), fun _ => rfl⟩
    · refine rhello_j _ _ _ _ _ _ _ h ?_
      rw [decide_eq_true_iff]
      constructor
      · exact fun h => .inr (.inr h)
      · rintro (h | h | h)
        · exact absurd h h3
        · exact absurd h h4
        · exact h
theorem hear_up (a b c : Int) (d : Bool) (p l : Int) (h : MayV a b c d) : (hearV a b c d p l).1 = a ∧ (hearV a b c d p l).2.2.1 ≥ c := by
  have hb : b = 0 ∨ c = 0 := by rcases h with ⟨h0, h | h⟩ <;> omega
  unfold hearV mx
  by_cases h0 : (d = true ∨ p < 1 ∨ p > l)
  · simp only [if_pos h0]; exact ⟨trivial, by omega⟩
  · simp only [if_neg h0]
    by_cases h1 : b = 0
    · simp only [if_pos h1]; refine ⟨trivial, ?_⟩; split <;> omega
    · simp only [if_neg h1]
      split
      · exact ⟨rfl, by show p ≥ c; omega⟩
      · exact ⟨rfl, by show c ≥ c; omega⟩
theorem take_up (a b c : Int) (d : Bool) (p : Int) (h : MayV a b c d) : a ≤ (takeV a b c d p).1 := by
  have hb : c = 0 ∨ c > a := by rcases h with ⟨h0, h | h⟩ <;> omega
  unfold takeV
  split
  · show a ≤ a; omega
  · show a ≤ p; omega

theorem HandHears : withylaw16_HandHears.Pure := by
  intro a b c d p l _ _ _ _ _
  refine Ev.rounds (g := fun k => withylaw16_HandHears.f k a b c d p l) ?_
  unfold withylaw16_HandHears.f
  refine Ev.bind (hello_ev a b c d p l) ?_
  refine Ev.plain (welcome_v a b c d p) ?_
  refine Ev.bind (may_ev a b c d) ?_
  by_cases hm : MayV a b c d
  · rw [decide_eq_true hm]
    refine Ev.pos rfl ?_
    refine Ev.plain (rwelcome_v a b c d p hm) ?_
    have ew : welcomeV a b c d p = ((takeV a b c d p).1, (takeV a b c d p).2.1, (takeV a b c d p).2.2.1, (takeV a b c d p).2.2.2.1, (takeV a b c d p).2.2.2.2, 0) := by unfold welcomeV; rw [if_pos hm]
    rw [ew]
    refine Ev.pos rfl ?_
    refine Ev.neg (by simp) ?_
    refine Ev.neg (by simp) ?_
    rw [decide_eq_false (by have := take_up a b c d p hm; show ¬ (takeV a b c d p).1 < a; omega)]
    refine Ev.step (f := fun k => _) (fun k => by simp only [withylaw16_HandHears.j0]; rfl) ?_
    refine Ev.neg (fun h => Bool.noConfusion h) ?_
    refine Ev.plain (limit_v l) ?_
    by_cases hl : 1 ≤ l ∧ l ≤ 2147483647
    · rw [decide_eq_true hl]
      refine Ev.pos rfl ?_
      refine Ev.bind (rhello_ev a b c d p l hm) ?_
      have eh : helloV a b c d p l = ((hearV a b c d p l).1, (hearV a b c d p l).2.1, (hearV a b c d p l).2.2.1, (hearV a b c d p l).2.2.2.1, (hearV a b c d p l).2.2.2.2.1, (hearV a b c d p l).2.2.2.2.2, 0) := by unfold helloV; rw [if_pos ⟨hm, hl⟩]
      rw [eh]
      have hu := hear_up a b c d p l hm
      refine Ev.pos rfl ?_
      refine Ev.pos (by simp) ?_
      refine Ev.pos (by simp) ?_
      refine Ev.pos (by simp) ?_
      refine Ev.pos (by show (hearV a b c d p l).1 ≥ a; omega) ?_
      refine Ev.pos hu.2 ?_
      exact Ev.bind awake_ev (Ev.now _)
    · rw [decide_eq_false hl]
      refine Ev.neg (fun h => Bool.noConfusion h) ?_
      have eh : helloV a b c d p l = (0, 0, 0, false, false, false, 1) := by unfold helloV; rw [if_neg (fun h => hl h.2)]
      rw [eh]
      refine Ev.pos rfl ?_
      refine Ev.neg (by decide) ?_
      refine Ev.neg (by decide) ?_
      refine Ev.pos (by decide) ?_
      exact Ev.bind awake_ev (Ev.now _)
  · rw [decide_eq_false hm]
    refine Ev.neg (fun h => Bool.noConfusion h) ?_
    have eh : helloV a b c d p l = (0, 0, 0, false, false, false, 1) := by unfold helloV; rw [if_neg (fun h => hm h.1)]
    have ew : welcomeV a b c d p = (0, 0, 0, false, false, 1) := by unfold welcomeV; rw [if_neg hm]
    rw [eh, ew]
    refine Ev.pos rfl ?_
    refine Ev.pos rfl ?_
    refine Ev.neg (by decide) ?_
    refine Ev.neg (by decide) ?_
    refine Ev.neg (by decide) ?_
    refine Ev.pos (by decide) ?_
    refine Ev.pos (by decide) ?_
    exact Ev.bind awake_ev (Ev.now _)
end Go.Proofs.Ytdjbpnpfgabdjaa.Pure
