/- For any epoch, limit and node: the program's name of the next epoch is the reference's, and is above every name of an epoch so far. What is left of that statement when the program's machine is taken away. -/
import Derived.Test.YtihcdgkhhmkniaaEidEidAfter
namespace Go.Proofs.Ytihcdgkhhmkniaa.Pure
open Go.RowKit Go.Proofs.Ytihcdgkhhmkniaa.PEidAfter Go.Proofs.YtihcdgkhhmkniaaW.PrintWords Go.Proofs.YtihcdgkhhmkniaaW.PrintLast Go.Proofs.Ytihcdgkhhmkniaa.EvLib

theorem rafter_yes (a b c : Int) (h : ¬ (1 ≤ c ∧ c ≤ 64 ∧ 0 ≤ a ∧ a ≤ 2147483647 ∧ 1 ≤ b ∧ b ≤ 2147483647)) : Ev (fun k => withyref12_After.j0 k a b c true) (afterV a b c) := by
  unfold afterV
  rw [if_neg h]
  refine Ev.step (fun k => ?_) (Ev.now _)
  simp only [withyref12_After.j0]
  rfl
theorem rafter_no (a b c : Int) (h : 1 ≤ c ∧ c ≤ 64 ∧ 0 ≤ a ∧ a ≤ 2147483647 ∧ 1 ≤ b ∧ b ≤ 2147483647) : Ev (fun k => withyref12_After.j0 k a b c false) (afterV a b c) := by
  unfold afterV
  rw [if_pos h]
  refine Ev.step (fun k => ?_) (Ev.now _)
  simp only [withyref12_After.j0]
  have hw : wrap64 (a + 1) = a + 1 := wrap_up h.2.2.1 (by omega)
  rw [hw]
  by_cases hab : a ≥ b
  · rw [if_pos hab, if_pos hab]; rfl
  · rw [if_neg hab, if_neg hab]; rfl
theorem rnode_v (a : Int) : withyref05_Node.f a = some (decide (1 ≤ a ∧ a ≤ 64)) := by
  unfold withyref05_Node.f
  by_cases h : a ≥ 1
  · rw [if_pos h]; congr 1; rw [decide_eq_decide]; omega
  · rw [if_neg h, decide_eq_false (by omega)]
theorem rafter_ev (a b c : Int) : Ev (fun k => withyref12_After.f k a b c) (afterV a b c) := by
  unfold withyref12_After.f
  refine Ev.plain (rnode_v c) ?_
  refine Ev.cases (fun h1 => ?_) (fun h1 => ?_)
  · have h1' := of_decide_eq_true h1
    refine Ev.cases (fun h2 => rafter_yes _ _ _ (by omega)) (fun h2 => ?_)
    refine Ev.cases (fun h3 => rafter_yes _ _ _ (by omega)) (fun h3 => ?_)
    refine Ev.cases (fun h4 => rafter_yes _ _ _ (by omega)) (fun h4 => ?_)
    by_cases h5 : b > 2147483647
    · rw [decide_eq_true h5]; exact rafter_yes _ _ _ (by omega)
    · rw [decide_eq_false h5]; exact rafter_no _ _ _ (by omega)
  · refine rafter_yes _ _ _ (fun h => h1 (decide_eq_true (by omega)))

theorem EidAfter : withylaw12_EidAfter.Pure := by
  intro a b x c _ _ _ _
  refine Ev.rounds (g := fun k => withylaw12_EidAfter.f k a b x c) ?_
  unfold withylaw12_EidAfter.f
  refine Ev.bind (eid_After.ev a b c) ?_
  refine Ev.bind (rafter_ev a b c) ?_
  refine Ev.pos rfl ?_
  have e : (!((afterV a b c).1 == (afterV a b c).1) || (!((afterV a b c).2.1 == (afterV a b c).2.1))) = false := by simp
  rw [e]
  have fin : Ev (fun k => (withylaw12_awake.f k).bind fun t129 => (some t129)) true := Ev.bind awake_ev (Ev.now _)
  refine Ev.step (f := fun k => _) (fun k => by simp only [withylaw12_EidAfter.j0]; rfl) ?_
  refine Ev.neg (fun h => Bool.noConfusion h) ?_
  refine Ev.cases (fun h0 => ?_) (fun _ => fin)
  refine Ev.cases (fun _ => fin) (fun h1 => ?_)
  refine Ev.bind (eid_Compare.ev _ _ _ _) ?_
  refine Ev.pos ?_ fin
  rw [eidV_lt]
  unfold lessV
  unfold afterV at h0 ⊢
  split at h0
  · rename_i hc
    rw [if_pos hc]
    split at h0
    · cases h0
    · rename_i hab
      rw [if_neg hab]
      exact .inl (by show x < a + 1; omega)
  · cases h0
end Go.Proofs.Ytihcdgkhhmkniaa.Pure
