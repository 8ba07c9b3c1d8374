/- For any three names: which may be, and their order, which is one. What is left of that statement when the program's machine is taken away. -/
import Derived.Test.YtihcdgkhhmkniaaEidEidOrders
set_option linter.unusedVariables false
namespace Go.Proofs.Ytihcdgkhhmkniaa.Pure
open Go.RowKit Go.Proofs.Ytihcdgkhhmkniaa.PEidOrders Go.Proofs.YtihcdgkhhmkniaaW.PrintWords Go.Proofs.YtihcdgkhhmkniaaW.PrintLast Go.Proofs.Ytihcdgkhhmkniaa.EvLib

theorem less_v (a b c d : Int) : withyref12_Less.f a b c d = some (decide (lessV a b c d)) := by
  unfold withyref12_Less.f lessV
  by_cases h : a < c
  · rw [if_pos h, decide_eq_true (.inl h)]
  · rw [if_neg h]
    by_cases h2 : a = c
    · rw [if_pos h2]; congr 1; rw [decide_eq_decide]; omega
    · rw [if_neg h2, decide_eq_false (by omega)]
theorem rnode_v (a : Int) : withyref05_Node.f a = some (decide (1 ≤ a ∧ a ≤ 64)) := by
  unfold withyref05_Node.f
  by_cases h : a ≥ 1
  · rw [if_pos h]; congr 1; rw [decide_eq_decide]; omega
  · rw [if_neg h, decide_eq_false (by omega)]
/-- May a name be? -/
abbrev MayV (a b : Int) : Prop := a = 0 ∧ b = 0 ∨ 1 ≤ a ∧ a ≤ 2147483647 ∧ 1 ≤ b ∧ b ≤ 64
theorem may_v (a b : Int) : withyref12_May.f a b = some (decide (MayV a b)) := by
  unfold withyref12_May.f
  simp only [rnode_v, Option.bind_some]
  unfold MayV
  (repeat' split) <;> first | (congr 1; rw [decide_eq_decide]; omega) | (rw [decide_eq_true (by omega)]; done) | (rw [decide_eq_false (by omega)]; done)
theorem check_v (a b : Int) : eid_Check.f a b = some (if MayV a b then 0 else 1) := by
  unfold eid_Check.f
  simp only [node_v, Option.bind_some]
  unfold MayV
  by_cases h : a = 0 ∧ b = 0
  · obtain ⟨rfl, rfl⟩ := h
    simp
  · have e : (!(a == 0) || (!(b == 0))) = true := by
      simp
      omega
    rw [if_pos e]
    (repeat' split) <;> first | rfl | (exfalso; simp at *; omega) | (exfalso; omega)

theorem EidOrders : withylaw12_EidOrders.Pure := by
  intro a b c d e f ha _ _ _ _ _
  have hb := eidV_bounds a b c d
  refine Ev.rounds (g := fun k => withylaw12_EidOrders.f k a b c d e f) ?_
  unfold withylaw12_EidOrders.f
  refine Ev.bind (eid_Compare.ev a b c d) ?_
  refine Ev.bind (eid_Compare.ev c d e f) ?_
  refine Ev.bind (eid_Compare.ev a b e f) ?_
  refine Ev.plain (check_v a b) ?_
  refine Ev.plain (may_v a b) ?_
  refine Ev.neg (by by_cases h : MayV a b <;> simp [h]) ?_
  refine Ev.plain (less_v a b c d) ?_
  refine Ev.neg (by
    have h : decide (eidV a b c d < 0) = decide (lessV a b c d) := decide_eq_decide.2 (eidV_lt a b c d)
    rw [h]
    simp) ?_
  refine Ev.neg (by
    have h := eidV_zero a b c d
    have e1 : (eidV a b c d == 0) = (a == c && (b == d)) := by
      rw [Bool.eq_iff_iff]
      simpa using h
    rw [e1]
    simp) ?_
  refine Ev.bind (eid_Compare.ev c d a b) ?_
  refine Ev.pos ?_ ?_
  · rw [eidV_swap a b c d, wrap_id (by omega) (by omega)]
  refine Ev.neg (by omega) ?_
  rw [decide_eq_false (by omega)]
  have hm : Ev (fun k => eid_Max.f k a b c d) (if lessV a b c d then (c, d) else (a, b)) := by
    unfold eid_Max.f
    refine Ev.bind (eid_Compare.ev a b c d) ?_
    refine Ev.cases (fun h => ?_) (fun h => ?_)
    · rw [if_pos ((eidV_lt a b c d).1 h)]; exact Ev.now _
    · rw [if_neg (fun h2 => h ((eidV_lt a b c d).2 h2))]; exact Ev.now _
  have fin : Ev (fun k => (withylaw12_awake.f k).bind fun t129 => (some t129)) true := Ev.bind awake_ev (Ev.now _)
  have last : Ev (fun k => if eidV a b c d > 0 then ((withylaw12_awake.f k).bind fun t144 => (some t144)) else (if eidV c d e f > 0 then ((withylaw12_awake.f k).bind fun t145 => (some t145)) else (if eidV a b e f ≤ 0 then ((withylaw12_awake.f k).bind fun t146 => (some t146)) else (some false)))) true := by
    refine Ev.cases (fun _ => fin) (fun h1 => ?_)
    refine Ev.cases (fun _ => fin) (fun h2 => ?_)
    refine Ev.pos ?_ fin
    have l1 := eidV_lt c d a b
    rw [eidV_swap a b c d] at l1
    have l2 := eidV_lt e f c d
    rw [eidV_swap c d e f] at l2
    have l3 := eidV_lt e f a b
    rw [eidV_swap a b e f] at l3
    have h3 : ¬ lessV c d a b := fun h => by have := l1.2 h; omega
    have h4 : ¬ lessV e f c d := fun h => by have := l2.2 h; omega
    have h5 : ¬ lessV e f a b := by unfold lessV at *; omega
    have := mt l3.1 h5
    omega
  refine Ev.step (f := fun k => _) (fun k => by simp only [withylaw12_EidOrders.j0]; rfl) ?_
  refine Ev.neg (fun h => Bool.noConfusion h) ?_
  refine Ev.bind hm ?_
  by_cases hl : lessV a b c d
  · rw [if_pos hl]
    have n1 : ¬ lessV c d a b := by unfold lessV at *; omega
    have n2 : ¬ lessV c d c d := by unfold lessV; omega
    have e1 : (!((c, d).1 == a) || (!((c, d).2 == b))) = true := by
      simp only [Bool.or_eq_true, Bool.not_eq_true', beq_eq_false_iff_ne]
      unfold lessV at hl
      omega
    have e2 : (!((c, d).1 == c) || (!((c, d).2 == d))) = false := by simp
    refine Ev.pos e1 ?_
    refine Ev.neg (by rw [e2]; exact Bool.noConfusion) ?_
    refine Ev.plain (less_v c d a b) ?_
    rw [decide_eq_false n1]
    refine Ev.neg (fun h => Bool.noConfusion h) ?_
    refine Ev.plain (less_v c d c d) ?_
    rw [decide_eq_false n2]
    refine Ev.neg (fun h => Bool.noConfusion h) ?_
    exact last
  · rw [if_neg hl]
    have n1 : ¬ lessV a b a b := by unfold lessV; omega
    have e1 : (!((a, b).1 == a) || (!((a, b).2 == b))) = false := by simp
    refine Ev.neg (by rw [e1]; exact Bool.noConfusion) ?_
    refine Ev.plain (less_v a b a b) ?_
    rw [decide_eq_false n1]
    refine Ev.neg (fun h => Bool.noConfusion h) ?_
    refine Ev.plain (less_v a b c d) ?_
    rw [decide_eq_false hl]
    refine Ev.neg (fun h => Bool.noConfusion h) ?_
    exact last

end Go.Proofs.Ytihcdgkhhmkniaa.Pure
