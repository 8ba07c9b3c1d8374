/- For any names, up to 200: the greatest of them, taken one by one, is one of them, and none is above it. What is left of that statement when the program's machine is taken away. -/
import Derived.Test.YtihcdgkhhmkniaaEidEidMax
set_option linter.unusedVariables false
namespace Go.Proofs.Ytihcdgkhhmkniaa.Pure
open Go.RowKit Go.Proofs.Ytihcdgkhhmkniaa.PEidMax Go.Proofs.YtihcdgkhhmkniaaW.PrintWords Go.Proofs.YtihcdgkhhmkniaaW.PrintLast Go.Proofs.Ytihcdgkhhmkniaa.EvLib

/-- The one that is not ahead. -/
def maxV (a b c d : Int) : Int × Int := if lessV a b c d then (c, d) else (a, b)
theorem max_ev (a b c d : Int) : Ev (fun k => eid_Max.f k a b c d) (maxV a b c d) := by
  unfold eid_Max.f maxV
  refine Ev.bind (eid_Compare.ev a b c d) ?_
  refine Ev.cases (fun h => ?_) (fun h => ?_)
  · rw [if_pos ((eidV_lt a b c d).1 h)]; exact Ev.now _
  · rw [if_neg (fun h2 => h ((eidV_lt a b c d).2 h2))]; exact Ev.now _
theorem less_v (a b c d : Int) : withyref12_Less.f a b c d = some (decide (lessV a b c d)) := by
  unfold withyref12_Less.f lessV
  by_cases h : a < c
  · rw [if_pos h, decide_eq_true (.inl h)]
  · rw [if_neg h]
    by_cases h2 : a = c
    · rw [if_pos h2]; congr 1; rw [decide_eq_decide]; omega
    · rw [if_neg h2, decide_eq_false (by omega)]

theorem l1_ev (l : List S23) (hl : l.length ≤ 200) (a b : Int) (hin : ∃ x ∈ l, x.f0 = a ∧ x.f1 = b) (hmax : ∀ x ∈ l, ¬ lessV a b x.f0 x.f1) (d : Nat) : ∀ (i : Nat) (f : Bool), i + d = l.length → (f = false → ∃ x ∈ l.drop i, x.f0 = a ∧ x.f1 = b) →
    Ev (fun k => withylaw12_EidMax.l1 k l f i a b) true := by
  induction d with
  | zero =>
    intro i f hi hf
    have s1 : ¬ ((i : Int) < (l.length : Int)) := by omega
    cases f with
    | false =>
      obtain ⟨x, hx, _⟩ := hf rfl
      rw [List.drop_of_length_le (by omega)] at hx
      cases hx
    | true =>
      refine Ev.step (f := fun k => _) (fun k => by simp only [withylaw12_EidMax.l1]; rw [if_neg s1, if_pos trivial]) ?_
      exact Ev.bind awake_ev (Ev.now _)
  | succ d ih =>
    intro i f hi hf
    have hlt : i < l.length := by omega
    have s1 : (i : Int) < (l.length : Int) := by omega
    have s2 : (0 : Int) ≤ (i : Int) := by omega
    have hr : rd_T23 l (i : Int) = l[i] := by unfold rd_T23; simp [hlt]
    have hw : wrap64 ((i : Int) + 1) = ((i + 1 : Nat) : Int) := wrap_nat (by omega)
    have hno := hmax l[i] (List.getElem_mem hlt)
    cases f with
    | true =>
      have ih' := ih (i + 1) true (by omega) (fun h => by cases h)
      refine Ev.step (f := fun k => _) (fun k => by simp only [withylaw12_EidMax.l1]; rw [if_pos s1, if_pos trivial, if_pos s2, hr, hw]) ?_
      refine Ev.plain (less_v _ _ _ _) ?_
      rw [decide_eq_false hno]
      exact Ev.neg (fun h => Bool.noConfusion h) ih'
    | false =>
      have ih' := ih (i + 1) (l[i].f0 == a && (l[i].f1 == b)) (by omega) (fun h => by
        obtain ⟨x, hx, h1, h2⟩ := hf rfl
        rw [List.drop_eq_getElem_cons hlt] at hx
        rcases List.mem_cons.1 hx with rfl | hx
        · simp [h1, h2] at h
        · exact ⟨x, hx, h1, h2⟩)
      refine Ev.step (f := fun k => _) (fun k => by simp only [withylaw12_EidMax.l1]; rw [if_pos s1, if_neg (fun h => Bool.noConfusion h), if_pos s2, hr, hw]) ?_
      refine Ev.plain (less_v _ _ _ _) ?_
      rw [decide_eq_false hno]
      exact Ev.neg (fun h => Bool.noConfusion h) ih'

theorem l0_ev (l : List S23) (hl : l.length ≤ 200) (d : Nat) : ∀ (i : Nat) (a b : Int), i + d = l.length → 1 ≤ i → (∃ x ∈ l, x.f0 = a ∧ x.f1 = b) → (∀ x ∈ l.take i, ¬ lessV a b x.f0 x.f1) →
    Ev (fun k => withylaw12_EidMax.l0 k l i a b) true := by
  induction d with
  | zero =>
    intro i a b hi h1 hin hmax
    have s1 : ¬ ((i : Int) < (l.length : Int)) := by omega
    rw [List.take_of_length_le (by omega)] at hmax
    have e := l1_ev l hl a b hin hmax l.length 0 false (by omega) (fun _ => hin)
    refine Ev.step (fun k => ?_) e
    simp only [withylaw12_EidMax.l0]
    rw [if_neg s1]
    rfl
  | succ d ih =>
    intro i a b hi h1 hin hmax
    have hlt : i < l.length := by omega
    have s1 : (i : Int) < (l.length : Int) := by omega
    have s2 : (0 : Int) ≤ (i : Int) := by omega
    have hr : rd_T23 l (i : Int) = l[i] := by unfold rd_T23; simp [hlt]
    have hw : wrap64 ((i : Int) + 1) = ((i + 1 : Nat) : Int) := wrap_nat (by omega)
    have ih' := ih (i + 1) (maxV a b l[i].f0 l[i].f1).1 (maxV a b l[i].f0 l[i].f1).2 (by omega) (by omega) (by
      unfold maxV
      split
      · exact ⟨l[i], List.getElem_mem hlt, rfl, rfl⟩
      · exact hin) (fun x hx => by
      rw [List.take_succ_eq_append_getElem hlt] at hx
      unfold maxV
      split
      · rename_i hless
        rcases List.mem_append.1 hx with hx | hx
        · have := hmax x hx
          unfold lessV at *
          show ¬ (l[i].f0 < x.f0 ∨ l[i].f0 = x.f0 ∧ l[i].f1 < x.f1)
          omega
        · rw [List.mem_singleton.1 hx]
          show ¬ lessV l[i].f0 l[i].f1 _ _
          unfold lessV
          omega
      · rename_i hless
        rcases List.mem_append.1 hx with hx | hx
        · exact hmax x hx
        · rw [List.mem_singleton.1 hx]; exact hless)
    refine Ev.step (f := fun k => _) (fun k => by simp only [withylaw12_EidMax.l0]; rw [if_pos s1, if_pos s2, hr, hw]) ?_
    exact Ev.bind (max_ev _ _ _ _) ih'

theorem EidMax : withylaw12_EidMax.Pure := by
  intro l hsz hw
  have yes : Ev (fun k => withylaw12_EidMax.j0 k l true) true := by
    refine Ev.step (f := fun k => _) (fun k => by simp only [withylaw12_EidMax.j0]; rw [if_pos trivial]) ?_
    exact Ev.bind awake_ev (Ev.now _)
  refine Ev.rounds (g := fun k => withylaw12_EidMax.f k l) ?_
  unfold withylaw12_EidMax.f
  refine Ev.cases (fun _ => yes) (fun h0 => ?_)
  by_cases h2 : (l.length : Int) > 200
  · rw [decide_eq_true h2]; exact yes
  · rw [decide_eq_false h2]
    have hlt : 0 < l.length := by omega
    have s1 : (0 : Int) < (l.length : Int) := by omega
    have hr : rd_T23 l 0 = l[0] := by unfold rd_T23; simp [hlt]
    have e := l0_ev l (by omega) (l.length - 1) 1 l[0].f0 l[0].f1 (by omega) (by omega) ⟨l[0], List.getElem_mem hlt, rfl, rfl⟩ (fun x hx => by
      obtain ⟨y, t, rfl⟩ : ∃ y t, l = y :: t := by cases l with
        | nil => simp at hlt
        | cons y t => exact ⟨y, t, rfl⟩
      simp at hx
      subst hx
      show ¬ lessV x.f0 x.f1 x.f0 x.f1
      unfold lessV; omega)
    refine Ev.step (fun k => ?_) e
    simp only [withylaw12_EidMax.j0]
    rw [if_neg (fun h => Bool.noConfusion h), if_pos s1, hr]
    rfl
end Go.Proofs.Ytihcdgkhhmkniaa.Pure
