/- For any sender: Ready and Tick answer what the reference answers. What is left of that statement when the program's machine is taken away. -/
import Derived.Test.YtlbcffdjdbjgcaaSendSentSendReady
set_option linter.unusedVariables false
namespace Go.Proofs.Ytlbcffdjdbjgcaa.Pure
open Go.RowKit Go.Proofs.Ytlbcffdjdbjgcaa.PSendReady Go.Proofs.YtlbcffdjdbjgcaaW.PrintWords Go.Proofs.YtlbcffdjdbjgcaaW.PrintLast Go.Proofs.Ytlbcffdjdbjgcaa.EvLib

theorem fin_ev : Ev (fun k => (withylaw14_awake.f k).bind fun t => some t) true := Ev.bind awake_ev (Ev.now _)
theorem tick_short {a b : Int} {l : List (List Int)} {d : Int} (hm : MayS a b l d) : (tickV a b l d).2.2.2.2.length < 4398046511104 := by
  have hl := hm.2.1
  unfold tickV
  split
  · simp
  · split
    · simp
    · simp only [sentV_length, List.length_take]; omega
theorem ready_short {a b : Int} {l : List (List Int)} {d : Int} (hm : MayS a b l d) : (readyV a b l d).2.2.2.2.length < 4398046511104 := by
  have e : (readyV a b l d).2.2.2.2 = readyS a b l := by unfold readyV; split <;> rfl
  rw [e]
  unfold readyS
  rw [sentV_length, List.length_take]
  omega
theorem ticks (c : Int) : ∀ (n i : Nat) (a b : Int) (l : List (List Int)) (d : Int), wrap64 (Int.tmod c 10) ≤ ((i + n : Nat) : Int) → i + n < 1000 → MayS a b l d → Ev (fun k => withylaw14_SendReady.l0 k c (i : Int) a b l d a b l d) true := by
  intro n
  induction n with
  | zero =>
    intro i a b l d hi _ hm
    have s1 : ¬ ((i : Int) < wrap64 (Int.tmod c 10)) := by omega
    exact Ev.step (f := fun k => _) (fun k => by simp only [withylaw14_SendReady.l0]; rw [if_neg s1]) fin_ev
  | succ n ih =>
    intro i a b l d hi hn hm
    have hw : wrap64 ((i : Int) + 1) = ((i + 1 : Nat) : Int) := wrap_nat (by omega)
    by_cases s1 : (i : Int) < wrap64 (Int.tmod c 10)
    · refine Ev.step (f := fun k => _) (fun k => by simp only [withylaw14_SendReady.l0]; rw [if_pos s1, hw]) ?_
      have hm2 := (tickV_may hm).1
      have hs := tick_short hm
      refine Ev.bind (tick_ev a b l d hm) ?_
      refine Ev.bind (rtick_ev a b l d hm) ?_
      obtain ⟨⟨a1, b1, l1, d1, s⟩, hr⟩ : ∃ r, tickV a b l d = r := ⟨_, rfl⟩
      rw [hr] at hm2 hs ⊢
      refine Ev.pos rfl ?_
      refine Ev.bind (same_ev a1 b1 l1 d1 (by have := hm2.2.1; simp only at this; omega)) ?_
      refine Ev.pos rfl ?_
      refine Ev.bind (rnumbered_ev s hs) ?_
      exact Ev.pos rfl (ih (i + 1) a1 b1 l1 d1 (by omega) (by omega) hm2)
    · exact Ev.step (f := fun k => _) (fun k => by simp only [withylaw14_SendReady.l0]; rw [if_neg s1]) fin_ev
theorem SendReady : withylaw14_SendReady.Pure := by
  intro a b l d c _ _ hl hp _ hc
  have hcr : 0 ≤ c ∧ c < 256 := by simp [Lit.wf, IntKind.min, IntKind.max, IntKind.signed, IntKind.bits] at hc; omega
  refine Ev.rounds (g := fun k => withylaw14_SendReady.f k a b l d c) ?_
  unfold withylaw14_SendReady.f
  obtain ⟨r, hr⟩ := light_ev a b l d (by omega) l.length 0 0 (by omega)
  refine Ev.bind (a := r) (by unfold withylaw14_Light.f; exact hr) ?_
  refine Ev.cases (fun _ => ?_) (fun _ => fin_ev)
  by_cases hm : MayS a b l d
  · have hm1 := (readyV_may hm).1
    have hs := ready_short hm
    refine Ev.bind (ready_ev a b l d hm) ?_
    refine Ev.bind (tick_ev a b l d hm) ?_
    refine Ev.bind (may_ev a b l d (by omega)) ?_
    rw [decide_eq_true hm]
    refine Ev.step (f := fun k => _) (fun k => by simp only [withylaw14_SendReady.j0]; rw [if_neg (fun h => Bool.noConfusion h)]) ?_
    refine Ev.bind (rready_ev a b l d hm) ?_
    refine Ev.pos (by first | rfl | trivial) ?_
    refine Ev.pos (by first | rfl | trivial) ?_
    obtain ⟨⟨a1, b1, l1, d1, s⟩, hr⟩ : ∃ r, readyV a b l d = r := ⟨_, rfl⟩
    rw [hr] at hm1 hs ⊢
    refine Ev.bind (same_ev a1 b1 l1 d1 (by have := hm1.2.1; simp only at this; omega)) ?_
    refine Ev.pos (by first | rfl | trivial) ?_
    refine Ev.bind (rnumbered_ev s hs) ?_
    refine Ev.step (f := fun k => _) (fun k => by simp only [withylaw14_SendReady.j1]; rw [if_neg (fun h => Bool.noConfusion h)]) ?_
    refine ticks c 10 0 a1 b1 l1 d1 ?_ (by decide) hm1
    have e1 : Int.tmod c 10 = c % 10 := Int.tmod_eq_emod_of_nonneg hcr.1
    rw [e1, wrap_id (by omega) (by omega)]
    omega
  · have hc1 : Ev (fun k => send_Check.f k a b l d) 1 := by
      have := check_ev a b l d (by omega)
      rw [if_neg hm] at this
      exact this
    have h1 : Ev (fun k => send_Ready.f k a b l d) (0, 0, [], 0, [], 1) := by
      unfold send_Ready.f
      exact Ev.bind hc1 (Ev.neg (by decide) (Ev.now _))
    have h2 : Ev (fun k => send_Tick.f k a b l d) (0, 0, [], 0, [], 1) := by
      unfold send_Tick.f
      exact Ev.bind hc1 (Ev.neg (by decide) (Ev.now _))
    refine Ev.bind h1 ?_
    refine Ev.bind h2 ?_
    refine Ev.bind (may_ev a b l d (by omega)) ?_
    rw [decide_eq_false hm]
    refine Ev.step (f := fun k => _) (fun k => by simp only [withylaw14_SendReady.j0]; rw [if_pos (by rfl)]) ?_
    refine Ev.pos (by first | rfl | trivial) (Ev.pos (by first | rfl | trivial) (Ev.pos (by first | rfl | trivial) (Ev.pos (by first | rfl | trivial) ?_)))
    refine Ev.bind (same_ev 0 0 [] 0 (by decide)) (Ev.pos (by first | rfl | trivial) ?_)
    exact Ev.bind (same_ev 0 0 [] 0 (by decide)) (Ev.pos (by first | rfl | trivial) fin_ev)
end Go.Proofs.Ytlbcffdjdbjgcaa.Pure
