/- For any sender that may be, and any moves on it: what is sent is numbered one by one within the window, and nothing is lost. What is left of that statement when the program's machine is taken away. -/
import Derived.Test.YtlbcffdjdbjgcaaSendSentSendNumbers
set_option linter.unusedVariables false
namespace Go.Proofs.Ytlbcffdjdbjgcaa.Pure
open Go.RowKit Go.Proofs.Ytlbcffdjdbjgcaa.PSendNumbers Go.Proofs.YtlbcffdjdbjgcaaW.PrintWords Go.Proofs.YtlbcffdjdbjgcaaW.PrintLast Go.Proofs.Ytlbcffdjdbjgcaa.EvLib

theorem fin_ev : Ev (fun k => (withylaw14_awake.f k).bind fun t => some t) true := Ev.bind awake_ev (Ev.now _)
theorem looks (x1 : List Int) (i0 : Int) (s : List S44) (a b : Int) (l : List (List Int)) (d : Int) (ha : 0 ≤ a ∧ a ≤ 2147483647) (hs : (s.length : Int) ≤ 16) (hg : SentOk a s)
    (rest : Ev (fun k => withylaw14_SendNumbers.l0 k x1 (l.length : Int) (wrap64 (i0 + 1)) a b l d) true) : ∀ (n i : Nat), i + n = s.length → Ev (fun k => withylaw14_SendNumbers.l1 k x1 (l.length : Int) i0 s (i : Int) a b l d) true := by
  obtain ⟨c, h1, h2, h3⟩ := hg
  intro n
  induction n with
  | zero =>
    intro i hi
    have s1 : ¬ ((i : Int) < (s.length : Int)) := by omega
    exact Ev.step (f := fun k => _) (fun k => by simp only [withylaw14_SendNumbers.l1]; rw [if_neg s1]) rest
  | succ n ih =>
    intro i hi
    have hlt : i < s.length := by omega
    have s1 : (i : Int) < (s.length : Int) := by omega
    have s0 : 0 ≤ (i : Int) := by omega
    have hw : wrap64 ((i : Int) + 1) = ((i + 1 : Nat) : Int) := wrap_nat (by omega)
    have hw16 : wrap64 (a + 16) = a + 16 := wrap_id (by omega) (by omega)
    have e : (rd_T44 s (i : Int)).f0 = c + (i : Int) := by rw [rd44_at s i hlt]; exact h3 i hlt
    have t1 : ¬ (c + (i : Int) < a) := by omega
    have t2 : ¬ (c + (i : Int) ≥ a + 16) := by omega
    by_cases h0 : (i : Int) > 0
    · have hw1 : wrap64 ((i : Int) - 1) = ((i - 1 : Nat) : Int) := by rw [wrap_id (by omega) (by omega)]; omega
      have g1 : 0 ≤ ((i - 1 : Nat) : Int) := by omega
      have g2 : ((i - 1 : Nat) : Int) < (s.length : Int) := by omega
      have e1 : (rd_T44 s ((i - 1 : Nat) : Int)).f0 = c + ((i - 1 : Nat) : Int) := by rw [rd44_at s (i - 1) (by omega)]; exact h3 (i - 1) (by omega)
      have e2 : wrap64 (c + ((i - 1 : Nat) : Int) + 1) = c + (i : Int) := by rw [wrap_id (by omega) (by omega)]; omega
      exact Ev.step (f := fun k => _) (fun k => by simp only [withylaw14_SendNumbers.l1]; rw [if_pos s1, if_pos h0, if_pos s0, hw1, if_pos g1, if_pos g2, e, e1, e2, if_pos rfl, if_neg t1, hw16, if_neg t2, hw]) (ih (i + 1) (by omega))
    · exact Ev.step (f := fun k => _) (fun k => by simp only [withylaw14_SendNumbers.l1]; rw [if_pos s1, if_neg h0, if_pos s0, e, if_neg t1, hw16, if_neg t2, hw]) (ih (i + 1) (by omega))
theorem one (x1 : List Int) (x5 i0 : Int) (s : List S44) (a0 a b : Int) (l : List (List Int)) (d : Int) (ha0 : 0 ≤ a0) (h0 : a0 ≤ a) (ha : a ≤ 2147483647) (hl : (l.length : Int) = x5 - (a - a0)) (hl2 : l.length ≤ 256) (hs : (s.length : Int) ≤ 16) (hg : SentOk a s)
    (rest : Ev (fun k => withylaw14_SendNumbers.l0 k x1 (l.length : Int) (wrap64 (i0 + 1)) a b l d) true) : Ev (fun k => withylaw14_SendNumbers.j3 k x1 x5 i0 s 0 a0 a b l d) true := by
  have w1 : wrap64 (a - a0) = a - a0 := wrap_id (by omega) (by omega)
  have w2 : wrap64 (x5 - (a - a0)) = (l.length : Int) := by rw [← hl]; exact wrap_id (by omega) (by omega)
  have n1 : ¬ ((s.length : Int) > 16) := by omega
  have n2 : ¬ (a < a0) := by omega
  have e : ((l.length : Int) != (l.length : Int)) = false := by simp
  refine Ev.step (f := fun k => _) (fun k => by simp only [withylaw14_SendNumbers.j3]; rw [if_pos trivial, if_neg n1, if_neg n2, w1, w2, e]) ?_
  refine Ev.step (f := fun k => _) (fun k => by simp only [withylaw14_SendNumbers.j4]; rw [if_neg (fun h => Bool.noConfusion h)]) ?_
  exact looks x1 i0 s a b l d ⟨by omega, ha⟩ hs hg rest s.length 0 (by omega)
theorem moves (x1 : List Int) (hx1 : x1.length < 140737488355328) : ∀ (n i : Nat) (a b : Int) (l : List (List Int)) (d : Int), i + n = 60 → MayS a b l d → a ≤ 1000000 + 20 * (i : Int) → Ev (fun k => withylaw14_SendNumbers.l0 k x1 (l.length : Int) (i : Int) a b l d) true := by
  have stop : ∀ (x5 x6 a b : Int) (l : List (List Int)) (d : Int), Ev (fun k => withylaw14_SendNumbers.j2 k x1 x5 x6 false a b l d) true := fun x5 x6 a b l d =>
    Ev.step (f := fun k => _) (fun k => by simp only [withylaw14_SendNumbers.j2]; rw [if_neg (fun h => Bool.noConfusion h)]) fin_ev
  intro n
  induction n with
  | zero =>
    intro i a b l d hi hm ha
    have e : decide ((i : Int) < 60) = false := decide_eq_false (by omega)
    by_cases h : (i : Int) < (x1.length : Int)
    · exact Ev.step (f := fun k => _) (fun k => by simp only [withylaw14_SendNumbers.l0]; rw [if_pos h, e]) (stop _ _ _ _ _ _)
    · exact Ev.step (f := fun k => _) (fun k => by simp only [withylaw14_SendNumbers.l0]; rw [if_neg h]) (stop _ _ _ _ _ _)
  | succ n ih =>
    intro i a b l d hi hm ha
    have e : decide ((i : Int) < 60) = true := decide_eq_true (by omega)
    have hw : wrap64 ((i : Int) + 1) = ((i + 1 : Nat) : Int) := wrap_nat (by omega)
    have next : ∀ (a' b' : Int) (l' : List (List Int)) (d' : Int), MayS a' b' l' d' → a' ≤ 1000000 + 20 * ((i + 1 : Nat) : Int) → Ev (fun k => withylaw14_SendNumbers.l0 k x1 (l'.length : Int) (wrap64 ((i : Int) + 1)) a' b' l' d') true := fun a' b' l' d' h1 h2 => by
      rw [hw]; exact ih (i + 1) a' b' l' d' (by omega) h1 h2
    by_cases h : (i : Int) < (x1.length : Int)
    · refine Ev.step (f := fun k => _) (fun k => by simp only [withylaw14_SendNumbers.l0]; rw [if_pos h, e]) ?_
      refine Ev.step (f := fun k => _) (fun k => by simp only [withylaw14_SendNumbers.j2]; rw [if_pos trivial]) ?_
      simp only [Option.bind_some]
      refine Ev.pos (by omega) (Ev.pos h ?_)
      generalize rd x1 (i : Int) = v
      have hl := hm.2.1
      have ham := hm.1
      refine Ev.cases (fun _ => ?_) (fun _ => ?_)
      · refine Ev.bind (ready_ev a b l d hm) ?_
        have hm2 := readyV_may hm
        have hg := ready_good hm
        obtain ⟨⟨a1, b1, l1, d1, s⟩, hr⟩ : ∃ r, readyV a b l d = r := ⟨_, rfl⟩
        rw [hr] at hm2 hg ⊢
        simp only at hm2 hg
        obtain ⟨hm3, e1, e2⟩ := hm2
        subst e1; subst e2
        exact one x1 _ _ s a1 a1 b1 l1 d1 (by omega) (by omega) (by omega) (by omega) (by omega) hg.2 hg.1 (next a1 b1 l1 d1 hm3 (by omega))
      refine Ev.cases (fun _ => ?_) (fun hv1 => ?_)
      · refine Ev.bind (tick_ev a b l d hm) ?_
        have hm2 := tickV_may hm
        have hg := tick_good hm
        obtain ⟨⟨a1, b1, l1, d1, s⟩, hr⟩ : ∃ r, tickV a b l d = r := ⟨_, rfl⟩
        rw [hr] at hm2 hg ⊢
        simp only at hm2 hg
        obtain ⟨hm3, e1, e2⟩ := hm2
        subst e1; subst e2
        exact one x1 _ _ s a1 a1 b1 l1 d1 (by omega) (by omega) (by omega) (by omega) (by omega) hg.2 hg.1 (next a1 b1 l1 d1 hm3 (by omega))
      refine Ev.cases (fun _ => ?_) (fun hv2 => ?_)
      · refine Ev.bind (push_ev a b l d [1] 2147483647 (by omega) (by decide)) ?_
        have ep : pushV a b l d [1] 2147483647 = if l.length = 256 then (0, 0, [], 0, 2) else (a, b, l ++ [[1]], d, 0) := by
          unfold pushV
          rw [if_neg (fun h => h ⟨hm, by decide, by decide⟩), if_neg (by decide)]
          by_cases h256 : l.length = 256
          · rw [if_pos h256, if_pos h256]
          · rw [if_neg h256, if_neg h256, if_neg (by omega)]
        rw [ep]
        by_cases h256 : l.length = 256
        · rw [if_pos h256]
          refine Ev.neg (by omega) (Ev.pos rfl ?_)
          exact one x1 _ _ [] a a b l d (by omega) (by omega) (by omega) (by omega) (by omega) (by decide) (good_nil a) (next a b l d hm (by omega))
        · rw [if_neg h256]
          refine Ev.pos (by omega) ?_
          have w5 : wrap64 ((l.length : Int) + 1) = ((l ++ [[1]]).length : Int) := by rw [wrap_id (by omega) (by omega)]; simp
          have hm3 : MayS a b (l ++ [[1]]) d := by
            obtain ⟨q1, q2, q3, q4, q5⟩ := hm
            have ql : (l ++ [[1]]).length = l.length + 1 := by simp
            refine ⟨q1, by omega, ⟨by omega, by omega, by omega⟩, q4, ?_⟩
            rintro ⟨x, p1, p2⟩
            rcases List.mem_append.1 p1 with p1 | p1
            · exact q5 ⟨x, p1, p2⟩
            · rw [List.mem_singleton.1 p1] at p2; exact absurd p2 (by decide)
          have ql : (l ++ [[1]]).length = l.length + 1 := by simp
          rw [w5]
          exact one x1 _ _ [] a a b (l ++ [[1]]) d (by omega) (by omega) (by omega) (by omega) (by omega) (by decide) (good_nil a) (next a b _ d hm3 (by omega))
      · have hv : 0 ≤ v := by omega
        have t1 : Int.tmod v 20 = v % 20 := Int.tmod_eq_emod_of_nonneg hv
        have w6 : wrap64 (a + Int.tmod v 20) = a + v % 20 := by rw [t1, wrap_id (by omega) (by omega)]
        rw [w6]
        have ht : 0 ≤ v % 20 ∧ v % 20 < 20 := by omega
        generalize v % 20 = t at ht
        have hm2 := ackV_may (n := a + t) hm (by omega)
        refine Ev.bind (ack_ev a b l d (a + t) hm (by omega)) ?_
        obtain ⟨⟨a1, b1, l1, d1⟩, hr⟩ : ∃ r, ackV a b l d (a + t) = r := ⟨_, rfl⟩
        rw [hr] at hm2 ⊢
        simp only at hm2
        obtain ⟨hm3, g1, g2, g3⟩ := hm2
        have hl1 := hm3.2.1
        have ha1 := hm3.1
        exact one x1 _ _ [] a a1 b1 l1 d1 (by omega) (by omega) (by omega) (by omega) (by omega) (by decide) (good_nil a1) (next a1 b1 l1 d1 hm3 (by omega))
    · exact Ev.step (f := fun k => _) (fun k => by simp only [withylaw14_SendNumbers.l0]; rw [if_neg h]) (stop _ _ _ _ _ _)
theorem SendNumbers : withylaw14_SendNumbers.Pure := by
  intro a b l d x1 _ _ hl hp _ hl1 hx1
  refine Ev.rounds (g := fun k => withylaw14_SendNumbers.f k a b l d x1) ?_
  have yes : Ev (fun k => withylaw14_SendNumbers.j0 k x1 true a b l d) true := Ev.step (f := fun k => _) (fun k => by simp only [withylaw14_SendNumbers.j0]; rw [if_pos trivial]) fin_ev
  unfold withylaw14_SendNumbers.f
  obtain ⟨r, hr⟩ := light_ev a b l d (by omega) l.length 0 0 (by omega)
  refine Ev.bind (a := r) (by unfold withylaw14_Light.f; exact hr) ?_
  refine Ev.cases (fun _ => ?_) (fun _ => yes)
  refine Ev.bind (may_ev a b l d (by omega)) ?_
  refine Ev.cases (fun hm => ?_) (fun _ => yes)
  have hm := of_decide_eq_true hm
  by_cases h6 : a > 1000000
  · rw [decide_eq_true h6]; exact yes
  · rw [decide_eq_false h6]
    refine Ev.step (f := fun k => _) (fun k => by simp only [withylaw14_SendNumbers.j0]; rw [if_neg (fun h => Bool.noConfusion h)]) ?_
    exact moves x1 (by omega) 60 0 a b l d (by omega) hm (by omega)
end Go.Proofs.Ytlbcffdjdbjgcaa.Pure
