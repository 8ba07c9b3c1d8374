/- For any sender, payload and limit: what is pushed is what the reference says, which senders may be, and which are alike. What is left of that statement when the program's machine is taken away. -/
import Derived.Test.YtlbcffdjdbjgcaaSendSendPushes
set_option linter.unusedVariables false
namespace Go.Proofs.Ytlbcffdjdbjgcaa.Pure
open Go.RowKit Go.Proofs.Ytlbcffdjdbjgcaa.PSendPushes Go.Proofs.YtlbcffdjdbjgcaaW.PrintWords Go.Proofs.YtlbcffdjdbjgcaaW.PrintLast Go.Proofs.Ytlbcffdjdbjgcaa.EvLib

/-- Are texts alike, one by one? -/
def likeV (l m : List (List Int)) : Bool := decide (l.map (fun x => (strOfNums x).toList) = m.map (fun x => (strOfNums x).toList))
def sameV (a b : Int) (l : List (List Int)) (d a' b' : Int) (l' : List (List Int)) (d' : Int) : Bool := decide (a = a') && (decide (b = b') && (decide (d = d') && likeV l l'))
theorem like_cons (x y : List Int) (l m : List (List Int)) : likeV (x :: l) (y :: m) = (decide ((strOfNums x).toList = (strOfNums y).toList) && likeV l m) := by
  unfold likeV
  rw [Bool.eq_iff_iff]
  simp
theorem like_len (l m : List (List Int)) (h : l.length ≠ m.length) : likeV l m = false := by
  unfold likeV
  rw [decide_eq_false_iff_not]
  intro e
  have := congrArg List.length e
  simp at this
  exact h this
theorem rsame_ev (a b : Int) (l : List (List Int)) (d a' b' : Int) (m : List (List Int)) (d' : Int) (hl : l.length < 9223372036854775807) : Ev (fun k => withyref14_Same.f k a b l d a' b' m d') (sameV a b l d a' b' m d') := by
  have no : Ev (fun k => withyref14_Same.j0 k true a b l d a' b' m d') false := Ev.step (fun k => by simp only [withyref14_Same.j0]; rw [if_pos trivial]) (Ev.now _)
  have go : l.length = m.length → ∀ (n i : Nat), i + n = l.length → Ev (fun k => withyref14_Same.l0 k (i : Int) a b l d a' b' m d') (likeV (l.drop i) (m.drop i)) := by
    intro hlm n
    induction n with
    | zero =>
      intro i hi
      have s1 : ¬ ((i : Int) < (l.length : Int)) := by omega
      rw [List.drop_of_length_le (by omega), List.drop_of_length_le (by omega)]
      exact Ev.step (fun k => by simp only [withyref14_Same.l0]; rw [if_neg s1]; rfl) (Ev.now _)
    | succ n ih =>
      intro i hi
      have hi1 : i < l.length := by omega
      have hi2 : i < m.length := by omega
      have s1 : (i : Int) < (l.length : Int) := by omega
      have s2 : (i : Int) < (m.length : Int) := by omega
      have s0 : 0 ≤ (i : Int) := by omega
      have hw : wrap64 ((i : Int) + 1) = ((i + 1 : Nat) : Int) := wrap_nat (by omega)
      rw [List.drop_eq_getElem_cons hi1, List.drop_eq_getElem_cons hi2, like_cons]
      refine Ev.step (f := fun k => _) (fun k => by simp only [withyref14_Same.l0]; rw [if_pos s1, if_pos s0, if_pos s2, rd_at l i hi1, rd_at m i hi2, hw]) ?_
      refine Ev.cases (fun h => ?_) (fun h => ?_)
      · rw [decide_eq_true h, Bool.true_and]; exact ih (i + 1) (by omega)
      · rw [decide_eq_false h, Bool.false_and]; exact Ev.now _
  unfold withyref14_Same.f sameV
  refine Ev.cases (fun h1 => ?_) (fun h1 => ?_)
  · rw [decide_eq_true h1, Bool.true_and]
    refine Ev.cases (fun h2 => ?_) (fun h2 => ?_)
    · rw [decide_eq_true h2, Bool.true_and]
      refine Ev.cases (fun h3 => ?_) (fun h3 => ?_)
      · rw [decide_eq_true h3, Bool.true_and]
        by_cases h4 : l.length = m.length
        · have e : ((l.length : Int) != (m.length : Int)) = false := by rw [h4]; simp
          rw [e]
          refine Ev.step (f := fun k => _) (fun k => by simp only [withyref14_Same.j0]; rw [if_neg (fun h => Bool.noConfusion h)]) ?_
          have := go h4 l.length 0 (by omega)
          simpa using this
        · have e : ((l.length : Int) != (m.length : Int)) = true := by
            rw [bne_iff_ne]; omega
          rw [e, like_len l m h4]
          exact no
      · rw [decide_eq_false h3]; exact no
    · rw [decide_eq_false h2]; exact no
  · rw [decide_eq_false h1]; exact no
theorem isame_ev (a b : Int) (l : List (List Int)) (d a' b' : Int) (m : List (List Int)) (d' : Int) (hl : l.length < 9223372036854775807) : Ev (fun k => send_Same.f k a b l d a' b' m d') (sameV a b l d a' b' m d') := by
  have go : l.length = m.length → ∀ (n i : Nat), i + n = l.length → Ev (fun k => slices_EqualFunc_byte_byte_byte_byte_fn29.l0 k m l (l.length : Int) (i : Int)) (likeV (l.drop i) (m.drop i)) := by
    intro hlm n
    induction n with
    | zero =>
      intro i hi
      have s1 : ¬ ((i : Int) < (l.length : Int)) := by omega
      rw [List.drop_of_length_le (by omega), List.drop_of_length_le (by omega)]
      exact Ev.step (fun k => by simp only [slices_EqualFunc_byte_byte_byte_byte_fn29.l0]; rw [if_neg s1]; rfl) (Ev.now _)
    | succ n ih =>
      intro i hi
      have hi1 : i < l.length := by omega
      have hi2 : i < m.length := by omega
      have s1 : (i : Int) < (l.length : Int) := by omega
      have s2 : (i : Int) < (m.length : Int) := by omega
      have s0 : 0 ≤ (i : Int) := by omega
      have hw : wrap64 ((i : Int) + 1) = ((i + 1 : Nat) : Int) := wrap_nat (by omega)
      rw [List.drop_eq_getElem_cons hi1, List.drop_eq_getElem_cons hi2, like_cons]
      refine Ev.step (f := fun k => _) (fun k => by simp only [slices_EqualFunc_byte_byte_byte_byte_fn29.l0]; rw [if_pos s1, if_pos s0, if_pos s1, if_pos s2, rd_at l i hi1, rd_at m i hi2, hw]) ?_
      refine Ev.plain (show send_Same_1.f l[i] m[i] = some ((strOfNums l[i]).toList == (strOfNums m[i]).toList) from rfl) ?_
      refine Ev.cases (fun h => ?_) (fun h => ?_)
      · rw [decide_eq_true (beq_iff_eq.1 h), Bool.true_and]; exact ih (i + 1) (by omega)
      · rw [decide_eq_false (fun e => h (beq_iff_eq.2 e)), Bool.false_and]; exact Ev.now _
  have eq : Ev (fun k => slices_EqualFunc_byte_byte_byte_byte_fn29.f k l m) (likeV l m) := by
    unfold slices_EqualFunc_byte_byte_byte_byte_fn29.f
    refine Ev.cases (fun h => ?_) (fun h => ?_)
    · have := go (by omega) l.length 0 (by omega)
      simpa using this
    · rw [like_len l m (by omega)]; exact Ev.now _
  unfold send_Same.f sameV
  refine Ev.cases (fun h1 => ?_) (fun h1 => ?_)
  · rw [decide_eq_true h1, Bool.true_and]
    refine Ev.cases (fun h2 => ?_) (fun h2 => ?_)
    · rw [decide_eq_true h2, Bool.true_and]
      refine Ev.cases (fun h3 => ?_) (fun h3 => ?_)
      · rw [decide_eq_true h3, Bool.true_and]
        exact Ev.bind eq (Ev.now _)
      · rw [decide_eq_false h3]; exact Ev.now _
    · rw [decide_eq_false h2]; exact Ev.now _
  · rw [decide_eq_false h1]; exact Ev.now _
/-- What is pushed, or why not. -/
def pushV (a b : Int) (l : List (List Int)) (d : Int) (x : List Int) (n : Int) : Int × Int × List (List Int) × Int × Int :=
  if ¬ (MayS a b l d ∧ 1 ≤ n ∧ n ≤ 2147483647) then (0, 0, [], 0, 1) else if x.length > 16384 then (0, 0, [], 0, 3) else if l.length = 256 then (0, 0, [], 0, 2) else if a + (l.length : Int) ≥ n then (0, 0, [], 0, 10) else (a, b, l ++ [x], d, 0)
theorem push_ev (a b : Int) (l : List (List Int)) (d : Int) (x : List Int) (n : Int) (hl : l.length < 5864062014805) (hx : x.length < 140737488355328) : Ev (fun k => send_Push.f k a b l d x n) (pushV a b l d x n) := by
  have no : ¬ (MayS a b l d ∧ 1 ≤ n ∧ n ≤ 2147483647) → Ev (fun k => send_Push.j0 k x n true a b l d) (pushV a b l d x n) := by
    intro h
    unfold pushV
    rw [if_pos h]
    exact Ev.step (fun k => by simp only [send_Push.j0]; rw [if_pos trivial]) (Ev.now _)
  unfold send_Push.f
  refine Ev.bind (check_ev a b l d (by omega)) ?_
  by_cases hm : MayS a b l d
  · rw [if_pos hm]
    refine Ev.pos rfl ?_
    refine Ev.cases (fun h1 => no (by omega)) (fun h1 => ?_)
    by_cases h2 : n > 2147483647
    · rw [decide_eq_true h2]; exact no (by omega)
    · rw [decide_eq_false h2]
      have hw : wrap64 (a + (l.length : Int)) = a + (l.length : Int) := wrap_id (by have := hm.1; omega) (by have := hm.1; have := hm.2.1; omega)
      have hx' : ∀ y ∈ l, y.length < 140737488355328 := fun y h => by
        have : ¬ y.length > 16384 := fun h2 => hm.2.2.2.2 ⟨y, h, h2⟩
        omega
      unfold pushV
      rw [if_neg (fun h => h ⟨hm, by omega, by omega⟩)]
      refine Ev.step (f := fun k => _) (fun k => by simp only [send_Push.j0]; rw [if_neg (fun h => Bool.noConfusion h)]) ?_
      refine Ev.cases (fun h3 => ?_) (fun h3 => ?_)
      · rw [if_pos (by omega)]; exact Ev.now _
      rw [if_neg (by omega)]
      refine Ev.cases (fun h4 => ?_) (fun h4 => ?_)
      · rw [if_pos (by omega)]; exact Ev.now _
      rw [if_neg (by omega), hw]
      refine Ev.cases (fun h5 => ?_) (fun h5 => ?_)
      · rw [if_pos h5]; exact Ev.now _
      rw [if_neg h5]
      refine Ev.bind (own_ev l (by omega) hx') ?_
      refine Ev.plain (clone_v x hx) ?_
      exact Ev.pos hl (Ev.now _)
  · rw [if_neg hm]
    exact Ev.neg (by decide) (no (fun h => hm h.1))
theorem rpush_ev (a b : Int) (l : List (List Int)) (d : Int) (x : List Int) (n : Int) (hl : l.length < 5864062014805) (hx : x.length < 140737488355328) : Ev (fun k => withyref14_Push.f k a b l d x n) (pushV a b l d x n) := by
  have no : ¬ (MayS a b l d ∧ 1 ≤ n ∧ n ≤ 2147483647) → Ev (fun k => withyref14_Push.j0 k x n true a b l d) (pushV a b l d x n) := by
    intro h
    unfold pushV
    rw [if_pos h]
    exact Ev.step (fun k => by simp only [withyref14_Push.j0]; rw [if_pos trivial]) (Ev.now _)
  unfold withyref14_Push.f
  refine Ev.bind (may_ev a b l d (by omega)) ?_
  refine Ev.cases (fun hm => ?_) (fun hm => no (fun h => hm (decide_eq_true h.1)))
  have hm := of_decide_eq_true hm
  refine Ev.cases (fun h1 => no (by omega)) (fun h1 => ?_)
  by_cases h2 : n > 2147483647
  · rw [decide_eq_true h2]; exact no (by omega)
  · rw [decide_eq_false h2]
    have hw : wrap64 (a + (l.length : Int)) = a + (l.length : Int) := wrap_id (by have := hm.1; omega) (by have := hm.1; have := hm.2.1; omega)
    have e0 : pushV a b l d x n = if x.length > 16384 then (0, 0, [], 0, 3) else if l.length = 256 then (0, 0, [], 0, 2) else if a + (l.length : Int) ≥ n then (0, 0, [], 0, 10) else (a, b, l ++ [x], d, 0) := by
      unfold pushV
      rw [if_neg (fun h => h ⟨hm, by omega, by omega⟩)]
    refine Ev.step (f := fun k => _) (fun k => by simp only [withyref14_Push.j0]; rw [if_neg (fun h => Bool.noConfusion h)]) ?_
    refine Ev.cases (fun h3 => ?_) (fun h3 => ?_)
    · rw [e0, if_pos (by omega)]; exact Ev.now _
    have e1 := e0.trans (if_neg (by omega))
    refine Ev.cases (fun h4 => ?_) (fun h4 => ?_)
    · rw [e1, if_pos (by omega)]; exact Ev.now _
    have e2 := e1.trans (if_neg (by omega))
    rw [hw]
    refine Ev.cases (fun h5 => ?_) (fun h5 => ?_)
    · rw [e2, if_pos h5]; exact Ev.now _
    rw [e2.trans (if_neg h5)]
    simp only [Option.bind_some, List.nil_append, List.length_nil, Nat.zero_add]
    refine Ev.pos hl (Ev.pos hl (Ev.now _))

theorem SendPushes : withylaw14_SendPushes.Pure := by
  intro a b l d x n _ _ hlen _ _ hx _ _
  have hl : l.length < 5864062014805 := by omega
  have fin : Ev (fun k => (withylaw14_awake.f k).bind fun t => (some t)) true := Ev.bind awake_ev (Ev.now _)
  have yes : Ev (fun k => withylaw14_SendPushes.j0 k x n true a b l d) true := Ev.step (fun k => by simp only [withylaw14_SendPushes.j0]; rw [if_pos trivial]) fin
  refine Ev.rounds (g := fun k => withylaw14_SendPushes.f k a b l d x n) ?_
  unfold withylaw14_SendPushes.f withylaw14_Light.f
  obtain ⟨r, hr⟩ := light_ev a b l d (by omega) l.length 0 0 (by omega)
  refine Ev.bind hr ?_
  refine Ev.cases (fun _ => ?_) (fun _ => yes)
  by_cases h1 : (x.length : Int) > 20000
  · rw [decide_eq_true h1]; exact yes
  · rw [decide_eq_false h1]
    refine Ev.step (f := fun k => _) (fun k => by simp only [withylaw14_SendPushes.j0]; rw [if_neg (fun h => Bool.noConfusion h)]) ?_
    refine Ev.bind (push_ev a b l d x n hl (by omega)) ?_
    refine Ev.bind (rpush_ev a b l d x n hl (by omega)) ?_
    refine Ev.bind (check_ev a b l d (by omega)) ?_
    refine Ev.bind (may_ev a b l d (by omega)) ?_
    refine Ev.pos (by by_cases h : MayS a b l d <;> simp [h]) ?_
    refine Ev.pos rfl ?_
    have hl2 : (pushV a b l d x n).2.2.1.length < 9223372036854775807 := by
      unfold pushV
      (repeat' split) <;> simp <;> omega
    refine Ev.bind (same_ev _ _ _ _ hl2) ?_
    refine Ev.pos rfl ?_
    refine Ev.bind (isame_ev a b l d _ _ _ _ (by omega)) ?_
    refine Ev.bind (rsame_ev a b l d _ _ _ _ (by omega)) ?_
    exact Ev.pos (by simp) fin
end Go.Proofs.Ytlbcffdjdbjgcaa.Pure
