/- For any bytes, number and list: what is put behind the bytes, of any width, is what the reference says, or is refused as it must be. What is left of that statement when the program's machine is taken away. -/
import Derived.Test.YtfbdidijdibhmaaOctPutListOctetPuts
import Derived.Test.YtfbdidijdibhmaaOctNumOctetPuts
import Derived.Test.YtfbdidijdibhmaaOctLimOctetPuts
set_option linter.unusedVariables false
namespace Go.Proofs.Ytfbdidijdibhmaa.Pure
open Go.RowKit Go.Proofs.Ytfbdidijdibhmaa.POctetPuts Go.Proofs.YtfbdidijdibhmaaW.PrintWords Go.Proofs.YtfbdidijdibhmaaW.PrintLast Go.Proofs.Ytfbdidijdibhmaa.EvLib Go.Proofs.Ytfbdidijdibhmaa.OctPlain

theorem OctetPuts : withylaw02_OctetPuts.Pure := by
  intro b n l _ hb _ _ _ hl _
  have hb' : b.length ≤ 140737488351232 := by omega
  have yes : Ev (fun k => withylaw02_OctetPuts.j0 k b n l true) true := Ev.step (fun k => by simp only [withylaw02_OctetPuts.j0]; rw [if_pos trivial]) fin_ev
  refine Ev.rounds (g := fun k => withylaw02_OctetPuts.f k b n l) ?_
  unfold withylaw02_OctetPuts.f
  refine Ev.cases (fun _ => yes) (fun h2 => ?_)
  by_cases h3 : (l.length : Int) > 66000
  · rw [decide_eq_true h3]; exact yes
  rw [decide_eq_false h3]
  refine Ev.step (f := fun k => _) (fun k => by simp only [withylaw02_OctetPuts.j0]; rw [if_neg (fun h => Bool.noConfusion h)]) ?_
  have last : ∀ w : Int, ¬ w < 7 → Ev (fun k => withylaw02_OctetPuts.l0 k b n l w) true := fun w hw => by
    refine Ev.step (f := fun k => _) (fun k => by simp only [withylaw02_OctetPuts.l0]; rw [if_neg hw]) ?_
    simp only [Option.bind_some, List.nil_append, List.length_nil, Nat.zero_add]
    refine Ev.pos (by omega) ?_
    refine Ev.bind (putlist_ev b l (by omega) (by omega)) ?_
    refine Ev.cases (fun h => ?_) (fun h => ?_)
    · rw [if_pos (by omega)]
      exact Ev.pos (by first | rfl | trivial) (Ev.pos (by first | rfl | trivial) fin_ev)
    · rw [if_neg (by omega)]
      refine Ev.pos (by first | rfl | trivial) ?_
      refine Ev.bind (rlist_ev l (by omega)) ?_
      refine Ev.pos ?_ (Ev.pos ?_ fin_ev)
      · rw [strOfNums_size, strOfNums_size, List.length_append]
        have := num_length (n := (l.length : Int)) (w := 2) (by decide) (by decide)
        omega
      · rw [strOf_append, List.append_assoc]
  have go : ∀ (d : Nat) (w : Int), w + d = 7 → -1 ≤ w → Ev (fun k => withylaw02_OctetPuts.l0 k b n l w) true := by
    intro d
    induction d with
    | zero => intro w hw _; exact last w (by omega)
    | succ d ih =>
      intro w hw hw1
      have hn := ih (w + 1) (by omega) (by omega)
      have hwr : wrap64 (w + 1) = w + 1 := wrap_id (by omega) (by omega)
      refine Ev.step (f := fun k => _) (fun k => by simp only [withylaw02_OctetPuts.l0]; rw [if_pos (show w < 7 by omega)]) ?_
      simp only [Option.bind_some, List.nil_append, List.length_nil, Nat.zero_add]
      refine Ev.pos (by omega) ?_
      refine Ev.bind (put_ev b n w (by omega)) ?_
      have bad : w < 1 ∨ w > 4 → Ev (fun k => withylaw02_OctetPuts.j2 k b n l w (putV b n w).1 (putV b n w).2 true) true := fun h => by
        have e : putV b n w = ([], 1) := if_pos h
        rw [e]
        refine Ev.step (f := fun k => _) (fun k => by simp only [withylaw02_OctetPuts.j2]; rw [if_pos trivial, hwr]) ?_
        exact Ev.pos (by first | rfl | trivial) (Ev.pos (by first | rfl | trivial) hn)
      refine Ev.cases (fun h1 => bad (.inl h1)) (fun h1 => ?_)
      by_cases h4 : w > 4
      · rw [decide_eq_true h4]; exact bad (.inr h4)
      rw [decide_eq_false h4]
      refine Ev.step (f := fun k => _) (fun k => by simp only [withylaw02_OctetPuts.j2]; rw [if_neg (fun h => Bool.noConfusion h)]) ?_
      have long : n < 0 ∨ n > topV w → Ev (fun k => withylaw02_OctetPuts.j3 k b n l w (putV b n w).1 (putV b n w).2 true) true := fun h => by
        have e : putV b n w = ([], 3) := (if_neg (by omega)).trans (if_pos h)
        rw [e]
        refine Ev.step (f := fun k => _) (fun k => by simp only [withylaw02_OctetPuts.j3]; rw [if_pos trivial, hwr]) ?_
        exact Ev.pos (by first | rfl | trivial) (Ev.pos (by first | rfl | trivial) hn)
      refine Ev.cases (fun h0 => long (.inl h0)) (fun h0 => ?_)
      refine Ev.bind (rlimit_ev (by omega) (by omega)) ?_
      by_cases ht : n > topV w
      · rw [decide_eq_true ht]; exact long (.inr ht)
      rw [decide_eq_false ht]
      have e : putV b n w = (b ++ num n w, 0) := (if_neg (by omega)).trans (if_neg (by omega))
      rw [e]
      refine Ev.step (f := fun k => _) (fun k => by simp only [withylaw02_OctetPuts.j3]; rw [if_neg (fun h => Bool.noConfusion h), hwr]) ?_
      refine Ev.pos (by first | rfl | trivial) ?_
      refine Ev.bind (rnum_ev n w (by omega) (by omega) (by omega) (by have := (topV_pos w).2; omega)) ?_
      refine Ev.pos ?_ (Ev.pos ?_ hn)
      · rw [strOfNums_size, strOfNums_size]
        have := num_length (n := n) (w := w) (by omega) (by omega)
        omega
      · rw [strOf_append]
  exact go 8 (-1) (by decide) (by decide)
end Go.Proofs.Ytfbdidijdibhmaa.Pure
