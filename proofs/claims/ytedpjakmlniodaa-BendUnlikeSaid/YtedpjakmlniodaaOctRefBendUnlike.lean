/- What the reference's Take, TakeList and End answer. -/
import Derived.Test.YtedpjakmlniodaaOctLimBendUnlike
set_option linter.unusedVariables false
set_option linter.unusedSimpArgs false
namespace Go.Proofs.Ytedpjakmlniodaa.PBendUnlike
open Go.RowKit Go.Proofs.YtedpjakmlniodaaW.PrintWords Go.Proofs.YtedpjakmlniodaaW.PrintLast Go.Proofs.Ytedpjakmlniodaa.EvLib Go.Proofs.Ytedpjakmlniodaa.OctPlain

theorem number_ev (l : List Int) (hb : Bytes l) (hl : l.length ≤ 4) : Ev (fun k => withyref02_number.f k l) (val l) := by
  have go : ∀ (m i : Nat), i + m = l.length → Ev (fun k => withyref02_number.l0 k l (val (l.take i)) (i : Int)) (val l) := by
    intro m
    induction m with
    | zero =>
      intro i hi
      obtain rfl : i = l.length := by omega
      rw [List.take_length]
      exact Ev.step (fun k => by simp only [withyref02_number.l0]; rw [if_neg (by omega)]) (Ev.now _)
    | succ m ih =>
      intro i hi
      have hlt : i < l.length := by omega
      have hw : wrap64 ((i : Int) + 1) = ((i + 1 : Nat) : Int) := wrap_nat (by omega)
      have hc := hb l[i] (List.getElem_mem hlt)
      have hr := val_range (l.take i) (hb.take i)
      have hlen : (l.take i).length ≤ 3 := by rw [List.length_take]; omega
      have hp : (256 : Int) ^ (l.take i).length ≤ 16777216 := by
        rcases (show (l.take i).length = 0 ∨ (l.take i).length = 1 ∨ (l.take i).length = 2 ∨ (l.take i).length = 3 by omega) with h | h | h | h <;> rw [h] <;> decide
      have hj : wrap64 (wrap64 (val (l.take i) * 256) + wrap64 (rd l (i : Int))) = val (l.take (i + 1)) := by
        rw [rd_nat l i hlt, val_take_succ l i hlt, wrap_id (x := val (l.take i) * 256) (by omega) (by omega), wrap_id (x := l[i]) (by omega) (by omega), wrap_id (by omega) (by omega)]
      refine Ev.step (f := fun k => _) (fun k => by simp only [withyref02_number.l0]; rw [if_pos (show (i : Int) < (l.length : Int) by omega), if_pos (show 0 ≤ (i : Int) by omega), hj, hw]) (ih (i + 1) (by omega))
  exact go l.length 0 (by omega)
theorem rtake_ev (l : List Int) (e w : Int) (hb : Bytes l) : Ev (fun k => withyref02_Take.f k l e w) (takeV l e w) := by
  unfold withyref02_Take.f
  refine Ev.cases (fun he => ?_) (fun he => ?_)
  · subst he
    have no : w < 1 ∨ w > 4 → Ev (fun k => withyref02_Take.j0 k w true l 0) (takeV l 0 w) := fun h => by
      have e : takeV l 0 w = (0, l, 1) := by unfold takeV; rw [if_neg (by simp), if_pos h]
      rw [e]
      exact Ev.step (f := fun k => _) (fun k => by simp only [withyref02_Take.j0]; rw [if_pos trivial]) (Ev.now _)
    refine Ev.cases (fun h1 => no (.inl h1)) (fun h1 => ?_)
    by_cases h4 : w > 4
    · rw [decide_eq_true h4]; exact no (.inr h4)
    rw [decide_eq_false h4]
    have e0 : takeV l 0 w = if (l.length : Int) < w then (0, l, 5) else if val (l.take w.toNat) > topV w then (0, l, 5) else (val (l.take w.toNat), l.drop w.toNat, 0) := by
      unfold takeV; rw [if_neg (by simp), if_neg (by omega)]
    refine Ev.step (f := fun k => _) (fun k => by simp only [withyref02_Take.j0]; rw [if_neg (fun h => Bool.noConfusion h)]) ?_
    refine Ev.cases (fun hl => ?_) (fun hl => ?_)
    · rw [e0.trans (if_pos (by omega))]
      exact Ev.now _
    have e1 := e0.trans (if_neg (by omega))
    refine Ev.pos (by omega) (Ev.pos (by omega) ?_)
    (try simp only [Option.bind_some])
    have hn := number_ev (l.take w.toNat) (hb.take _) (by rw [List.length_take]; omega)
    refine Ev.bind hn ?_
    refine Ev.bind (rlimit_ev (by omega) (by omega)) ?_
    refine Ev.cases (fun ht => ?_) (fun ht => ?_)
    · rw [e1.trans (if_pos ht)]; exact Ev.now _
    · rw [e1.trans (if_neg ht)]
      exact Ev.bind hn (Ev.now _)
  · have e : takeV l e w = (0, l, e) := if_pos he
    rw [e]; exact Ev.now _
end Go.Proofs.Ytedpjakmlniodaa.PBendUnlike
