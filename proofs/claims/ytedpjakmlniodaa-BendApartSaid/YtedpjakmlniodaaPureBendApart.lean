/- For any two frames that may be: their bytes are alike, or unlike in more than 32 bits in a row. What is left of that statement when the program's machine is taken away. -/
import Derived.Test.YtedpjakmlniodaaBendBendApart
set_option linter.unusedVariables false
namespace Go.Proofs.Ytedpjakmlniodaa.Pure
open Go.RowKit Go.Proofs.Ytedpjakmlniodaa.PBendApart Go.Proofs.YtedpjakmlniodaaW.PrintWords Go.Proofs.YtedpjakmlniodaaW.PrintLast Go.Proofs.Ytedpjakmlniodaa.EvLib Go.Proofs.Ytedpjakmlniodaa.OctPlain Go.Proofs.Ytedpjakmlniodaa.FramePlain

theorem BendApart : withylaw04_BendApart.Pure := by
  intro k s q a p k' s' q' a' p' _ _ _ _ hl hp _ _ _ _ hl' hp'
  have hB := bytes_wf hp
  have hB' := bytes_wf hp'
  have yes : Ev (fun n => withylaw04_BendApart.j0 n true k s q a p k' s' q' a' p') true := Ev.step (fun n => by simp only [withylaw04_BendApart.j0]; rw [if_pos trivial]) fin_ev
  refine Ev.rounds (g := fun n => withylaw04_BendApart.f n k s q a p k' s' q' a' p') ?_
  unfold withylaw04_BendApart.f
  refine Ev.cases (fun _ => yes) (fun h3 => Ev.cases (fun _ => yes) (fun h4 => ?_))
  refine Ev.bind (may_ev k s q a p (by omega)) ?_
  by_cases hm : FMay k s q a p
  · rw [decide_eq_true hm]
    refine Ev.pos (by first | rfl | trivial) ?_
    refine Ev.bind (may_ev k' s' q' a' p' (by omega)) ?_
    by_cases hm' : FMay k' s' q' a' p'
    · rw [decide_eq_true hm']
      refine Ev.step (f := fun n => _) (fun n => by simp only [withylaw04_BendApart.j0]; rw [if_neg (fun h => Bool.noConfusion h)]) ?_
      refine Ev.bind (ref_bytes_ev k s q a p hm hB) ?_
      refine Ev.bind (ref_bytes_ev k' s' q' a' p' hm' hB') ?_
      obtain ⟨r, hr, he⟩ := unlike_ev (sealed (body k s q a p)) (sealed (body k' s' q' a' p')) (sealed_bytes (body_bytes hB)) (sealed_bytes (body_bytes hB')) (by rw [sealed_length, body_length]; omega)
      refine Ev.bind he ?_
      refine Ev.plain (rsame_v k s q a p k' s' q' a' p') ?_
      have same : (k = k' ∧ s = s' ∧ q = q' ∧ a = a' ∧ (strOfNums p).toList = (strOfNums p').toList) ↔ body k s q a p = body k' s' q' a' p' := by
        constructor
        · rintro ⟨rfl, rfl, rfl, rfl, h⟩
          rw [strOf_inj hB hB' h]
        · intro h
          obtain ⟨rfl, rfl, rfl, rfl, rfl⟩ := body_inj hm hm' h
          exact ⟨rfl, rfl, rfl, rfl, rfl⟩
      have key : (r = 0 ↔ body k s q a p = body k' s' q' a' p') ∧ (r ≤ 0 ∨ r > 32) := by
        by_cases hlen : (sealed (body k s q a p)).length = (sealed (body k' s' q' a' p')).length
        · rw [if_pos hlen] at hr
          rw [sealed_length, sealed_length] at hlen
          exact far_sealed (body_bytes hB) (body_bytes hB') (by omega) hr
        · rw [if_neg hlen] at hr
          subst hr
          exact ⟨⟨fun h => by omega, fun h => absurd (by rw [h]) hlen⟩, .inl (by decide)⟩
      refine Ev.pos ?_ ?_
      · rw [beq_iff_eq, Bool.eq_iff_iff, beq_iff_eq, decide_eq_true_iff, key.1, same]
      · refine Ev.cases (fun _ => fin_ev) (fun h0 => Ev.pos ?_ fin_ev)
        rcases key.2 with h | h
        · exact absurd h h0
        · exact h
    · rw [decide_eq_false hm']; exact yes
  · rw [decide_eq_false hm]
    exact Ev.neg (fun h => Bool.noConfusion h) yes
end Go.Proofs.Ytedpjakmlniodaa.Pure
