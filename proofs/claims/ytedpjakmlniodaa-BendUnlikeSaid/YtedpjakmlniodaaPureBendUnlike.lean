/- For any bytes: the program and the reference say alike how far apart they are and whether a frame is read of them. What is left of that statement when the program's machine is taken away. -/
import Derived.Test.YtedpjakmlniodaaBendBendUnlike
set_option linter.unusedVariables false
namespace Go.Proofs.Ytedpjakmlniodaa.Pure
open Go.RowKit Go.Proofs.Ytedpjakmlniodaa.PBendUnlike Go.Proofs.YtedpjakmlniodaaW.PrintWords Go.Proofs.YtedpjakmlniodaaW.PrintLast Go.Proofs.Ytedpjakmlniodaa.EvLib Go.Proofs.Ytedpjakmlniodaa.OctPlain Go.Proofs.Ytedpjakmlniodaa.FramePlain

theorem BendUnlike : withylaw04_BendUnlike.Pure := by
  intro a b _ hl hp _ hl' hp'
  have hA := bytes_wf hp
  have hB := bytes_wf hp'
  refine Ev.rounds (g := fun n => withylaw04_BendUnlike.f n a b) ?_
  have go : ∀ x : Bool, (x = false → a.length ≤ 3000) → Ev (fun n => withylaw04_BendUnlike.j0 n a b x) true := fun x hx => by
    cases x with
    | true => exact Ev.step (fun n => by simp only [withylaw04_BendUnlike.j0]; rw [if_pos trivial]) fin_ev
    | false =>
      refine Ev.step (f := fun n => _) (fun n => by simp only [withylaw04_BendUnlike.j0]; rw [if_neg (fun h => Bool.noConfusion h)]) ?_
      obtain ⟨r, hr, he⟩ := unlike_ev a b hA hB (by omega)
      obtain ⟨r', hr', he'⟩ := runlike_ev a b hA hB (hx rfl)
      refine Ev.bind he ?_
      refine Ev.bind he' ?_
      have e : r = r' := by
        by_cases hab : a.length = b.length
        · rw [if_pos hab] at hr hr'; exact far_unique hr hr'
        · rw [if_neg hab] at hr hr'; rw [hr, hr']
      refine Ev.pos e ?_
      refine Ev.bind (reads_ev a hA) ?_
      refine Ev.bind (rreads_ev a hA) ?_
      exact Ev.pos (by simp) fin_ev
  unfold withylaw04_BendUnlike.f
  exact Ev.cases (fun _ => go _ (fun h => Bool.noConfusion h)) (fun h => go _ (fun _ => by omega))
end Go.Proofs.Ytedpjakmlniodaa.Pure
