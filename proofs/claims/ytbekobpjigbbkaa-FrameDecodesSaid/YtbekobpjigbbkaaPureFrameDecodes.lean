/- For any bytes: the program reads the frame that the reference reads, or tells the same error. What is left of that statement when the program's machine is taken away. -/
import Derived.Test.YtbekobpjigbbkaaRefFrameFrameDecodes
set_option linter.unusedVariables false
namespace Go.Proofs.Ytbekobpjigbbkaa.Pure
open Go.RowKit Go.Proofs.Ytbekobpjigbbkaa.PFrameDecodes Go.Proofs.YtbekobpjigbbkaaW.PrintWords Go.Proofs.YtbekobpjigbbkaaW.PrintLast Go.Proofs.Ytbekobpjigbbkaa.EvLib Go.Proofs.Ytbekobpjigbbkaa.OctPlain Go.Proofs.Ytbekobpjigbbkaa.FramePlain

theorem FrameDecodes : withylaw03_FrameDecodes.Pure := by
  intro b _ hl hp
  have hB := bytes_wf hp
  refine Ev.rounds (g := fun n => withylaw03_FrameDecodes.f n b) ?_
  have go : ∀ x : Bool, Ev (fun n => withylaw03_FrameDecodes.j0 n b x) true := fun x => by
    cases x with
    | true => exact Ev.step (fun n => by simp only [withylaw03_FrameDecodes.j0]; rw [if_pos trivial]) fin_ev
    | false =>
      refine Ev.step (f := fun n => _) (fun n => by simp only [withylaw03_FrameDecodes.j0]; rw [if_neg (fun h => Bool.noConfusion h)]) ?_
      simp only [Option.bind_some, List.nil_append, List.length_nil, Nat.zero_add]
      refine Ev.pos (by omega) ?_
      refine Ev.bind (decode_ev b hB) ?_
      refine Ev.bind (ref_decode_ev b hB) ?_
      refine Ev.pos (by first | rfl | trivial) ?_
      refine Ev.plain (rsame_v _ _ _ _ _ _ _ _ _ _) ?_
      exact Ev.pos (by simp) fin_ev
  unfold withylaw03_FrameDecodes.f
  exact Ev.cases (fun _ => go _) (fun _ => go _)
end Go.Proofs.Ytbekobpjigbbkaa.Pure
