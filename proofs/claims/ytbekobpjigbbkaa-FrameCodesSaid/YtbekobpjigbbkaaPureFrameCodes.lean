/- For any frame: its bytes are the reference's, and are read back, or there are none. What is left of that statement when the program's machine is taken away. -/
import Derived.Test.YtbekobpjigbbkaaRefFrameFrameCodes
set_option linter.unusedVariables false
namespace Go.Proofs.Ytbekobpjigbbkaa.Pure
open Go.RowKit Go.Proofs.Ytbekobpjigbbkaa.PFrameCodes Go.Proofs.YtbekobpjigbbkaaW.PrintWords Go.Proofs.YtbekobpjigbbkaaW.PrintLast Go.Proofs.Ytbekobpjigbbkaa.EvLib Go.Proofs.Ytbekobpjigbbkaa.OctPlain Go.Proofs.Ytbekobpjigbbkaa.FramePlain

theorem FrameCodes : withylaw03_FrameCodes.Pure := by
  intro k s q a p _ _ _ _ hl hp
  have hB := bytes_wf hp
  refine Ev.rounds (g := fun n => withylaw03_FrameCodes.f n k s q a p) ?_
  have go : ∀ x : Bool, Ev (fun n => withylaw03_FrameCodes.j0 n x k s q a p) true := fun x => by
    cases x with
    | true => exact Ev.step (fun n => by simp only [withylaw03_FrameCodes.j0]; rw [if_pos trivial]) fin_ev
    | false =>
      refine Ev.step (f := fun n => _) (fun n => by simp only [withylaw03_FrameCodes.j0]; rw [if_neg (fun h => Bool.noConfusion h)]) ?_
      refine Ev.bind (encode_ev k s q a p hB) ?_
      refine Ev.bind (may_ev k s q a p (by omega)) ?_
      by_cases hm : FMay k s q a p
      · have e : encV k s q a p = (sealed (body k s q a p), 0) := if_pos hm
        rw [decide_eq_true hm, e]
        refine Ev.pos (by first | rfl | trivial) ?_
        refine Ev.bind (decode_ev _ (sealed_bytes (body_bytes hB))) ?_
        rw [decV_enc hm]
        refine Ev.plain (fcheck_v k s q a p) ?_
        rw [if_pos hm]
        refine Ev.pos (by first | rfl | trivial) (Ev.pos (by first | rfl | trivial) ?_)
        refine Ev.bind (ref_bytes_ev k s q a p hm hB) ?_
        refine Ev.pos (by first | rfl | trivial) (Ev.pos (by first | rfl | trivial) ?_)
        refine Ev.plain (rsame_v k s q a p k s q a p) ?_
        exact Ev.pos (by simp) fin_ev
      · have e : encV k s q a p = ([], 1) := if_neg hm
        rw [decide_eq_false hm, e]
        refine Ev.neg (fun h => Bool.noConfusion h) ?_
        refine Ev.plain (fcheck_v k s q a p) ?_
        rw [if_neg hm]
        exact Ev.pos (by first | rfl | trivial) (Ev.pos (by first | rfl | trivial) (Ev.pos (by first | rfl | trivial) fin_ev))
  unfold withylaw03_FrameCodes.f
  exact Ev.cases (fun _ => go _) (fun _ => go _)
end Go.Proofs.Ytbekobpjigbbkaa.Pure
