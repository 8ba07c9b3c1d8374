/- For any kind and payload of zeros: how many bytes a frame has, or that there is none. What is left of that statement when the program's machine is taken away. -/
import Derived.Test.YtbekobpjigbbkaaFrameFrameSizes
set_option linter.unusedVariables false
namespace Go.Proofs.Ytbekobpjigbbkaa.Pure
open Go.RowKit Go.Proofs.Ytbekobpjigbbkaa.PFrameSizes Go.Proofs.YtbekobpjigbbkaaW.PrintWords Go.Proofs.YtbekobpjigbbkaaW.PrintLast Go.Proofs.Ytbekobpjigbbkaa.EvLib Go.Proofs.Ytbekobpjigbbkaa.OctPlain Go.Proofs.Ytbekobpjigbbkaa.FramePlain

theorem FrameSizes : withylaw03_FrameSizes.Pure := by
  intro k n hk hn
  have rn : 0 ≤ n ∧ n < 65536 := by simp [Lit.wf, IntKind.min, IntKind.max, IntKind.signed, IntKind.bits] at hn; omega
  refine Ev.rounds (g := fun m => withylaw03_FrameSizes.f m k n) ?_
  unfold withylaw03_FrameSizes.f
  have hw : wrap64 n = n := wrap_id (by omega) (by omega)
  have hw2 : wrap64 (19 + n) = 19 + n := wrap_id (by omega) (by omega)
  rw [hw, hw2]
  refine Ev.pos rn.1 (Ev.pos (by omega) ?_)
  simp only [Option.bind_some]
  have hb : Bytes (List.replicate n.toNat (0 : Int)) := fun x hx => by rw [List.eq_of_mem_replicate hx]; decide
  refine Ev.bind (encode_ev k 0 0 0 _ hb) ?_
  refine Ev.bind (may_ev k 0 0 0 _ (by rw [List.length_replicate]; omega)) ?_
  by_cases hm : FMay k 0 0 0 (List.replicate n.toNat 0)
  · have e : encV k 0 0 0 (List.replicate n.toNat 0) = (sealed (body k 0 0 0 (List.replicate n.toNat 0)), 0) := if_pos hm
    rw [decide_eq_true hm, e]
    refine Ev.pos (by first | rfl | trivial) (Ev.pos (by first | rfl | trivial) (Ev.pos ?_ fin_ev))
    simp only [sealed_length, body_length, List.length_replicate]
    omega
  · have e : encV k 0 0 0 (List.replicate n.toNat 0) = ([], 1) := if_neg hm
    rw [decide_eq_false hm, e]
    exact Ev.neg (fun h => Bool.noConfusion h) (Ev.pos (by first | rfl | trivial) (Ev.pos (by first | rfl | trivial) fin_ev))
end Go.Proofs.Ytbekobpjigbbkaa.Pure
