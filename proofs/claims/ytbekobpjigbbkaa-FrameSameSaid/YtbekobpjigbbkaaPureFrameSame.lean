/- For any two frames: which are alike, and that unlike ones have unlike bytes. What is left of that statement when the program's machine is taken away. -/
import Derived.Test.YtbekobpjigbbkaaFrameFrameSame
set_option linter.unusedVariables false
namespace Go.Proofs.Ytbekobpjigbbkaa.Pure
open Go.RowKit Go.Proofs.Ytbekobpjigbbkaa.PFrameSame Go.Proofs.YtbekobpjigbbkaaW.PrintWords Go.Proofs.YtbekobpjigbbkaaW.PrintLast Go.Proofs.Ytbekobpjigbbkaa.EvLib Go.Proofs.Ytbekobpjigbbkaa.OctPlain Go.Proofs.Ytbekobpjigbbkaa.FramePlain

theorem FrameSame : withylaw03_FrameSame.Pure := by
  intro k s q a p k' s' q' a' p' _ _ _ _ hl hp _ _ _ _ hl' hp'
  have hB := bytes_wf hp
  have hB' := bytes_wf hp'
  have yes : Ev (fun n => withylaw03_FrameSame.j0 n true k s q a p k' s' q' a' p') true := Ev.step (fun n => by simp only [withylaw03_FrameSame.j0]; rw [if_pos trivial]) fin_ev
  refine Ev.rounds (g := fun n => withylaw03_FrameSame.f n k s q a p k' s' q' a' p') ?_
  unfold withylaw03_FrameSame.f
  refine Ev.cases (fun _ => yes) (fun h3 => ?_)
  by_cases h4 : (p'.length : Int) > 3000
  · rw [decide_eq_true h4]; exact yes
  rw [decide_eq_false h4]
  refine Ev.step (f := fun n => _) (fun n => by simp only [withylaw03_FrameSame.j0]; rw [if_neg (fun h => Bool.noConfusion h)]) ?_
  obtain ⟨d, hd⟩ : ∃ d, d = decide (k = k' ∧ s = s' ∧ q = q' ∧ a = a' ∧ (strOfNums p).toList = (strOfNums p').toList) := ⟨_, rfl⟩
  have hs : withyref03_Same.f k s q a p k' s' q' a' p' = some d := by rw [rsame_v, hd]
  have hf : frame_Same.f k s q a p k' s' q' a' p' = some d := hs
  have hf2 : frame_Same.f k s q a p k s q a p = some true := by
    have : withyref03_Same.f k s q a p k s q a p = some true := by rw [rsame_v, decide_eq_true ⟨rfl, rfl, rfl, rfl, rfl⟩]
    exact this
  refine Ev.plain hs ?_
  refine Ev.plain hf ?_
  refine Ev.neg (by simp) ?_
  refine Ev.plain hf2 ?_
  refine Ev.step (f := fun n => _) (fun n => by simp only [withylaw03_FrameSame.j1]; rw [if_neg (by decide)]) ?_
  refine Ev.bind (encode_ev k s q a p hB) ?_
  refine Ev.bind (encode_ev k' s' q' a' p' hB') ?_
  by_cases hm : FMay k s q a p
  · have e : encV k s q a p = (sealed (body k s q a p), 0) := if_pos hm
    by_cases hm' : FMay k' s' q' a' p'
    · have e' : encV k' s' q' a' p' = (sealed (body k' s' q' a' p'), 0) := if_pos hm'
      rw [e, e']
      have key : (((strOfNums (sealed (body k s q a p))).toList == (strOfNums (sealed (body k' s' q' a' p'))).toList) == d) = true := by
        rw [beq_iff_eq, hd, Bool.eq_iff_iff, beq_iff_eq, decide_eq_true_iff]
        constructor
        · intro h
          have h1 := sealed_inj (strOf_inj (sealed_bytes (body_bytes hB)) (sealed_bytes (body_bytes hB')) h)
          obtain ⟨rfl, rfl, rfl, rfl, rfl⟩ := body_inj hm hm' h1
          exact ⟨rfl, rfl, rfl, rfl, rfl⟩
        · rintro ⟨rfl, rfl, rfl, rfl, h⟩
          rw [strOf_inj hB hB' h]
      exact Ev.pos (by first | rfl | trivial) (Ev.pos (by first | rfl | trivial) (Ev.pos key fin_ev))
    · have e' : encV k' s' q' a' p' = ([], 1) := if_neg hm'
      rw [e, e']
      exact Ev.pos (by first | rfl | trivial) (Ev.neg (by simp) fin_ev)
  · have e : encV k s q a p = ([], 1) := if_neg hm
    rw [e]
    exact Ev.neg (by simp) fin_ev
end Go.Proofs.Ytbekobpjigbbkaa.Pure
