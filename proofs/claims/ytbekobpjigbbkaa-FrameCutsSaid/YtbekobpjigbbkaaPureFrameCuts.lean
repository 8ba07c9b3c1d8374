/- For any frame that may be: a beginning of its bytes is no frame's. What is left of that statement when the program's machine is taken away. -/
import Derived.Test.YtbekobpjigbbkaaFrameFrameCuts
set_option linter.unusedVariables false
namespace Go.Proofs.Ytbekobpjigbbkaa.Pure
open Go.RowKit Go.Proofs.Ytbekobpjigbbkaa.PFrameCuts Go.Proofs.YtbekobpjigbbkaaW.PrintWords Go.Proofs.YtbekobpjigbbkaaW.PrintLast Go.Proofs.Ytbekobpjigbbkaa.EvLib Go.Proofs.Ytbekobpjigbbkaa.OctPlain Go.Proofs.Ytbekobpjigbbkaa.FramePlain

theorem cut_none {k s q a : Int} {p : List Int} (h : FMay k s q a p) (m : Nat) (hm : m < (sealed (body k s q a p)).length) :
    decV ((sealed (body k s q a p)).take m) = (0, 0, 0, 0, [], 5) ∨ decV ((sealed (body k s q a p)).take m) = (0, 0, 0, 0, [], 6) := by
  have hl : ((sealed (body k s q a p)).take m).length = m := by rw [List.length_take]; omega
  have hpl := h.2.2.2.2.1
  rw [sealed_length, body_length] at hm
  unfold decV
  rw [if_neg (by rw [hl]; omega)]
  by_cases h19 : m < 19
  · rw [if_pos (by rw [hl]; omega)]; exact .inl rfl
  rw [if_neg (by rw [hl]; omega)]
  rcases opened_cases ((sealed (body k s q a p)).take m) (by rw [hl]; omega) with ho | ⟨ho, _⟩
  · rw [ho, if_pos (by decide)]; exact .inr rfl
  · rw [ho, if_neg (by simp), hl]
    have e : ((sealed (body k s q a p)).take m).take (m - 4) = (body k s q a p).take (m - 4) := by
      rw [List.take_take, Nat.min_eq_left (by omega), sealed, List.take_append_of_le_length (by rw [body_length]; omega)]
    rw [e, decIn, parse_cut h (m - 4) (by rw [body_length]; omega) (by omega)]
    exact .inl rfl
theorem FrameCuts : withylaw03_FrameCuts.Pure := by
  intro k s q a p c hk hs hq ha hl hp hc
  have rc : 0 ≤ c ∧ c < 65536 := by simp [Lit.wf, IntKind.min, IntKind.max, IntKind.signed, IntKind.bits] at hc; omega
  have hB := bytes_wf hp
  have yes : Ev (fun n => withylaw03_FrameCuts.j0 n c true k s q a p) true := Ev.step (fun n => by simp only [withylaw03_FrameCuts.j0]; rw [if_pos trivial]) fin_ev
  refine Ev.rounds (g := fun n => withylaw03_FrameCuts.f n k s q a p c) ?_
  unfold withylaw03_FrameCuts.f
  refine Ev.cases (fun _ => yes) (fun h3 => ?_)
  refine Ev.bind (may_ev k s q a p (by omega)) ?_
  by_cases hm : FMay k s q a p
  · rw [decide_eq_true hm]
    refine Ev.step (f := fun n => _) (fun n => by simp only [withylaw03_FrameCuts.j0]; rw [if_neg (fun h => Bool.noConfusion h)]) ?_
    refine Ev.bind (encode_ev k s q a p hB) ?_
    have e : encV k s q a p = (sealed (body k s q a p), 0) := if_pos hm
    rw [e]
    refine Ev.pos (by first | rfl | trivial) ?_
    have hlen : (sealed (body k s q a p)).length = 19 + p.length := by rw [sealed_length, body_length]; omega
    have e0 : (((sealed (body k s q a p)).length : Int) == 0) = false := by rw [beq_eq_false_iff_ne]; omega
    rw [e0]
    refine Ev.step (f := fun n => _) (fun n => by simp only [withylaw03_FrameCuts.j1]; rw [if_neg (fun h => Bool.noConfusion h)]) ?_
    have hw : wrap64 c = c := wrap_id (by omega) (by omega)
    have ht : Int.tmod c ((sealed (body k s q a p)).length : Int) = c % ((sealed (body k s q a p)).length : Int) := Int.tmod_eq_emod_of_nonneg rc.1
    have m0 := Int.emod_nonneg c (b := ((sealed (body k s q a p)).length : Int)) (by omega)
    have m1 := Int.emod_lt_of_pos c (b := ((sealed (body k s q a p)).length : Int)) (by omega)
    rw [hw, ht]
    generalize c % ((sealed (body k s q a p)).length : Int) = m at m0 m1
    refine Ev.neg (by omega) (Ev.pos m0 (Ev.pos (by omega) ?_))
    refine Ev.bind (decode_ev _ ((sealed_bytes (body_bytes hB)).take m.toNat)) ?_
    have same : Ev (fun n => (withyref03_Same.f 0 0 0 0 [] 0 0 0 0 []).bind fun t => if t = true then (withylaw03_awake.f n).bind fun t => some t else some false) true := by
      refine Ev.plain (rsame_v 0 0 0 0 [] 0 0 0 0 []) ?_
      exact Ev.pos (by simp) fin_ev
    rcases cut_none hm m.toNat (by omega) with hd | hd
    · rw [hd]; exact Ev.pos (by first | rfl | trivial) same
    · rw [hd]; exact Ev.neg (by simp) (Ev.pos (by first | rfl | trivial) same)
  · rw [decide_eq_false hm]; exact yes
end Go.Proofs.Ytbekobpjigbbkaa.Pure
