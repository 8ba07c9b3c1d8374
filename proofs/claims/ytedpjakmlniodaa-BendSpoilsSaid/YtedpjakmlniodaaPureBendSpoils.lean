/- For any frame that may be: its bytes with a burst are no frame's, nor is a beginning of them. What is left of that statement when the program's machine is taken away. -/
import Derived.Test.YtedpjakmlniodaaTurnedBendSpoils
set_option linter.unusedVariables false
namespace Go.Proofs.Ytedpjakmlniodaa.Pure
open Go.RowKit Go.Proofs.Ytedpjakmlniodaa.PBendSpoils Go.Proofs.YtedpjakmlniodaaW.PrintWords Go.Proofs.YtedpjakmlniodaaW.PrintLast Go.Proofs.Ytedpjakmlniodaa.EvLib Go.Proofs.Ytedpjakmlniodaa.OctPlain Go.Proofs.Ytedpjakmlniodaa.FramePlain

theorem cut_none {k s q a : Int} {p : List Int} (h : FMay k s q a p) (m : Nat) (hm : m < (sealed (body k s q a p)).length) :
    decV ((sealed (body k s q a p)).take m) = (0, 0, 0, 0, [], 5) ∨ decV ((sealed (body k s q a p)).take m) = (0, 0, 0, 0, [], 6) := by
  have hl : ((sealed (body k s q a p)).take m).length = m := by rw [List.length_take]; omega
  have hpl := h.2.2.2.2.1
  rw [sealed_length, body_length] at hm
  unfold decV
  rw [if_neg (by rw [hl]; omega)]
  by_cases h19 : m < 19
  · rw [if_pos (by rw [hl]; omega)]; exact .inl rfl
  rw [if_neg (by rw [hl]; omega)]
  rcases opened_cases ((sealed (body k s q a p)).take m) (by rw [hl]; omega) with ho | ⟨ho, _⟩
  · rw [ho, if_pos (by decide)]; exact .inr rfl
  · rw [ho, if_neg (by simp), hl]
    have e : ((sealed (body k s q a p)).take m).take (m - 4) = (body k s q a p).take (m - 4) := by
      rw [List.take_take, Nat.min_eq_left (by omega), sealed, List.take_append_of_le_length (by rw [body_length]; omega)]
    rw [e, decIn, parse_cut h (m - 4) (by rw [body_length]; omega) (by omega)]
    exact .inl rfl
theorem spoilt_none {s t : List Int} {a p : Nat} (hs : Bytes s) (h : Turned (sealed s) a p 32 t) (hne : t ≠ sealed s) : (decV t).2.2.2.2.2 ≠ 0 := by
  unfold decV
  split
  · decide
  · rename_i h1
    split
    · decide
    · rename_i h2
      have ho : opened t = ([], 6) := by
        unfold opened
        rw [if_neg (by omega), if_neg (turned_unsealed h hs hne)]
      rw [ho, if_pos (by decide)]
      decide
theorem BendSpoils : withylaw04_BendSpoils.Pure := by
  intro k s q a p at_ pat_ _ _ _ _ hl hw _ hp
  have hB := bytes_wf hw
  have hp' : 0 ≤ pat_ ∧ pat_ < 4294967296 := by simp [Lit.wf, IntKind.min, IntKind.max, IntKind.signed, IntKind.bits] at hp; omega
  obtain ⟨pn, rfl⟩ := Int.eq_ofNat_of_zero_le hp'.1
  have yes : Ev (fun n => withylaw04_BendSpoils.j0 n at_ pn true k s q a p) true := Ev.step (fun n => by simp only [withylaw04_BendSpoils.j0]; rw [if_pos trivial]) fin_ev
  refine Ev.rounds (g := fun n => withylaw04_BendSpoils.f n k s q a p at_ pn) ?_
  unfold withylaw04_BendSpoils.f
  refine Ev.cases (fun _ => yes) (fun h3 => ?_)
  refine Ev.bind (may_ev k s q a p (by omega)) ?_
  by_cases hm : FMay k s q a p
  · rw [decide_eq_true hm]
    refine Ev.step (f := fun n => _) (fun n => by simp only [withylaw04_BendSpoils.j0]; rw [if_neg (fun h => Bool.noConfusion h)]) ?_
    refine Ev.bind (ref_bytes_ev k s q a p hm hB) ?_
    have hlen : (sealed (body k s q a p)).length = 19 + p.length := by rw [sealed_length, body_length]; omega
    have hsb : Bytes (sealed (body k s q a p)) := sealed_bytes (body_bytes hB)
    obtain ⟨t, hT, hE⟩ := burst_ev (sealed (body k s q a p)) hsb (by omega) (by omega) at_ pn
    have hsp := spot_v at_ ((sealed (body k s q a p)).length + 1) (by omega)
    refine Ev.bind hE ?_
    refine Ev.plain (cut_v _ (by omega) at_) ?_
    have good : Ev (fun n => bend_Reads.f n (sealed (body k s q a p))) true := by
      have := reads_ev _ hsb
      rw [decV_enc hm] at this
      exact this
    have last : Ev (fun n => withylaw04_BendSpoils.j1 n (sealed (body k s q a p)) ((sealed (body k s q a p)).take (spot at_ ((sealed (body k s q a p)).length + 1))) false) true := by
      refine Ev.step (f := fun n => _) (fun n => by simp only [withylaw04_BendSpoils.j1]; rw [if_neg (fun h => Bool.noConfusion h)]) ?_
      refine Ev.cases (fun _ => Ev.bind good (Ev.pos rfl fin_ev)) (fun hne => ?_)
      rw [List.length_take] at hne
      have hr := reads_ev ((sealed (body k s q a p)).take (spot at_ ((sealed (body k s q a p)).length + 1))) (OctPlain.Bytes.take hsb _)
      refine Ev.bind hr ?_
      refine Ev.neg ?_ (Ev.bind good (Ev.pos rfl fin_ev))
      rw [decide_eq_true_iff]
      rcases cut_none hm (spot at_ ((sealed (body k s q a p)).length + 1)) (by omega) with hd | hd
      · rw [hd]; decide
      · rw [hd]; decide
    refine Ev.cases (fun _ => last) (fun hne => ?_)
    have hr := reads_ev t hT.2.1
    rw [decide_eq_false (spoilt_none (body_bytes hB) hT (fun e => hne (by rw [e])))] at hr
    exact Ev.bind hr last
  · rw [decide_eq_false hm]; exact yes
end Go.Proofs.Ytedpjakmlniodaa.Pure
