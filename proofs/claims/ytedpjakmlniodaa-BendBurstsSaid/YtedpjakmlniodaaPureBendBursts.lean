/- For any bytes, any place and any pattern: the program turns the bits that the reference turns, cuts where it cuts, and turning twice changes nothing. What is left of that statement when the program's machine is taken away. -/
import Derived.Test.YtedpjakmlniodaaTurnedBendBursts
set_option linter.unusedVariables false
namespace Go.Proofs.Ytedpjakmlniodaa.Pure
open Go.RowKit Go.Proofs.Ytedpjakmlniodaa.PBendBursts Go.Proofs.YtedpjakmlniodaaW.PrintWords Go.Proofs.YtedpjakmlniodaaW.PrintLast Go.Proofs.Ytedpjakmlniodaa.EvLib Go.Proofs.Ytedpjakmlniodaa.OctPlain

theorem BendBursts : withylaw04_BendBursts.Pure := by
  intro s a p _ hl hw _ hp
  have hB := bytes_wf hw
  have hp' : 0 ≤ p ∧ p < 4294967296 := by simp [Lit.wf, IntKind.min, IntKind.max, IntKind.signed, IntKind.bits] at hp; omega
  obtain ⟨pn, rfl⟩ := Int.eq_ofNat_of_zero_le hp'.1
  refine Ev.rounds (g := fun n => withylaw04_BendBursts.f n s a pn) ?_
  unfold withylaw04_BendBursts.f
  refine Ev.cases (fun _ => fin_ev) (fun h4 => ?_)
  refine Ev.name ?_
  refine Ev.pos (by simp; omega) ?_
  refine Ev.name ?_
  rw [List.nil_append]
  have all : ∃ t t2 : List Int, Ev (fun k => bend_Burst.f k s a pn) t ∧ Ev (fun k => withyref04_Burst.f k s a pn) t ∧ Ev (fun k => bend_Flip.f k s a) t2 ∧ Ev (fun k => withyref04_Burst.f k s a 2147483648) t2 ∧ Ev (fun k => bend_Burst.f k t a pn) s := by
    by_cases h0 : s.length = 0
    · obtain rfl : s = [] := List.eq_nil_of_length_eq_zero h0
      exact ⟨[], [], burst_nil _ _, rburst_nil _ _, flip_of (burst_nil _ _), rburst_nil _ _, burst_nil _ _⟩
    · obtain ⟨t, hT, hE⟩ := burst_ev s hB (by omega) (by omega) a pn
      obtain ⟨t', hT', hE'⟩ := rburst_ev s hB (by omega) (by omega) a pn
      obtain ⟨t2, hT2, hE2⟩ := burst_ev s hB (by omega) (by omega) a 2147483648
      obtain ⟨t2', hT2', hE2'⟩ := rburst_ev s hB (by omega) (by omega) a 2147483648
      obtain ⟨u, hU, hEU⟩ := burst_ev t hT.2.1 (by rw [hT.1]; omega) (by rw [hT.1]; omega) a pn
      rw [hT.1] at hU
      obtain rfl := turned_unique hT hT'
      obtain rfl := turned_unique hT2 hT2'
      obtain rfl := turned_back hB hT hU
      exact ⟨t, t2, hE, hE', flip_of hE2, hE2', hEU⟩
  obtain ⟨t, t2, e1, e2, e3, e4, e5⟩ := all
  have hsp := spot_v a (s.length + 1) (by omega)
  refine Ev.bind e1 ?_
  refine Ev.plain (cut_v s (by omega) a) ?_
  refine Ev.bind e3 ?_
  refine Ev.bind e2 ?_
  refine Ev.pos rfl ?_
  refine Ev.bind e4 ?_
  refine Ev.pos rfl ?_
  have en : ((strOfNums s).toList != (strOfNums s).toList) = false := by simp
  rw [en]
  refine Ev.step (f := fun k => _) (fun k => by simp only [withylaw04_BendBursts.j0]; rw [if_neg (fun h => Bool.noConfusion h)]) ?_
  have w : wrap64 ((s.length : Int) + 1) = ((s.length + 1 : Nat) : Int) := wrap_nat (by omega)
  rw [w]
  refine Ev.plain (at_v a (s.length + 1) (by omega) (by omega)) ?_
  rw [hsp.1]
  refine Ev.pos (by omega) (Ev.pos (by omega) ?_)
  rw [Int.toNat_natCast]
  refine Ev.pos rfl ?_
  refine Ev.bind e5 ?_
  exact Ev.pos rfl fin_ev
end Go.Proofs.Ytedpjakmlniodaa.Pure
