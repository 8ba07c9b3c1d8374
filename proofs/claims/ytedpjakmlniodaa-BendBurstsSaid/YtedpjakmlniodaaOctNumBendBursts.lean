/- What the reference's numbers and lists answer, and octet's lists. -/
import Derived.Test.YtedpjakmlniodaaOctBendBursts
set_option linter.unusedVariables false
set_option linter.unusedSimpArgs false
namespace Go.Proofs.Ytedpjakmlniodaa.PBendBursts
open Go.RowKit Go.Proofs.YtedpjakmlniodaaW.PrintWords Go.Proofs.YtedpjakmlniodaaW.PrintLast Go.Proofs.Ytedpjakmlniodaa.EvLib Go.Proofs.Ytedpjakmlniodaa.OctPlain

theorem num_step {n w i : Int} {x r : List Int} (hn : 0 ≤ n) (hn2 : n ≤ 2147483647) (h0 : 0 ≤ i) (h : i < w) (hw : w ≤ 4) (hx : x.length < 9) (k : Ev (fun k => withyref02_Num.l0 k (n / 256) w (n % 256 :: x) (i + 1)) r) : Ev (fun k => withyref02_Num.l0 k n w x i) r := by
  have e1 : Int.tmod n 256 % 256 = n % 256 := by rw [Int.tmod_eq_emod_of_nonneg hn]; omega
  have e2 : wrap64 (Int.tdiv n 256) = n / 256 := by rw [Int.tdiv_eq_ediv_of_nonneg hn, wrap_id (by omega) (by omega)]
  have e3 : wrap64 (i + 1) = i + 1 := wrap_id (by omega) (by omega)
  refine Ev.step (f := fun k => _) (fun k => by simp only [withyref02_Num.l0]; rw [if_pos h, e1, e2, e3]; simp only [Option.bind_some, List.length_cons, List.length_nil, List.cons_append, List.nil_append]; rw [if_pos (by omega)]) k
theorem num_done {n w : Int} {x : List Int} : Ev (fun k => withyref02_Num.l0 k n w x w) x :=
  Ev.step (fun k => by simp only [withyref02_Num.l0]; rw [if_neg (by omega)]) (Ev.now _)
theorem rnum_ev (n w : Int) (h1 : 1 ≤ w) (h4 : w ≤ 4) (h0 : 0 ≤ n) (hn : n ≤ 2147483647) : Ev (fun k => withyref02_Num.f k n w) (num n w) := by
  unfold withyref02_Num.f
  rcases width_cases h1 h4 with rfl | rfl | rfl | rfl
  · exact num_step h0 hn (by decide) (by decide) (by decide) (by simp) num_done
  · exact num_step h0 hn (by decide) (by decide) (by decide) (by simp) (num_step (by omega) (by omega) (by decide) (by decide) (by decide) (by simp) num_done)
  · exact num_step h0 hn (by decide) (by decide) (by decide) (by simp) (num_step (by omega) (by omega) (by decide) (by decide) (by decide) (by simp) (num_step (by omega) (by omega) (by decide) (by decide) (by decide) (by simp) num_done))
  · exact num_step h0 hn (by decide) (by decide) (by decide) (by simp) (num_step (by omega) (by omega) (by decide) (by decide) (by decide) (by simp) (num_step (by omega) (by omega) (by decide) (by decide) (by decide) (by simp) (num_step (by omega) (by omega) (by decide) (by decide) (by decide) (by simp) num_done)))
end Go.Proofs.Ytedpjakmlniodaa.PBendBursts
