/- What the reference's frames are: their bytes, and what bytes are one. -/
import Derived.Test.YtedpjakmlniodaaFrameBendBursts
import Derived.Test.YtedpjakmlniodaaRefBendBursts
import Derived.Test.YtedpjakmlniodaaOctNumBendBursts
set_option linter.unusedSimpArgs false
set_option linter.unusedVariables false
namespace Go.Proofs.Ytedpjakmlniodaa.PBendBursts
open Go.RowKit Go.Proofs.YtedpjakmlniodaaW.PrintWords Go.Proofs.YtedpjakmlniodaaW.PrintLast Go.Proofs.Ytedpjakmlniodaa.EvLib Go.Proofs.Ytedpjakmlniodaa.OctPlain Go.Proofs.Ytedpjakmlniodaa.FramePlain

theorem ref_seal (l : List Int) (hl : Bytes l) (hlen : l.length < 140737488355320) : Ev (fun k => withyref01_Seal.f k l) (sealed l) := by
  unfold withyref01_Seal.f
  refine Ev.bind (withyref01_Of.ev l hl (by omega)) ?_
  refine Ev.name ?_
  refine Ev.pos (by simp; omega) ?_
  refine Ev.name ?_
  refine Ev.name ?_
  refine Ev.pos (by simp; omega) ?_
  exact Ev.now _
theorem ref_bytes_ev (k s q a : Int) (p : List Int) (hm : FMay k s q a p) (hp : Bytes p) : Ev (fun n => withyref03_Bytes.f n k s q a p) (sealed (body k s q a p)) := by
  obtain ⟨hk, hs, hq, ha, hl, h3⟩ := hm
  have n2 := num_length (n := (p.length : Int)) (w := 2) (by decide) (by decide)
  have n1 := num_length (n := k) (w := 1) (by decide) (by decide)
  have ns := num_length (n := s) (w := 4) (by decide) (by decide)
  have nq := num_length (n := q) (w := 4) (by decide) (by decide)
  have na := num_length (n := a) (w := 4) (by decide) (by decide)
  unfold withyref03_Bytes.f
  refine Ev.bind (rnum_ev _ 2 (by decide) (by decide) (by omega) (by omega)) ?_
  refine Ev.bind (rnum_ev k 1 (by decide) (by decide) (by omega) (by omega)) ?_
  refine Ev.pos (by omega) ?_
  (try refine Ev.name ?_)
  refine Ev.bind (rnum_ev s 4 (by decide) (by decide) (by omega) (by omega)) ?_
  refine Ev.pos (by simp only [List.length_append]; omega) ?_
  (try refine Ev.name ?_)
  refine Ev.bind (rnum_ev q 4 (by decide) (by decide) (by omega) (by omega)) ?_
  refine Ev.pos (by simp only [List.length_append]; omega) ?_
  (try refine Ev.name ?_)
  refine Ev.bind (rnum_ev a 4 (by decide) (by decide) (by omega) (by omega)) ?_
  refine Ev.pos (by simp only [List.length_append]; omega) ?_
  (try refine Ev.name ?_)
  refine Ev.pos (by simp only [List.length_append]; omega) ?_
  have e : (((num (p.length : Int) 2 ++ num k 1) ++ num s 4) ++ num q 4) ++ num a 4 ++ p = body k s q a p := by simp [body, head]
  rw [e]
  exact Ev.bind (ref_seal _ (body_bytes hp) (by rw [body_length]; omega)) (Ev.now _)
end Go.Proofs.Ytedpjakmlniodaa.PBendBursts
