/- What the reference's limits answer. -/
import Derived.Test.YtedpjakmlniodaaOctBendUnlike
set_option linter.unusedVariables false
namespace Go.Proofs.Ytedpjakmlniodaa.PBendUnlike
open Go.RowKit Go.Proofs.YtedpjakmlniodaaW.PrintWords Go.Proofs.YtedpjakmlniodaaW.PrintLast Go.Proofs.Ytedpjakmlniodaa.EvLib Go.Proofs.Ytedpjakmlniodaa.OctPlain

theorem rlimit_ev {w : Int} (h1 : 1 ≤ w) (h4 : w ≤ 4) : Ev (fun k => withyref02_Limit.f k w) (topV w) := by
  rcases width_cases h1 h4 with rfl | rfl | rfl | rfl <;> exact Ev.of (fun k => withyref02_Limit.mono _ k) (k := 7) (by decide +kernel)
end Go.Proofs.Ytedpjakmlniodaa.PBendUnlike
