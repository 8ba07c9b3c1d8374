/- For any bytes: their sum by the program is the reference's sum. What is left of that statement when the program's machine is taken away. -/
import Derived.Test.YtdpehjkjmhmpdaaRefCrcOf
namespace Go.Proofs.Ytdpehjkjmhmpdaa.Pure
open Go.RowKit Go.Proofs.Ytdpehjkjmhmpdaa.PCrcOf Go.Proofs.YtdpehjkjmhmpdaaW.PrintWords Go.Proofs.YtdpehjkjmhmpdaaW.PrintLast Go.Proofs.Ytdpehjkjmhmpdaa.Crc Go.Proofs.Ytdpehjkjmhmpdaa.EvLib

theorem CrcOf : withylaw01_CrcOf.Pure := by
  intro l hm hr hw
  have hl := Bytes.of_wf hw
  have hlen : l.length ≤ 140737488355328 := by omega
  refine Ev.rounds (g := fun k => withylaw01_CrcOf.f k l) ?_
  unfold withylaw01_CrcOf.f
  refine Ev.cases (fun h => ?_) (fun h => ?_)
  · exact Ev.bind awake_ev (Ev.now _)
  · refine Ev.name ?_
    refine Ev.pos (by simp; omega) ?_
    rw [List.nil_append]
    refine Ev.bind (crc_Of.ev l hl hlen) ?_
    refine Ev.bind (withyref01_Of.ev l hl hlen) ?_
    refine Ev.pos rfl ?_
    exact Ev.bind awake_ev (Ev.now _)
end Go.Proofs.Ytdpehjkjmhmpdaa.Pure
