/- For any bytes, however they are cut in two: the sum that goes on from the first part's is the whole's. What is left of that statement when the program's machine is taken away. -/
import Derived.Test.YtdpehjkjmhmpdaaRefCrcMore
namespace Go.Proofs.Ytdpehjkjmhmpdaa.Pure
open Go.RowKit Go.Proofs.Ytdpehjkjmhmpdaa.PCrcMore Go.Proofs.YtdpehjkjmhmpdaaW.PrintWords Go.Proofs.YtdpehjkjmhmpdaaW.PrintLast Go.Proofs.Ytdpehjkjmhmpdaa.Crc Go.Proofs.Ytdpehjkjmhmpdaa.EvLib

theorem CrcMore : withylaw01_CrcMore.Pure := by
  intro a b hm hr hw hm' hr' hw'
  have ha := Bytes.of_wf hw
  have hb := Bytes.of_wf hw'
  have hwr : wrap64 ((a.length : Int) + (b.length : Int)) = (a.length : Int) + (b.length : Int) := wrap_id (by omega) (by omega)
  refine Ev.rounds (g := fun k => withylaw01_CrcMore.f k a b) ?_
  unfold withylaw01_CrcMore.f
  rw [hwr]
  refine Ev.cases (fun h => ?_) (fun h => ?_)
  · exact Ev.bind awake_ev (Ev.now _)
  · refine Ev.bind (crc_Of.ev a ha (by omega)) ?_
    refine Ev.bind (crc_More.ev (sum a) b hb (by omega)) ?_
    refine Ev.name ?_
    refine Ev.pos (by simp; omega) ?_
    rw [List.nil_append]
    refine Ev.name ?_
    refine Ev.pos (by omega) ?_
    refine Ev.bind (withyref01_Of.ev (a ++ b) (ha.append hb) (by rw [List.length_append]; omega)) ?_
    refine Ev.pos ?_ ?_
    · have e : ~~~(sum a) = more 0xFFFFFFFF#32 a := by unfold sum; rw [BitVec.not_not]
      rw [e, ← more_append]
      rfl
    · exact Ev.bind awake_ev (Ev.now _)
end Go.Proofs.Ytdpehjkjmhmpdaa.Pure
