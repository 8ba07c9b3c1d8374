/- For any bytes: sealed by the program they are what the reference seals, and they are opened again. What is left of that statement when the program's machine is taken away. -/
import Derived.Test.YtdpehjkjmhmpdaaRefCrcSeals
import Derived.Test.YtdpehjkjmhmpdaaSealCrcSeals
namespace Go.Proofs.Ytdpehjkjmhmpdaa.Pure
open Go.RowKit Go.Proofs.Ytdpehjkjmhmpdaa.PCrcSeals Go.Proofs.YtdpehjkjmhmpdaaW.PrintWords Go.Proofs.YtdpehjkjmhmpdaaW.PrintLast Go.Proofs.Ytdpehjkjmhmpdaa.Crc Go.Proofs.Ytdpehjkjmhmpdaa.EvLib

theorem ref_seal (l : List Int) (hl : Bytes l) (hlen : l.length < 140737488355320) : Ev (fun k => withyref01_Seal.f k l) (sealed l) := by
  unfold withyref01_Seal.f
  refine Ev.bind (withyref01_Of.ev l hl (by omega)) ?_
  refine Ev.name ?_
  refine Ev.pos (by simp; omega) ?_
  refine Ev.name ?_
  refine Ev.name ?_
  refine Ev.pos (by simp; omega) ?_
  exact Ev.now _

theorem CrcSeals : withylaw01_CrcSeals.Pure := by
  intro l hm hr hw
  have hl := Bytes.of_wf hw
  refine Ev.rounds (g := fun k => withylaw01_CrcSeals.f k l) ?_
  unfold withylaw01_CrcSeals.f
  refine Ev.cases (fun h => ?_) (fun h => ?_)
  · exact Ev.bind awake_ev (Ev.now _)
  · refine Ev.name ?_
    refine Ev.pos (by simp; omega) ?_
    rw [List.nil_append]
    refine Ev.bind (crc_Seal.ev l hl (by omega)) ?_
    refine Ev.bind (crc_Open.ev _ (sealed_bytes hl) (by rw [sealed_length]; omega)) ?_
    refine Ev.bind (ref_seal l hl (by omega)) ?_
    rw [opened_sealed]
    refine Ev.pos rfl ?_
    refine Ev.pos rfl ?_
    refine Ev.pos rfl ?_
    exact Ev.bind awake_ev (Ev.now _)
end Go.Proofs.Ytdpehjkjmhmpdaa.Pure
