/- For any bytes: the program opens them just if the reference does, to the same bytes, and else tells the document's error. What is left of that statement when the program's machine is taken away. -/
import Derived.Test.YtdpehjkjmhmpdaaRefCrcOpens
import Derived.Test.YtdpehjkjmhmpdaaSealCrcOpens
namespace Go.Proofs.Ytdpehjkjmhmpdaa.Pure
open Go.RowKit Go.Proofs.Ytdpehjkjmhmpdaa.PCrcOpens Go.Proofs.YtdpehjkjmhmpdaaW.PrintWords Go.Proofs.YtdpehjkjmhmpdaaW.PrintLast Go.Proofs.Ytdpehjkjmhmpdaa.Crc Go.Proofs.Ytdpehjkjmhmpdaa.EvLib

theorem ref_seal (l : List Int) (hl : Bytes l) (hlen : l.length < 140737488355320) : Ev (fun k => withyref01_Seal.f k l) (sealed l) := by
  unfold withyref01_Seal.f
  refine Ev.bind (withyref01_Of.ev l hl (by omega)) ?_
  refine Ev.name ?_
  refine Ev.pos (by simp; omega) ?_
  refine Ev.name ?_
  refine Ev.name ?_
  refine Ev.pos (by simp; omega) ?_
  exact Ev.now _

theorem ref_open (l : List Int) (hl : Bytes l) (hlen : l.length < 140737488355320) (h4 : 4 ≤ l.length) : Ev (fun k => withyref01_Open.f k l) (l.take (l.length - 4), decide (sealed (l.take (l.length - 4)) = l)) := by
  have hw : wrap64 ((l.length : Int) - 4) = (l.length : Int) - 4 := wrap_id (by omega) (by omega)
  have hn : ((l.length : Int) - 4).toNat = l.length - 4 := by omega
  unfold withyref01_Open.f
  rw [hw, hn]
  refine Ev.neg (by omega) ?_
  refine Ev.pos (by omega) ?_
  refine Ev.pos (by omega) ?_
  refine Ev.name ?_
  refine Ev.bind (ref_seal _ (hl.take _) (by simp; omega)) ?_
  refine Ev.answered ?_
  congr 2
  rw [Bool.eq_iff_iff, beq_iff_eq, decide_eq_true_iff]
  exact ⟨fun h => strOf_inj (sealed_bytes (hl.take _)) hl h, fun h => by rw [h]⟩

theorem CrcOpens : withylaw01_CrcOpens.Pure := by
  intro l hm hr hw
  have hl := Bytes.of_wf hw
  refine Ev.rounds (g := fun k => withylaw01_CrcOpens.f k l) ?_
  unfold withylaw01_CrcOpens.f
  refine Ev.cases (fun h => ?_) (fun h => ?_)
  · exact Ev.bind awake_ev (Ev.now _)
  · refine Ev.name ?_
    refine Ev.pos (by simp; omega) ?_
    rw [List.nil_append]
    refine Ev.bind (crc_Open.ev l hl (by omega)) ?_
    refine Ev.cases (fun h4 => ?_) (fun h4 => ?_)
    · have ho : opened l = ([], 5) := by unfold opened; rw [if_pos (by omega)]
      rw [ho]
      refine Ev.pos rfl ?_
      refine Ev.pos rfl ?_
      exact Ev.bind awake_ev (Ev.now _)
    · refine Ev.bind (ref_open l hl (by omega) (by omega)) ?_
      by_cases he : sealed (l.take (l.length - 4)) = l
      · have ho : opened l = (l.take (l.length - 4), 0) := by unfold opened; rw [if_neg (by omega), if_pos he]
        rw [ho, decide_eq_true he]
        refine Ev.pos rfl ?_
        refine Ev.pos rfl ?_
        refine Ev.pos rfl ?_
        exact Ev.bind awake_ev (Ev.now _)
      · have ho : opened l = ([], 6) := by unfold opened; rw [if_neg (by omega), if_neg he]
        rw [ho, decide_eq_false he]
        refine Ev.neg (fun h => Bool.noConfusion h) ?_
        refine Ev.pos rfl ?_
        refine Ev.pos rfl ?_
        exact Ev.bind awake_ev (Ev.now _)
end Go.Proofs.Ytdpehjkjmhmpdaa.Pure
