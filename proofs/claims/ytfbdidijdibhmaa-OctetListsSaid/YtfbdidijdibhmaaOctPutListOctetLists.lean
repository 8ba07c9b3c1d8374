/- What octet's lists are, put behind bytes. -/
import Derived.Test.YtfbdidijdibhmaaOctOctetLists
set_option linter.unusedVariables false
set_option linter.unusedSimpArgs false
namespace Go.Proofs.Ytfbdidijdibhmaa.POctetLists
open Go.RowKit Go.Proofs.YtfbdidijdibhmaaW.PrintWords Go.Proofs.YtfbdidijdibhmaaW.PrintLast Go.Proofs.Ytfbdidijdibhmaa.EvLib Go.Proofs.Ytfbdidijdibhmaa.OctPlain

theorem putlist_ev (b l : List Int) (hb : b.length < 140737488355000) (hs : b.length + l.length < 140737488355000) : Ev (fun k => octet_PutList.f k b l) (if l.length > 65535 then ([], 3) else (b ++ num (l.length : Int) 2 ++ l, 0)) := by
  unfold octet_PutList.f
  refine Ev.cases (fun h => ?_) (fun h => ?_)
  · rw [if_pos (by omega)]; exact Ev.now _
  · rw [if_neg (by omega)]
    refine Ev.bind (put_ev b _ 2 hb) ?_
    have e : putV b (l.length : Int) 2 = (b ++ num (l.length : Int) 2, 0) := by
      unfold putV
      rw [if_neg (by omega), if_neg (by simp [topV]; omega)]
    rw [e]
    refine Ev.pos ?_ (Ev.now _)
    have := num_length (n := (l.length : Int)) (w := 2) (by decide) (by decide)
    rw [List.length_append]
    omega
end Go.Proofs.Ytfbdidijdibhmaa.POctetLists
