/- What octet's List answers. -/
import Derived.Test.YtfbdidijdibhmaaOctOctetScans
set_option linter.unusedVariables false
set_option linter.unusedSimpArgs false
namespace Go.Proofs.Ytfbdidijdibhmaa.POctetScans
open Go.RowKit Go.Proofs.YtfbdidijdibhmaaW.PrintWords Go.Proofs.YtfbdidijdibhmaaW.PrintLast Go.Proofs.Ytfbdidijdibhmaa.EvLib Go.Proofs.Ytfbdidijdibhmaa.OctPlain

/-- The next list, what is left, and what is wrong. -/
def listV (l : List Int) (e : Int) : List Int × List Int × Int :=
  if e ≠ 0 then ([], l, e) else if l.length < 2 then ([], l, 5) else if (l.length : Int) - 2 < val (l.take 2) then ([], l, 5) else ((l.drop 2).take (val (l.take 2)).toNat, (l.drop 2).drop (val (l.take 2)).toNat, 0)
theorem val2 (l : List Int) (hb : Bytes l) (h : 2 ≤ l.length) : 0 ≤ val (l.take 2) ∧ val (l.take 2) ≤ 65535 := by
  have h1 := val_range (l.take 2) (hb.take 2)
  have h2 : (l.take 2).length = 2 := by rw [List.length_take]; omega
  rw [h2] at h1
  have h3 : (256 : Int) ^ 2 = 65536 := by decide
  omega
theorem listV_bytes (l : List Int) (e : Int) (hb : Bytes l) : Bytes (listV l e).1 ∧ Bytes (listV l e).2.1 := by
  unfold listV
  (repeat' split) <;> first | exact ⟨fun _ h => (by cases h), hb⟩ | exact ⟨(hb.drop _).take _, (hb.drop _).drop _⟩
theorem list_ev (l : List Int) (e : Int) (hb : Bytes l) (hl : l.length < 140737488355328) : Ev (fun k => octet_Scan_List.f k l e) (listV l e) := by
  unfold octet_Scan_List.f
  refine Ev.bind (take_ev l e 2 hb) ?_
  by_cases he : e = 0
  · subst he
    by_cases h2 : l.length < 2
    · have e1 : takeV l 0 2 = (0, l, 5) := by unfold takeV; rw [if_neg (by simp), if_neg (by decide), if_pos (by omega)]
      have e2 : listV l 0 = ([], l, 5) := by unfold listV; rw [if_neg (by simp), if_pos h2]
      rw [e1, e2]
      refine Ev.neg (by simp) (Ev.neg (by simp) (Ev.now _))
    · have hv := val2 l hb (by omega)
      have e1 : takeV l 0 2 = (val (l.take 2), l.drop 2, 0) := by
        unfold takeV
        rw [if_neg (by simp), if_neg (by decide), if_neg (by omega)]
        rw [if_neg (by simp [topV]; exact hv.2)]
        rfl
      have e2 : listV l 0 = if (l.length : Int) - 2 < val (l.take 2) then ([], l, 5) else ((l.drop 2).take (val (l.take 2)).toNat, (l.drop 2).drop (val (l.take 2)).toNat, 0) := by
        unfold listV; rw [if_neg (by simp), if_neg h2]
      rw [e1]
      have hd : (l.drop 2).length = l.length - 2 := List.length_drop
      refine Ev.cases (fun h3 => ?_) (fun h3 => ?_)
      · have e3 := e2.trans (if_pos (by simp only [hd] at h3; omega))
        rw [e3]
        refine Ev.plain (wrong_v l 0 5) ?_
        exact Ev.neg (by decide) (Ev.now _)
      · have e3 := e2.trans (if_neg (by simp only [hd] at h3; omega))
        rw [e3]
        refine Ev.pos rfl ?_
        simp only [Option.bind_some, List.nil_append, List.length_nil, Nat.zero_add]
        refine Ev.pos hv.1 (Ev.pos (by simp only [hd] at h3 ⊢; omega) (Ev.pos ?_ (Ev.now _)))
        rw [List.length_take]
        omega
  · have e1 : takeV l e 2 = (0, l, e) := if_pos he
    have e2 : listV l e = ([], l, e) := if_pos he
    rw [e1, e2]
    exact Ev.neg (by simp) (Ev.neg he (Ev.now _))
end Go.Proofs.Ytfbdidijdibhmaa.POctetScans
