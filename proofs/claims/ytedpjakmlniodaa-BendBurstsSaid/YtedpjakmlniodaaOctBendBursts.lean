/- What octet's Put, New, Take and End answer, as plain terms. -/
import Derived.Test.YtedpjakmlniodaaOctPlain
import Derived.Test.YtedpjakmlniodaaPBendBurstsx
set_option linter.unusedSimpArgs false
set_option linter.unusedVariables false
namespace Go.Proofs.Ytedpjakmlniodaa.PBendBursts
open Go.RowKit Go.Proofs.YtedpjakmlniodaaW.PrintWords Go.Proofs.YtedpjakmlniodaaW.PrintLast Go.Proofs.Ytedpjakmlniodaa.EvLib Go.Proofs.Ytedpjakmlniodaa.OctPlain

theorem limit_v {w : Int} (h1 : 1 ≤ w) (h4 : w ≤ 4) : octet_limit.f w = some (topV w) := by
  rcases width_cases h1 h4 with rfl | rfl | rfl | rfl <;> decide +kernel
theorem wrong_v (l : List Int) (e c : Int) : octet_Scan_wrong.f l e c = some (if e = 0 then c else e) := by
  unfold octet_Scan_wrong.f
  split <;> rfl
theorem rd_nat (l : List Int) (i : Nat) (h : i < l.length) : rd l (i : Int) = l[i] := by unfold rd; simp [h]
theorem take_loop (w : Int) (y l : List Int) (hy : y.length ≤ 4) (hb : Bytes y) {r : Int × List Int × Int}
    (h : Ev (fun k => octet_Scan_Take.l0 k w (val y) y (y.length : Int) (y.length : Int) l 0) r) :
    ∀ (m i : Nat), i + m = y.length → Ev (fun k => octet_Scan_Take.l0 k w (val (y.take i)) y (y.length : Int) (i : Int) l 0) r := by
  intro m
  induction m with
  | zero =>
    intro i hi
    obtain rfl : i = y.length := by omega
    rw [List.take_length]
    exact h
  | succ m ih =>
    intro i hi
    have hlt : i < y.length := by omega
    have hw : wrap64 ((i : Int) + 1) = ((i + 1 : Nat) : Int) := wrap_nat (by omega)
    have hc := hb y[i] (List.getElem_mem hlt)
    have hr := val_range (y.take i) (hb.take i)
    have hlen : (y.take i).length ≤ 3 := by rw [List.length_take]; omega
    have hp : (256 : Int) ^ (y.take i).length ≤ 16777216 := by
      rcases (show (y.take i).length = 0 ∨ (y.take i).length = 1 ∨ (y.take i).length = 2 ∨ (y.take i).length = 3 by omega) with h | h | h | h <;> rw [h] <;> decide
    have hj : Go.bits .or .i64 (wrap64 (val (y.take i) * 256)) (wrap64 (rd y (i : Int))) = val (y.take (i + 1)) := by
      rw [rd_nat y i hlt, or_join _ _ hr.1 (by omega) hc.1 hc.2, val_take_succ y i hlt]
    refine Ev.step (f := fun k => _) (fun k => by simp only [octet_Scan_Take.l0]; rw [if_pos (show (i : Int) < (y.length : Int) by omega), if_pos (show 0 ≤ (i : Int) by omega), if_pos (show (i : Int) < (y.length : Int) by omega), hj, hw]) (ih (i + 1) (by omega))
theorem take_ev (l : List Int) (e w : Int) (hb : Bytes l) : Ev (fun k => octet_Scan_Take.f k l e w) (takeV l e w) := by
  unfold octet_Scan_Take.f
  refine Ev.cases (fun he => ?_) (fun he => ?_)
  · subst he
    have no : w < 1 ∨ w > 4 → Ev (fun k => octet_Scan_Take.j0 k w true l 0) (takeV l 0 w) := fun h => by
      have e : takeV l 0 w = (0, l, 1) := by unfold takeV; rw [if_neg (by simp), if_pos h]
      rw [e]
      refine Ev.step (f := fun k => _) (fun k => by simp only [octet_Scan_Take.j0]; rw [if_pos trivial]) ?_
      exact Ev.plain (wrong_v l 0 1) (Ev.now _)
    refine Ev.cases (fun h1 => no (.inl h1)) (fun h1 => ?_)
    by_cases h4 : w > 4
    · rw [decide_eq_true h4]; exact no (.inr h4)
    rw [decide_eq_false h4]
    have e0 : takeV l 0 w = if (l.length : Int) < w then (0, l, 5) else if val (l.take w.toNat) > topV w then (0, l, 5) else (val (l.take w.toNat), l.drop w.toNat, 0) := by
      unfold takeV; rw [if_neg (by simp), if_neg (by omega)]
    refine Ev.step (f := fun k => _) (fun k => by simp only [octet_Scan_Take.j0]; rw [if_neg (fun h => Bool.noConfusion h)]) ?_
    refine Ev.cases (fun hl => ?_) (fun hl => ?_)
    · rw [e0, if_pos (by omega)]
      exact Ev.plain (wrong_v l 0 5) (Ev.now _)
    refine Ev.pos (by omega) (Ev.pos (by omega) ?_)
    refine Ev.name (f := fun k y => octet_Scan_Take.l0 k w 0 y (y.length : Int) 0 l 0) ?_
    have hy : (l.take w.toNat).length = w.toNat := by rw [List.length_take]; omega
    refine take_loop w (l.take w.toNat) l (by omega) (hb.take _) ?_ (l.take w.toNat).length 0 (by omega)
    refine Ev.step (f := fun k => _) (fun k => by simp only [octet_Scan_Take.l0]; rw [if_neg (show ¬ (((l.take w.toNat).length : Int) < ((l.take w.toNat).length : Int)) by omega)]) ?_
    refine Ev.plain (limit_v (by omega) (by omega)) ?_
    refine Ev.cases (fun ht => ?_) (fun ht => ?_)
    · rw [(e0.trans (if_neg (by omega))).trans (if_pos ht)]
      exact Ev.plain (wrong_v l 0 5) (Ev.now _)
    · rw [(e0.trans (if_neg (by omega))).trans (if_neg ht)]
      exact Ev.pos (by omega) (Ev.pos (by omega) (Ev.now _))
  · have e : takeV l e w = (0, l, e) := if_pos he
    rw [e]; exact Ev.now _
theorem new_v (l : List Int) (hl : l.length < 140737488355328) : octet_New.f l = some (l, 0) := by
  unfold octet_New.f
  simp only [Option.bind_some, List.nil_append, List.length_nil, Nat.zero_add]
  rw [if_pos hl]
end Go.Proofs.Ytedpjakmlniodaa.PBendBursts
