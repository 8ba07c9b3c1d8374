/- For any bytes and widths: what is taken, step by step, what is left and what is wrong first, is what the reference says. What is left of that statement when the program's machine is taken away. -/
import Derived.Test.YtfbdidijdibhmaaOctRefOctetScans
set_option linter.unusedVariables false
namespace Go.Proofs.Ytfbdidijdibhmaa.Pure
open Go.RowKit Go.Proofs.Ytfbdidijdibhmaa.POctetScans Go.Proofs.YtfbdidijdibhmaaW.PrintWords Go.Proofs.YtfbdidijdibhmaaW.PrintLast Go.Proofs.Ytfbdidijdibhmaa.EvLib Go.Proofs.Ytfbdidijdibhmaa.OctPlain

theorem takeV_len (l : List Int) (e w : Int) : (takeV l e w).2.1.length ≤ l.length := by
  unfold takeV
  (repeat' split) <;> first | exact Nat.le_refl _ | (rw [List.length_drop]; omega)
theorem listV_len (l : List Int) (e : Int) : (listV l e).2.1.length ≤ l.length := by
  unfold listV
  (repeat' split) <;> first | exact Nat.le_refl _ | (rw [List.length_drop, List.length_drop]; omega)
theorem OctetScans : withylaw02_OctetScans.Pure := by
  intro b l _ hb hbw _ hl _
  have hB := bytes_wf hbw
  refine Ev.rounds (g := fun k => withylaw02_OctetScans.f k b l) ?_
  unfold withylaw02_OctetScans.f
  refine Ev.cases (fun _ => fin_ev) (fun h4 => ?_)
  simp only [Option.bind_some, List.nil_append, List.length_nil, Nat.zero_add]
  refine Ev.pos (by omega) ?_
  refine Ev.plain (new_v b (by omega)) ?_
  have go : ∀ (d i : Nat), i + d = l.length → ∀ (s : List Int) (e : Int), Bytes s → s.length ≤ 4000 → Ev (fun k => withylaw02_OctetScans.l0 k l (i : Int) s e s e) true := by
    intro d
    induction d with
    | zero =>
      intro i hi s e _ _
      refine Ev.step (f := fun k => _) (fun k => by simp only [withylaw02_OctetScans.l0]; rw [if_neg (by omega)]) ?_
      exact Ev.step (f := fun k => _) (fun k => by simp only [withylaw02_OctetScans.j1]; rw [if_neg (fun h => Bool.noConfusion h)]) fin_ev
    | succ d ih =>
      intro i hi s e hs hs4
      refine Ev.step (f := fun k => _) (fun k => by simp only [withylaw02_OctetScans.l0]; rw [if_pos (show (i : Int) < (l.length : Int) by omega)]) ?_
      by_cases h100 : (i : Int) < 100
      · rw [decide_eq_true h100]
        have hw : wrap64 ((i : Int) + 1) = ((i + 1 : Nat) : Int) := wrap_nat (by omega)
        refine Ev.step (f := fun k => _) (fun k => by simp only [withylaw02_OctetScans.j1]; rw [if_pos trivial, if_pos (show 0 ≤ (i : Int) by omega), if_pos (show (i : Int) < (l.length : Int) by omega)]) ?_
        have next : ∀ (s' : List Int) (e' : Int), Bytes s' → s'.length ≤ 4000 → Ev (fun k => withylaw02_OctetScans.j2 k l (i : Int) s' e' s' e') true := fun s' e' hs' hl' => by
          refine Ev.step (f := fun k => _) (fun k => by simp only [withylaw02_OctetScans.j2]; rw [hw]) ?_
          refine Ev.plain (show octet_Scan_Left.f s' e' = some (s'.length : Int) from rfl) ?_
          refine Ev.pos (by first | rfl | trivial) ?_
          refine Ev.plain (show octet_Scan_Err.f s' e' = some e' from rfl) ?_
          refine Ev.pos (by first | rfl | trivial) ?_
          refine Ev.plain (end_v s' e') ?_
          refine Ev.plain (rend_v s' e') ?_
          exact Ev.pos (by first | rfl | trivial) (ih (i + 1) (by omega) s' e' hs' hl')
        refine Ev.cases (fun h0 => ?_) (fun h0 => ?_)
        · refine Ev.bind (list_ev s e hs (by omega)) ?_
          refine Ev.bind (rtakelist_ev s e hs (by omega)) ?_
          exact Ev.pos (by first | rfl | trivial) (next _ _ (listV_bytes s e hs).2 (by have := listV_len s e; omega))
        · refine Ev.bind (take_ev s e _ hs) ?_
          refine Ev.bind (rtake_ev s e _ hs) ?_
          exact Ev.pos (by first | rfl | trivial) (next _ _ (takeV_bytes s e _ hs) (by have := takeV_len s e (rd l (i : Int)); omega))
      · rw [decide_eq_false h100]
        exact Ev.step (f := fun k => _) (fun k => by simp only [withylaw02_OctetScans.j1]; rw [if_neg (fun h => Bool.noConfusion h)]) fin_ev
  exact go l.length 0 (by omega) b 0 hB (by omega)
end Go.Proofs.Ytfbdidijdibhmaa.Pure
