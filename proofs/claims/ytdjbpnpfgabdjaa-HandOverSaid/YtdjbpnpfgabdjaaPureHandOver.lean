/- For any limit up to nine and any openings and closings: an end opens by the numbers one by one, and is over at its limit. What is left of that statement when the program's machine is taken away. -/
import Derived.Test.YtdjbpnpfgabdjaaHandHandOver
set_option linter.unusedVariables false
namespace Go.Proofs.Ytdjbpnpfgabdjaa.Pure
open Go.RowKit Go.Proofs.Ytdjbpnpfgabdjaa.PHandOver Go.Proofs.YtdjbpnpfgabdjaaW.PrintWords Go.Proofs.YtdjbpnpfgabdjaaW.PrintLast Go.Proofs.Ytdjbpnpfgabdjaa.EvLib

/-- What an end is after 'o' openings, by a limit 'n'. -/
def St (n o a b c : Int) (d : Bool) : Prop := (0 ≤ o ∧ o ≤ n) ∧ a = o ∧ (d = true ∧ b = 0 ∧ c = 0 ∧ o = n ∨ d = false ∧ (b = o ∧ 1 ≤ o ∧ c = 0 ∨ b = 0 ∧ c = o + 1 ∧ o < n))
theorem st_may {n o a b c : Int} {d : Bool} (hn : n ≤ 9) (h : St n o a b c d) : MayV a b c d := by
  obtain ⟨h0, h1, h | h⟩ := h
  · exact ⟨by omega, .inl ⟨h.1, h.2.1, h.2.2.1⟩⟩
  · exact ⟨by omega, .inr ⟨h.1, by omega⟩⟩
theorem st_new {n o : Int} (hn : 1 ≤ n ∧ n ≤ 9) (ho : 0 ≤ o ∧ o ≤ n) : (newV o n).2.2.2.2 = 0 ∧ St n o (newV o n).1 (newV o n).2.1 (newV o n).2.2.1 (newV o n).2.2.2.1 ∧ (newV o n).2.2.2.1 = (o == n) := by
  unfold newV
  simp only [if_pos (show 0 ≤ o ∧ o ≤ 2147483647 ∧ 1 ≤ n ∧ n ≤ 2147483647 by omega)]
  by_cases h : o ≥ n
  · simp only [if_pos h]
    have : o = n := by omega
    exact ⟨trivial, ⟨ho, rfl, .inl ⟨rfl, rfl, rfl, this⟩⟩, by simp [this]⟩
  · simp only [if_neg h]
    refine ⟨trivial, ⟨ho, rfl, .inr ⟨rfl, .inr ⟨rfl, rfl, by omega⟩⟩⟩, ?_⟩
    symm
    rw [beq_eq_false_iff_ne]
    omega

theorem over_loop (l : List Bool) (hlen : l.length < 9223372036854775807) (n : Int) (hn : 1 ≤ n ∧ n ≤ 9) (d : Nat) : ∀ (i : Nat) (o a b c : Int) (e : Bool), i + d = l.length → St n o a b c e →
    Ev (fun k => withylaw16_HandOver.l0 k l n 0 o i a b c e) true := by
  have fin : ∀ (i : Nat) (o a b c : Int) (e : Bool), St n o a b c e → Ev (fun k => withylaw16_HandOver.j1 k l n 0 o i false a b c e) true := by
    intro i o a b c e h
    refine Ev.step (f := fun k => _) (fun k => by simp only [withylaw16_HandOver.j1]; rfl) ?_
    refine Ev.neg (fun h => Bool.noConfusion h) ?_
    refine Ev.pos trivial ?_
    refine Ev.pos h.1.2 ?_
    exact Ev.bind awake_ev (Ev.now _)
  induction d with
  | zero =>
    intro i o a b c e hi h
    have s1 : ¬ ((i : Int) < (l.length : Int)) := by omega
    refine Ev.step (f := fun k => _) (fun k => by simp only [withylaw16_HandOver.l0]; rw [if_neg s1]) ?_
    exact fin i o a b c e h
  | succ d ih =>
    intro i o a b c e hi h
    have s1 : (i : Int) < (l.length : Int) := by omega
    have s0 : 0 ≤ (i : Int) := by omega
    refine Ev.step (f := fun k => _) (fun k => by simp only [withylaw16_HandOver.l0]; rw [if_pos s1]) ?_
    refine Ev.cases (fun h60 => ?_) (fun h60 => fin i o a b c e h)
    refine Ev.step (f := fun k => _) (fun k => by simp only [withylaw16_HandOver.j1]; rfl) ?_
    refine Ev.pos (by decide) ?_
    refine Ev.pos s0 ?_
    refine Ev.pos s1 ?_
    have hm := st_may hn.2 h
    have hw : wrap64 ((i : Int) + 1) = ((i + 1 : Nat) : Int) := wrap_nat (by omega)
    refine Ev.cases (fun hl => ?_) (fun hl => ?_)
    · refine Ev.plain (welcome_v a b c e c) ?_
      have ew : welcomeV a b c e c = ((takeV a b c e c).1, (takeV a b c e c).2.1, (takeV a b c e c).2.2.1, (takeV a b c e c).2.2.2.1, (takeV a b c e c).2.2.2.2, 0) := by unfold welcomeV; rw [if_pos hm]
      rw [ew]
      by_cases hc : c = 0
      · have et : takeV a b c e c = (a, b, c, e, false) := by unfold takeV; rw [if_pos (.inl hc)]
        rw [et]
        refine Ev.neg (fun h => Bool.noConfusion h) ?_
        refine Ev.step (f := fun k => _) (fun k => by simp only [withylaw16_HandOver.j2]; rfl) ?_
        refine Ev.neg (by simp; omega) ?_
        refine Ev.neg (fun h => Bool.noConfusion h) ?_
        refine Ev.step (f := fun k => _) (fun k => by simp only [withylaw16_HandOver.j3]; rfl) ?_
        refine Ev.neg (fun h => Bool.noConfusion h) ?_
        rw [hw]
        exact ih (i + 1) o a b c e (by omega) h
      · have et : takeV a b c e c = (c, c, 0, false, true) := by unfold takeV; rw [if_neg (by omega)]
        have hs : c = o + 1 ∧ o < n := by rcases h with ⟨_, _, h | h⟩ <;> omega
        rw [et]
        refine Ev.pos rfl ?_
        have hw2 : wrap64 (o + 1) = o + 1 := wrap_up h.1.1 (by omega)
        rw [hw2]
        have h0 := h.1.1
        refine Ev.step (f := fun k => _) (fun k => by simp only [withylaw16_HandOver.j2]; rfl) ?_
        refine Ev.neg (by simp; omega) ?_
        refine Ev.pos trivial ?_
        have e2 : ((c != o + 1) : Bool) = false := by rw [hs.1]; simp
        rw [e2]
        refine Ev.step (f := fun k => _) (fun k => by simp only [withylaw16_HandOver.j3]; rfl) ?_
        refine Ev.neg (fun h => Bool.noConfusion h) ?_
        rw [hw]
        refine ih (i + 1) (o + 1) c c 0 false (by omega) ?_
        exact ⟨by omega, hs.1, .inr ⟨rfl, .inl ⟨hs.1, by omega, rfl⟩⟩⟩
    · refine Ev.bind (close_ev a b c e n) ?_
      rw [hw]
      have hcl : closeV a b c e n = if b = 0 then (a, b, c, e, 0) else newV a n := by unfold closeV; rw [if_pos ⟨hm, by omega⟩]
      by_cases hb : b = 0
      · rw [hcl, if_pos hb]
        have ee : (e != (o == n)) = false := by
          have h0 := h.1
          rcases h with ⟨_, _, h | h⟩
          · rw [h.1]; simp [h.2.2.2]
          · rw [h.1]
            have : (o == n) = false := by rw [beq_eq_false_iff_ne]; omega
            rw [this]; rfl
        refine Ev.neg (by show ¬ (e != (o == n)) = true; rw [ee]; decide) ?_
        exact ih (i + 1) o a b c e (by omega) h
      · rw [hcl, if_neg hb]
        have ha : a = o := h.2.1
        have hn' := st_new hn h.1
        rw [ha]
        refine Ev.neg (by rw [hn'.2.2]; simp) ?_
        rw [hn'.1]
        exact ih (i + 1) o _ _ _ _ (by omega) hn'.2.1

theorem HandOver : withylaw16_HandOver.Pure := by
  intro a l ha hlen _
  have hn : 0 ≤ a ∧ a ≤ 255 := by
    have := ha
    simp [Lit.wf, IntKind.min, IntKind.max, IntKind.bits, IntKind.signed] at this
    omega
  have hm : Int.tmod a 9 = a % 9 := Int.tmod_eq_emod_of_nonneg hn.1
  have e1 : wrap64 (1 + (wrap64 (Int.tmod a 9))) = 1 + a % 9 := by
    rw [hm, wrap_id (x := a % 9) (by omega) (by omega), wrap_id (by omega) (by omega)]
  refine Ev.rounds (g := fun k => withylaw16_HandOver.f k a l) ?_
  unfold withylaw16_HandOver.f
  rw [e1]
  have hb : 1 ≤ 1 + a % 9 ∧ 1 + a % 9 ≤ 9 := by omega
  refine Ev.bind (new_ev 0 (1 + a % 9)) ?_
  have hs := st_new (o := 0) hb (by omega)
  rw [hs.1]
  exact over_loop l (by omega) _ hb l.length 0 0 _ _ _ _ (by omega) hs.2.1
end Go.Proofs.Ytdjbpnpfgabdjaa.Pure
