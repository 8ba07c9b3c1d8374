/- For any sender and any ack: what is left is the reference's. What is left of that statement when the program's machine is taken away. -/
import Derived.Test.YtlbcffdjdbjgcaaSendSendAcks
set_option linter.unusedVariables false
namespace Go.Proofs.Ytlbcffdjdbjgcaa.Pure
open Go.RowKit Go.Proofs.Ytlbcffdjdbjgcaa.PSendAcks Go.Proofs.YtlbcffdjdbjgcaaW.PrintWords Go.Proofs.YtlbcffdjdbjgcaaW.PrintLast Go.Proofs.Ytlbcffdjdbjgcaa.EvLib

theorem awake_ev : Ev (fun k => withylaw14_awake.f k) true := Ev.of (k := 12) withylaw14_awake.mono (by decide +kernel)
theorem light_ev (a b : Int) (l : List (List Int)) (d : Int) (hl : l.length < 9223372036854775807) (n : Nat) : ∀ (i : Nat) (x : Int), i + n = l.length → ∃ r, Ev (fun k => withylaw14_Light.l0 k x (i : Int) a b l d) r := by
  induction n with
  | zero =>
    intro i x hi
    have s1 : ¬ ((i : Int) < (l.length : Int)) := by omega
    by_cases h : (l.length : Int) ≤ 300
    · exact ⟨_, Ev.step (fun k => by simp only [withylaw14_Light.l0]; rw [if_neg s1, if_pos h]) (Ev.now _)⟩
    · exact ⟨_, Ev.step (fun k => by simp only [withylaw14_Light.l0]; rw [if_neg s1, if_neg h]) (Ev.now _)⟩
  | succ n ih =>
    intro i x hi
    have s1 : (i : Int) < (l.length : Int) := by omega
    have s0 : 0 ≤ (i : Int) := by omega
    have hw : wrap64 ((i : Int) + 1) = ((i + 1 : Nat) : Int) := wrap_nat (by omega)
    by_cases h2 : (i : Int) < 300
    · by_cases h3 : x ≤ 40000
      · obtain ⟨r, hr⟩ := ih (i + 1) (wrap64 (x + ((rd_L1 l (i : Int)).length : Int))) (by omega)
        exact ⟨r, Ev.step (fun k => by simp only [withylaw14_Light.l0]; rw [if_pos s1, if_pos h2, if_pos h3, if_pos s0, hw]) hr⟩
      · by_cases h : (l.length : Int) ≤ 300
        · exact ⟨_, Ev.step (fun k => by simp only [withylaw14_Light.l0]; rw [if_pos s1, if_pos h2, if_neg h3, if_pos h]) (Ev.now _)⟩
        · exact ⟨_, Ev.step (fun k => by simp only [withylaw14_Light.l0]; rw [if_pos s1, if_pos h2, if_neg h3, if_neg h]) (Ev.now _)⟩
    · by_cases h : (l.length : Int) ≤ 300
      · exact ⟨_, Ev.step (fun k => by simp only [withylaw14_Light.l0]; rw [if_pos s1, if_neg h2, if_pos h]) (Ev.now _)⟩
      · exact ⟨_, Ev.step (fun k => by simp only [withylaw14_Light.l0]; rw [if_pos s1, if_neg h2, if_neg h]) (Ev.now _)⟩
theorem may_j (a b : Int) (l : List (List Int)) (d : Int) (hx : ¬ ∃ x ∈ l, x.length > 16384) (q : Bool) (hq : q = true ↔ ¬ ((0 ≤ a ∧ a ≤ 2147483647) ∧ l.length ≤ 256 ∧ (0 ≤ b ∧ b ≤ 16 ∧ b ≤ (l.length : Int)))) : Ev (fun k => withyref14_May.j1 k q a b l d) (decide (MayS a b l d)) := by
  refine Ev.step (fun k => ?_) (Ev.now _)
  simp only [withyref14_May.j1]
  by_cases h : q = true
  · have h' := hq.1 h
    rw [if_pos h, decide_eq_false (fun hm => h' ⟨hm.1, hm.2.1, hm.2.2.1⟩)]
  · have h' : ((0 ≤ a ∧ a ≤ 2147483647) ∧ l.length ≤ 256 ∧ (0 ≤ b ∧ b ≤ 16 ∧ b ≤ (l.length : Int))) := Decidable.byContradiction (fun h2 => h (hq.2 h2))
    rw [if_neg h]
    by_cases hb : b = 0
    · rw [if_pos hb]
      congr 1
      rw [Bool.eq_iff_iff, beq_iff_eq, decide_eq_true_iff]
      exact ⟨fun h0 => ⟨h'.1, h'.2.1, h'.2.2, ⟨by omega, by omega, by omega⟩, hx⟩, fun hm => hm.2.2.2.1.2.2.2 hb⟩
    · rw [if_neg hb]
      by_cases hd : d ≥ 1
      · rw [if_pos hd]
        congr 1
        rw [decide_eq_decide]
        exact ⟨fun h0 => ⟨h'.1, h'.2.1, h'.2.2, ⟨by omega, by omega, by omega⟩, hx⟩, fun hm => by have := hm.2.2.2.1; omega⟩
      · rw [if_neg hd, decide_eq_false (fun hm => by have := hm.2.2.2.1; omega)]
theorem may_ev (a b : Int) (l : List (List Int)) (d : Int) (hl : l.length < 9223372036854775807) : Ev (fun k => withyref14_May.f k a b l d) (decide (MayS a b l d)) := by
  have go : ∀ (n i : Nat), i + n = l.length → (¬ ∃ x ∈ l.take i, x.length > 16384) → Ev (fun k => withyref14_May.l0 k (i : Int) a b l d) (decide (MayS a b l d)) := by
    intro n
    induction n with
    | zero =>
      intro i hi hx
      have s1 : ¬ ((i : Int) < (l.length : Int)) := by omega
      rw [List.take_of_length_le (by omega)] at hx
      refine Ev.step (f := fun k => _) (fun k => by simp only [withyref14_May.l0]; rw [if_neg s1]) ?_
      refine Ev.cases (fun h1 => may_j a b l d hx _ ⟨fun _ => by omega, fun _ => rfl⟩) (fun h1 => ?_)
      refine Ev.cases (fun h2 => may_j a b l d hx _ ⟨fun _ => by omega, fun _ => rfl⟩) (fun h2 => ?_)
      refine Ev.cases (fun h3 => may_j a b l d hx _ ⟨fun _ => by omega, fun _ => rfl⟩) (fun h3 => ?_)
      refine Ev.cases (fun h4 => may_j a b l d hx _ ⟨fun _ => by omega, fun _ => rfl⟩) (fun h4 => ?_)
      refine Ev.cases (fun h5 => may_j a b l d hx _ ⟨fun _ => by omega, fun _ => rfl⟩) (fun h5 => ?_)
      refine may_j a b l d hx _ ?_
      rw [decide_eq_true_iff]
      omega
    | succ n ih =>
      intro i hi hx
      have hlt : i < l.length := by omega
      have s1 : (i : Int) < (l.length : Int) := by omega
      have s0 : 0 ≤ (i : Int) := by omega
      have hw : wrap64 ((i : Int) + 1) = ((i + 1 : Nat) : Int) := wrap_nat (by omega)
      refine Ev.step (f := fun k => _) (fun k => by simp only [withyref14_May.l0]; rw [if_pos s1, if_pos s0, rd_at l i hlt]) ?_
      refine Ev.cases (fun h => ?_) (fun h => ?_)
      · rw [decide_eq_false (fun hm => hm.2.2.2.2 ⟨_, List.getElem_mem hlt, by omega⟩)]; exact Ev.now _
      · rw [hw]
        refine ih (i + 1) (by omega) ?_
        rw [List.take_succ_eq_append_getElem hlt]
        rintro ⟨x, h1, h2⟩
        rcases List.mem_append.1 h1 with h1 | h1
        · exact hx ⟨x, h1, h2⟩
        · rw [List.mem_singleton.1 h1] at h2; omega
  exact go l.length 0 (by omega) (by simp)
theorem same_ev (a b : Int) (l : List (List Int)) (d : Int) (hl : l.length < 9223372036854775807) : Ev (fun k => withyref14_Same.f k a b l d a b l d) true := by
  have go : ∀ (n i : Nat), i + n = l.length → Ev (fun k => withyref14_Same.l0 k (i : Int) a b l d a b l d) true := by
    intro n
    induction n with
    | zero =>
      intro i hi
      have s1 : ¬ ((i : Int) < (l.length : Int)) := by omega
      exact Ev.step (fun k => by simp only [withyref14_Same.l0]; rw [if_neg s1]) (Ev.now _)
    | succ n ih =>
      intro i hi
      have s1 : (i : Int) < (l.length : Int) := by omega
      have s0 : 0 ≤ (i : Int) := by omega
      have hw : wrap64 ((i : Int) + 1) = ((i + 1 : Nat) : Int) := wrap_nat (by omega)
      refine Ev.step (f := fun k => _) (fun k => by simp only [withyref14_Same.l0]; rw [if_pos s1, if_pos s0, if_pos s1, hw]) ?_
      exact Ev.pos trivial (ih (i + 1) (by omega))
  unfold withyref14_Same.f
  refine Ev.pos rfl (Ev.pos rfl (Ev.pos rfl ?_))
  rw [bne_self_eq_false]
  refine Ev.step (f := fun k => _) (fun k => by simp only [withyref14_Same.j0]; rw [if_neg (fun h => Bool.noConfusion h)]) ?_
  exact go l.length 0 (by omega)
/-- What is left behind an ack. -/
def ackV (a b : Int) (l : List (List Int)) (d n : Int) : Int × Int × List (List Int) × Int := if n ≤ a ∨ n > a + b then (a, b, l, d) else (n, b - (n - a), l.drop (n - a).toNat, if b - (n - a) = 0 then 0 else 4)
theorem ack_ev (a b : Int) (l : List (List Int)) (d n : Int) (hm : MayS a b l d) (hn : -9223372036854775808 ≤ n ∧ n ≤ 9223372036854775807) : Ev (fun k => send_Ack.f k a b l d n) ((ackV a b l d n).1, (ackV a b l d n).2.1, (ackV a b l d n).2.2.1, (ackV a b l d n).2.2.2, 0) := by
  obtain ⟨ha, hl, hb, hd, hx⟩ := hm
  have hx' : ∀ x ∈ l, x.length < 140737488355328 := fun x h => by
    have : ¬ x.length > 16384 := fun h2 => hx ⟨x, h, h2⟩
    omega
  have stay : (n ≤ a ∨ n > a + b) → Ev (fun k => send_Ack.j0 k n (wrap64 (n - a)) true a b l d) ((ackV a b l d n).1, (ackV a b l d n).2.1, (ackV a b l d n).2.2.1, (ackV a b l d n).2.2.2, 0) := by
    intro h
    unfold ackV
    rw [if_pos h]
    exact Ev.step (fun k => by simp only [send_Ack.j0]; rw [if_pos trivial]) (Ev.now _)
  unfold send_Ack.f
  refine Ev.bind (check_ev a b l d (by omega)) ?_
  rw [if_pos (show MayS a b l d from ⟨ha, hl, hb, hd, hx⟩)]
  refine Ev.pos rfl ?_
  refine Ev.bind (own_ev l (by omega) hx') ?_
  refine Ev.cases (fun h1 => stay (.inl h1)) (fun h1 => ?_)
  have hw : wrap64 (n - a) = n - a := wrap_id (by omega) (by omega)
  by_cases h2 : n - a > b
  · rw [hw, decide_eq_true h2]
    have := stay (.inr (by omega))
    rw [hw] at this
    exact this
  · rw [hw, decide_eq_false h2]
    have hw2 : wrap64 (b - (n - a)) = b - (n - a) := wrap_id (by omega) (by omega)
    unfold ackV
    rw [if_neg (show ¬ (n ≤ a ∨ n > a + b) by omega)]
    have g0 : 0 ≤ n - a := by omega
    have g1 : n - a ≤ (l.length : Int) := by omega
    by_cases h3 : b - (n - a) = 0
    · refine Ev.step (fun k => ?_) (Ev.now _)
      simp only [send_Ack.j0]
      rw [if_neg (fun h => Bool.noConfusion h), if_pos g0, if_pos g1, hw2]
      simp only [Option.bind_some]
      rw [if_pos h3, if_pos h3]
    · refine Ev.step (fun k => ?_) (Ev.now _)
      simp only [send_Ack.j0]
      rw [if_neg (fun h => Bool.noConfusion h), if_pos g0, if_pos g1, hw2]
      simp only [Option.bind_some]
      rw [if_neg h3, if_neg h3]
theorem rack_loop (n : Int) (m : Nat) : ∀ (a b : Int) (l : List (List Int)) (d : Int), 0 ≤ a → n ≤ 3000000000 → 0 ≤ b → b ≤ 16 → b ≤ (l.length : Int) → a + (m : Int) = n → (m : Int) ≤ b →
    Ev (fun k => withyref14_Ack.l0 k n a b l d) (n, b - m, l.drop m, if b - m = 0 then 0 else if m = 0 then d else 4) := by
  induction m with
  | zero =>
    intro a b l d h0 h1 h2 h3 h4 h5 h6
    have s1 : ¬ a < n := by omega
    have e1 : n = a := by omega
    by_cases hb : b = 0
    · refine Ev.step (fun k => ?_) (Ev.now _)
      simp only [withyref14_Ack.l0]
      rw [if_neg s1, if_pos hb]
      simp [hb, e1]
    · refine Ev.step (fun k => ?_) (Ev.now _)
      simp only [withyref14_Ack.l0]
      rw [if_neg s1, if_neg hb]
      simp [hb, e1]
  | succ m ih =>
    intro a b l d h0 h1 h2 h3 h4 h5 h6
    have s1 : a < n := by omega
    have s2 : 1 ≤ (l.length : Int) := by omega
    have w1 : wrap64 (a + 1) = a + 1 := wrap_up h0 (by omega)
    have w2 : wrap64 (b - 1) = b - 1 := wrap_id (by omega) (by omega)
    have := ih (a + 1) (b - 1) (l.drop 1) 4 (by omega) h1 (by omega) (by omega) (by rw [List.length_drop]; omega) (by omega) (by omega)
    refine Ev.step (f := fun k => _) (fun k => by simp only [withyref14_Ack.l0]; rw [if_pos s1, if_pos s2, w1, w2]) ?_
    have e2 : b - 1 - (m : Int) = b - ((m + 1 : Nat) : Int) := by omega
    rw [e2, List.drop_drop, Nat.add_comm 1 m] at this
    have e3 : (if m = 0 then (4 : Int) else 4) = 4 := by split <;> rfl
    rw [e3] at this
    rw [if_neg (show ¬ m + 1 = 0 by omega)]
    exact this
theorem rack_ev (a b : Int) (l : List (List Int)) (d n : Int) (hm : MayS a b l d) (hn : -9223372036854775808 ≤ n ∧ n ≤ 9223372036854775807) : Ev (fun k => withyref14_Ack.f k a b l d n) (ackV a b l d n) := by
  obtain ⟨ha, hl, hb, hd, hx⟩ := hm
  have stay : (n ≤ a ∨ n > a + b) → Ev (fun k => withyref14_Ack.j0 k n true a b l d) (ackV a b l d n) := by
    intro h
    unfold ackV
    rw [if_pos h]
    exact Ev.step (fun k => by simp only [withyref14_Ack.j0]; rw [if_pos trivial]) (Ev.now _)
  have hw : wrap64 (a + b) = a + b := wrap_id (by omega) (by omega)
  unfold withyref14_Ack.f
  refine Ev.cases (fun h1 => stay (.inl h1)) (fun h1 => ?_)
  rw [hw]
  by_cases h2 : n > a + b
  · rw [decide_eq_true h2]; exact stay (.inr h2)
  · rw [decide_eq_false h2]
    have e := rack_loop n (n - a).toNat a b l d ha.1 (by omega) hb.1 hb.2.1 hb.2.2 (by omega) (by omega)
    have e1 : (((n - a).toNat : Nat) : Int) = n - a := by omega
    rw [e1, if_neg (show ¬ (n - a).toNat = 0 by omega)] at e
    unfold ackV
    rw [if_neg (show ¬ (n ≤ a ∨ n > a + b) by omega)]
    refine Ev.step (f := fun k => _) (fun k => by simp only [withyref14_Ack.j0]; rw [if_neg (fun h => Bool.noConfusion h)]) ?_
    exact e
theorem SendAcks : withylaw14_SendAcks.Pure := by
  intro a b l d n _ _ hlen _ _ hn
  have hn' : -9223372036854775808 ≤ n ∧ n ≤ 9223372036854775807 := by
    simpa [Lit.wf, IntKind.min, IntKind.max, IntKind.bits, IntKind.signed] using hn
  have hl : l.length < 9223372036854775807 := by omega
  have fin : Ev (fun k => (withylaw14_awake.f k).bind fun t => (some t)) true := Ev.bind awake_ev (Ev.now _)
  refine Ev.rounds (g := fun k => withylaw14_SendAcks.f k a b l d n) ?_
  unfold withylaw14_SendAcks.f withylaw14_Light.f
  obtain ⟨r, hr⟩ := light_ev a b l d hl l.length 0 0 (by omega)
  refine Ev.bind hr ?_
  refine Ev.cases (fun _ => ?_) (fun _ => fin)
  by_cases hm : MayS a b l d
  · refine Ev.bind (ack_ev a b l d n hm hn') ?_
    refine Ev.bind (may_ev a b l d hl) ?_
    refine Ev.pos (decide_eq_true hm) ?_
    refine Ev.pos rfl ?_
    refine Ev.bind (rack_ev a b l d n hm hn') ?_
    have hl2 : (ackV a b l d n).2.2.1.length < 9223372036854775807 := by
      unfold ackV
      split
      · exact hl
      · show (l.drop (n - a).toNat).length < _
        rw [List.length_drop]; omega
    refine Ev.bind (same_ev _ _ _ _ hl2) ?_
    exact Ev.pos rfl fin
  · have e : Ev (fun k => send_Ack.f k a b l d n) (0, 0, ([] : List (List Int)), 0, 1) := by
      unfold send_Ack.f
      refine Ev.bind (check_ev a b l d hl) ?_
      rw [if_neg hm]
      exact Ev.neg (by decide) (Ev.now _)
    refine Ev.bind e ?_
    refine Ev.bind (may_ev a b l d hl) ?_
    refine Ev.neg (by rw [decide_eq_true_iff]; exact hm) ?_
    refine Ev.pos rfl ?_
    refine Ev.bind (same_ev 0 0 [] 0 (by decide)) ?_
    exact Ev.pos rfl fin
end Go.Proofs.Ytlbcffdjdbjgcaa.Pure
