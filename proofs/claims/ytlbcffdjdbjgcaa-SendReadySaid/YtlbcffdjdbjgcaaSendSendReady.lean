/- What the functions on senders answer, as plain terms. -/
import Derived.Test.YtlbcffdjdbjgcaaEvLib
import Derived.Test.YtlbcffdjdbjgcaaPSendReadyx
set_option linter.unusedSimpArgs false
set_option linter.unusedVariables false
namespace Go.Proofs.Ytlbcffdjdbjgcaa.PSendReady
open Go.RowKit Go.Proofs.YtlbcffdjdbjgcaaW.PrintWords Go.Proofs.YtlbcffdjdbjgcaaW.PrintLast Go.Proofs.Ytlbcffdjdbjgcaa.EvLib

theorem rd_at (l : List (List Int)) (i : Nat) (h : i < l.length) : rd_L1 l (i : Int) = l[i] := by unfold rd_L1; simp [h]
theorem index_ev (l : List (List Int)) (hl : l.length < 9223372036854775807) (d : Nat) : ∀ (i : Nat), i + d = l.length → ∃ r : Int, Ev (fun k => slices_IndexFunc_byte_byte_fn27.l0 k l (l.length : Int) (i : Int)) r ∧ (r ≥ 0 ↔ ∃ x ∈ l.drop i, x.length > 16384) := by
  induction d with
  | zero =>
    intro i hi
    have s1 : ¬ ((i : Int) < (l.length : Int)) := by omega
    refine ⟨-1, Ev.step (fun k => ?_) (Ev.now _), ?_⟩
    · simp only [slices_IndexFunc_byte_byte_fn27.l0]
      rw [if_neg s1]
    · rw [List.drop_of_length_le (by omega)]
      simp
  | succ d ih =>
    intro i hi
    have hlt : i < l.length := by omega
    have s1 : (i : Int) < (l.length : Int) := by omega
    have s0 : 0 ≤ (i : Int) := by omega
    have hw : wrap64 ((i : Int) + 1) = ((i + 1 : Nat) : Int) := wrap_nat (by omega)
    have hd : l.drop i = l[i] :: l.drop (i + 1) := List.drop_eq_getElem_cons hlt
    have hf : send_Check_1.f (rd_L1 l (i : Int)) = some (decide ((l[i].length : Int) > 16384)) := by rw [rd_at l i hlt]; rfl
    obtain ⟨r, hr, hr2⟩ := ih (i + 1) (by omega)
    by_cases hx : (l[i].length : Int) > 16384
    · refine ⟨i, Ev.step (f := fun k => _) (fun k => by simp only [slices_IndexFunc_byte_byte_fn27.l0]; rw [if_pos s1, if_pos s0, if_pos s1]) ?_, ?_⟩
      · refine Ev.plain hf ?_
        refine Ev.pos (decide_eq_true hx) (Ev.now _)
      · rw [hd]
        exact ⟨fun _ => ⟨_, List.mem_cons_self, by omega⟩, fun _ => s0⟩
    · refine ⟨r, Ev.step (f := fun k => _) (fun k => by simp only [slices_IndexFunc_byte_byte_fn27.l0]; rw [if_pos s1, if_pos s0, if_pos s1]) ?_, ?_⟩
      · refine Ev.plain hf ?_
        refine Ev.neg (by rw [decide_eq_true_iff]; exact hx) ?_
        rw [hw]
        exact hr
      · rw [hd, hr2]
        constructor
        · rintro ⟨x, hx1, hx2⟩; exact ⟨x, List.mem_cons_of_mem _ hx1, hx2⟩
        · rintro ⟨x, hx1, hx2⟩
          rcases List.mem_cons.1 hx1 with rfl | hx1
          · exfalso; omega
          · exact ⟨x, hx1, hx2⟩
/-- May a sender be? -/
abbrev MayS (a b : Int) (l : List (List Int)) (d : Int) : Prop := (0 ≤ a ∧ a ≤ 2147483647) ∧ l.length ≤ 256 ∧ (0 ≤ b ∧ b ≤ 16 ∧ b ≤ (l.length : Int)) ∧ (0 ≤ d ∧ d ≤ 4 ∧ (d = 0 ↔ b = 0)) ∧ ¬ ∃ x ∈ l, x.length > 16384
theorem contains_ev (l : List (List Int)) (hl : l.length < 9223372036854775807) : Ev (fun k => slices_ContainsFunc_byte_byte_fn27.f k l) (decide (∃ x ∈ l, x.length > 16384)) := by
  obtain ⟨r, hr, hr2⟩ := index_ev l hl l.length 0 (by omega)
  have e : decide (∃ x ∈ l, x.length > 16384) = decide (r ≥ 0) := decide_eq_decide.2 hr2.symm
  rw [e]
  unfold slices_ContainsFunc_byte_byte_fn27.f
  exact Ev.bind hr (Ev.now _)
theorem check_ev (a b : Int) (l : List (List Int)) (d : Int) (hl : l.length < 9223372036854775807) : Ev (fun k => send_Check.f k a b l d) (if MayS a b l d then 0 else 1) := by
  unfold send_Check.f
  refine Ev.cases (fun h => ?_) (fun h1 => ?_)
  · rw [if_neg (fun hm => by have := hm.1; omega)]; exact Ev.now _
  refine Ev.cases (fun h => ?_) (fun h2 => ?_)
  · rw [if_neg (fun hm => by have := hm.1; omega)]; exact Ev.now _
  refine Ev.cases (fun h => ?_) (fun h3 => ?_)
  · rw [if_neg (fun hm => by have := hm.2.1; omega)]; exact Ev.now _
  refine Ev.cases (fun h => ?_) (fun h4 => ?_)
  · rw [if_neg (fun hm => by have := hm.2.2.1; omega)]; exact Ev.now _
  have hmn : mn 16 (l.length : Int) = if (l.length : Int) < 16 then (l.length : Int) else 16 := rfl
  refine Ev.cases (fun h => ?_) (fun h5 => ?_)
  · rw [if_neg (fun hm => by have := hm.2.2.1; rw [hmn] at h; split at h <;> omega)]; exact Ev.now _
  rw [hmn] at h5
  have h5' : b ≤ 16 ∧ b ≤ (l.length : Int) := by
    by_cases hs : (l.length : Int) < 16
    · rw [if_pos hs] at h5; omega
    · rw [if_neg hs] at h5; omega
  clear h5
  refine Ev.cases (fun h => ?_) (fun h6 => ?_)
  · rw [if_neg (fun hm => by have := hm.2.2.2.1; omega)]; exact Ev.now _
  refine Ev.cases (fun h => ?_) (fun h7 => ?_)
  · rw [if_neg (fun hm => by have := hm.2.2.2.1; omega)]; exact Ev.now _
  refine Ev.cases (fun h => ?_) (fun h8 => ?_)
  · rw [if_neg (fun hm => by
      have := hm.2.2.2.1.2.2
      by_cases h0 : d = 0
      · have h9 := this.1 h0; simp [h0, h9] at h
      · have h9 := mt this.2 h0
        rw [beq_eq_false_iff_ne.2 h0, beq_eq_false_iff_ne.2 h9] at h
        exact absurd h (by decide))]
    exact Ev.now _
  have h8' : d = 0 ↔ b = 0 := by by_cases h0 : d = 0 <;> by_cases h9 : b = 0 <;> simp [h0, h9] at h8 ⊢
  refine Ev.bind (contains_ev l hl) ?_
  refine Ev.cases (fun h => ?_) (fun h9 => ?_)
  · rw [if_neg (fun hm => hm.2.2.2.2 (of_decide_eq_true h))]; exact Ev.now _
  · rw [if_pos ⟨by omega, by omega, ⟨by omega, h5'.1, h5'.2⟩, ⟨by omega, by omega, h8'⟩, fun hx => h9 (decide_eq_true hx)⟩]; exact Ev.now _
theorem clone_v (x : List Int) (h : x.length < 140737488355328) : slices_Clone_byte_byte.f x = some x := by
  unfold slices_Clone_byte_byte.f
  simp [h]
theorem own_ev (l : List (List Int)) (hl : l.length < 5864062014805) (hx : ∀ x ∈ l, x.length < 140737488355328) : Ev (fun k => send_own.f k l) l := by
  have go : ∀ (d i : Nat), i + d = l.length → Ev (fun k => send_own.l0 k (l.take i) l (l.length : Int) (i : Int)) l := by
    intro d
    induction d with
    | zero =>
      intro i hi
      have s1 : ¬ ((i : Int) < (l.length : Int)) := by omega
      refine Ev.step (fun k => ?_) (Ev.now _)
      simp only [send_own.l0]
      rw [if_neg s1, List.take_of_length_le (by omega)]
    | succ d ih =>
      intro i hi
      have hlt : i < l.length := by omega
      have s1 : (i : Int) < (l.length : Int) := by omega
      have s0 : 0 ≤ (i : Int) := by omega
      have hw : wrap64 ((i : Int) + 1) = ((i + 1 : Nat) : Int) := wrap_nat (by omega)
      have hc : slices_Clone_byte_byte.f (rd_L1 l (i : Int)) = some l[i] := by rw [rd_at l i hlt]; exact clone_v _ (hx _ (List.getElem_mem hlt))
      refine Ev.step (f := fun k => _) (fun k => by simp only [send_own.l0]; rw [if_pos s1, if_pos s0, if_pos s1]) ?_
      refine Ev.plain hc ?_
      refine Ev.pos (by rw [List.length_take]; omega) ?_
      rw [hw, ← List.take_succ_eq_append_getElem hlt]
      exact ih (i + 1) (by omega)
  have := go l.length 0 (by omega)
  simpa [send_own.f] using this
theorem awake_ev : Ev (fun k => withylaw14_awake.f k) true := Ev.of (k := 12) withylaw14_awake.mono (by decide +kernel)
theorem light_ev (a b : Int) (l : List (List Int)) (d : Int) (hl : l.length < 9223372036854775807) (n : Nat) : ∀ (i : Nat) (x : Int), i + n = l.length → ∃ r, Ev (fun k => withylaw14_Light.l0 k x (i : Int) a b l d) r := by
  induction n with
  | zero =>
    intro i x hi
    have s1 : ¬ ((i : Int) < (l.length : Int)) := by omega
    by_cases h : (l.length : Int) ≤ 300
    · exact ⟨_, Ev.step (fun k => by simp only [withylaw14_Light.l0]; rw [if_neg s1, if_pos h]) (Ev.now _)⟩
    · exact ⟨_, Ev.step (fun k => by simp only [withylaw14_Light.l0]; rw [if_neg s1, if_neg h]) (Ev.now _)⟩
  | succ n ih =>
    intro i x hi
    have s1 : (i : Int) < (l.length : Int) := by omega
    have s0 : 0 ≤ (i : Int) := by omega
    have hw : wrap64 ((i : Int) + 1) = ((i + 1 : Nat) : Int) := wrap_nat (by omega)
    by_cases h2 : (i : Int) < 300
    · by_cases h3 : x ≤ 40000
      · obtain ⟨r, hr⟩ := ih (i + 1) (wrap64 (x + ((rd_L1 l (i : Int)).length : Int))) (by omega)
        exact ⟨r, Ev.step (fun k => by simp only [withylaw14_Light.l0]; rw [if_pos s1, if_pos h2, if_pos h3, if_pos s0, hw]) hr⟩
      · by_cases h : (l.length : Int) ≤ 300
        · exact ⟨_, Ev.step (fun k => by simp only [withylaw14_Light.l0]; rw [if_pos s1, if_pos h2, if_neg h3, if_pos h]) (Ev.now _)⟩
        · exact ⟨_, Ev.step (fun k => by simp only [withylaw14_Light.l0]; rw [if_pos s1, if_pos h2, if_neg h3, if_neg h]) (Ev.now _)⟩
    · by_cases h : (l.length : Int) ≤ 300
      · exact ⟨_, Ev.step (fun k => by simp only [withylaw14_Light.l0]; rw [if_pos s1, if_neg h2, if_pos h]) (Ev.now _)⟩
      · exact ⟨_, Ev.step (fun k => by simp only [withylaw14_Light.l0]; rw [if_pos s1, if_neg h2, if_neg h]) (Ev.now _)⟩
theorem may_j (a b : Int) (l : List (List Int)) (d : Int) (hx : ¬ ∃ x ∈ l, x.length > 16384) (q : Bool) (hq : q = true ↔ ¬ ((0 ≤ a ∧ a ≤ 2147483647) ∧ l.length ≤ 256 ∧ (0 ≤ b ∧ b ≤ 16 ∧ b ≤ (l.length : Int)))) : Ev (fun k => withyref14_May.j1 k q a b l d) (decide (MayS a b l d)) := by
  refine Ev.step (fun k => ?_) (Ev.now _)
  simp only [withyref14_May.j1]
  by_cases h : q = true
  · have h' := hq.1 h
    rw [if_pos h, decide_eq_false (fun hm => h' ⟨hm.1, hm.2.1, hm.2.2.1⟩)]
  · have h' : ((0 ≤ a ∧ a ≤ 2147483647) ∧ l.length ≤ 256 ∧ (0 ≤ b ∧ b ≤ 16 ∧ b ≤ (l.length : Int))) := Decidable.byContradiction (fun h2 => h (hq.2 h2))
    rw [if_neg h]
    by_cases hb : b = 0
    · rw [if_pos hb]
      congr 1
      rw [Bool.eq_iff_iff, beq_iff_eq, decide_eq_true_iff]
      exact ⟨fun h0 => ⟨h'.1, h'.2.1, h'.2.2, ⟨by omega, by omega, by omega⟩, hx⟩, fun hm => hm.2.2.2.1.2.2.2 hb⟩
    · rw [if_neg hb]
      by_cases hd : d ≥ 1
      · rw [if_pos hd]
        congr 1
        rw [decide_eq_decide]
        exact ⟨fun h0 => ⟨h'.1, h'.2.1, h'.2.2, ⟨by omega, by omega, by omega⟩, hx⟩, fun hm => by have := hm.2.2.2.1; omega⟩
      · rw [if_neg hd, decide_eq_false (fun hm => by have := hm.2.2.2.1; omega)]
theorem may_ev (a b : Int) (l : List (List Int)) (d : Int) (hl : l.length < 9223372036854775807) : Ev (fun k => withyref14_May.f k a b l d) (decide (MayS a b l d)) := by
  have go : ∀ (n i : Nat), i + n = l.length → (¬ ∃ x ∈ l.take i, x.length > 16384) → Ev (fun k => withyref14_May.l0 k (i : Int) a b l d) (decide (MayS a b l d)) := by
    intro n
    induction n with
    | zero =>
      intro i hi hx
      have s1 : ¬ ((i : Int) < (l.length : Int)) := by omega
      rw [List.take_of_length_le (by omega)] at hx
      refine Ev.step (f := fun k => _) (fun k => by simp only [withyref14_May.l0]; rw [if_neg s1]) ?_
      refine Ev.cases (fun h1 => may_j a b l d hx _ ⟨fun _ => by omega, fun _ => rfl⟩) (fun h1 => ?_)
      refine Ev.cases (fun h2 => may_j a b l d hx _ ⟨fun _ => by omega, fun _ => rfl⟩) (fun h2 => ?_)
      refine Ev.cases (fun h3 => may_j a b l d hx _ ⟨fun _ => by omega, fun _ => rfl⟩) (fun h3 => ?_)
      refine Ev.cases (fun h4 => may_j a b l d hx _ ⟨fun _ => by omega, fun _ => rfl⟩) (fun h4 => ?_)
      refine Ev.cases (fun h5 => may_j a b l d hx _ ⟨fun _ => by omega, fun _ => rfl⟩) (fun h5 => ?_)
      refine may_j a b l d hx _ ?_
      rw [decide_eq_true_iff]
      omega
    | succ n ih =>
      intro i hi hx
      have hlt : i < l.length := by omega
      have s1 : (i : Int) < (l.length : Int) := by omega
      have s0 : 0 ≤ (i : Int) := by omega
      have hw : wrap64 ((i : Int) + 1) = ((i + 1 : Nat) : Int) := wrap_nat (by omega)
      refine Ev.step (f := fun k => _) (fun k => by simp only [withyref14_May.l0]; rw [if_pos s1, if_pos s0, rd_at l i hlt]) ?_
      refine Ev.cases (fun h => ?_) (fun h => ?_)
      · rw [decide_eq_false (fun hm => hm.2.2.2.2 ⟨_, List.getElem_mem hlt, by omega⟩)]; exact Ev.now _
      · rw [hw]
        refine ih (i + 1) (by omega) ?_
        rw [List.take_succ_eq_append_getElem hlt]
        rintro ⟨x, h1, h2⟩
        rcases List.mem_append.1 h1 with h1 | h1
        · exact hx ⟨x, h1, h2⟩
        · rw [List.mem_singleton.1 h1] at h2; omega
  exact go l.length 0 (by omega) (by simp)
theorem same_ev (a b : Int) (l : List (List Int)) (d : Int) (hl : l.length < 9223372036854775807) : Ev (fun k => withyref14_Same.f k a b l d a b l d) true := by
  have go : ∀ (n i : Nat), i + n = l.length → Ev (fun k => withyref14_Same.l0 k (i : Int) a b l d a b l d) true := by
    intro n
    induction n with
    | zero =>
      intro i hi
      have s1 : ¬ ((i : Int) < (l.length : Int)) := by omega
      exact Ev.step (fun k => by simp only [withyref14_Same.l0]; rw [if_neg s1]) (Ev.now _)
    | succ n ih =>
      intro i hi
      have s1 : (i : Int) < (l.length : Int) := by omega
      have s0 : 0 ≤ (i : Int) := by omega
      have hw : wrap64 ((i : Int) + 1) = ((i + 1 : Nat) : Int) := wrap_nat (by omega)
      refine Ev.step (f := fun k => _) (fun k => by simp only [withyref14_Same.l0]; rw [if_pos s1, if_pos s0, if_pos s1, hw]) ?_
      exact Ev.pos trivial (ih (i + 1) (by omega))
  unfold withyref14_Same.f
  refine Ev.pos rfl (Ev.pos rfl (Ev.pos rfl ?_))
  rw [bne_self_eq_false]
  refine Ev.step (f := fun k => _) (fun k => by simp only [withyref14_Same.j0]; rw [if_neg (fun h => Bool.noConfusion h)]) ?_
  exact go l.length 0 (by omega)
end Go.Proofs.Ytlbcffdjdbjgcaa.PSendReady
