/- Sets that only grow together, as lists of parents: what joining does to their roots. No program, no memory. -/
namespace Go.Proofs.Ytnbgeodignljfaa.JP
set_option linter.unusedVariables false
set_option linter.unusedSimpArgs false
set_option linter.unusedSectionVars false

/-- The i-th of a list. -/
def g (l : List Int) (i : Int) : Int := l.getD i.toNat 0
def In (l : List Int) (i : Int) : Prop := 0 ≤ i ∧ i < l.length
theorem g_set_same {l : List Int} {i v : Int} (h : In l i) : g (l.set i.toNat v) i = v := by
  have : i.toNat < l.length := by have := h.1; have := h.2; omega
  simp [g, List.getD, this]
theorem g_set_other {l : List Int} {i k v : Int} (hi : 0 ≤ i) (hk : 0 ≤ k) (h : k ≠ i) : g (l.set i.toNat v) k = g l k := by
  have : i.toNat ≠ k.toNat := by omega
  simp [g, List.getD, List.getElem?_set_ne this]
theorem In.set {l : List Int} {i k v : Int} (h : In l i) : In (l.set k.toNat v) i := by simpa [In] using h

/-- Each leads to its set's root: a measure falls on the way. -/
def Wf (m : Int → Nat) (U : List Int) : Prop := ∀ i, In U i → In U (g U i) ∧ (g U i = i ∨ m (g U i) < m i)

inductive Root (U : List Int) : Int → Int → Prop
  | here {a} (h : g U a = a) : Root U a a
  | up {a r} (h : g U a ≠ a) (hr : Root U (g U a) r) : Root U a r

theorem Root.uniq {U : List Int} {a r : Int} (h : Root U a r) : ∀ {q}, Root U a q → q = r := by
  induction h with
  | here h => intro q hq; cases hq with
    | here _ => rfl
    | up h' _ => exact absurd h h'
  | up h _ ih => intro q hq; cases hq with
    | here h' => exact absurd h' h
    | up _ hr => exact ih hr
theorem Root.root {U : List Int} {a r : Int} (h : Root U a r) : g U r = r := by
  induction h with
  | here h => exact h
  | up _ _ ih => exact ih
theorem Root.inn {m : Int → Nat} {U : List Int} (hw : Wf m U) {a r : Int} (h : Root U a r) : In U a → In U r := by
  induction h with
  | here h => exact id
  | up _ _ ih => exact fun ha => ih (hw _ ha).1
theorem Root.ex {m : Int → Nat} {U : List Int} (hw : Wf m U) : ∀ (k : Nat) (a : Int), m a < k → In U a → ∃ r, Root U a r := by
  intro k
  induction k with
  | zero => intro a h; omega
  | succ k ih =>
    intro a hk ha
    by_cases h : g U a = a
    · exact ⟨a, .here h⟩
    · obtain ⟨h1, h2⟩ := hw a ha
      obtain ⟨r, hr⟩ := ih (g U a) (by have := h2.resolve_left h; omega) h1
      exact ⟨r, .up h hr⟩

/-- One halving of a way. -/
def half (U : List Int) (a : Int) : List Int := U.set a.toNat (g U (g U a))

theorem half_spec {m : Int → Nat} {U : List Int} (hw : Wf m U) {a : Int} (ha : In U a) (hne : g U a ≠ a) :
    Wf m (half U a) ∧ (half U a).length = U.length ∧ (∀ x r, In U x → Root U x r → Root (half U a) x r) ∧ m (g U (g U a)) < m a ∧ In U (g U (g U a)) := by
  obtain ⟨h1, h2⟩ := hw a ha
  obtain ⟨h3, h4⟩ := hw _ h1
  have hlt : m (g U a) < m a := h2.resolve_left hne
  have hlt2 : m (g U (g U a)) < m a := by rcases h4 with h | h; (rw [h]; exact hlt); omega
  have e1 : g (half U a) a = g U (g U a) := g_set_same ha
  have e2 : ∀ x, 0 ≤ x → x ≠ a → g (half U a) x = g U x := fun x hx hxa => g_set_other ha.1 hx hxa
  have hin : ∀ x, In (half U a) x ↔ In U x := fun x => by simp [In, half]
  refine ⟨fun i hi => ?_, by simp [half], ?_, hlt2, h3⟩
  · rw [hin] at hi
    rw [hin]
    by_cases e : i = a
    · subst e; rw [e1]; exact ⟨h3, .inr hlt2⟩
    · rw [e2 i hi.1 e]; exact hw i hi
  · intro x r hx hr
    have key : ∀ k x, m x < k → In U x → ∀ r, Root U x r → Root (half U a) x r := by
      intro k
      induction k with
      | zero => intro x h; omega
      | succ k ih =>
        intro x hk hx r hr
        by_cases e : x = a
        · subst e
          cases hr with
          | here h => exact absurd h hne
          | up _ hr =>
            have hne' : g (half U x) x ≠ x := by rw [e1]; intro h; rw [h] at hlt2; omega
            refine .up hne' ?_
            rw [e1]
            cases hr with
            | here h => rw [h]; exact ih _ (by omega) h1 _ (.here h)
            | up _ hr => exact ih _ (by omega) h3 _ hr
        · cases hr with
          | here h => exact .here (by rw [e2 x hx.1 e]; exact h)
          | up h hr =>
            have := (hw x hx)
            refine .up (by rw [e2 x hx.1 e]; exact h) ?_
            rw [e2 x hx.1 e]
            exact ih _ (by have := this.2.resolve_left h; omega) this.1 _ hr
    exact key _ x (Nat.lt_succ_self _) hx r hr

/-- The way to a root, halved as one goes. -/
def topS : Nat → List Int → Int → List Int × Int
  | 0, U, a => (U, a)
  | k + 1, U, a => if g U a = a then (U, a) else topS k (half U a) (g U (g U a))

theorem topS_spec {m : Int → Nat} : ∀ (k : Nat) {U : List Int} {a : Int}, Wf m U → In U a → m a ≤ k →
    Wf m (topS k U a).1 ∧ (topS k U a).1.length = U.length ∧ (∀ x r, In U x → Root U x r → Root (topS k U a).1 x r) ∧ Root U a (topS k U a).2 := by
  intro k
  induction k with
  | zero =>
    intro U a hw ha hk
    refine ⟨hw, rfl, fun _ _ _ h => h, .here ?_⟩
    have := (hw a ha).2
    rcases this with h | h
    · exact h
    · omega
  | succ k ih =>
    intro U a hw ha hk
    simp only [topS]
    by_cases h : g U a = a
    · rw [if_pos h]; exact ⟨hw, rfl, fun _ _ _ h => h, .here h⟩
    · rw [if_neg h]
      obtain ⟨h1, h2, h3, h4, h5⟩ := half_spec hw ha h
      have hin : ∀ x, In (half U a) x ↔ In U x := fun x => by simp [In, half]
      obtain ⟨i1, i2, i3, i4⟩ := ih (U := half U a) (a := g U (g U a)) h1 ((hin _).2 h5) (by omega)
      refine ⟨i1, i2.trans h2, fun x r hx hr => i3 x r ((hin x).2 hx) (h3 x r hx hr), ?_⟩
      obtain ⟨r, hr⟩ := Root.ex hw _ a (Nat.lt_succ_self _) ha
      have hr' := h3 a r ha hr
      have e1 : g (half U a) a = g U (g U a) := g_set_same ha
      cases hr' with
      | here h' => exfalso; rw [e1] at h'; rw [h'] at h4; omega
      | up _ hr' =>
        rw [e1] at hr'
        rw [hr'.uniq i4]
        exact hr

theorem topS_more {m : Int → Nat} : ∀ (k k' : Nat) {U : List Int} {a : Int}, Wf m U → In U a → m a ≤ k → m a ≤ k' → topS k U a = topS k' U a := by
  intro k
  induction k with
  | zero =>
    intro k' U a hw ha hk hk'
    have h : g U a = a := by rcases (hw a ha).2 with h | h; exact h; omega
    cases k' <;> simp [topS, h]
  | succ k ih =>
    intro k' U a hw ha hk hk'
    by_cases h : g U a = a
    · cases k' <;> simp [topS, h]
    · obtain ⟨h1, h2, h3, h4, h5⟩ := half_spec hw ha h
      cases k' with
      | zero => omega
      | succ k' =>
        simp only [topS, if_neg h]
        exact ih k' h1 (by simpa [In, half] using h5) (by omega) (by omega)
end Go.Proofs.Ytnbgeodignljfaa.JP
