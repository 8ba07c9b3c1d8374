/- texts of this claim, one behind the other: JoinPlain, TreePlain, JoinInv, TreeBfs, TreeJoin, TreeWay, ViewPlain. -/

/- Sets that only grow together, as lists of parents: what joining does to their roots. No program, no memory. -/
namespace Go.Proofs.Ytdbnpghckgmaoaa.JP
set_option linter.unusedVariables false
set_option linter.unusedSimpArgs false
set_option linter.unusedSectionVars false

/-- The i-th of a list. -/
def g (l : List Int) (i : Int) : Int := l.getD i.toNat 0
def In (l : List Int) (i : Int) : Prop := 0 ≤ i ∧ i < l.length
theorem g_set_same {l : List Int} {i v : Int} (h : In l i) : g (l.set i.toNat v) i = v := by
  have : i.toNat < l.length := by have := h.1; have := h.2; omega
  simp [g, List.getD, this]
theorem g_set_other {l : List Int} {i k v : Int} (hi : 0 ≤ i) (hk : 0 ≤ k) (h : k ≠ i) : g (l.set i.toNat v) k = g l k := by
  have : i.toNat ≠ k.toNat := by omega
  simp [g, List.getD, List.getElem?_set_ne this]
theorem In.set {l : List Int} {i k v : Int} (h : In l i) : In (l.set k.toNat v) i := by simpa [In] using h

/-- Each leads to its set's root: a measure falls on the way. -/
def Wf (m : Int → Nat) (U : List Int) : Prop := ∀ i, In U i → In U (g U i) ∧ (g U i = i ∨ m (g U i) < m i)

inductive Root (U : List Int) : Int → Int → Prop
  | here {a} (h : g U a = a) : Root U a a
  | up {a r} (h : g U a ≠ a) (hr : Root U (g U a) r) : Root U a r

theorem Root.uniq {U : List Int} {a r : Int} (h : Root U a r) : ∀ {q}, Root U a q → q = r := by
  induction h with
  | here h => intro q hq; cases hq with
    | here _ => rfl
    | up h' _ => exact absurd h h'
  | up h _ ih => intro q hq; cases hq with
    | here h' => exact absurd h' h
    | up _ hr => exact ih hr
theorem Root.root {U : List Int} {a r : Int} (h : Root U a r) : g U r = r := by
  induction h with
  | here h => exact h
  | up _ _ ih => exact ih
theorem Root.inn {m : Int → Nat} {U : List Int} (hw : Wf m U) {a r : Int} (h : Root U a r) : In U a → In U r := by
  induction h with
  | here h => exact id
  | up _ _ ih => exact fun ha => ih (hw _ ha).1
theorem Root.ex {m : Int → Nat} {U : List Int} (hw : Wf m U) : ∀ (k : Nat) (a : Int), m a < k → In U a → ∃ r, Root U a r := by
  intro k
  induction k with
  | zero => intro a h; omega
  | succ k ih =>
    intro a hk ha
    by_cases h : g U a = a
    · exact ⟨a, .here h⟩
    · obtain ⟨h1, h2⟩ := hw a ha
      obtain ⟨r, hr⟩ := ih (g U a) (by have := h2.resolve_left h; omega) h1
      exact ⟨r, .up h hr⟩

/-- One halving of a way. -/
def half (U : List Int) (a : Int) : List Int := U.set a.toNat (g U (g U a))

theorem half_spec {m : Int → Nat} {U : List Int} (hw : Wf m U) {a : Int} (ha : In U a) (hne : g U a ≠ a) :
    Wf m (half U a) ∧ (half U a).length = U.length ∧ (∀ x r, In U x → Root U x r → Root (half U a) x r) ∧ m (g U (g U a)) < m a ∧ In U (g U (g U a)) := by
  obtain ⟨h1, h2⟩ := hw a ha
  obtain ⟨h3, h4⟩ := hw _ h1
  have hlt : m (g U a) < m a := h2.resolve_left hne
  have hlt2 : m (g U (g U a)) < m a := by rcases h4 with h | h; (rw [h]; exact hlt); omega
  have e1 : g (half U a) a = g U (g U a) := g_set_same ha
  have e2 : ∀ x, 0 ≤ x → x ≠ a → g (half U a) x = g U x := fun x hx hxa => g_set_other ha.1 hx hxa
  have hin : ∀ x, In (half U a) x ↔ In U x := fun x => by simp [In, half]
  refine ⟨fun i hi => ?_, by simp [half], ?_, hlt2, h3⟩
  · rw [hin] at hi
    rw [hin]
    by_cases e : i = a
    · subst e; rw [e1]; exact ⟨h3, .inr hlt2⟩
    · rw [e2 i hi.1 e]; exact hw i hi
  · intro x r hx hr
    have key : ∀ k x, m x < k → In U x → ∀ r, Root U x r → Root (half U a) x r := by
      intro k
      induction k with
      | zero => intro x h; omega
      | succ k ih =>
        intro x hk hx r hr
        by_cases e : x = a
        · subst e
          cases hr with
          | here h => exact absurd h hne
          | up _ hr =>
            have hne' : g (half U x) x ≠ x := by rw [e1]; intro h; rw [h] at hlt2; omega
            refine .up hne' ?_
            rw [e1]
            cases hr with
            | here h => rw [h]; exact ih _ (by omega) h1 _ (.here h)
            | up _ hr => exact ih _ (by omega) h3 _ hr
        · cases hr with
          | here h => exact .here (by rw [e2 x hx.1 e]; exact h)
          | up h hr =>
            have := (hw x hx)
            refine .up (by rw [e2 x hx.1 e]; exact h) ?_
            rw [e2 x hx.1 e]
            exact ih _ (by have := this.2.resolve_left h; omega) this.1 _ hr
    exact key _ x (Nat.lt_succ_self _) hx r hr

/-- The way to a root, halved as one goes. -/
def topS : Nat → List Int → Int → List Int × Int
  | 0, U, a => (U, a)
  | k + 1, U, a => if g U a = a then (U, a) else topS k (half U a) (g U (g U a))

theorem topS_spec {m : Int → Nat} : ∀ (k : Nat) {U : List Int} {a : Int}, Wf m U → In U a → m a ≤ k →
    Wf m (topS k U a).1 ∧ (topS k U a).1.length = U.length ∧ (∀ x r, In U x → Root U x r → Root (topS k U a).1 x r) ∧ Root U a (topS k U a).2 := by
  intro k
  induction k with
  | zero =>
    intro U a hw ha hk
    refine ⟨hw, rfl, fun _ _ _ h => h, .here ?_⟩
    have := (hw a ha).2
    rcases this with h | h
    · exact h
    · omega
  | succ k ih =>
    intro U a hw ha hk
    simp only [topS]
    by_cases h : g U a = a
    · rw [if_pos h]; exact ⟨hw, rfl, fun _ _ _ h => h, .here h⟩
    · rw [if_neg h]
      obtain ⟨h1, h2, h3, h4, h5⟩ := half_spec hw ha h
      have hin : ∀ x, In (half U a) x ↔ In U x := fun x => by simp [In, half]
      obtain ⟨i1, i2, i3, i4⟩ := ih (U := half U a) (a := g U (g U a)) h1 ((hin _).2 h5) (by omega)
      refine ⟨i1, i2.trans h2, fun x r hx hr => i3 x r ((hin x).2 hx) (h3 x r hx hr), ?_⟩
      obtain ⟨r, hr⟩ := Root.ex hw _ a (Nat.lt_succ_self _) ha
      have hr' := h3 a r ha hr
      have e1 : g (half U a) a = g U (g U a) := g_set_same ha
      cases hr' with
      | here h' => exfalso; rw [e1] at h'; rw [h'] at h4; omega
      | up _ hr' =>
        rw [e1] at hr'
        rw [hr'.uniq i4]
        exact hr

theorem topS_more {m : Int → Nat} : ∀ (k k' : Nat) {U : List Int} {a : Int}, Wf m U → In U a → m a ≤ k → m a ≤ k' → topS k U a = topS k' U a := by
  intro k
  induction k with
  | zero =>
    intro k' U a hw ha hk hk'
    have h : g U a = a := by rcases (hw a ha).2 with h | h; exact h; omega
    cases k' <;> simp [topS, h]
  | succ k ih =>
    intro k' U a hw ha hk hk'
    by_cases h : g U a = a
    · cases k' <;> simp [topS, h]
    · obtain ⟨h1, h2, h3, h4, h5⟩ := half_spec hw ha h
      cases k' with
      | zero => omega
      | succ k' =>
        simp only [topS, if_neg h]
        exact ih k' h1 (by simpa [In, half] using h5) (by omega) (by omega)
end Go.Proofs.Ytdbnpghckgmaoaa.JP

/- Forests, plain: what edges link, ways, cuts. No program, no memory. -/
namespace Go.Proofs.Ytdbnpghckgmaoaa.TP
set_option linter.unusedVariables false
set_option linter.unusedSimpArgs false
set_option linter.unusedSectionVars false
structure E where
  a : Int
  b : Int
  w : Int
deriving DecidableEq
def E.has (e : E) (x y : Int) : Prop := (e.a = x ∧ e.b = y) ∨ (e.a = y ∧ e.b = x)
theorem E.has_symm {e : E} {x y : Int} (h : e.has x y) : e.has y x := h.elim .inr .inl
def Adj (l : List E) (x y : Int) : Prop := ∃ e ∈ l, e.has x y
theorem Adj.symm {l : List E} {x y : Int} (h : Adj l x y) : Adj l y x := let ⟨e, h1, h2⟩ := h; ⟨e, h1, E.has_symm h2⟩
theorem Adj.mono {l l' : List E} (hl : ∀ e ∈ l, e ∈ l') {x y : Int} (h : Adj l x y) : Adj l' x y := let ⟨e, h1, h2⟩ := h; ⟨e, hl e h1, h2⟩
/-- Edges lead from one to another one. -/
inductive Conn (l : List E) : Int → Int → Prop
  | refl (x : Int) : Conn l x x
  | step {x y z : Int} (h : Adj l x y) (r : Conn l y z) : Conn l x z
namespace Conn
variable {l l' : List E} {x y z : Int}
theorem one (h : Adj l x y) : Conn l x y := .step h (.refl y)
theorem trans (h : Conn l x y) (k : Conn l y z) : Conn l x z := by
  induction h with
  | refl => exact k
  | step a _ ih => exact .step a (ih k)
theorem symm (h : Conn l x y) : Conn l y x := by
  induction h with
  | refl => exact .refl _
  | step a _ ih => exact ih.trans (one a.symm)
theorem mono (hl : ∀ e ∈ l, e ∈ l') (h : Conn l x y) : Conn l' x y := by
  induction h with
  | refl => exact .refl _
  | step a _ ih => exact .step (a.mono hl) ih
theorem nil (h : Conn [] x y) : x = y := by
  cases h with
  | refl => rfl
  | step a _ => obtain ⟨e, he, _⟩ := a; cases he
/-- An edge more. -/
theorem add {e : E} (hl : ∀ f ∈ l', f = e ∨ f ∈ l) (h : Conn l' x y) : Conn l x y ∨ (Conn l x e.a ∧ Conn l e.b y) ∨ (Conn l x e.b ∧ Conn l e.a y) := by
  induction h with
  | refl => exact .inl (.refl _)
  | step a _ ih =>
    obtain ⟨f, hf, hh⟩ := a
    rcases hl f hf with rfl | hf
    · rcases hh with ⟨rfl, rfl⟩ | ⟨rfl, rfl⟩
      · rcases ih with h | ⟨_, h⟩ | ⟨_, h⟩
        · exact .inr (.inl ⟨.refl _, h⟩)
        · exact .inr (.inl ⟨.refl _, h⟩)
        · exact .inl h
      · rcases ih with h | ⟨_, h⟩ | ⟨_, h⟩
        · exact .inr (.inr ⟨.refl _, h⟩)
        · exact .inl h
        · exact .inr (.inr ⟨.refl _, h⟩)
    · have s : Conn l _ _ := one ⟨f, hf, hh⟩
      rcases ih with h | ⟨h, k⟩ | ⟨h, k⟩
      · exact .inl (s.trans h)
      · exact .inr (.inl ⟨s.trans h, k⟩)
      · exact .inr (.inr ⟨s.trans h, k⟩)
theorem add' {e : E} (hl : ∀ f ∈ l, f ∈ l') (he : e ∈ l') : (Conn l x y ∨ (Conn l x e.a ∧ Conn l e.b y) ∨ (Conn l x e.b ∧ Conn l e.a y)) → Conn l' x y := by
  have s : Conn l' e.a e.b := one ⟨e, he, .inl ⟨rfl, rfl⟩⟩
  rintro (h | ⟨h, k⟩ | ⟨h, k⟩)
  · exact h.mono hl
  · exact (h.mono hl).trans (s.trans (k.mono hl))
  · exact (h.mono hl).trans (s.symm.trans (k.mono hl))
end Conn

/-- Edges but one. -/
def rm (l : List E) (e : E) : List E := l.filter fun f => decide (f ≠ e)
theorem mem_rm {l : List E} {e f : E} : f ∈ rm l e ↔ f ∈ l ∧ f ≠ e := by simp [rm]
theorem rm_sub {l : List E} {e : E} : ∀ f ∈ rm l e, f ∈ l := fun _ h => (mem_rm.1 h).1

def Node (n : Int) : Prop := 1 ≤ n ∧ n ≤ 64
instance {n : Int} : Decidable (Node n) := by unfold Node; infer_instance
/-- An edge that may be. -/
def E.may (e : E) : Prop := Node e.a ∧ Node e.b ∧ e.a < e.b ∧ 0 ≤ e.w ∧ e.w ≤ 2147483647
instance {e : E} : Decidable e.may := by unfold E.may; infer_instance
/-- Each pair once. -/
def Apart (l : List E) : Prop := l.Pairwise fun e f => ¬ (e.a = f.a ∧ e.b = f.b)
/-- Edges that may be together. -/
def Good (l : List E) : Prop := (∀ e ∈ l, e.may) ∧ Apart l
theorem Apart.nodup {l : List E} (h : Apart l) : l.Nodup := h.imp fun {a b} h e => h (by rw [e]; exact ⟨rfl, rfl⟩)
theorem Apart.eq {l : List E} (h : Apart l) {e f : E} (he : e ∈ l) (hf : f ∈ l) (ha : e.a = f.a) (hb : e.b = f.b) : e = f := by
  obtain ⟨i, hi, rfl⟩ := List.mem_iff_getElem.1 he
  obtain ⟨j, hj, rfl⟩ := List.mem_iff_getElem.1 hf
  rcases Nat.lt_trichotomy i j with h1 | h1 | h1
  · exact absurd ⟨ha, hb⟩ ((List.pairwise_iff_getElem.1 h) i j hi hj h1)
  · subst h1; rfl
  · exact absurd ⟨ha.symm, hb.symm⟩ ((List.pairwise_iff_getElem.1 h) j i hj hi h1)
/-- The edge of two nodes is one. -/
theorem Good.eq {l : List E} (h : Good l) {e f : E} (he : e ∈ l) (hf : f ∈ l) {x y : Int} (h1 : e.has x y) (h2 : f.has x y) : e = f := by
  have a := (h.1 e he).2.2.1
  have b := (h.1 f hf).2.2.1
  rcases h1 with ⟨rfl, rfl⟩ | ⟨rfl, rfl⟩ <;> rcases h2 with ⟨h3, h4⟩ | ⟨h3, h4⟩
  · exact h.2.eq he hf h3.symm h4.symm
  · omega
  · omega
  · exact h.2.eq he hf h3.symm h4.symm
theorem Good.sub {l l' : List E} (h : Good l) (hs : l'.Sublist l) : Good l' := ⟨fun e he => h.1 e (hs.subset he), h.2.sublist hs⟩
theorem Good.rm {l : List E} (h : Good l) (e : E) : Good (rm l e) := h.sub List.filter_sublist
theorem Good.take {l : List E} (h : Good l) (i : Nat) : Good (l.take i) := h.sub (List.take_sublist _ _)

/-- No edge closes a ring. -/
def Forest (l : List E) : Prop := ∀ i e, l[i]? = some e → ¬ Conn (l.take i) e.a e.b
def Cut (l : List E) : Prop := ∀ e ∈ l, ¬ Conn (rm l e) e.a e.b
theorem Forest.nil : Forest [] := fun i e h => by simp at h
theorem Forest.take {l : List E} (h : Forest l) (k : Nat) : Forest (l.take k) := fun i e hi hc => by
  rw [List.getElem?_take] at hi
  split at hi
  · rename_i hlt
    rw [List.take_take, Nat.min_eq_left (by omega)] at hc
    exact h i e hi hc
  · cases hi
theorem Forest.snoc {l : List E} {e : E} : Forest (l ++ [e]) ↔ Forest l ∧ ¬ Conn l e.a e.b := by
  constructor
  · intro h
    refine ⟨?_, ?_⟩
    · have := h.take l.length; rwa [List.take_left] at this
    · have := h l.length e (by simp); rwa [List.take_left] at this
  · rintro ⟨h, h2⟩ i f hi hc
    rcases Nat.lt_trichotomy i l.length with h1 | h1 | h1
    · rw [List.getElem?_append_left h1] at hi
      rw [List.take_append_of_le_length (by omega)] at hc
      exact h i f hi hc
    · subst h1
      rw [List.take_left] at hc
      simp at hi
      subst hi; exact h2 hc
    · rw [List.getElem?_eq_none (by simp; omega)] at hi; cases hi
theorem Forest.cut {l : List E} (hn : l.Nodup) (h : Forest l) : Cut l := by
  have key : ∀ k, k ≤ l.length → Cut (l.take k) := by
    intro k
    induction k with
    | zero => intro _ e he; simp at he
    | succ k ih =>
      intro hk e he hc
      have hlt : k < l.length := by omega
      have hsp : l.take (k + 1) = l.take k ++ [l[k]] := by rw [List.take_succ_eq_append_getElem hlt]
      have hnk : (l.take k ++ [l[k]]).Nodup := by rw [← hsp]; exact hn.sublist (List.take_sublist _ _)
      have hf : l[k] ∉ l.take k := fun hm => (List.nodup_append.1 hnk).2.2 _ hm _ (List.mem_singleton.2 rfl) rfl
      have hfo : ¬ Conn (l.take k) l[k].a l[k].b := h k _ (List.getElem?_eq_getElem hlt)
      rw [hsp] at he hc
      rcases List.mem_append.1 he with he | he
      · have hne : l[k] ≠ e := fun e' => hf (by rw [e']; exact he)
        have := Conn.add (l := rm (l.take k) e) (e := l[k]) (fun f hf => by
          obtain ⟨h1, h2⟩ := mem_rm.1 hf
          rcases List.mem_append.1 h1 with h1 | h1
          · exact .inr (mem_rm.2 ⟨h1, h2⟩)
          · exact .inl (List.mem_singleton.1 h1)) hc
        have s : Conn (l.take k) e.a e.b := .one ⟨e, he, .inl ⟨rfl, rfl⟩⟩
        rcases this with h1 | ⟨h1, h2⟩ | ⟨h1, h2⟩
        · exact ih (by omega) e he h1
        · exact hfo ((h1.mono rm_sub).symm.trans (s.trans (h2.mono rm_sub).symm))
        · exact hfo ((h2.mono rm_sub).trans (s.symm.trans (h1.mono rm_sub)))
      · obtain rfl := List.mem_singleton.1 he
        refine hfo (hc.mono fun f hf => ?_)
        obtain ⟨h1, h2⟩ := mem_rm.1 hf
        rcases List.mem_append.1 h1 with h1 | h1
        · exact h1
        · exact absurd (List.mem_singleton.1 h1) h2
  have := key l.length (Nat.le_refl _)
  rwa [List.take_length] at this
theorem Cut.forest {l : List E} (hn : l.Nodup) (h : Cut l) : Forest l := fun i e hi hc => by
  have hm : e ∈ l := List.mem_of_getElem? hi
  refine h e hm (hc.mono fun f hf => mem_rm.2 ⟨List.mem_of_mem_take hf, fun e' => ?_⟩)
  subst e'
  obtain ⟨j, hj, hjf⟩ := List.mem_iff_getElem.1 hf
  obtain ⟨hi', hif⟩ := List.getElem?_eq_some_iff.1 hi
  rw [List.length_take] at hj
  rw [List.getElem_take] at hjf
  have := (List.getElem_inj (h₀ := by omega) (h₁ := hi') hn).1 (hjf.trans hif.symm)
  omega
theorem Cut.sub {l l' : List E} (h : Cut l) (hs : ∀ e ∈ l', e ∈ l) : Cut l' := fun e he hc => h e (hs e he) (hc.mono fun f hf => mem_rm.2 ⟨hs f (mem_rm.1 hf).1, (mem_rm.1 hf).2⟩)

/-- A way: nodes, each once, each beside the next. -/
inductive Way (l : List E) : Int → Int → List Int → Prop
  | one (a : Int) : Way l a a [a]
  | cons {a b c : Int} {p : List Int} (h : Adj l a b) (hn : a ∉ p) (r : Way l b c p) : Way l a c (a :: p)
namespace Way
variable {l l' : List E} {a b c x y : Int} {p u v : List Int}
theorem head (h : Way l a b p) : ∃ t, p = a :: t := by cases h <;> exact ⟨_, rfl⟩
theorem ne (h : Way l a b p) : p ≠ [] := by obtain ⟨t, rfl⟩ := h.head; simp
theorem nodup (h : Way l a b p) : p.Nodup := by
  induction h with
  | one => simp
  | cons _ hn _ ih => exact List.nodup_cons.2 ⟨hn, ih⟩
theorem last (h : Way l a b p) : p[p.length - 1]? = some b := by
  induction h with
  | one => rfl
  | cons _ _ r ih =>
    obtain ⟨t, rfl⟩ := r.head
    simpa using ih
theorem first (h : Way l a b p) : p[0]? = some a := by obtain ⟨t, rfl⟩ := h.head; rfl
theorem conn (h : Way l a b p) : Conn l a b := by
  induction h with
  | one => exact .refl _
  | cons h _ _ ih => exact .step h ih
theorem mono (hl : ∀ e ∈ l, e ∈ l') (h : Way l a b p) : Way l' a b p := by
  induction h with
  | one => exact .one _
  | cons h hn _ ih => exact .cons (h.mono hl) hn ih
theorem mem_last (h : Way l a b p) : b ∈ p := List.mem_of_getElem? h.last
theorem mem_first (h : Way l a b p) : a ∈ p := List.mem_of_getElem? h.first
/-- All of a way is linked to its end. -/
theorem conn_mem (h : Way l a b p) : ∀ x ∈ p, Conn l x b := by
  induction h with
  | one => intro x hx; rw [List.mem_singleton.1 hx]; exact .refl _
  | cons h hn r ih =>
    intro x hx
    rcases List.mem_cons.1 hx with rfl | hx
    · exact .step h r.conn
    · exact ih x hx
theorem back (h : Way l a b p) : ∀ {u v : List Int} {x : Int}, p = u ++ x :: v → Way l x b (x :: v) := by
  induction h with
  | one =>
    intro u v x e
    cases u with
    | nil => injection e with e1 e2; subst e1; subst e2; exact .one _
    | cons _ u => injection e with e1 e2; simp at e2
  | cons h hn r ih =>
    intro u v x e
    cases u with
    | nil => injection e with e1 e2; subst e1; subst e2; exact .cons h hn r
    | cons _ u => injection e with e1 e2; exact ih e2
theorem front (h : Way l a b p) : ∀ {u v : List Int} {x : Int}, p = u ++ x :: v → Way l a x (u ++ [x]) := by
  induction h with
  | one =>
    intro u v x e
    cases u with
    | nil => injection e with e1 e2; subst e1; exact .one _
    | cons _ u => injection e with e1 e2; simp at e2
  | cons h hn r ih =>
    intro u v x e
    cases u with
    | nil => injection e with e1 e2; subst e1; exact .one _
    | cons z u =>
      injection e with e1 e2
      subst e1
      refine .cons h (fun hm => hn ?_) (ih e2)
      rw [e2]
      rcases List.mem_append.1 hm with hm | hm
      · exact List.mem_append_left _ hm
      · exact List.mem_append_right _ (by rw [List.mem_singleton.1 hm]; exact List.mem_cons_self)
theorem suffix (h : Way l a b p) (hx : x ∈ p) : ∃ q, Way l x b q ∧ ∀ z ∈ q, z ∈ p := by
  obtain ⟨u, v, rfl⟩ := List.append_of_mem hx
  exact ⟨_, h.back rfl, fun z hz => List.mem_append_right _ hz⟩
theorem ex (h : Conn l a b) : ∃ p, Way l a b p := by
  induction h with
  | refl => exact ⟨_, .one _⟩
  | step h _ ih =>
    rename_i x y z _
    obtain ⟨p, hp⟩ := ih
    by_cases hx : x ∈ p
    · obtain ⟨q, hq, _⟩ := hp.suffix hx
      exact ⟨q, hq⟩
    · exact ⟨_, .cons h hx hp⟩
/-- Two ways, one behind the other. -/
theorem app (h : Way l a b p) : ∀ {q : List Int}, Way l b c (b :: q) → (∀ x ∈ p, x ∉ q) → Way l a c (p ++ q) := by
  induction h with
  | one => intro q h2 _; exact h2
  | cons h hn r ih =>
    intro q h2 hd
    refine .cons h (fun hm => ?_) (ih h2 fun x hx => hd x (List.mem_cons_of_mem _ hx))
    rcases List.mem_append.1 hm with hm | hm
    · exact hn hm
    · exact hd _ List.mem_cons_self hm
theorem rev (h : Way l a b p) : Way l b a p.reverse := by
  induction h with
  | one => exact .one _
  | cons h hn r ih =>
    rename_i x y z p
    rw [List.reverse_cons]
    obtain ⟨t, ht⟩ := r.head
    refine app ih (q := [x]) (.cons h.symm (fun hm => ?_) (.one _)) fun w hw hw2 => ?_
    · rw [List.mem_singleton.1 hm] at ht; exact hn (by rw [ht]; exact List.mem_cons_self)
    · rw [List.mem_singleton.1 hw2] at hw; exact hn (List.mem_reverse.1 hw)
/-- Two of a way that stand side by side are linked by an edge. -/
theorem adj (h : Way l a b p) (e : p = u ++ x :: y :: v) : Adj l x y := by
  cases h.back e with
  | cons h _ r => obtain ⟨t, ht⟩ := r.head; injection ht with ht _; subst ht; exact h
/-- The nodes of a way are nodes of edges. -/
theorem nodes (hl : ∀ e ∈ l, Node e.a ∧ Node e.b) (ha : Node a) (h : Way l a b p) : ∀ x ∈ p, Node x := by
  induction h with
  | one => intro x hx; rw [List.mem_singleton.1 hx]; exact ha
  | cons h hn r ih =>
    intro x hx
    rcases List.mem_cons.1 hx with rfl | hx
    · exact ha
    · refine ih ?_ x hx
      obtain ⟨e, he, h1⟩ := h
      rcases h1 with ⟨_, rfl⟩ | ⟨rfl, _⟩
      · exact (hl e he).2
      · exact (hl e he).1
end Way
theorem pigeon : ∀ (n : Nat) (l : List Int), l.Nodup → (∀ x ∈ l, 1 ≤ x ∧ x ≤ n) → l.length ≤ n
  | 0, l, _, h => by
    cases l with
    | nil => simp
    | cons x l => have := h x List.mem_cons_self; omega
  | n + 1, l, hn, h => by
    by_cases hm : ((n + 1 : Nat) : Int) ∈ l
    · have h1 := pigeon n (l.erase ((n + 1 : Nat) : Int)) (hn.erase _) (fun x hx => by
        have h2 := (hn.mem_erase_iff).1 hx
        have := h x h2.2
        have := h2.1
        omega)
      rw [List.length_erase_of_mem hm] at h1
      omega
    · have := pigeon n l hn fun x hx => by
        have h1 := h x hx
        have : x ≠ ((n + 1 : Nat) : Int) := fun e => hm (e ▸ hx)
        omega
      omega
theorem Way.short {l : List E} (hl : ∀ e ∈ l, Node e.a ∧ Node e.b) {a b : Int} (ha : Node a) {p : List Int} (h : Way l a b p) : p.length ≤ 64 :=
  pigeon 64 p h.nodup (h.nodes hl ha)
theorem Conn.node {l : List E} (hl : ∀ e ∈ l, Node e.a ∧ Node e.b) {a b : Int} (ha : Node a) (h : Conn l a b) : Node b := by
  obtain ⟨p, hp⟩ := Way.ex h
  exact hp.nodes hl ha b hp.mem_last

/-! ### the edges of a way -/
def OnP (p : List Int) (e : E) : Prop := ∃ u v x y, p = u ++ x :: y :: v ∧ e.has x y
/-- Without an edge that is not on a way it is one still. -/
theorem Way.avoid {l : List E} {a b : Int} {p : List Int} {e : E} (h : Way l a b p) (hn : ¬ OnP p e) : Way (rm l e) a b p := by
  induction h with
  | one => exact .one _
  | cons h hnm r ih =>
    obtain ⟨f, hf, hh⟩ := h
    obtain ⟨t, ht⟩ := r.head
    refine .cons ⟨f, mem_rm.2 ⟨hf, fun e' => hn ?_⟩, hh⟩ hnm (ih fun ⟨u, v, x, y, h1, h2⟩ => hn ⟨_ :: u, v, x, y, by rw [h1]; rfl, h2⟩)
    subst e'
    exact ⟨[], t, _, _, by rw [ht]; rfl, hh⟩
theorem OnP.mem {p : List Int} {e : E} (h : OnP p e) : e.a ∈ p ∧ e.b ∈ p := by
  obtain ⟨u, v, x, y, rfl, h⟩ := h
  rcases h with ⟨rfl, rfl⟩ | ⟨rfl, rfl⟩ <;> simp
/-- The edges of a way in a forest are those without which it is none. -/
theorem on_iff {l : List E} (hc : Cut l) {a b : Int} {p : List Int} (h : Way l a b p) {e : E} (he : e ∈ l) : ¬ Conn (rm l e) a b ↔ OnP p e := by
  constructor
  · intro hn
    by_cases ho : OnP p e
    · exact ho
    · exact absurd (h.avoid ho).conn hn
  · rintro ⟨u, v, x, y, hp, hh⟩ hcon
    have hnd := h.nodup
    rw [hp] at hnd
    have hnd' := List.nodup_append.1 hnd
    have hxy := List.nodup_cons.1 hnd'.2.1
    have h1 : Conn (rm l e) a x := (Way.avoid (e := e) (h.front hp) fun ho => by
      have hy : y ∈ u ++ [x] := by
        rcases hh with ⟨_, h1⟩ | ⟨h1, _⟩
        · exact h1 ▸ ho.mem.2
        · exact h1 ▸ ho.mem.1
      rcases List.mem_append.1 hy with hy | hy
      · exact hnd'.2.2 y hy y (by simp) rfl
      · rw [List.mem_singleton.1 hy] at hxy; exact hxy.1 List.mem_cons_self).conn
    have h2 : Conn (rm l e) y b := (Way.avoid (e := e) (h.back (u := u ++ [x]) (v := v) (by rw [hp]; simp)) fun ho => by
      have hx : x ∈ y :: v := by
        rcases hh with ⟨h1, _⟩ | ⟨_, h1⟩
        · exact h1 ▸ ho.mem.1
        · exact h1 ▸ ho.mem.2
      exact hxy.1 hx).conn
    have h3 : Conn (rm l e) x y := h1.symm.trans (hcon.trans h2.symm)
    rcases hh with ⟨rfl, rfl⟩ | ⟨rfl, rfl⟩
    · exact hc e he h3
    · exact hc e he h3.symm
/-- Where a node of a way stands, its edges lead to the one ahead and to the one behind. -/
theorem OnP.at {p : List Int} (hnd : p.Nodup) {e : E} (h : OnP p e) {k : Nat} {z o : Int} (hz : p[k]? = some z) (ho : e.has z o) : p[k + 1]? = some o ∨ (1 ≤ k ∧ p[k - 1]? = some o) := by
  obtain ⟨u, v, x, y, rfl, hh⟩ := h
  have g1 : (u ++ x :: y :: v)[u.length]? = some x := by simp
  have g2 : (u ++ x :: y :: v)[u.length + 1]? = some y := by rw [List.getElem?_append_right (by omega)]; simp
  have inj : ∀ {i j : Nat} {t : Int}, (u ++ x :: y :: v)[i]? = some t → (u ++ x :: y :: v)[j]? = some t → i = j := fun {i j t} hi hj => by
    obtain ⟨a1, a2⟩ := List.getElem?_eq_some_iff.1 hi
    obtain ⟨b1, b2⟩ := List.getElem?_eq_some_iff.1 hj
    exact (List.getElem_inj (h₀ := a1) (h₁ := b1) hnd).1 (a2.trans b2.symm)
  have : (z = x ∧ o = y) ∨ (z = y ∧ o = x) := by
    rcases hh with ⟨h1, h2⟩ | ⟨h1, h2⟩ <;> rcases ho with ⟨h3, h4⟩ | ⟨h3, h4⟩
    · exact .inl ⟨h3.symm.trans h1, h4.symm.trans h2⟩
    · exact .inr ⟨h4.symm.trans h2, h3.symm.trans h1⟩
    · exact .inr ⟨h3.symm.trans h1, h4.symm.trans h2⟩
    · exact .inl ⟨h4.symm.trans h2, h3.symm.trans h1⟩
  rcases this with ⟨rfl, rfl⟩ | ⟨rfl, rfl⟩
  · have := inj hz g1; subst this; exact .inl g2
  · have := inj hz g2; subst this; exact .inr ⟨by omega, g1⟩
/-- The edge from a node of a way to the one behind. -/
theorem Way.edge {l : List E} {a b : Int} {p : List Int} (h : Way l a b p) {k : Nat} {x y : Int} (hx : p[k]? = some x) (hy : p[k + 1]? = some y) : ∃ e ∈ l, e.has x y ∧ OnP p e := by
  obtain ⟨h1, h2⟩ := List.getElem?_eq_some_iff.1 hx
  obtain ⟨h3, h4⟩ := List.getElem?_eq_some_iff.1 hy
  have hp : p = p.take k ++ x :: y :: p.drop (k + 2) := by
    have e1 : p.drop k = x :: p.drop (k + 1) := by rw [List.drop_eq_getElem_cons h1, h2]
    have e2 : p.drop (k + 1) = y :: p.drop (k + 2) := by rw [List.drop_eq_getElem_cons h3, h4]
    rw [← e2, ← e1, List.take_append_drop]
  obtain ⟨e, he, hh⟩ := h.adj hp
  exact ⟨e, he, hh, _, _, x, y, hp, hh⟩
/-- In a forest there is one way. -/
theorem Way.uniq {l : List E} (hc : Cut l) {a b : Int} {p : List Int} (h : Way l a b p) : ∀ {q : List Int}, Way l a b q → q = p := by
  induction h with
  | one =>
    intro q hq
    cases hq with
    | one => rfl
    | cons h hn r => exact absurd r.mem_last hn
  | cons h hn r ih =>
    rename_i a b' c p
    intro q hq
    cases hq with
    | one => exact absurd r.mem_last hn
    | cons h' hn' r' =>
      rename_i b2 p2
      obtain ⟨e, he, hh⟩ := h
      obtain ⟨e2, he2, hh2⟩ := h'
      by_cases hee : e2 = e
      · subst hee
        have hb : b2 = b' := by
          have n1 : a ≠ b' := fun e' => hn (by rw [e']; exact r.mem_first)
          rcases hh with ⟨h1, h2⟩ | ⟨h1, h2⟩ <;> rcases hh2 with ⟨h3, h4⟩ | ⟨h3, h4⟩
          · exact h4.symm.trans h2
          · exact absurd (h4.symm.trans h2) n1
          · exact absurd (h3.symm.trans h1) n1
          · exact h3.symm.trans h1
        subst hb
        rw [ih r']
      · exfalso
        have av : ∀ {s : Int} {p : List Int}, Way l s c p → a ∉ p → Conn (rm l e) s c := fun {s p} hw hna => (Way.avoid (e := e) hw fun ho => by
          rcases hh with ⟨h1, _⟩ | ⟨_, h1⟩
          · exact hna (h1 ▸ ho.mem.1)
          · exact hna (h1 ▸ ho.mem.2)).conn
        have c1 : Conn (rm l e) b' c := av r hn
        have c2 : Conn (rm l e) b2 c := av r' hn'
        have c3 : Conn (rm l e) a b2 := .one ⟨e2, mem_rm.2 ⟨he2, hee⟩, hh2⟩
        have c4 : Conn (rm l e) a b' := c3.trans (c2.trans c1.symm)
        rcases hh with ⟨rfl, rfl⟩ | ⟨rfl, rfl⟩
        · exact hc e he c4
        · exact hc e he c4.symm
end Go.Proofs.Ytdbnpghckgmaoaa.TP

/- Sets that only grow together: how the lists of parents, sizes and least ones stand to the document's list of least ones. -/
namespace Go.Proofs.Ytdbnpghckgmaoaa.JP
set_option linter.unusedVariables false
set_option linter.unusedSimpArgs false
set_option linter.unusedSectionVars false

def cnt (w : List Int) (v : Int) : Nat := ((List.range w.length).filter fun i => g w (i : Nat) = v).length
def fix (w : List Int) : Nat := ((List.range w.length).filter fun i => 1 ≤ i ∧ g w (i : Nat) = (i : Int)).length

def rhas (w : List Int) (a : Int) : Prop := 1 ≤ a ∧ a < w.length
instance (w : List Int) (a : Int) : Decidable (rhas w a) := by unfold rhas; infer_instance
def lo (w : List Int) (a b : Int) : Int := if g w b < g w a then g w b else g w a
def hi (w : List Int) (a b : Int) : Int := if g w b < g w a then g w a else g w b
def glue (w : List Int) (l h : Int) : List Int := (List.range w.length).map fun i => if 0 < i ∧ g w (i : Nat) = h then l else g w (i : Nat)
def runite (w : List Int) (a b : Int) : List Int × Bool :=
  if rhas w a ∧ rhas w b ∧ g w a ≠ g w b then (glue w (lo w a b) (hi w a b), true) else (w, false)

/-- A list of least ones. -/
structure WOk (w : List Int) : Prop where
  zero : g w 0 = 0
  pos : 0 < w.length
  low : ∀ x, In w x → 1 ≤ x → 1 ≤ g w x
  le : ∀ x, In w x → 0 ≤ g w x ∧ g w x ≤ x
  idem : ∀ x, In w x → g w (g w x) = g w x

structure JInv (m : Int → Nat) (U S L : List Int) (k : Int) (w : List Int) : Prop where
  wf : Wf m U
  lu : U.length = w.length
  ls : S.length = w.length
  ll : L.length = w.length
  wok : WOk w
  rep : ∀ x r, In w x → Root U x r → g L r = g w x ∧ g S r = (cnt w (g w x) : Nat)
  same : ∀ x y r q, In w x → In w y → Root U x r → Root U y q → (r = q ↔ g w x = g w y)
  sets : k = (fix w : Nat)

theorem cnt_le (w : List Int) (v : Int) : cnt w v ≤ w.length := by
  unfold cnt; exact Nat.le_trans (List.length_filter_le _ _) (by simp)
theorem fix_le (w : List Int) : fix w ≤ w.length := by
  unfold fix; exact Nat.le_trans (List.length_filter_le _ _) (by simp)

theorem g_map_range (n : Nat) (f : Nat → Int) {x : Int} (h0 : 0 ≤ x) (h : x < n) : g ((List.range n).map f) x = f x.toNat := by
  have : x.toNat < n := by omega
  simp [g, List.getD, this]
theorem glue_length (w l h) : (glue w l h).length = w.length := by simp [glue]
theorem glue_g {w : List Int} {l h x : Int} (hx : In w x) : g (glue w l h) x = if 0 < x ∧ g w x = h then l else g w x := by
  unfold glue
  rw [g_map_range _ _ hx.1 hx.2]
  have e : ((x.toNat : Nat) : Int) = x := by have := hx.1; omega
  rw [e]
  have : (0 < x.toNat) ↔ (0 < x) := by omega
  simp only [this]

/-- The roots stay when a way is halved, so all that is told stays. -/
theorem JInv.top {m : Int → Nat} {U S L : List Int} {k : Int} {w : List Int} (h : JInv m U S L k w) {a : Int} (ha : In w a) :
    JInv m (topS (m a) U a).1 S L k w ∧ Root (topS (m a) U a).1 a (topS (m a) U a).2 ∧ Root U a (topS (m a) U a).2 ∧ (∀ x r, In w x → Root U x r → Root (topS (m a) U a).1 x r) := by
  have hin : ∀ x, In U x ↔ In w x := fun x => by simp [In, h.lu]
  obtain ⟨t1, t2, t3, t4⟩ := topS_spec (m a) h.wf ((hin a).2 ha) (Nat.le_refl _)
  have back : ∀ x r, In w x → Root (topS (m a) U a).1 x r → Root U x r := fun x r hx hr => by
    obtain ⟨q, hq⟩ := Root.ex h.wf _ x (Nat.lt_succ_self _) ((hin x).2 hx)
    rw [(t3 x q ((hin x).2 hx) hq).uniq hr]; exact hq
  refine ⟨⟨t1, t2.trans h.lu, h.ls, h.ll, h.wok, fun x r hx hr => h.rep x r hx (back x r hx hr), fun x y r q hx hy hr hq => h.same x y r q hx hy (back x r hx hr) (back y q hy hq), h.sets⟩, t3 a _ ((hin a).2 ha) t4, t4, fun x r hx hr => t3 x r ((hin x).2 hx) hr⟩

theorem filter_split {α : Type} (p q : α → Bool) (l : List α) (h : ∀ x ∈ l, ¬ (p x = true ∧ q x = true)) : (l.filter fun x => p x || q x).length = (l.filter p).length + (l.filter q).length := by
  induction l with
  | nil => rfl
  | cons a l ih =>
    have ih' := ih fun x hx => h x (by simp [hx])
    have ha := h a (by simp)
    simp only [List.filter_cons]
    cases hp : p a <;> cases hq : q a <;> simp_all <;> omega

theorem cnt_pos {w : List Int} {x : Int} (hx : In w x) : 0 < cnt w (g w x) := by
  unfold cnt
  refine List.length_pos_iff.2 (List.ne_nil_of_mem (a := x.toNat) (List.mem_filter.2 ⟨?_, ?_⟩))
  · have := hx.1; have := hx.2; simp; omega
  · have : ((x.toNat : Nat) : Int) = x := by have := hx.1; omega
    simp [this]

section
variable {w : List Int} {l h : Int} (hw : WOk w) (hl : 1 ≤ l) (hlh : l < h) (hli : In w l) (hhi : In w h) (hgl : g w l = l) (hgh : g w h = h)
include hw hl hlh hli hhi hgl hgh
theorem glue_ok : WOk (glue w l h) := by
  have hin : ∀ x, In (glue w l h) x ↔ In w x := fun x => by simp [In, glue_length]
  refine ⟨?_, by rw [glue_length]; exact hw.pos, ?_, ?_, ?_⟩
  · have : In w 0 := ⟨by omega, by have := hw.pos; omega⟩
    rw [glue_g this]; simp [hw.zero]
  · intro x hx h1
    rw [hin] at hx; rw [glue_g hx]; split
    · exact hl
    · exact hw.low x hx h1
  · intro x hx
    rw [hin] at hx; rw [glue_g hx]
    have := hw.le x hx
    split
    · rename_i hc; omega
    · exact this
  · intro x hx
    rw [hin] at hx
    have h1 := hw.le x hx
    have hgx : In w (g w x) := ⟨h1.1, by have := hx.2; omega⟩
    rw [glue_g hx]
    split
    · rw [glue_g hli, hgl]; split <;> omega
    · rename_i hc
      rw [glue_g hgx, hw.idem x hx]
      split
      · rename_i hd
        exfalso
        by_cases hx0 : 0 < x
        · exact hc ⟨hx0, hd.2⟩
        · obtain rfl : x = 0 := by have := hx.1; omega
          rw [hw.zero] at hd; omega
      · rfl
theorem glue_val {x : Int} (hx : In w x) : g (glue w l h) x = if g w x = h then l else g w x := by
  rw [glue_g hx]
  by_cases h1 : g w x = h
  · have : 0 < x := by
      by_cases hx0 : 0 < x
      · exact hx0
      · obtain rfl : x = 0 := by have := hx.1; omega
        rw [hw.zero] at h1; omega
    rw [if_pos ⟨this, h1⟩, if_pos h1]
  · rw [if_neg (fun h => h1 h.2), if_neg h1]
theorem glue_cnt_l : cnt (glue w l h) l = cnt w l + cnt w h := by
  unfold cnt
  rw [glue_length, ← filter_split]
  · congr 1
    refine List.filter_congr fun i hi => ?_
    have hi' : In w (i : Nat) := ⟨by omega, by simpa using hi⟩
    rw [glue_val hw hl hlh hli hhi hgl hgh hi']
    by_cases h1 : g w (i : Nat) = h
    · simp [h1]
    · simp [h1]
  · intro x _ hc
    simp only [decide_eq_true_eq] at hc
    omega
theorem glue_cnt_o {v : Int} (h1 : v ≠ l) (h2 : v ≠ h) : cnt (glue w l h) v = cnt w v := by
  unfold cnt
  rw [glue_length]
  congr 1
  refine List.filter_congr fun i hi => ?_
  have hi' : In w (i : Nat) := ⟨by omega, by simpa using hi⟩
  rw [glue_val hw hl hlh hli hhi hgl hgh hi']
  by_cases h3 : g w (i : Nat) = h
  · simp [h3, Ne.symm h1, Ne.symm h2]
  · simp [h3]
theorem glue_fix : fix (glue w l h) + 1 = fix w := by
  unfold fix
  rw [glue_length]
  have e : (List.range w.length).filter (fun i => decide (1 ≤ i ∧ g w (i : Nat) = (i : Int))) = (List.range w.length).filter (fun i => decide (1 ≤ i ∧ g (glue w l h) (i : Nat) = (i : Int)) || decide (i = h.toNat)) := by
    refine List.filter_congr fun i hi => ?_
    have hi' : In w (i : Nat) := ⟨by omega, by simpa using hi⟩
    rw [glue_val hw hl hlh hli hhi hgl hgh hi', Bool.eq_iff_iff]
    simp only [decide_eq_true_eq, Bool.or_eq_true]
    by_cases h3 : g w (i : Nat) = h
    · rw [if_pos h3]
      constructor
      · rintro ⟨a, b⟩; exact .inr (by omega)
      · rintro (⟨a, b⟩ | b)
        · exfalso
          rw [← b] at h3; omega
        · exact ⟨by omega, by omega⟩
    · rw [if_neg h3]
      constructor
      · exact .inl
      · rintro (a | b)
        · exact a
        · exfalso
          have : ((i : Nat) : Int) = h := by have := hhi.1; omega
          rw [this] at h3; exact h3 hgh
  rw [e, filter_split]
  · have : (List.range w.length).filter (fun i => decide (i = h.toNat)) = [h.toNat] := by
      have hlt : h.toNat < w.length := by have := hhi.1; have := hhi.2; omega
      generalize w.length = n at hlt
      induction n with
      | zero => omega
      | succ n ih =>
        rw [List.range_succ, List.filter_append]
        by_cases e : h.toNat = n
        · have : (List.range n).filter (fun i => decide (i = h.toNat)) = [] := by
            refine List.filter_eq_nil_iff.2 fun x hx => ?_
            simp at hx ⊢; omega
          rw [this]; simp [e]
        · rw [ih (by omega)]
          have : n ≠ h.toNat := by omega
          simp [this]
    rw [this]; rfl
  · intro i hi hc
    simp only [decide_eq_true_eq] at hc
    obtain ⟨⟨a, b⟩, c⟩ := hc
    have hi' : In w (i : Nat) := ⟨by omega, by simpa using hi⟩
    have e2 : ((i : Nat) : Int) = h := by have := hhi.1; omega
    rw [glue_val hw hl hlh hli hhi hgl hgh hi', e2, hgh, if_pos rfl] at b
    omega
end

open Classical in
/-- A root is hung under another one. -/
theorem hang {m : Int → Nat} {U : List Int} (hw : Wf m U) {p q : Int} (hp : In U p) (hq : In U q) (hpp : g U p = p) (hqq : g U q = q) (hne : p ≠ q) :
    ∃ m', Wf m' (U.set q.toNat p) ∧ ∀ x r, In U x → Root U x r → Root (U.set q.toNat p) x (if r = q then p else r) := by
  have e1 : g (U.set q.toNat p) q = p := g_set_same hq
  have e2 : ∀ x, 0 ≤ x → x ≠ q → g (U.set q.toNat p) x = g U x := fun x hx h => g_set_other hq.1 hx h
  have hin : ∀ x, In (U.set q.toNat p) x ↔ In U x := fun x => by simp [In]
  refine ⟨fun x => if Root U x q then m x + m p + 1 else m x, fun i hi => ?_, ?_⟩
  · rw [hin] at hi
    rw [hin]
    by_cases e : i = q
    · subst e
      rw [e1]
      refine ⟨hp, .inr ?_⟩
      have h1 : ¬ Root U p i := fun h => by cases h with
        | here _ => exact hne rfl
        | up h _ => exact h hpp
      have h2 : Root U i i := .here hqq
      show (if Root U p i then m p + m p + 1 else m p) < (if Root U i i then m i + m p + 1 else m i)
      rw [if_neg h1, if_pos h2]; omega
    · rw [e2 i hi.1 e]
      obtain ⟨h1, h2⟩ := hw i hi
      refine ⟨h1, ?_⟩
      by_cases h3 : g U i = i
      · exact .inl h3
      · refine .inr ?_
        have h4 := h2.resolve_left h3
        have h5 : Root U i q ↔ Root U (g U i) q := ⟨fun h => by cases h with
          | here h => exact absurd h h3
          | up _ h => exact h, fun h => .up h3 h⟩
        show (if Root U (g U i) q then m (g U i) + m p + 1 else m (g U i)) < (if Root U i q then m i + m p + 1 else m i)
        by_cases h6 : Root U i q
        · rw [if_pos h6, if_pos (h5.1 h6)]; omega
        · rw [if_neg h6, if_neg (fun h => h6 (h5.2 h))]; exact h4
  · intro x r hx hr
    have hpr : Root (U.set q.toNat p) p p := .here (by rw [e2 p hp.1 hne]; exact hpp)
    induction hr with
    | @here a h =>
      by_cases e : a = q
      · rw [if_pos e]; subst e
        exact .up (by rw [e1]; exact hne) (by rw [e1]; exact hpr)
      · rw [if_neg e]; exact .here (by rw [e2 a hx.1 e]; exact h)
    | @up a r h hr ih =>
      have e : a ≠ q := fun e => h (e ▸ hqq)
      exact .up (by rw [e2 a hx.1 e]; exact h) (by rw [e2 a hx.1 e]; exact ih (hw a hx).1)

theorem g_root {w : List Int} {U : List Int} {m : Int → Nat} (hw : Wf m U) (hl : U.length = w.length) {x r : Int} (hx : In w x) (h : Root U x r) : In w r := by
  have : In U r := h.inn hw (by simpa [In, hl] using hx)
  simpa [In, hl] using this

/-- Two sets are joined. -/
theorem JInv.join {m : Int → Nat} {U S L : List Int} {k : Int} {w : List Int} (h : JInv m U S L k w) {a b ra rb p q : Int} (ha : rhas w a) (hb : rhas w b) (hra : Root U a ra) (hrb : Root U b rb) (hne : ra ≠ rb)
    (hpq : (p = ra ∧ q = rb) ∨ (p = rb ∧ q = ra)) :
    ∃ m', JInv m' (U.set q.toNat p) (S.set p.toNat (g S p + g S q)) (L.set p.toNat (if g L q < g L p then g L q else g L p)) (k - 1) (runite w a b).1 ∧ (runite w a b).2 = true ∧ In w p ∧ In w q ∧ 0 ≤ g S p ∧ 0 ≤ g S q ∧ g S p + g S q ≤ w.length ∧ k ≤ w.length ∧ 1 ≤ k := by
  have hia : In w a := ⟨by have := ha.1; omega, ha.2⟩
  have hib : In w b := ⟨by have := hb.1; omega, hb.2⟩
  have hwne : g w a ≠ g w b := fun e => hne ((h.same a b ra rb hia hib hra hrb).2 e)
  -- p, q are the roots of some c, d
  obtain ⟨c, d, hc, hd, hrc, hrd, hcd⟩ : ∃ c d, rhas w c ∧ rhas w d ∧ Root U c p ∧ Root U d q ∧ ((c = a ∧ d = b) ∨ (c = b ∧ d = a)) := by
    rcases hpq with ⟨rfl, rfl⟩ | ⟨rfl, rfl⟩
    · exact ⟨a, b, ha, hb, hra, hrb, .inl ⟨rfl, rfl⟩⟩
    · exact ⟨b, a, hb, ha, hrb, hra, .inr ⟨rfl, rfl⟩⟩
  have hic : In w c := ⟨by have := hc.1; omega, hc.2⟩
  have hid : In w d := ⟨by have := hd.1; omega, hd.2⟩
  have hpn : p ≠ q := by rcases hpq with ⟨rfl, rfl⟩ | ⟨rfl, rfl⟩; exact hne; exact Ne.symm hne
  have hip := g_root h.wf h.lu hic hrc
  have hiq := g_root h.wf h.lu hid hrd
  have hipU : In U p := by simpa [In, h.lu] using hip
  have hiqU : In U q := by simpa [In, h.lu] using hiq
  obtain ⟨r1, r2⟩ := h.rep c p hic hrc
  obtain ⟨s1, s2⟩ := h.rep d q hid hrd
  have hcdw : g w c ≠ g w d := by rcases hcd with ⟨rfl, rfl⟩ | ⟨rfl, rfl⟩; exact hwne; exact Ne.symm hwne
  have hrun : runite w a b = (glue w (lo w a b) (hi w a b), true) := by unfold runite; rw [if_pos ⟨ha, hb, hwne⟩]
  have hla := h.wok.le a hia
  have hlb := h.wok.le b hib
  have hpa := h.wok.low a hia ha.1
  have hpb := h.wok.low b hib hb.1
  have hga : In w (g w a) := ⟨hla.1, by have := hia.2; omega⟩
  have hgb : In w (g w b) := ⟨hlb.1, by have := hib.2; omega⟩
  obtain ⟨l, hl⟩ : ∃ l, l = lo w a b := ⟨_, rfl⟩
  obtain ⟨hh, hhe⟩ : ∃ hh, hh = hi w a b := ⟨_, rfl⟩
  have hcases : (l = g w a ∧ hh = g w b ∧ g w a < g w b) ∨ (l = g w b ∧ hh = g w a ∧ g w b < g w a) := by
    rw [hl, hhe]; unfold lo hi; by_cases hlt : g w b < g w a
    · rw [if_pos hlt, if_pos hlt]; exact .inr ⟨rfl, rfl, hlt⟩
    · rw [if_neg hlt, if_neg hlt]; exact .inl ⟨rfl, rfl, by omega⟩
  have q1 : 1 ≤ l := by rcases hcases with ⟨rfl, _⟩ | ⟨rfl, _⟩; exact hpa; exact hpb
  have q2 : l < hh := by rcases hcases with ⟨rfl, rfl, x⟩ | ⟨rfl, rfl, x⟩ <;> exact x
  have q3 : In w l := by rcases hcases with ⟨rfl, _⟩ | ⟨rfl, _⟩; exact hga; exact hgb
  have q4 : In w hh := by rcases hcases with ⟨_, rfl, _⟩ | ⟨_, rfl, _⟩; exact hgb; exact hga
  have q5 : g w l = l := by rcases hcases with ⟨rfl, _⟩ | ⟨rfl, _⟩; exact h.wok.idem a hia; exact h.wok.idem b hib
  have q6 : g w hh = hh := by rcases hcases with ⟨_, rfl, _⟩ | ⟨_, rfl, _⟩; exact h.wok.idem b hib; exact h.wok.idem a hia
  have hset : (l = g w c ∧ hh = g w d) ∨ (l = g w d ∧ hh = g w c) := by
    rcases hcd with ⟨rfl, rfl⟩ | ⟨rfl, rfl⟩ <;> rcases hcases with ⟨x, y, _⟩ | ⟨x, y, _⟩
    · exact .inl ⟨x, y⟩
    · exact .inr ⟨x, y⟩
    · exact .inr ⟨x, y⟩
    · exact .inl ⟨x, y⟩
  have hin : ∀ x, In (glue w l hh) x ↔ In w x := fun x => by simp [In, glue_length]
  have hinU : ∀ x, In U x ↔ In w x := fun x => by simp [In, h.lu]
  have hv : ∀ x, In w x → g (glue w l hh) x = if g w x = hh then l else g w x := fun x hx => glue_val h.wok q1 q2 q3 q4 q5 q6 hx
  have hval : ∀ x, In w x → g (glue w l hh) x = if g w x = g w c ∨ g w x = g w d then l else g w x := fun x hx => by
    rw [hv x hx]
    rcases hset with ⟨e1, e2⟩ | ⟨e1, e2⟩ <;> rw [e1, e2] <;> by_cases h1 : g w x = g w c <;> by_cases h2 : g w x = g w d <;> simp_all
  obtain ⟨m', hw', hr'⟩ := hang h.wf hipU hiqU hrc.root hrd.root hpn
  have hcnt : (cnt (glue w l hh) l : Int) = g S p + g S q := by
    rw [glue_cnt_l h.wok q1 q2 q3 q4 q5 q6, r2, s2]
    rcases hset with ⟨e1, e2⟩ | ⟨e1, e2⟩ <;> rw [e1, e2] <;> push_cast <;> omega
  have hmin : (if g L q < g L p then g L q else g L p) = l := by
    rw [r1, s1]
    rcases hset with ⟨e1, e2⟩ | ⟨e1, e2⟩
    · rw [if_neg (by omega)]; exact e1.symm
    · rw [if_pos (by omega)]; exact e1.symm
  have hipS : In S p := by simpa [In, h.ls] using hip
  have hipL : In L p := by simpa [In, h.ll] using hip
  have hfix := glue_fix h.wok q1 q2 q3 q4 q5 q6
  have hroot : ∀ x r, In w x → Root (U.set q.toNat p) x r → ∃ r0, Root U x r0 ∧ r = if r0 = q then p else r0 := fun x r hx hr => by
    obtain ⟨r0, h0⟩ := Root.ex h.wf _ x (Nat.lt_succ_self _) ((hinU x).2 hx)
    exact ⟨r0, h0, (hr' x r0 ((hinU x).2 hx) h0).uniq hr⟩
  have hkw := fix_le w
  refine ⟨m', ?_, by rw [hrun], hip, hiq, by rw [r2]; omega, by rw [s2]; omega, ?_, by rw [h.sets]; omega, by rw [h.sets]; omega⟩
  · rw [hrun, ← hl, ← hhe]
    show JInv m' _ _ _ _ (glue w l hh)
    refine ⟨hw', by simp [glue_length, h.lu], by simp [glue_length, h.ls], by simp [glue_length, h.ll], glue_ok h.wok q1 q2 q3 q4 q5 q6, ?_, ?_, by rw [h.sets]; omega⟩
    · intro x r hx hr
      rw [hin] at hx
      obtain ⟨r0, h0, rfl⟩ := hroot x r hx hr
      obtain ⟨t1, t2⟩ := h.rep x r0 hx h0
      have hir := g_root h.wf h.lu hx h0
      rw [hval x hx]
      by_cases eq : r0 = q
      · rw [if_pos eq, g_set_same hipL, g_set_same hipS, hmin]
        have : g w x = g w d := (h.same x d r0 q hx hid h0 hrd).1 eq
        rw [if_pos (.inr this)]
        exact ⟨rfl, hcnt.symm⟩
      · rw [if_neg eq]
        by_cases ep : r0 = p
        · subst ep
          rw [g_set_same hipL, g_set_same hipS, hmin]
          have : g w x = g w c := (h.same x c r0 r0 hx hic h0 hrc).1 rfl
          rw [if_pos (.inl this)]
          exact ⟨rfl, hcnt.symm⟩
        · rw [g_set_other hip.1 hir.1 ep, g_set_other hip.1 hir.1 ep, t1, t2]
          have n1 : g w x ≠ g w c := fun e => ep ((h.same x c r0 p hx hic h0 hrc).2 e)
          have n2 : g w x ≠ g w d := fun e => eq ((h.same x d r0 q hx hid h0 hrd).2 e)
          rw [if_neg (by simp [n1, n2])]
          refine ⟨rfl, ?_⟩
          rw [glue_cnt_o h.wok q1 q2 q3 q4 q5 q6]
          · rcases hset with ⟨e1, e2⟩ | ⟨e1, e2⟩ <;> rw [e1] <;> assumption
          · rcases hset with ⟨e1, e2⟩ | ⟨e1, e2⟩ <;> rw [e2] <;> assumption
    · intro x y r t hx hy hr ht
      rw [hin] at hx hy
      obtain ⟨r0, h0, rfl⟩ := hroot x r hx hr
      obtain ⟨t0, h1, rfl⟩ := hroot y t hy ht
      have hxc := h.same x c r0 p hx hic h0 hrc
      have hxd := h.same x d r0 q hx hid h0 hrd
      have hyc := h.same y c t0 p hy hic h1 hrc
      have hyd := h.same y d t0 q hy hid h1 hrd
      have hxy := h.same x y r0 t0 hx hy h0 h1
      have key : ∀ z t0, In w z → (t0 = p ↔ g w z = g w c) → (t0 = q ↔ g w z = g w d) → ((t0 = q ∨ t0 = p) → g (glue w l hh) z = l) ∧ (t0 ≠ q → t0 ≠ p → g (glue w l hh) z = g w z ∧ g w z ≠ l) := by
        intro z t0 hz hc hd
        rw [hval z hz]
        refine ⟨fun ht => if_pos ?_, fun h1 h2 => ?_⟩
        · rcases ht with ht | ht
          · exact .inr (hd.1 ht)
          · exact .inl (hc.1 ht)
        · have n1 : g w z ≠ g w c := fun e => h2 (hc.2 e)
          have n2 : g w z ≠ g w d := fun e => h1 (hd.2 e)
          refine ⟨if_neg (by simp [n1, n2]), ?_⟩
          rcases hset with ⟨e1, _⟩ | ⟨e1, _⟩ <;> rw [e1] <;> assumption
      obtain ⟨kx1, kx2⟩ := key x r0 hx hxc hxd
      obtain ⟨ky1, ky2⟩ := key y t0 hy hyc hyd
      by_cases hxx : r0 = q ∨ r0 = p
      · have ex : (if r0 = q then p else r0) = p := by split; rfl; rename_i h1; exact hxx.resolve_left h1
        rw [ex, kx1 hxx]
        by_cases hyy : t0 = q ∨ t0 = p
        · have ey : (if t0 = q then p else t0) = p := by split; rfl; rename_i h1; exact hyy.resolve_left h1
          rw [ey, ky1 hyy]; simp
        · have y1 : t0 ≠ q := fun e => hyy (.inl e)
          have y2 : t0 ≠ p := fun e => hyy (.inr e)
          obtain ⟨e1, e2⟩ := ky2 y1 y2
          rw [if_neg y1, e1]
          exact ⟨fun e => absurd e.symm y2, fun e => absurd e.symm e2⟩
      · have x1 : r0 ≠ q := fun e => hxx (.inl e)
        have x2 : r0 ≠ p := fun e => hxx (.inr e)
        obtain ⟨e1, e2⟩ := kx2 x1 x2
        rw [if_neg x1, e1]
        by_cases hyy : t0 = q ∨ t0 = p
        · have ey : (if t0 = q then p else t0) = p := by split; rfl; rename_i h1; exact hyy.resolve_left h1
          rw [ey, ky1 hyy]
          exact ⟨fun e => absurd e x2, fun e => absurd e e2⟩
        · have y1 : t0 ≠ q := fun e => hyy (.inl e)
          have y2 : t0 ≠ p := fun e => hyy (.inr e)
          obtain ⟨e3, _⟩ := ky2 y1 y2
          rw [if_neg y1, e3]
          exact hxy
  · rw [← hcnt]; have := cnt_le (glue w l hh) l; rw [glue_length] at this; omega
end Go.Proofs.Ytdbnpghckgmaoaa.JP

/- Forests, plain: who is reached, round by round and one behind the other; ways by those ahead; lists of nodes. -/
namespace Go.Proofs.Ytdbnpghckgmaoaa.TP
set_option linter.unusedVariables false
set_option linter.unusedSimpArgs false
set_option linter.unusedSectionVars false
open JP (g In)
/-! ### rounds -/
theorem Way.pre {l : List E} {a x : Int} {p : List Int} (h : Way l a x p) (hl : 2 ≤ p.length) : ∃ y q, Way l a y q ∧ q.length + 1 = p.length ∧ Adj l y x := by
  have hr := h.rev
  cases hr' : p.reverse with
  | nil => rw [List.reverse_eq_nil_iff] at hr'; subst hr'; simp at hl
  | cons z t =>
    rw [hr'] at hr
    have hlen := congrArg List.length hr'
    simp only [List.length_reverse, List.length_cons] at hlen
    cases hr with
    | one => simp at hlen; omega
    | cons ha hn r => exact ⟨_, _, r.rev, by simp; omega, ha.symm⟩
/-- What is reached after some rounds. -/
structure Rnd (l : List E) (a : Int) (n : Nat) (r : Nat → Bool) : Prop where
  sound : ∀ i, r i = true → Conn l a (i : Nat)
  far : ∀ x p, Way l a x p → p.length ≤ n + 1 → r x.toNat = true
/-- And in the midst of one. -/
structure Mid (l : List E) (a : Int) (n i : Nat) (r : Nat → Bool) : Prop where
  sound : ∀ i, r i = true → Conn l a (i : Nat)
  far : ∀ x p, Way l a x p → p.length ≤ n + 1 → r x.toNat = true
  more : ∀ x p y e, Way l a x p → p.length ≤ n + 1 → e ∈ l.take i → e.has x y → r y.toNat = true
variable {l : List E} {a : Int}
theorem Rnd.start {r : Nat → Bool} (ha : Node a) (hr : ∀ i, r i = true ↔ (i : Int) = a) : Rnd l a 0 r where
  sound i h := by rw [(hr i).1 h]; exact .refl _
  far x p h hp := by
    cases h with
    | one => exact (hr _).2 (by have := ha.1; omega)
    | cons _ _ r' => obtain ⟨t, ht⟩ := r'.head; subst ht; simp at hp
theorem Rnd.mid {n : Nat} {r : Nat → Bool} (h : Rnd l a n r) : Mid l a n 0 r := ⟨h.sound, h.far, fun x p y e _ _ he => by simp at he⟩
theorem Mid.rnd {n i : Nat} {r : Nat → Bool} (h : Mid l a n i r) (hi : l.length ≤ i) : Rnd l a (n + 1) r where
  sound := h.sound
  far x p hw hp := by
    by_cases hs : p.length ≤ n + 1
    · exact h.far x p hw hs
    · obtain ⟨y, q, hq, hql, e, he, hh⟩ := hw.pre (by omega)
      exact h.more y q x e hq (by omega) (by rw [List.take_of_length_le hi]; exact he) hh
theorem Mid.skip {n i : Nat} {r : Nat → Bool} {e : E} (h : Mid l a n i r) (he : l[i]? = some e) (h1 : r e.a.toNat = false) (h2 : r e.b.toNat = false) : Mid l a n (i + 1) r where
  sound := h.sound
  far := h.far
  more x p y f hw hp hf hh := by
    rw [List.take_add_one, he] at hf
    rcases List.mem_append.1 hf with hf | hf
    · exact h.more x p y f hw hp hf hh
    · obtain rfl : f = e := by simpa using hf
      have := h.far x p hw hp
      rcases hh with ⟨h3, _⟩ | ⟨_, h3⟩ <;> rw [← h3] at this <;> simp_all
theorem Mid.next {n i : Nat} {r : Nat → Bool} {e : E} (h : Mid l a n i r) (he : l[i]? = some e) (hn : Node e.a ∧ Node e.b) (h1 : r e.a.toNat = true ∨ r e.b.toNat = true) :
    Mid l a n (i + 1) (fun j => decide (j = e.b.toNat) || (decide (j = e.a.toNat) || r j)) where
  sound j hj := by
    have hm : e ∈ l := List.mem_of_getElem? he
    have n1 : ((e.a.toNat : Nat) : Int) = e.a := by have := hn.1.1; omega
    have n2 : ((e.b.toNat : Nat) : Int) = e.b := by have := hn.2.1; omega
    have s : Conn l e.a e.b := .one ⟨e, hm, .inl ⟨rfl, rfl⟩⟩
    have c : Conn l a e.a ∧ Conn l a e.b := by
      rcases h1 with h1 | h1
      · have := h.sound _ h1; rw [n1] at this; exact ⟨this, this.trans s⟩
      · have := h.sound _ h1; rw [n2] at this; exact ⟨this.trans s.symm, this⟩
    simp only [Bool.or_eq_true, decide_eq_true_eq] at hj
    rcases hj with rfl | rfl | hj
    · rw [n2]; exact c.2
    · rw [n1]; exact c.1
    · exact h.sound j hj
  far x p hw hp := by simp [h.far x p hw hp]
  more x p y f hw hp hf hh := by
    rw [List.take_add_one, he] at hf
    rcases List.mem_append.1 hf with hf | hf
    · simp [h.more x p y f hw hp hf hh]
    · obtain rfl : f = e := by simpa using hf
      rcases hh with ⟨_, h3⟩ | ⟨h3, _⟩ <;> simp [h3]
noncomputable def reachB (l : List E) (a : Int) (i : Nat) : Bool := open Classical in decide (Node a ∧ Conn l a i)
theorem reachB_iff {i : Nat} : reachB l a i = true ↔ Node a ∧ Conn l a i := by simp [reachB]
theorem Rnd.done {r : Nat → Bool} (hl : ∀ e ∈ l, Node e.a ∧ Node e.b) (ha : Node a) {n : Nat} (hn : 63 ≤ n) (h : Rnd l a n r) : ∀ i, r i = reachB l a i := fun i => by
  rw [Bool.eq_iff_iff, reachB_iff]
  refine ⟨fun hr => ⟨ha, h.sound i hr⟩, fun ⟨_, hc⟩ => ?_⟩
  obtain ⟨p, hp⟩ := Way.ex hc
  have := hp.short hl ha
  exact h.far i p hp (by omega)
/-! ### lists of nodes -/
def lkN (f : Nat → Bool) : Nat → List Int
  | 0 => []
  | k + 1 => lkN f k ++ if f (k + 1) = true then [((k + 1 : Nat) : Int)] else []
theorem lkN_mem {f : Nat → Bool} {x : Int} : ∀ {k : Nat}, x ∈ lkN f k ↔ 1 ≤ x ∧ x ≤ k ∧ f x.toNat = true
  | 0 => by simp [lkN]; omega
  | k + 1 => by
    rw [lkN, List.mem_append, lkN_mem (k := k)]
    by_cases hf : f (k + 1) = true
    · rw [if_pos hf, List.mem_singleton]
      constructor
      · rintro (⟨h1, h2, h3⟩ | rfl)
        · exact ⟨h1, by omega, h3⟩
        · exact ⟨by omega, Int.le_refl _, by simpa using hf⟩
      · rintro ⟨h1, h2, h3⟩
        by_cases hx : x = ((k + 1 : Nat) : Int)
        · exact .inr hx
        · exact .inl ⟨h1, by omega, h3⟩
    · rw [if_neg hf]
      constructor
      · rintro (⟨h1, h2, h3⟩ | h)
        · exact ⟨h1, by omega, h3⟩
        · cases h
      · rintro ⟨h1, h2, h3⟩
        by_cases hx : x = ((k + 1 : Nat) : Int)
        · subst hx; exact absurd h3 (by simpa using hf)
        · exact .inl ⟨h1, by omega, h3⟩
theorem lkN_len {f : Nat → Bool} : ∀ {k : Nat}, (lkN f k).length ≤ k
  | 0 => Nat.le_refl _
  | k + 1 => by
    rw [lkN, List.length_append]
    have := lkN_len (f := f) (k := k)
    split <;> simp <;> omega
theorem lkN_nodup {f : Nat → Bool} : ∀ {k : Nat}, (lkN f k).Nodup
  | 0 => List.nodup_nil
  | k + 1 => by
    rw [lkN, List.nodup_append]
    refine ⟨lkN_nodup, by split <;> simp, fun x hx y hy e => ?_⟩
    subst e
    have := (lkN_mem.1 hx).2.1
    split at hy
    · rw [List.mem_singleton.1 hy] at this; omega
    · cases hy
theorem lkN_congr {f f' : Nat → Bool} : ∀ {k : Nat}, (∀ i, 1 ≤ i → i ≤ k → f i = f' i) → lkN f k = lkN f' k
  | 0, _ => rfl
  | k + 1, h => by rw [lkN, lkN, lkN_congr fun i h1 h2 => h i h1 (by omega), h (k + 1) (by omega) (Nat.le_refl _)]
theorem lkN_split {f f1 f2 : Nat → Bool} : ∀ {k : Nat}, (∀ i, 1 ≤ i → i ≤ k → f i = (f1 i || f2 i)) → (∀ i, 1 ≤ i → i ≤ k → ¬ (f1 i = true ∧ f2 i = true)) → (lkN f k).length = (lkN f1 k).length + (lkN f2 k).length
  | 0, _, _ => rfl
  | k + 1, h, h2 => by
    have ih := lkN_split (k := k) (fun i a b => h i a (by omega)) (fun i a b => h2 i a (by omega))
    have a := h (k + 1) (by omega) (Nat.le_refl _)
    have b := h2 (k + 1) (by omega) (Nat.le_refl _)
    simp only [lkN, List.length_append, ih, a]
    cases h1 : f1 (k + 1) <;> cases h3 : f2 (k + 1) <;> simp_all <;> omega
/-- Those that one is linked to. -/
noncomputable def side (l : List E) (a : Int) : List Int := lkN (reachB l a) 64
theorem side_mem (hl : ∀ e ∈ l, Node e.a ∧ Node e.b) (ha : Node a) {x : Int} : x ∈ side l a ↔ Conn l a x := by
  unfold side
  rw [lkN_mem, reachB_iff]
  constructor
  · rintro ⟨h1, h2, _, h3⟩
    rwa [show ((x.toNat : Nat) : Int) = x from by omega] at h3
  · intro h
    have := h.node hl ha
    exact ⟨this.1, this.2, ha, by rwa [show ((x.toNat : Nat) : Int) = x from by have := this.1; omega]⟩

/-! ### one behind the other -/
structure Bfs (l : List E) (root : Int) (U cl q : List Int) : Prop where
  len : U.length = 65
  ord : q.Nodup
  first : q[0]? = some root
  node : ∀ x ∈ q, Node x
  mem : ∀ x, 0 ≤ x → x ≤ 64 → (g U x ≠ 0 ↔ x ∈ q)
  up : ∀ k x, q[k]? = some x → k ≠ 0 → ∃ j, j < k ∧ q[j]? = some (g U x) ∧ Adj l x (g U x)
  root : g U root = root
  closed : ∀ n ∈ cl, ∀ y, Adj l n y → y ∈ q
theorem g_zeros (n : Nat) (x : Int) : g (List.replicate n 0) x = 0 := by
  unfold g; rw [List.getD_eq_getElem?_getD, List.getElem?_replicate]; split <;> rfl
theorem Bfs.start {root : Int} (hr : Node root) : Bfs l root ((List.replicate 65 (0 : Int)).set root.toNat root) [] [root] where
  len := by simp
  ord := by simp
  first := rfl
  node x h := by rw [List.mem_singleton.1 h]; exact hr
  mem x h0 h1 := by
    have hin : In (List.replicate 65 (0 : Int)) root := ⟨by have := hr.1; omega, by simp; have := hr.2; omega⟩
    by_cases hx : x = root
    · subst hx; rw [JP.g_set_same hin]; simp; have := hr.1; omega
    · rw [JP.g_set_other (by have := hr.1; omega) h0 hx, g_zeros]; simp [hx]
  up k x h hk := by cases k with | zero => exact absurd rfl hk | succ k => simp at h
  root := JP.g_set_same ⟨by have := hr.1; omega, by simp; have := hr.2; omega⟩
  closed n h := by cases h
theorem Bfs.push {root : Int} {U cl q : List Int} (h : Bfs l root U cl q) {n o : Int} (hn : n ∈ q) (ha : Adj l n o) (ho : Node o) (hg : g U o = 0) : Bfs l root (U.set o.toNat n) cl (q ++ [o]) := by
  have hnn := h.node n hn
  have hin : In U o := ⟨by have := ho.1; omega, by rw [h.len]; have := ho.2; omega⟩
  have hoq : o ∉ q := fun hm => (h.mem o (by have := ho.1; omega) ho.2).2 hm hg
  have hoth : ∀ x, x ∈ q → g (U.set o.toNat n) x = g U x := fun x hx => JP.g_set_other (by have := ho.1; omega) (by have := (h.node x hx).1; omega) (fun e => hoq (e ▸ hx))
  have hroot : root ∈ q := List.mem_of_getElem? h.first
  have hql : 0 < q.length := List.length_pos_of_mem hn
  refine ⟨by simp [h.len], ?_, ?_, ?_, ?_, ?_, ?_, ?_⟩
  · rw [List.nodup_append]
    exact ⟨h.ord, by simp, fun x hx y hy e => hoq (by rw [List.mem_singleton.1 hy] at e; exact e ▸ hx)⟩
  · rw [List.getElem?_append_left hql]; exact h.first
  · intro x hx
    rcases List.mem_append.1 hx with hx | hx
    · exact h.node x hx
    · rw [List.mem_singleton.1 hx]; exact ho
  · intro x h0 h1
    by_cases hx : x = o
    · subst hx; rw [JP.g_set_same hin]; simp; have := hnn.1; omega
    · rw [JP.g_set_other (by have := ho.1; omega) h0 hx, h.mem x h0 h1]; simp [hx]
  · intro k x hk hk0
    rcases Nat.lt_or_ge k q.length with hlt | hge
    · rw [List.getElem?_append_left hlt] at hk
      obtain ⟨j, hj, hjq, hadj⟩ := h.up k x hk hk0
      rw [hoth x (List.mem_of_getElem? hk)]
      exact ⟨j, hj, by rw [List.getElem?_append_left (by omega)]; exact hjq, hadj⟩
    · rw [List.getElem?_append_right hge] at hk
      have hk2 : k = q.length := by
        rcases Nat.lt_or_ge (k - q.length) 1 with h1 | h1
        · omega
        · rw [List.getElem?_eq_none (by simpa using h1)] at hk; cases hk
      subst hk2
      obtain rfl : o = x := by simpa using hk
      rw [JP.g_set_same hin]
      obtain ⟨j, hj, hjn⟩ := List.mem_iff_getElem.1 hn
      exact ⟨j, hj, by rw [List.getElem?_append_left hj, List.getElem?_eq_getElem hj, hjn], ha.symm⟩
  · rw [hoth root hroot]; exact h.root
  · intro m hm y hy; exact List.mem_append_left _ (h.closed m hm y hy)
theorem Bfs.close {root : Int} {U cl q : List Int} (h : Bfs l root U cl q) {n : Int} (hc : ∀ y, Adj l n y → y ∈ q) : Bfs l root U (cl ++ [n]) q :=
  ⟨h.len, h.ord, h.first, h.node, h.mem, h.up, h.root, fun m hm y hy => (List.mem_append.1 hm).elim (fun hm => h.closed m hm y hy) (fun hm => by rw [List.mem_singleton.1 hm] at hy; exact hc y hy)⟩
theorem Bfs.done {root : Int} {U q : List Int} (h : Bfs l root U q q) {x : Int} : x ∈ q ↔ Conn l root x := by
  have hroot : root ∈ q := List.mem_of_getElem? h.first
  constructor
  · intro hx
    obtain ⟨k, hk, rfl⟩ := List.mem_iff_getElem.1 hx
    have key : ∀ (k : Nat) (y : Int), q[k]? = some y → Conn l root y := by
      intro k
      induction k using Nat.strongRecOn with
      | ind k ih =>
        intro y hy
        by_cases hk : k = 0
        · subst hk; rw [h.first] at hy; obtain rfl := Option.some.inj hy; exact .refl _
        · obtain ⟨j, hj, hjq, hadj⟩ := h.up k y hy hk
          exact (ih j hj _ hjq).trans (.one hadj.symm)
    exact key k _ (List.getElem?_eq_getElem hk)
  · intro hc
    have key : ∀ {s t : Int}, Conn l s t → s ∈ q → t ∈ q := by
      intro s t hst
      induction hst with
      | refl => exact id
      | step a _ ih => exact fun hs => ih (h.closed _ hs _ a)
    exact key hc hroot
theorem Bfs.reach {root : Int} {U q : List Int} (h : Bfs l root U q q) (hr : Node root) {i : Nat} (hi : i ≤ 64) : decide (g U i ≠ 0) = reachB l root i := by
  rw [Bool.eq_iff_iff, decide_eq_true_iff, reachB_iff, h.mem i (by omega) (by omega), h.done]
  exact ⟨fun h => ⟨hr, h⟩, fun h => h.2⟩
/-- Each one's way by those ahead. -/
inductive Ups (U : List Int) (root : Int) : Int → List Int → Prop
  | one : Ups U root root [root]
  | cons {a : Int} {p : List Int} (hn : a ≠ root) (r : Ups U root (g U a) p) : Ups U root a (a :: p)
theorem Bfs.ups {root : Int} {U cl q : List Int} (h : Bfs l root U cl q) : ∀ {k : Nat} {x : Int}, q[k]? = some x → ∃ p, Ups U root x p ∧ Way l x root p ∧ ∀ y ∈ p, ∃ j, j ≤ k ∧ q[j]? = some y := by
  intro k
  induction k using Nat.strongRecOn with
  | ind k ih =>
    intro x hx
    by_cases hk : k = 0
    · subst hk
      rw [h.first] at hx
      obtain rfl := Option.some.inj hx
      exact ⟨_, .one, .one _, fun y hy => ⟨0, Nat.le_refl _, by rw [List.mem_singleton.1 hy]; exact h.first⟩⟩
    · obtain ⟨j, hj, hjq, hadj⟩ := h.up k x hx hk
      obtain ⟨p, hp1, hp2, hp3⟩ := ih j hj hjq
      have inj : ∀ {i j : Nat} {t : Int}, q[i]? = some t → q[j]? = some t → i = j := fun {i j t} hi hj => by
        obtain ⟨a1, a2⟩ := List.getElem?_eq_some_iff.1 hi
        obtain ⟨b1, b2⟩ := List.getElem?_eq_some_iff.1 hj
        exact (List.getElem_inj (h₀ := a1) (h₁ := b1) h.ord).1 (a2.trans b2.symm)
      refine ⟨x :: p, .cons (fun e => ?_) hp1, .cons hadj (fun hm => ?_) hp2, fun y hy => ?_⟩
      · subst e; exact hk (inj hx h.first)
      · obtain ⟨i, hi, hiq⟩ := hp3 x hm
        have := inj hx hiq; omega
      · rcases List.mem_cons.1 hy with rfl | hy
        · exact ⟨k, Nat.le_refl _, hx⟩
        · obtain ⟨i, hi, hiq⟩ := hp3 y hy
          exact ⟨i, by omega, hiq⟩
end Go.Proofs.Ytdbnpghckgmaoaa.TP

/- Forests, plain: sets that grow together tell who is linked. -/
namespace Go.Proofs.Ytdbnpghckgmaoaa.TP
set_option linter.unusedVariables false
set_option linter.unusedSimpArgs false
set_option linter.unusedSectionVars false
open JP
/-- The lists of least ones tell who is linked. -/
structure Cls (w : List Int) (l : List E) : Prop where
  ok : WOk w
  len : w.length = 65
  eq : ∀ x y, 1 ≤ x → x ≤ 64 → 1 ≤ y → y ≤ 64 → (g w x = g w y ↔ Conn l x y)
theorem Cls.step {w : List Int} {l : List E} {e : E} (h : Cls w l) (ha : Node e.a) (hb : Node e.b) :
    ((runite w e.a e.b).2 = true ∧ Cls (runite w e.a e.b).1 (l ++ [e]) ∧ ¬ Conn l e.a e.b) ∨ ((runite w e.a e.b).2 = false ∧ Conn l e.a e.b) := by
  have ra : rhas w e.a := ⟨ha.1, by rw [h.len]; have := ha.2; omega⟩
  have rb : rhas w e.b := ⟨hb.1, by rw [h.len]; have := hb.2; omega⟩
  have ia : In w e.a := ⟨by have := ha.1; omega, ra.2⟩
  have ib : In w e.b := ⟨by have := hb.1; omega, rb.2⟩
  have hcon := h.eq e.a e.b ha.1 ha.2 hb.1 hb.2
  by_cases hne : g w e.a = g w e.b
  · refine .inr ⟨?_, hcon.1 hne⟩
    unfold runite; rw [if_neg (fun x => x.2.2 hne)]
  · have hr : runite w e.a e.b = (glue w (lo w e.a e.b) (hi w e.a e.b), true) := by unfold runite; rw [if_pos ⟨ra, rb, hne⟩]
    have la := h.ok.low e.a ia ha.1
    have lb := h.ok.low e.b ib hb.1
    have ka := h.ok.le e.a ia
    have kb := h.ok.le e.b ib
    have fa := h.ok.idem e.a ia
    have fb := h.ok.idem e.b ib
    have h64 : w.length = 65 := h.len
    have key : WOk (glue w (lo w e.a e.b) (hi w e.a e.b)) ∧ ∀ x, In w x → g (glue w (lo w e.a e.b) (hi w e.a e.b)) x = if g w x = hi w e.a e.b then lo w e.a e.b else g w x := by
      unfold lo hi
      by_cases hlt : g w e.b < g w e.a
      · rw [if_pos hlt, if_pos hlt]
        exact ⟨glue_ok h.ok lb hlt ⟨by omega, by have := ib.2; omega⟩ ⟨by omega, by have := ia.2; omega⟩ fb fa, fun x hx => glue_val h.ok lb hlt ⟨by omega, by have := ib.2; omega⟩ ⟨by omega, by have := ia.2; omega⟩ fb fa hx⟩
      · rw [if_neg hlt, if_neg hlt]
        have hlt' : g w e.a < g w e.b := by omega
        exact ⟨glue_ok h.ok la hlt' ⟨by omega, by have := ia.2; omega⟩ ⟨by omega, by have := ib.2; omega⟩ fa fb, fun x hx => glue_val h.ok la hlt' ⟨by omega, by have := ia.2; omega⟩ ⟨by omega, by have := ib.2; omega⟩ fa fb hx⟩
    have hlh : (lo w e.a e.b = g w e.a ∧ hi w e.a e.b = g w e.b) ∨ (lo w e.a e.b = g w e.b ∧ hi w e.a e.b = g w e.a) := by
      unfold lo hi
      by_cases hlt : g w e.b < g w e.a
      · rw [if_pos hlt, if_pos hlt]; exact .inr ⟨rfl, rfl⟩
      · rw [if_neg hlt, if_neg hlt]; exact .inl ⟨rfl, rfl⟩
    rw [hr]
    refine .inl ⟨rfl, ⟨key.1, by rw [glue_length]; exact h.len, fun x y hx1 hx2 hy1 hy2 => ?_⟩, fun hc => hne (hcon.2 hc)⟩
    have ix : In w x := ⟨by omega, by omega⟩
    have iy : In w y := ⟨by omega, by omega⟩
    show g (glue w _ _) x = g (glue w _ _) y ↔ _
    rw [key.2 x ix, key.2 y iy]
    have xa := h.eq x e.a hx1 hx2 ha.1 ha.2
    have xb := h.eq x e.b hx1 hx2 hb.1 hb.2
    have ya := h.eq e.a y ha.1 ha.2 hy1 hy2
    have yb := h.eq e.b y hb.1 hb.2 hy1 hy2
    have xy := h.eq x y hx1 hx2 hy1 hy2
    have hadd : Conn (l ++ [e]) x y ↔ Conn l x y ∨ (Conn l x e.a ∧ Conn l e.b y) ∨ (Conn l x e.b ∧ Conn l e.a y) :=
      ⟨fun hc => Conn.add (l := l) (e := e) (fun f hf => (List.mem_append.1 hf).elim .inr (fun hf => .inl (List.mem_singleton.1 hf))) hc, fun hc => Conn.add' (l := l) (e := e) (fun f hf => List.mem_append_left _ hf) (by simp) hc⟩
    rw [hadd, ← xy, ← xa, ← xb, ← ya, ← yb]
    rcases hlh with ⟨e1, e2⟩ | ⟨e1, e2⟩
    · rw [e1, e2]
      by_cases c1 : g w x = g w e.b <;> by_cases c2 : g w y = g w e.b
      · rw [if_pos c1, if_pos c2]; exact ⟨fun _ => .inl (c1.trans c2.symm), fun _ => rfl⟩
      · rw [if_pos c1, if_neg c2]; grind
      · rw [if_neg c1, if_pos c2]; grind
      · rw [if_neg c1, if_neg c2]; grind
    · rw [e1, e2]
      by_cases c1 : g w x = g w e.a <;> by_cases c2 : g w y = g w e.a
      · rw [if_pos c1, if_pos c2]; exact ⟨fun _ => .inl (c1.trans c2.symm), fun _ => rfl⟩
      · rw [if_pos c1, if_neg c2]; grind
      · rw [if_neg c1, if_pos c2]; grind
      · rw [if_neg c1, if_neg c2]; grind
end Go.Proofs.Ytdbnpghckgmaoaa.TP

/- Forests, plain: the heaviest, all that is behind a node, swaps, sides. -/
namespace Go.Proofs.Ytdbnpghckgmaoaa.TP
set_option linter.unusedVariables false
set_option linter.unusedSimpArgs false
set_option linter.unusedSectionVars false
/-! ### the order of edges -/
def less (e f : E) : Prop := e.w < f.w ∨ (e.w = f.w ∧ (e.a < f.a ∨ (e.a = f.a ∧ e.b < f.b)))
instance {e f : E} : Decidable (less e f) := by unfold less; infer_instance
theorem less_irrefl {e : E} : ¬ less e e := by unfold less; omega
theorem less_trans {e f g : E} (h : less e f) (k : less f g) : less e g := by unfold less at *; omega
theorem less_tri (e f : E) : less e f ∨ e = f ∨ less f e := by
  obtain ⟨a, b, w⟩ := e
  obtain ⟨c, d, v⟩ := f
  by_cases h : a = c ∧ b = d ∧ w = v
  · obtain ⟨rfl, rfl, rfl⟩ := h; exact .inr (.inl rfl)
  · unfold less
    simp only
    omega
/-- The last by the order. -/
def Top1 (L : List E) (h : E) : Prop := h ∈ L ∧ ∀ e ∈ L, ¬ less h e
theorem Top1.uniq {L L' : List E} {h h' : E} (hm : ∀ e, e ∈ L ↔ e ∈ L') (a : Top1 L h) (b : Top1 L' h') : h = h' := by
  rcases less_tri h h' with c | c | c
  · exact absurd c (a.2 h' ((hm h').2 b.1))
  · exact c
  · exact absurd c (b.2 h ((hm h).1 a.1))
theorem Top1.one (e : E) : Top1 [e] e := ⟨List.mem_singleton.2 rfl, fun f hf => by rw [List.mem_singleton.1 hf]; exact less_irrefl⟩
theorem Top1.up {L : List E} {h e : E} (a : Top1 L h) (hl : less h e) : Top1 (L ++ [e]) e :=
  ⟨by simp, fun f hf => by
    rcases List.mem_append.1 hf with hf | hf
    · exact fun k => a.2 f hf (less_trans hl k)
    · rw [List.mem_singleton.1 hf]; exact less_irrefl⟩
theorem Top1.stay {L : List E} {h e : E} (a : Top1 L h) (hl : ¬ less h e) : Top1 (L ++ [e]) h :=
  ⟨by simp [a.1], fun f hf => by
    rcases List.mem_append.1 hf with hf | hf
    · exact a.2 f hf
    · rw [List.mem_singleton.1 hf]; exact hl⟩
/-! ### all that is behind a node -/
variable {l : List E}
theorem below_iff (hc : Cut l) {a root w1 : Int} {t : List Int} (hw : Way l a root (a :: w1 :: t)) {e : E} (he : e ∈ l) (hh : e.has a w1) {n : Int} {p : List Int} (hp : Way l root n p) : a ∈ p ↔ Conn (rm l e) a n := by
  have hnd := List.nodup_cons.1 hw.nodup
  have hnd1 := hnd.2
  have hw1 : Way l w1 root (w1 :: t) := hw.back (u := [a]) rfl
  have nocut : ¬ Conn (rm l e) a w1 := fun h => by
    rcases hh with ⟨rfl, rfl⟩ | ⟨rfl, rfl⟩
    · exact hc e he h
    · exact hc e he h.symm
  constructor
  · intro ha
    obtain ⟨u, v, rfl⟩ := List.append_of_mem ha
    have h1 := Way.uniq hc hw.rev (hp.front rfl)
    have hw1u : w1 ∈ u := by
      have hm : w1 ∈ u ++ [a] := by rw [h1]; simp
      rcases List.mem_append.1 hm with hm | hm
      · exact hm
      · exact absurd (by rw [List.mem_singleton.1 hm]; exact List.mem_cons_self) hnd.1
    have hnp := List.nodup_append.1 hp.nodup
    refine (Way.avoid (e := e) (hp.back rfl) fun ho => ?_).conn
    have hv : w1 ∈ a :: v := by
      rcases hh with ⟨_, h1⟩ | ⟨h1, _⟩
      · exact h1 ▸ ho.mem.2
      · exact h1 ▸ ho.mem.1
    exact hnp.2.2 w1 hw1u w1 hv rfl
  · intro hcn
    obtain ⟨q, hq⟩ := Way.ex hcn.symm
    have hr : Way (rm l e) w1 root (w1 :: t) := Way.avoid hw1 fun ho => by
      have : a ∈ w1 :: t := by
        rcases hh with ⟨h1, _⟩ | ⟨_, h1⟩
        · exact h1 ▸ ho.mem.1
        · exact h1 ▸ ho.mem.2
      exact hnd.1 this
    have hall := (hq.mono rm_sub).app hw fun x hx hx2 => by
      have c1 := hq.conn_mem x hx
      have c2 := hr.conn_mem x hx2
      exact nocut (c1.symm.trans (c2.trans hr.conn.symm))
    have := Way.uniq hc hp hall.rev
    rw [← this]
    exact List.mem_reverse.2 (List.mem_append_left _ hq.mem_last)
/-! ### swaps -/
theorem Conn.lift {l' : List E} (h : ∀ f ∈ l, Conn l' f.a f.b) {x y : Int} (hc : Conn l x y) : Conn l' x y := by
  induction hc with
  | refl => exact .refl _
  | step a _ ih =>
    obtain ⟨f, hf, hh⟩ := a
    rcases hh with ⟨rfl, rfl⟩ | ⟨rfl, rfl⟩
    · exact (h f hf).trans ih
    · exact (h f hf).symm.trans ih
theorem swap_ok (hg : Good l) (hc : Cut l) {e h : E} (hem : e.may) (hcon : Conn l e.a e.b) (hh : h ∈ l) (hon : ¬ Conn (rm l h) e.a e.b) :
    (∀ f ∈ rm l h, ¬ (f.a = e.a ∧ f.b = e.b)) ∧ Good (e :: rm l h) ∧ Forest (e :: rm l h) ∧ ∀ x y, Conn l x y ↔ Conn (e :: rm l h) x y := by
  have h1 : ∀ f ∈ rm l h, ¬ (f.a = e.a ∧ f.b = e.b) := fun f hf k => hon (.one ⟨f, hf, .inl k⟩)
  have hgn : Good (e :: rm l h) := ⟨fun f hf => by
      rcases List.mem_cons.1 hf with rfl | hf
      · exact hem
      · exact hg.1 f (rm_sub f hf), List.pairwise_cons.2 ⟨fun f hf k => h1 f hf ⟨k.1.symm, k.2.symm⟩, (hg.rm h).2⟩⟩
  have hnd := hgn.2.nodup
  refine ⟨h1, hgn, ?_, fun x y => ⟨fun hxy => ?_, fun hxy => ?_⟩⟩
  · have c1 : Cut (rm l h) := hc.sub rm_sub
    have f1 : Forest (rm l h) := c1.forest (hg.rm h).2.nodup
    have f2 : Forest (rm l h ++ [e]) := Forest.snoc.2 ⟨f1, hon⟩
    have hn2 : (rm l h ++ [e]).Nodup := by
      rw [List.nodup_append]
      exact ⟨(hg.rm h).2.nodup, by simp, fun f hf g hg' k => by rw [List.mem_singleton.1 hg'] at k; exact (List.nodup_cons.1 hnd).1 (k ▸ hf)⟩
    exact ((f2.cut hn2).sub fun f hf => by
      rcases List.mem_cons.1 hf with rfl | hf
      · simp
      · exact List.mem_append_left _ hf).forest hnd
  · refine hxy.lift fun f hf => ?_
    by_cases hfh : f = h
    · subst hfh
      have s : Conn (e :: rm l f) e.a e.b := .one ⟨e, List.mem_cons_self, .inl ⟨rfl, rfl⟩⟩
      have m : ∀ {x y : Int}, Conn (rm l f) x y → Conn (e :: rm l f) x y := fun h => h.mono fun g hg => List.mem_cons_of_mem _ hg
      rcases Conn.add (l := rm l f) (e := f) (fun g hg => by
        by_cases k : g = f
        · exact .inl k
        · exact .inr (mem_rm.2 ⟨hg, k⟩)) hcon with k | ⟨k1, k2⟩ | ⟨k1, k2⟩
      · exact absurd k hon
      · exact (m k1).symm.trans (s.trans (m k2).symm)
      · exact (m k2).trans (s.symm.trans (m k1))
    · exact .one ⟨f, List.mem_cons_of_mem _ (mem_rm.2 ⟨hf, hfh⟩), .inl ⟨rfl, rfl⟩⟩
  · refine hxy.lift fun f hf => ?_
    rcases List.mem_cons.1 hf with rfl | hf
    · exact hcon
    · exact .one ⟨f, rm_sub f hf, .inl ⟨rfl, rfl⟩⟩
/-! ### sides -/
theorem cut_iff {e : E} (he : e ∈ l) {x : Int} : Conn l e.a x ↔ Conn (rm l e) e.a x ∨ Conn (rm l e) e.b x := by
  constructor
  · intro h
    rcases Conn.add (l := rm l e) (e := e) (fun g hg => by
      by_cases k : g = e
      · exact .inl k
      · exact .inr (mem_rm.2 ⟨hg, k⟩)) h with k | ⟨_, k⟩ | ⟨_, k⟩
    · exact .inl k
    · exact .inr k
    · exact .inl k
  · rintro (h | h)
    · exact h.mono rm_sub
    · exact (Conn.one ⟨e, he, .inl ⟨rfl, rfl⟩⟩).trans (h.mono rm_sub)
theorem cut_apart (hc : Cut l) {e : E} (he : e ∈ l) {x : Int} : ¬ (Conn (rm l e) e.a x ∧ Conn (rm l e) e.b x) := fun h => hc e he (h.1.trans h.2.symm)
theorem cut_len (hg : Good l) (hc : Cut l) {e : E} (he : e ∈ l) : (side l e.a).length = (side (rm l e) e.a).length + (side (rm l e) e.b).length := by
  have hn := hg.1 e he
  unfold side
  refine lkN_split (fun i _ _ => ?_) fun i _ _ h => ?_
  · rw [Bool.eq_iff_iff, Bool.or_eq_true, reachB_iff, reachB_iff, reachB_iff, cut_iff he]
    exact ⟨fun h => h.2.elim (fun k => .inl ⟨hn.1, k⟩) (fun k => .inr ⟨hn.2.1, k⟩), fun h => ⟨hn.1, h.elim (fun k => .inl k.2) (fun k => .inr k.2)⟩⟩
  · rw [reachB_iff, reachB_iff] at h
    exact cut_apart hc he ⟨h.1.2, h.2.2⟩
theorem cut_count (hg : Good l) (hc : Cut l) {e : E} (he : e ∈ l) {x : Int} (hx : x ∈ side l e.a) : (side (rm l e) e.a).count x + (side (rm l e) e.b).count x = 1 := by
  have hn := hg.1 e he
  have hl : ∀ e ∈ l, Node e.a ∧ Node e.b := fun f hf => ⟨(hg.1 f hf).1, (hg.1 f hf).2.1⟩
  have hr : ∀ f ∈ rm l e, Node f.a ∧ Node f.b := fun f hf => hl f (rm_sub f hf)
  rw [side_mem hl hn.1, cut_iff he] at hx
  have n1 : (side (rm l e) e.a).Nodup := lkN_nodup
  have n2 : (side (rm l e) e.b).Nodup := lkN_nodup
  have m1 := side_mem hr hn.1 (x := x)
  have m2 := side_mem hr hn.2.1 (x := x)
  have ap := cut_apart hc he (x := x)
  rw [← m1, ← m2] at hx
  rw [← m1, ← m2] at ap
  rcases hx with hx | hx
  · rw [n1.count, n2.count, if_pos hx, if_neg fun k => ap ⟨hx, k⟩]
  · rw [n1.count, n2.count, if_pos hx, if_neg fun k => ap ⟨k, hx⟩]
end Go.Proofs.Ytdbnpghckgmaoaa.TP

/- Views, plain: which may be, the links that both ends know, the edges that both ends have marked. No program, no memory. -/
namespace Go.Proofs.Ytdbnpghckgmaoaa.VP
set_option linter.unusedVariables false
set_option linter.unusedSimpArgs false
set_option linter.unusedSectionVars false
open TP
structure Kn where
  node : Int
  peer : Int
  w : Int
  ss : Int
  md : Bool
deriving DecidableEq
def Kn.ok (N : List Int) (k : Kn) : Prop := k.node ∈ N ∧ Node k.peer ∧ k.node ≠ k.peer ∧ 0 ≤ k.w ∧ k.w ≤ 2147483647 ∧ 1 ≤ k.ss ∧ k.ss ≤ 2147483647
instance {N : List Int} {k : Kn} : Decidable (k.ok N) := by unfold Kn.ok; infer_instance
def ahead (a b : Kn) : Prop := a.node < b.node ∨ (a.node = b.node ∧ a.peer < b.peer)
instance {a b : Kn} : Decidable (ahead a b) := by unfold ahead; infer_instance
theorem ahead_trans {a b c : Kn} (h : ahead a b) (k : ahead b c) : ahead a c := by unfold ahead at *; omega
theorem ahead_irrefl {a : Kn} : ¬ ahead a a := by unfold ahead; omega
def NOk (N : List Int) : Prop := (∀ x ∈ N, Node x) ∧ N.Pairwise (· < ·)
def LOk (N : List Int) (L : List Kn) : Prop := (∀ k ∈ L, k.ok N) ∧ L.Pairwise ahead
def MayV (N : List Int) (L : List Kn) : Prop := NOk N ∧ LOk N L
theorem pw_snoc {α : Type} {R : α → α → Prop} (ht : ∀ a b c, R a b → R b c → R a c) {l : List α} {i : Nat} {x : α} (hl : (l.take i).Pairwise R) (hx : l[i]? = some x) : (l.take (i + 1)).Pairwise R ↔ (i = 0 ∨ ∃ y, l[i - 1]? = some y ∧ R y x) := by
  have htk : l.take (i + 1) = l.take i ++ [x] := by rw [List.take_add_one, hx]; rfl
  have hlen := (List.getElem?_eq_some_iff.1 hx).1
  rw [htk, List.pairwise_append]
  constructor
  · rintro ⟨_, _, h⟩
    by_cases hi : i = 0
    · exact .inl hi
    · obtain ⟨y, hy⟩ : ∃ y, l[i - 1]? = some y := ⟨_, List.getElem?_eq_getElem (by omega)⟩
      refine .inr ⟨y, hy, h y ?_ x (by simp)⟩
      exact List.mem_of_getElem? (i := i - 1) (by rw [List.getElem?_take, if_pos (by omega)]; exact hy)
  · intro h
    refine ⟨hl, by simp, fun y hy z hz => ?_⟩
    rw [List.mem_singleton] at hz; subst hz
    rcases h with rfl | ⟨u, hu, hux⟩
    · simp at hy
    · obtain ⟨j, hj⟩ := List.mem_iff_getElem?.1 hy
      have hji : j < i := by have := (List.getElem?_eq_some_iff.1 hj).1; rw [List.length_take] at this; omega
      by_cases hjl : j = i - 1
      · rw [List.getElem?_take, if_pos hji, hjl, hu] at hj
        obtain rfl := Option.some.inj hj; exact hux
      · have h2 : (l.take i)[i - 1]? = some u := by rw [List.getElem?_take, if_pos (by omega)]; exact hu
        obtain ⟨a1, a2⟩ := List.getElem?_eq_some_iff.1 hj
        obtain ⟨b1, b2⟩ := List.getElem?_eq_some_iff.1 h2
        have := List.pairwise_iff_getElem.1 hl j (i - 1) a1 b1 (by omega)
        rw [a2, b2] at this
        exact ht _ _ _ this hux
theorem NOk.nodup {N : List Int} (h : NOk N) : N.Nodup := h.2.imp fun h e => by omega
theorem LOk.eq {N : List Int} {L : List Kn} (h : LOk N L) {a b : Kn} (ha : a ∈ L) (hb : b ∈ L) (h1 : a.node = b.node) (h2 : a.peer = b.peer) : a = b := by
  obtain ⟨i, hi⟩ := List.mem_iff_getElem?.1 ha
  obtain ⟨j, hj⟩ := List.mem_iff_getElem?.1 hb
  obtain ⟨a1, a2⟩ := List.getElem?_eq_some_iff.1 hi
  obtain ⟨b1, b2⟩ := List.getElem?_eq_some_iff.1 hj
  have no : ∀ x y : Kn, ahead x y → x.node = y.node → x.peer = y.peer → False := fun x y h e1 e2 => by unfold ahead at h; omega
  rcases Nat.lt_trichotomy i j with hij | rfl | hij
  · have := List.pairwise_iff_getElem.1 h.2 i j a1 b1 hij
    rw [a2, b2] at this; exact (no _ _ this h1 h2).elim
  · rw [← a2, ← b2]
  · have := List.pairwise_iff_getElem.1 h.2 j i b1 a1 hij
    rw [a2, b2] at this; exact (no _ _ this h1.symm h2.symm).elim
theorem LOk.nodup {N : List Int} {L : List Kn} (h : LOk N L) : L.Nodup := h.2.imp fun {a b} hab e => by subst e; exact ahead_irrefl hab
/-! ### links that both ends know alike -/
def mt (k r : Kn) : Option Kn := if k.node < k.peer ∧ k.node = r.peer ∧ k.peer = r.node ∧ k.w = r.w ∧ k.ss = r.ss then some { k with md := k.md && r.md } else none
def inn (L : List Kn) : List Kn := L.flatMap fun k => L.filterMap (mt k)
theorem mt_some {k r x : Kn} : mt k r = some x ↔ (k.node < k.peer ∧ k.node = r.peer ∧ k.peer = r.node ∧ k.w = r.w ∧ k.ss = r.ss) ∧ x = { k with md := k.md && r.md } := by
  unfold mt
  split
  · rename_i h; exact ⟨fun e => ⟨h, (Option.some.inj e).symm⟩, fun e => by rw [e.2]⟩
  · rename_i h; exact ⟨fun e => (by cases e), fun e => absurd e.1 h⟩
theorem mt_none {k r : Kn} (h : ¬ (k.peer = r.node ∧ k.node = r.peer)) : mt k r = none := by
  unfold mt; rw [if_neg fun e => h ⟨e.2.2.1, e.2.1⟩]
theorem filterMap_none {L : List Kn} {k : Kn} (h : ∀ r ∈ L, mt k r = none) : L.filterMap (mt k) = [] := by
  induction L with
  | nil => rfl
  | cons a l ih => rw [List.filterMap_cons, h a (by simp)]; exact ih fun r hr => h r (by simp [hr])
/-- A link's other end, if it is told: the one that counts. -/
theorem inn_at {N : List Int} {L : List Kn} (h : LOk N L) {k r : Kn} (hr : r ∈ L) (h1 : r.node = k.peer) (h2 : r.peer = k.node) : L.filterMap (mt k) = (mt k r).toList := by
  obtain ⟨l1, l2, rfl⟩ := List.append_of_mem hr
  have hn := h.nodup
  have hx : ∀ x ∈ l1 ++ l2, mt k x = none := fun x hx => mt_none fun e => by
    have hxm : x ∈ l1 ++ r :: l2 := by rcases List.mem_append.1 hx with hx | hx <;> simp [hx]
    have := h.eq hxm hr (e.1.symm.trans h1.symm) (e.2.symm.trans h2.symm)
    subst this
    rw [List.nodup_append] at hn
    rcases List.mem_append.1 hx with hx | hx
    · exact hn.2.2 x hx x (by simp) rfl
    · exact (List.nodup_cons.1 hn.2.1).1 hx
  rw [List.filterMap_append, List.filterMap_cons, filterMap_none (fun x hx' => hx x (by simp [hx'])), filterMap_none (L := l2) (fun x hx' => hx x (by simp [hx']))]
  cases mt k r <;> rfl
theorem inn_no {L : List Kn} {k : Kn} (h : ∀ r ∈ L, ¬ (r.node = k.peer ∧ r.peer = k.node)) : L.filterMap (mt k) = [] := filterMap_none fun r hr => mt_none fun e => h r hr ⟨e.1.symm, e.2.symm⟩
theorem inn_one {N : List Int} {L : List Kn} (h : LOk N L) (k : Kn) : (L.filterMap (mt k)).length ≤ 1 := by
  by_cases hr : ∃ r ∈ L, r.node = k.peer ∧ r.peer = k.node
  · obtain ⟨r, hr, h1, h2⟩ := hr
    rw [inn_at h hr h1 h2]
    cases mt k r <;> simp
  · rw [inn_no fun r hr' e => hr ⟨r, hr', e⟩]; simp
theorem inn_mem {L : List Kn} {x : Kn} : x ∈ inn L ↔ ∃ k ∈ L, ∃ r ∈ L, mt k r = some x := by
  unfold inn
  simp only [List.mem_flatMap, List.mem_filterMap]
theorem flatMap_len {L M : List Kn} (h : ∀ k, (M.filterMap (mt k)).length ≤ 1) : (L.flatMap fun k => M.filterMap (mt k)).length ≤ L.length := by
  induction L with
  | nil => simp
  | cons a l ih => rw [List.flatMap_cons, List.length_append, List.length_cons]; have := h a; omega
theorem inn_len {N : List Int} {L : List Kn} (h : LOk N L) : (inn L).length ≤ L.length := flatMap_len (inn_one h)
/-- A link's edge. -/
def edg (k : Kn) : E := if k.peer < k.node then ⟨k.peer, k.node, k.w⟩ else ⟨k.node, k.peer, k.w⟩
/-- The edges that both ends have marked. -/
def bnd (L : List Kn) : List E := ((inn L).filter fun k => k.md).map edg
theorem bnd_len {N : List Int} {L : List Kn} (h : LOk N L) : (bnd L).length ≤ L.length := by
  unfold bnd; rw [List.length_map]; exact Nat.le_trans (List.length_filter_le _ _) (inn_len h)
/-- Both ends of a bound edge are among the nodes. -/
theorem bnd_mem {N : List Int} {L : List Kn} (hN : NOk N) (h : LOk N L) {e : E} (he : e ∈ bnd L) : e.may ∧ e.a ∈ N ∧ e.b ∈ N ∧ ∃ k ∈ L, k.node = e.a ∧ k.peer = e.b ∧ k.w = e.w := by
  unfold bnd at he
  obtain ⟨x, hx, rfl⟩ := List.mem_map.1 he
  obtain ⟨hx, _⟩ := List.mem_filter.1 hx
  obtain ⟨k, hk, r, hr, hm⟩ := inn_mem.1 hx
  obtain ⟨⟨h1, h2, h3, h4, h5⟩, rfl⟩ := mt_some.1 hm
  obtain ⟨a1, a2, a3, a4, a5, _⟩ := h.1 k hk
  obtain ⟨b1, b2, _⟩ := h.1 r hr
  have e1 : edg { k with md := k.md && r.md } = ⟨k.node, k.peer, k.w⟩ := if_neg (show ¬ k.peer < k.node by omega)
  rw [e1]
  exact ⟨⟨hN.1 _ a1, a2, h1, a4, a5⟩, a1, by show k.peer ∈ N; rw [h3]; exact b1, k, hk, rfl, rfl, rfl⟩
theorem inn_apart {N : List Int} {L : List Kn} (h : LOk N L) : ∀ (M : List Kn), M.Sublist L → (M.flatMap fun k => L.filterMap (mt k)).Pairwise fun a b => ¬ (a.node = b.node ∧ a.peer = b.peer)
  | [], _ => by simp
  | k :: M, hs => by
    have hM : M.Sublist L := (List.sublist_cons_self k M).trans hs
    have hkM : k ∉ M := (List.nodup_cons.1 (h.nodup.sublist hs)).1
    rw [List.flatMap_cons, List.pairwise_append]
    refine ⟨?_, inn_apart h M hM, fun a ha b hb e => ?_⟩
    · have := inn_one h k
      match L.filterMap (mt k), this with
      | [], _ => exact List.Pairwise.nil
      | [x], _ => simp
    · obtain ⟨r, _, hr⟩ := List.mem_filterMap.1 ha
      obtain ⟨k', hk', hb⟩ := List.mem_flatMap.1 hb
      obtain ⟨r', _, hr'⟩ := List.mem_filterMap.1 hb
      obtain ⟨_, rfl⟩ := mt_some.1 hr
      obtain ⟨_, rfl⟩ := mt_some.1 hr'
      have := h.eq (a := k) (hs.subset (by simp)) (hM.subset hk') e.1 e.2
      subst this; exact hkM hk'
theorem bnd_good {N : List Int} {L : List Kn} (hN : NOk N) (h : LOk N L) : Good (bnd L) := by
  refine ⟨fun e he => (bnd_mem hN h he).1, ?_⟩
  have hp := inn_apart h L (List.Sublist.refl _)
  unfold Apart bnd
  refine List.pairwise_map.2 ?_
  refine (List.Pairwise.filter _ ?_)
  refine List.Pairwise.imp_of_mem (R := fun a b => ¬ (a.node = b.node ∧ a.peer = b.peer)) (fun {a b} ha hb hab e => ?_) hp
  obtain ⟨k, hk, r, hr, hm⟩ := inn_mem.1 ha
  obtain ⟨k', hk', r', hr', hm'⟩ := inn_mem.1 hb
  obtain ⟨⟨h1, _⟩, rfl⟩ := mt_some.1 hm
  obtain ⟨⟨h1', _⟩, rfl⟩ := mt_some.1 hm'
  have e1 : edg { k with md := k.md && r.md } = ⟨k.node, k.peer, k.w⟩ := if_neg (show ¬ k.peer < k.node by omega)
  have e2 : edg { k' with md := k'.md && r'.md } = ⟨k'.node, k'.peer, k'.w⟩ := if_neg (show ¬ k'.peer < k'.node by omega)
  rw [e1, e2] at e
  exact hab e
end Go.Proofs.Ytdbnpghckgmaoaa.VP
