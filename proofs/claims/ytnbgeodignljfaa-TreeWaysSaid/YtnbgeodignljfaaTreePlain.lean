/- Forests, plain: what edges link, ways, cuts. No program, no memory. -/
namespace Go.Proofs.Ytnbgeodignljfaa.TP
set_option linter.unusedVariables false
set_option linter.unusedSimpArgs false
set_option linter.unusedSectionVars false
structure E where
  a : Int
  b : Int
  w : Int
deriving DecidableEq
def E.has (e : E) (x y : Int) : Prop := (e.a = x ∧ e.b = y) ∨ (e.a = y ∧ e.b = x)
theorem E.has_symm {e : E} {x y : Int} (h : e.has x y) : e.has y x := h.elim .inr .inl
def Adj (l : List E) (x y : Int) : Prop := ∃ e ∈ l, e.has x y
theorem Adj.symm {l : List E} {x y : Int} (h : Adj l x y) : Adj l y x := let ⟨e, h1, h2⟩ := h; ⟨e, h1, E.has_symm h2⟩
theorem Adj.mono {l l' : List E} (hl : ∀ e ∈ l, e ∈ l') {x y : Int} (h : Adj l x y) : Adj l' x y := let ⟨e, h1, h2⟩ := h; ⟨e, hl e h1, h2⟩
/-- Edges lead from one to another one. -/
inductive Conn (l : List E) : Int → Int → Prop
  | refl (x : Int) : Conn l x x
  | step {x y z : Int} (h : Adj l x y) (r : Conn l y z) : Conn l x z
namespace Conn
variable {l l' : List E} {x y z : Int}
theorem one (h : Adj l x y) : Conn l x y := .step h (.refl y)
theorem trans (h : Conn l x y) (k : Conn l y z) : Conn l x z := by
  induction h with
  | refl => exact k
  | step a _ ih => exact .step a (ih k)
theorem symm (h : Conn l x y) : Conn l y x := by
  induction h with
  | refl => exact .refl _
  | step a _ ih => exact ih.trans (one a.symm)
theorem mono (hl : ∀ e ∈ l, e ∈ l') (h : Conn l x y) : Conn l' x y := by
  induction h with
  | refl => exact .refl _
  | step a _ ih => exact .step (a.mono hl) ih
theorem nil (h : Conn [] x y) : x = y := by
  cases h with
  | refl => rfl
  | step a _ => obtain ⟨e, he, _⟩ := a; cases he
/-- An edge more. -/
theorem add {e : E} (hl : ∀ f ∈ l', f = e ∨ f ∈ l) (h : Conn l' x y) : Conn l x y ∨ (Conn l x e.a ∧ Conn l e.b y) ∨ (Conn l x e.b ∧ Conn l e.a y) := by
  induction h with
  | refl => exact .inl (.refl _)
  | step a _ ih =>
    obtain ⟨f, hf, hh⟩ := a
    rcases hl f hf with rfl | hf
    · rcases hh with ⟨rfl, rfl⟩ | ⟨rfl, rfl⟩
      · rcases ih with h | ⟨_, h⟩ | ⟨_, h⟩
        · exact .inr (.inl ⟨.refl _, h⟩)
        · exact .inr (.inl ⟨.refl _, h⟩)
        · exact .inl h
      · rcases ih with h | ⟨_, h⟩ | ⟨_, h⟩
        · exact .inr (.inr ⟨.refl _, h⟩)
        · exact .inl h
        · exact .inr (.inr ⟨.refl _, h⟩)
    · have s : Conn l _ _ := one ⟨f, hf, hh⟩
      rcases ih with h | ⟨h, k⟩ | ⟨h, k⟩
      · exact .inl (s.trans h)
      · exact .inr (.inl ⟨s.trans h, k⟩)
      · exact .inr (.inr ⟨s.trans h, k⟩)
theorem add' {e : E} (hl : ∀ f ∈ l, f ∈ l') (he : e ∈ l') : (Conn l x y ∨ (Conn l x e.a ∧ Conn l e.b y) ∨ (Conn l x e.b ∧ Conn l e.a y)) → Conn l' x y := by
  have s : Conn l' e.a e.b := one ⟨e, he, .inl ⟨rfl, rfl⟩⟩
  rintro (h | ⟨h, k⟩ | ⟨h, k⟩)
  · exact h.mono hl
  · exact (h.mono hl).trans (s.trans (k.mono hl))
  · exact (h.mono hl).trans (s.symm.trans (k.mono hl))
end Conn

/-- Edges but one. -/
def rm (l : List E) (e : E) : List E := l.filter fun f => decide (f ≠ e)
theorem mem_rm {l : List E} {e f : E} : f ∈ rm l e ↔ f ∈ l ∧ f ≠ e := by simp [rm]
theorem rm_sub {l : List E} {e : E} : ∀ f ∈ rm l e, f ∈ l := fun _ h => (mem_rm.1 h).1

def Node (n : Int) : Prop := 1 ≤ n ∧ n ≤ 64
instance {n : Int} : Decidable (Node n) := by unfold Node; infer_instance
/-- An edge that may be. -/
def E.may (e : E) : Prop := Node e.a ∧ Node e.b ∧ e.a < e.b ∧ 0 ≤ e.w ∧ e.w ≤ 2147483647
instance {e : E} : Decidable e.may := by unfold E.may; infer_instance
/-- Each pair once. -/
def Apart (l : List E) : Prop := l.Pairwise fun e f => ¬ (e.a = f.a ∧ e.b = f.b)
/-- Edges that may be together. -/
def Good (l : List E) : Prop := (∀ e ∈ l, e.may) ∧ Apart l
theorem Apart.nodup {l : List E} (h : Apart l) : l.Nodup := h.imp fun {a b} h e => h (by rw [e]; exact ⟨rfl, rfl⟩)
theorem Apart.eq {l : List E} (h : Apart l) {e f : E} (he : e ∈ l) (hf : f ∈ l) (ha : e.a = f.a) (hb : e.b = f.b) : e = f := by
  obtain ⟨i, hi, rfl⟩ := List.mem_iff_getElem.1 he
  obtain ⟨j, hj, rfl⟩ := List.mem_iff_getElem.1 hf
  rcases Nat.lt_trichotomy i j with h1 | h1 | h1
  · exact absurd ⟨ha, hb⟩ ((List.pairwise_iff_getElem.1 h) i j hi hj h1)
  · subst h1; rfl
  · exact absurd ⟨ha.symm, hb.symm⟩ ((List.pairwise_iff_getElem.1 h) j i hj hi h1)
/-- The edge of two nodes is one. -/
theorem Good.eq {l : List E} (h : Good l) {e f : E} (he : e ∈ l) (hf : f ∈ l) {x y : Int} (h1 : e.has x y) (h2 : f.has x y) : e = f := by
  have a := (h.1 e he).2.2.1
  have b := (h.1 f hf).2.2.1
  rcases h1 with ⟨rfl, rfl⟩ | ⟨rfl, rfl⟩ <;> rcases h2 with ⟨h3, h4⟩ | ⟨h3, h4⟩
  · exact h.2.eq he hf h3.symm h4.symm
  · omega
  · omega
  · exact h.2.eq he hf h3.symm h4.symm
theorem Good.sub {l l' : List E} (h : Good l) (hs : l'.Sublist l) : Good l' := ⟨fun e he => h.1 e (hs.subset he), h.2.sublist hs⟩
theorem Good.rm {l : List E} (h : Good l) (e : E) : Good (rm l e) := h.sub List.filter_sublist
theorem Good.take {l : List E} (h : Good l) (i : Nat) : Good (l.take i) := h.sub (List.take_sublist _ _)

/-- No edge closes a ring. -/
def Forest (l : List E) : Prop := ∀ i e, l[i]? = some e → ¬ Conn (l.take i) e.a e.b
def Cut (l : List E) : Prop := ∀ e ∈ l, ¬ Conn (rm l e) e.a e.b
theorem Forest.nil : Forest [] := fun i e h => by simp at h
theorem Forest.take {l : List E} (h : Forest l) (k : Nat) : Forest (l.take k) := fun i e hi hc => by
  rw [List.getElem?_take] at hi
  split at hi
  · rename_i hlt
    rw [List.take_take, Nat.min_eq_left (by omega)] at hc
    exact h i e hi hc
  · cases hi
theorem Forest.snoc {l : List E} {e : E} : Forest (l ++ [e]) ↔ Forest l ∧ ¬ Conn l e.a e.b := by
  constructor
  · intro h
    refine ⟨?_, ?_⟩
    · have := h.take l.length; rwa [List.take_left] at this
    · have := h l.length e (by simp); rwa [List.take_left] at this
  · rintro ⟨h, h2⟩ i f hi hc
    rcases Nat.lt_trichotomy i l.length with h1 | h1 | h1
    · rw [List.getElem?_append_left h1] at hi
      rw [List.take_append_of_le_length (by omega)] at hc
      exact h i f hi hc
    · subst h1
      rw [List.take_left] at hc
      simp at hi
      subst hi; exact h2 hc
    · rw [List.getElem?_eq_none (by simp; omega)] at hi; cases hi
theorem Forest.cut {l : List E} (hn : l.Nodup) (h : Forest l) : Cut l := by
  have key : ∀ k, k ≤ l.length → Cut (l.take k) := by
    intro k
    induction k with
    | zero => intro _ e he; simp at he
    | succ k ih =>
      intro hk e he hc
      have hlt : k < l.length := by omega
      have hsp : l.take (k + 1) = l.take k ++ [l[k]] := by rw [List.take_succ_eq_append_getElem hlt]
      have hnk : (l.take k ++ [l[k]]).Nodup := by rw [← hsp]; exact hn.sublist (List.take_sublist _ _)
      have hf : l[k] ∉ l.take k := fun hm => (List.nodup_append.1 hnk).2.2 _ hm _ (List.mem_singleton.2 rfl) rfl
      have hfo : ¬ Conn (l.take k) l[k].a l[k].b := h k _ (List.getElem?_eq_getElem hlt)
      rw [hsp] at he hc
      rcases List.mem_append.1 he with he | he
      · have hne : l[k] ≠ e := fun e' => hf (by rw [e']; exact he)
        have := Conn.add (l := rm (l.take k) e) (e := l[k]) (fun f hf => by
          obtain ⟨h1, h2⟩ := mem_rm.1 hf
          rcases List.mem_append.1 h1 with h1 | h1
          · exact .inr (mem_rm.2 ⟨h1, h2⟩)
          · exact .inl (List.mem_singleton.1 h1)) hc
        have s : Conn (l.take k) e.a e.b := .one ⟨e, he, .inl ⟨rfl, rfl⟩⟩
        rcases this with h1 | ⟨h1, h2⟩ | ⟨h1, h2⟩
        · exact ih (by omega) e he h1
        · exact hfo ((h1.mono rm_sub).symm.trans (s.trans (h2.mono rm_sub).symm))
        · exact hfo ((h2.mono rm_sub).trans (s.symm.trans (h1.mono rm_sub)))
      · obtain rfl := List.mem_singleton.1 he
        refine hfo (hc.mono fun f hf => ?_)
        obtain ⟨h1, h2⟩ := mem_rm.1 hf
        rcases List.mem_append.1 h1 with h1 | h1
        · exact h1
        · exact absurd (List.mem_singleton.1 h1) h2
  have := key l.length (Nat.le_refl _)
  rwa [List.take_length] at this
theorem Cut.forest {l : List E} (hn : l.Nodup) (h : Cut l) : Forest l := fun i e hi hc => by
  have hm : e ∈ l := List.mem_of_getElem? hi
  refine h e hm (hc.mono fun f hf => mem_rm.2 ⟨List.mem_of_mem_take hf, fun e' => ?_⟩)
  subst e'
  obtain ⟨j, hj, hjf⟩ := List.mem_iff_getElem.1 hf
  obtain ⟨hi', hif⟩ := List.getElem?_eq_some_iff.1 hi
  rw [List.length_take] at hj
  rw [List.getElem_take] at hjf
  have := (List.getElem_inj (h₀ := by omega) (h₁ := hi') hn).1 (hjf.trans hif.symm)
  omega
theorem Cut.sub {l l' : List E} (h : Cut l) (hs : ∀ e ∈ l', e ∈ l) : Cut l' := fun e he hc => h e (hs e he) (hc.mono fun f hf => mem_rm.2 ⟨hs f (mem_rm.1 hf).1, (mem_rm.1 hf).2⟩)

/-- A way: nodes, each once, each beside the next. -/
inductive Way (l : List E) : Int → Int → List Int → Prop
  | one (a : Int) : Way l a a [a]
  | cons {a b c : Int} {p : List Int} (h : Adj l a b) (hn : a ∉ p) (r : Way l b c p) : Way l a c (a :: p)
namespace Way
variable {l l' : List E} {a b c x y : Int} {p u v : List Int}
theorem head (h : Way l a b p) : ∃ t, p = a :: t := by cases h <;> exact ⟨_, rfl⟩
theorem ne (h : Way l a b p) : p ≠ [] := by obtain ⟨t, rfl⟩ := h.head; simp
theorem nodup (h : Way l a b p) : p.Nodup := by
  induction h with
  | one => simp
  | cons _ hn _ ih => exact List.nodup_cons.2 ⟨hn, ih⟩
theorem last (h : Way l a b p) : p[p.length - 1]? = some b := by
  induction h with
  | one => rfl
  | cons _ _ r ih =>
    obtain ⟨t, rfl⟩ := r.head
    simpa using ih
theorem first (h : Way l a b p) : p[0]? = some a := by obtain ⟨t, rfl⟩ := h.head; rfl
theorem conn (h : Way l a b p) : Conn l a b := by
  induction h with
  | one => exact .refl _
  | cons h _ _ ih => exact .step h ih
theorem mono (hl : ∀ e ∈ l, e ∈ l') (h : Way l a b p) : Way l' a b p := by
  induction h with
  | one => exact .one _
  | cons h hn _ ih => exact .cons (h.mono hl) hn ih
theorem mem_last (h : Way l a b p) : b ∈ p := List.mem_of_getElem? h.last
theorem mem_first (h : Way l a b p) : a ∈ p := List.mem_of_getElem? h.first
/-- All of a way is linked to its end. -/
theorem conn_mem (h : Way l a b p) : ∀ x ∈ p, Conn l x b := by
  induction h with
  | one => intro x hx; rw [List.mem_singleton.1 hx]; exact .refl _
  | cons h hn r ih =>
    intro x hx
    rcases List.mem_cons.1 hx with rfl | hx
    · exact .step h r.conn
    · exact ih x hx
theorem back (h : Way l a b p) : ∀ {u v : List Int} {x : Int}, p = u ++ x :: v → Way l x b (x :: v) := by
  induction h with
  | one =>
    intro u v x e
    cases u with
    | nil => injection e with e1 e2; subst e1; subst e2; exact .one _
    | cons _ u => injection e with e1 e2; simp at e2
  | cons h hn r ih =>
    intro u v x e
    cases u with
    | nil => injection e with e1 e2; subst e1; subst e2; exact .cons h hn r
    | cons _ u => injection e with e1 e2; exact ih e2
theorem front (h : Way l a b p) : ∀ {u v : List Int} {x : Int}, p = u ++ x :: v → Way l a x (u ++ [x]) := by
  induction h with
  | one =>
    intro u v x e
    cases u with
    | nil => injection e with e1 e2; subst e1; exact .one _
    | cons _ u => injection e with e1 e2; simp at e2
  | cons h hn r ih =>
    intro u v x e
    cases u with
    | nil => injection e with e1 e2; subst e1; exact .one _
    | cons z u =>
      injection e with e1 e2
      subst e1
      refine .cons h (fun hm => hn ?_) (ih e2)
      rw [e2]
      rcases List.mem_append.1 hm with hm | hm
      · exact List.mem_append_left _ hm
      · exact List.mem_append_right _ (by rw [List.mem_singleton.1 hm]; exact List.mem_cons_self)
theorem suffix (h : Way l a b p) (hx : x ∈ p) : ∃ q, Way l x b q ∧ ∀ z ∈ q, z ∈ p := by
  obtain ⟨u, v, rfl⟩ := List.append_of_mem hx
  exact ⟨_, h.back rfl, fun z hz => List.mem_append_right _ hz⟩
theorem ex (h : Conn l a b) : ∃ p, Way l a b p := by
  induction h with
  | refl => exact ⟨_, .one _⟩
  | step h _ ih =>
    rename_i x y z _
    obtain ⟨p, hp⟩ := ih
    by_cases hx : x ∈ p
    · obtain ⟨q, hq, _⟩ := hp.suffix hx
      exact ⟨q, hq⟩
    · exact ⟨_, .cons h hx hp⟩
/-- Two ways, one behind the other. -/
theorem app (h : Way l a b p) : ∀ {q : List Int}, Way l b c (b :: q) → (∀ x ∈ p, x ∉ q) → Way l a c (p ++ q) := by
  induction h with
  | one => intro q h2 _; exact h2
  | cons h hn r ih =>
    intro q h2 hd
    refine .cons h (fun hm => ?_) (ih h2 fun x hx => hd x (List.mem_cons_of_mem _ hx))
    rcases List.mem_append.1 hm with hm | hm
    · exact hn hm
    · exact hd _ List.mem_cons_self hm
theorem rev (h : Way l a b p) : Way l b a p.reverse := by
  induction h with
  | one => exact .one _
  | cons h hn r ih =>
    rename_i x y z p
    rw [List.reverse_cons]
    obtain ⟨t, ht⟩ := r.head
    refine app ih (q := [x]) (.cons h.symm (fun hm => ?_) (.one _)) fun w hw hw2 => ?_
    · rw [List.mem_singleton.1 hm] at ht; exact hn (by rw [ht]; exact List.mem_cons_self)
    · rw [List.mem_singleton.1 hw2] at hw; exact hn (List.mem_reverse.1 hw)
/-- Two of a way that stand side by side are linked by an edge. -/
theorem adj (h : Way l a b p) (e : p = u ++ x :: y :: v) : Adj l x y := by
  cases h.back e with
  | cons h _ r => obtain ⟨t, ht⟩ := r.head; injection ht with ht _; subst ht; exact h
/-- The nodes of a way are nodes of edges. -/
theorem nodes (hl : ∀ e ∈ l, Node e.a ∧ Node e.b) (ha : Node a) (h : Way l a b p) : ∀ x ∈ p, Node x := by
  induction h with
  | one => intro x hx; rw [List.mem_singleton.1 hx]; exact ha
  | cons h hn r ih =>
    intro x hx
    rcases List.mem_cons.1 hx with rfl | hx
    · exact ha
    · refine ih ?_ x hx
      obtain ⟨e, he, h1⟩ := h
      rcases h1 with ⟨_, rfl⟩ | ⟨rfl, _⟩
      · exact (hl e he).2
      · exact (hl e he).1
end Way
theorem pigeon : ∀ (n : Nat) (l : List Int), l.Nodup → (∀ x ∈ l, 1 ≤ x ∧ x ≤ n) → l.length ≤ n
  | 0, l, _, h => by
    cases l with
    | nil => simp
    | cons x l => have := h x List.mem_cons_self; omega
  | n + 1, l, hn, h => by
    by_cases hm : ((n + 1 : Nat) : Int) ∈ l
    · have h1 := pigeon n (l.erase ((n + 1 : Nat) : Int)) (hn.erase _) (fun x hx => by
        have h2 := (hn.mem_erase_iff).1 hx
        have := h x h2.2
        have := h2.1
        omega)
      rw [List.length_erase_of_mem hm] at h1
      omega
    · have := pigeon n l hn fun x hx => by
        have h1 := h x hx
        have : x ≠ ((n + 1 : Nat) : Int) := fun e => hm (e ▸ hx)
        omega
      omega
theorem Way.short {l : List E} (hl : ∀ e ∈ l, Node e.a ∧ Node e.b) {a b : Int} (ha : Node a) {p : List Int} (h : Way l a b p) : p.length ≤ 64 :=
  pigeon 64 p h.nodup (h.nodes hl ha)
theorem Conn.node {l : List E} (hl : ∀ e ∈ l, Node e.a ∧ Node e.b) {a b : Int} (ha : Node a) (h : Conn l a b) : Node b := by
  obtain ⟨p, hp⟩ := Way.ex h
  exact hp.nodes hl ha b hp.mem_last

/-! ### the edges of a way -/
def OnP (p : List Int) (e : E) : Prop := ∃ u v x y, p = u ++ x :: y :: v ∧ e.has x y
/-- Without an edge that is not on a way it is one still. -/
theorem Way.avoid {l : List E} {a b : Int} {p : List Int} {e : E} (h : Way l a b p) (hn : ¬ OnP p e) : Way (rm l e) a b p := by
  induction h with
  | one => exact .one _
  | cons h hnm r ih =>
    obtain ⟨f, hf, hh⟩ := h
    obtain ⟨t, ht⟩ := r.head
    refine .cons ⟨f, mem_rm.2 ⟨hf, fun e' => hn ?_⟩, hh⟩ hnm (ih fun ⟨u, v, x, y, h1, h2⟩ => hn ⟨_ :: u, v, x, y, by rw [h1]; rfl, h2⟩)
    subst e'
    exact ⟨[], t, _, _, by rw [ht]; rfl, hh⟩
theorem OnP.mem {p : List Int} {e : E} (h : OnP p e) : e.a ∈ p ∧ e.b ∈ p := by
  obtain ⟨u, v, x, y, rfl, h⟩ := h
  rcases h with ⟨rfl, rfl⟩ | ⟨rfl, rfl⟩ <;> simp
/-- The edges of a way in a forest are those without which it is none. -/
theorem on_iff {l : List E} (hc : Cut l) {a b : Int} {p : List Int} (h : Way l a b p) {e : E} (he : e ∈ l) : ¬ Conn (rm l e) a b ↔ OnP p e := by
  constructor
  · intro hn
    by_cases ho : OnP p e
    · exact ho
    · exact absurd (h.avoid ho).conn hn
  · rintro ⟨u, v, x, y, hp, hh⟩ hcon
    have hnd := h.nodup
    rw [hp] at hnd
    have hnd' := List.nodup_append.1 hnd
    have hxy := List.nodup_cons.1 hnd'.2.1
    have h1 : Conn (rm l e) a x := (Way.avoid (e := e) (h.front hp) fun ho => by
      have hy : y ∈ u ++ [x] := by
        rcases hh with ⟨_, h1⟩ | ⟨h1, _⟩
        · exact h1 ▸ ho.mem.2
        · exact h1 ▸ ho.mem.1
      rcases List.mem_append.1 hy with hy | hy
      · exact hnd'.2.2 y hy y (by simp) rfl
      · rw [List.mem_singleton.1 hy] at hxy; exact hxy.1 List.mem_cons_self).conn
    have h2 : Conn (rm l e) y b := (Way.avoid (e := e) (h.back (u := u ++ [x]) (v := v) (by rw [hp]; simp)) fun ho => by
      have hx : x ∈ y :: v := by
        rcases hh with ⟨h1, _⟩ | ⟨_, h1⟩
        · exact h1 ▸ ho.mem.1
        · exact h1 ▸ ho.mem.2
      exact hxy.1 hx).conn
    have h3 : Conn (rm l e) x y := h1.symm.trans (hcon.trans h2.symm)
    rcases hh with ⟨rfl, rfl⟩ | ⟨rfl, rfl⟩
    · exact hc e he h3
    · exact hc e he h3.symm
/-- Where a node of a way stands, its edges lead to the one ahead and to the one behind. -/
theorem OnP.at {p : List Int} (hnd : p.Nodup) {e : E} (h : OnP p e) {k : Nat} {z o : Int} (hz : p[k]? = some z) (ho : e.has z o) : p[k + 1]? = some o ∨ (1 ≤ k ∧ p[k - 1]? = some o) := by
  obtain ⟨u, v, x, y, rfl, hh⟩ := h
  have g1 : (u ++ x :: y :: v)[u.length]? = some x := by simp
  have g2 : (u ++ x :: y :: v)[u.length + 1]? = some y := by rw [List.getElem?_append_right (by omega)]; simp
  have inj : ∀ {i j : Nat} {t : Int}, (u ++ x :: y :: v)[i]? = some t → (u ++ x :: y :: v)[j]? = some t → i = j := fun {i j t} hi hj => by
    obtain ⟨a1, a2⟩ := List.getElem?_eq_some_iff.1 hi
    obtain ⟨b1, b2⟩ := List.getElem?_eq_some_iff.1 hj
    exact (List.getElem_inj (h₀ := a1) (h₁ := b1) hnd).1 (a2.trans b2.symm)
  have : (z = x ∧ o = y) ∨ (z = y ∧ o = x) := by
    rcases hh with ⟨h1, h2⟩ | ⟨h1, h2⟩ <;> rcases ho with ⟨h3, h4⟩ | ⟨h3, h4⟩
    · exact .inl ⟨h3.symm.trans h1, h4.symm.trans h2⟩
    · exact .inr ⟨h4.symm.trans h2, h3.symm.trans h1⟩
    · exact .inr ⟨h3.symm.trans h1, h4.symm.trans h2⟩
    · exact .inl ⟨h4.symm.trans h2, h3.symm.trans h1⟩
  rcases this with ⟨rfl, rfl⟩ | ⟨rfl, rfl⟩
  · have := inj hz g1; subst this; exact .inl g2
  · have := inj hz g2; subst this; exact .inr ⟨by omega, g1⟩
/-- The edge from a node of a way to the one behind. -/
theorem Way.edge {l : List E} {a b : Int} {p : List Int} (h : Way l a b p) {k : Nat} {x y : Int} (hx : p[k]? = some x) (hy : p[k + 1]? = some y) : ∃ e ∈ l, e.has x y ∧ OnP p e := by
  obtain ⟨h1, h2⟩ := List.getElem?_eq_some_iff.1 hx
  obtain ⟨h3, h4⟩ := List.getElem?_eq_some_iff.1 hy
  have hp : p = p.take k ++ x :: y :: p.drop (k + 2) := by
    have e1 : p.drop k = x :: p.drop (k + 1) := by rw [List.drop_eq_getElem_cons h1, h2]
    have e2 : p.drop (k + 1) = y :: p.drop (k + 2) := by rw [List.drop_eq_getElem_cons h3, h4]
    rw [← e2, ← e1, List.take_append_drop]
  obtain ⟨e, he, hh⟩ := h.adj hp
  exact ⟨e, he, hh, _, _, x, y, hp, hh⟩
/-- In a forest there is one way. -/
theorem Way.uniq {l : List E} (hc : Cut l) {a b : Int} {p : List Int} (h : Way l a b p) : ∀ {q : List Int}, Way l a b q → q = p := by
  induction h with
  | one =>
    intro q hq
    cases hq with
    | one => rfl
    | cons h hn r => exact absurd r.mem_last hn
  | cons h hn r ih =>
    rename_i a b' c p
    intro q hq
    cases hq with
    | one => exact absurd r.mem_last hn
    | cons h' hn' r' =>
      rename_i b2 p2
      obtain ⟨e, he, hh⟩ := h
      obtain ⟨e2, he2, hh2⟩ := h'
      by_cases hee : e2 = e
      · subst hee
        have hb : b2 = b' := by
          have n1 : a ≠ b' := fun e' => hn (by rw [e']; exact r.mem_first)
          rcases hh with ⟨h1, h2⟩ | ⟨h1, h2⟩ <;> rcases hh2 with ⟨h3, h4⟩ | ⟨h3, h4⟩
          · exact h4.symm.trans h2
          · exact absurd (h4.symm.trans h2) n1
          · exact absurd (h3.symm.trans h1) n1
          · exact h3.symm.trans h1
        subst hb
        rw [ih r']
      · exfalso
        have av : ∀ {s : Int} {p : List Int}, Way l s c p → a ∉ p → Conn (rm l e) s c := fun {s p} hw hna => (Way.avoid (e := e) hw fun ho => by
          rcases hh with ⟨h1, _⟩ | ⟨_, h1⟩
          · exact hna (h1 ▸ ho.mem.1)
          · exact hna (h1 ▸ ho.mem.2)).conn
        have c1 : Conn (rm l e) b' c := av r hn
        have c2 : Conn (rm l e) b2 c := av r' hn'
        have c3 : Conn (rm l e) a b2 := .one ⟨e2, mem_rm.2 ⟨he2, hee⟩, hh2⟩
        have c4 : Conn (rm l e) a b' := c3.trans (c2.trans c1.symm)
        rcases hh with ⟨rfl, rfl⟩ | ⟨rfl, rfl⟩
        · exact hc e he c4
        · exact hc e he c4.symm
end Go.Proofs.Ytnbgeodignljfaa.TP
