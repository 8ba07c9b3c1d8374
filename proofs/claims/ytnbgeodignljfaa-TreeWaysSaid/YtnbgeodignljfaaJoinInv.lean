/- Sets that only grow together: how the lists of parents, sizes and least ones stand to the document's list of least ones. -/
import Derived.Test.YtnbgeodignljfaaJoinPlain
namespace Go.Proofs.Ytnbgeodignljfaa.JP
set_option linter.unusedVariables false
set_option linter.unusedSimpArgs false
set_option linter.unusedSectionVars false

def cnt (w : List Int) (v : Int) : Nat := ((List.range w.length).filter fun i => g w (i : Nat) = v).length
def fix (w : List Int) : Nat := ((List.range w.length).filter fun i => 1 ≤ i ∧ g w (i : Nat) = (i : Int)).length

def rhas (w : List Int) (a : Int) : Prop := 1 ≤ a ∧ a < w.length
instance (w : List Int) (a : Int) : Decidable (rhas w a) := by unfold rhas; infer_instance
def lo (w : List Int) (a b : Int) : Int := if g w b < g w a then g w b else g w a
def hi (w : List Int) (a b : Int) : Int := if g w b < g w a then g w a else g w b
def glue (w : List Int) (l h : Int) : List Int := (List.range w.length).map fun i => if 0 < i ∧ g w (i : Nat) = h then l else g w (i : Nat)
def runite (w : List Int) (a b : Int) : List Int × Bool :=
  if rhas w a ∧ rhas w b ∧ g w a ≠ g w b then (glue w (lo w a b) (hi w a b), true) else (w, false)

/-- A list of least ones. -/
structure WOk (w : List Int) : Prop where
  zero : g w 0 = 0
  pos : 0 < w.length
  low : ∀ x, In w x → 1 ≤ x → 1 ≤ g w x
  le : ∀ x, In w x → 0 ≤ g w x ∧ g w x ≤ x
  idem : ∀ x, In w x → g w (g w x) = g w x

structure JInv (m : Int → Nat) (U S L : List Int) (k : Int) (w : List Int) : Prop where
  wf : Wf m U
  lu : U.length = w.length
  ls : S.length = w.length
  ll : L.length = w.length
  wok : WOk w
  rep : ∀ x r, In w x → Root U x r → g L r = g w x ∧ g S r = (cnt w (g w x) : Nat)
  same : ∀ x y r q, In w x → In w y → Root U x r → Root U y q → (r = q ↔ g w x = g w y)
  sets : k = (fix w : Nat)

theorem cnt_le (w : List Int) (v : Int) : cnt w v ≤ w.length := by
  unfold cnt; exact Nat.le_trans (List.length_filter_le _ _) (by simp)
theorem fix_le (w : List Int) : fix w ≤ w.length := by
  unfold fix; exact Nat.le_trans (List.length_filter_le _ _) (by simp)

theorem g_map_range (n : Nat) (f : Nat → Int) {x : Int} (h0 : 0 ≤ x) (h : x < n) : g ((List.range n).map f) x = f x.toNat := by
  have : x.toNat < n := by omega
  simp [g, List.getD, this]
theorem glue_length (w l h) : (glue w l h).length = w.length := by simp [glue]
theorem glue_g {w : List Int} {l h x : Int} (hx : In w x) : g (glue w l h) x = if 0 < x ∧ g w x = h then l else g w x := by
  unfold glue
  rw [g_map_range _ _ hx.1 hx.2]
  have e : ((x.toNat : Nat) : Int) = x := by have := hx.1; omega
  rw [e]
  have : (0 < x.toNat) ↔ (0 < x) := by omega
  simp only [this]

/-- The roots stay when a way is halved, so all that is told stays. -/
theorem JInv.top {m : Int → Nat} {U S L : List Int} {k : Int} {w : List Int} (h : JInv m U S L k w) {a : Int} (ha : In w a) :
    JInv m (topS (m a) U a).1 S L k w ∧ Root (topS (m a) U a).1 a (topS (m a) U a).2 ∧ Root U a (topS (m a) U a).2 ∧ (∀ x r, In w x → Root U x r → Root (topS (m a) U a).1 x r) := by
  have hin : ∀ x, In U x ↔ In w x := fun x => by simp [In, h.lu]
  obtain ⟨t1, t2, t3, t4⟩ := topS_spec (m a) h.wf ((hin a).2 ha) (Nat.le_refl _)
  have back : ∀ x r, In w x → Root (topS (m a) U a).1 x r → Root U x r := fun x r hx hr => by
    obtain ⟨q, hq⟩ := Root.ex h.wf _ x (Nat.lt_succ_self _) ((hin x).2 hx)
    rw [(t3 x q ((hin x).2 hx) hq).uniq hr]; exact hq
  refine ⟨⟨t1, t2.trans h.lu, h.ls, h.ll, h.wok, fun x r hx hr => h.rep x r hx (back x r hx hr), fun x y r q hx hy hr hq => h.same x y r q hx hy (back x r hx hr) (back y q hy hq), h.sets⟩, t3 a _ ((hin a).2 ha) t4, t4, fun x r hx hr => t3 x r ((hin x).2 hx) hr⟩

theorem filter_split {α : Type} (p q : α → Bool) (l : List α) (h : ∀ x ∈ l, ¬ (p x = true ∧ q x = true)) : (l.filter fun x => p x || q x).length = (l.filter p).length + (l.filter q).length := by
  induction l with
  | nil => rfl
  | cons a l ih =>
    have ih' := ih fun x hx => h x (by simp [hx])
    have ha := h a (by simp)
    simp only [List.filter_cons]
    cases hp : p a <;> cases hq : q a <;> simp_all <;> omega

theorem cnt_pos {w : List Int} {x : Int} (hx : In w x) : 0 < cnt w (g w x) := by
  unfold cnt
  refine List.length_pos_iff.2 (List.ne_nil_of_mem (a := x.toNat) (List.mem_filter.2 ⟨?_, ?_⟩))
  · have := hx.1; have := hx.2; simp; omega
  · have : ((x.toNat : Nat) : Int) = x := by have := hx.1; omega
    simp [this]

section
variable {w : List Int} {l h : Int} (hw : WOk w) (hl : 1 ≤ l) (hlh : l < h) (hli : In w l) (hhi : In w h) (hgl : g w l = l) (hgh : g w h = h)
include hw hl hlh hli hhi hgl hgh
theorem glue_ok : WOk (glue w l h) := by
  have hin : ∀ x, In (glue w l h) x ↔ In w x := fun x => by simp [In, glue_length]
  refine ⟨?_, by rw [glue_length]; exact hw.pos, ?_, ?_, ?_⟩
  · have : In w 0 := ⟨by omega, by have := hw.pos; omega⟩
    rw [glue_g this]; simp [hw.zero]
  · intro x hx h1
    rw [hin] at hx; rw [glue_g hx]; split
    · exact hl
    · exact hw.low x hx h1
  · intro x hx
    rw [hin] at hx; rw [glue_g hx]
    have := hw.le x hx
    split
    · rename_i hc; omega
    · exact this
  · intro x hx
    rw [hin] at hx
    have h1 := hw.le x hx
    have hgx : In w (g w x) := ⟨h1.1, by have := hx.2; omega⟩
    rw [glue_g hx]
    split
    · rw [glue_g hli, hgl]; split <;> omega
    · rename_i hc
      rw [glue_g hgx, hw.idem x hx]
      split
      · rename_i hd
        exfalso
        by_cases hx0 : 0 < x
        · exact hc ⟨hx0, hd.2⟩
        · obtain rfl : x = 0 := by have := hx.1; omega
          rw [hw.zero] at hd; omega
      · rfl
theorem glue_val {x : Int} (hx : In w x) : g (glue w l h) x = if g w x = h then l else g w x := by
  rw [glue_g hx]
  by_cases h1 : g w x = h
  · have : 0 < x := by
      by_cases hx0 : 0 < x
      · exact hx0
      · obtain rfl : x = 0 := by have := hx.1; omega
        rw [hw.zero] at h1; omega
    rw [if_pos ⟨this, h1⟩, if_pos h1]
  · rw [if_neg (fun h => h1 h.2), if_neg h1]
theorem glue_cnt_l : cnt (glue w l h) l = cnt w l + cnt w h := by
  unfold cnt
  rw [glue_length, ← filter_split]
  · congr 1
    refine List.filter_congr fun i hi => ?_
    have hi' : In w (i : Nat) := ⟨by omega, by simpa using hi⟩
    rw [glue_val hw hl hlh hli hhi hgl hgh hi']
    by_cases h1 : g w (i : Nat) = h
    · simp [h1]
    · simp [h1]
  · intro x _ hc
    simp only [decide_eq_true_eq] at hc
    omega
theorem glue_cnt_o {v : Int} (h1 : v ≠ l) (h2 : v ≠ h) : cnt (glue w l h) v = cnt w v := by
  unfold cnt
  rw [glue_length]
  congr 1
  refine List.filter_congr fun i hi => ?_
  have hi' : In w (i : Nat) := ⟨by omega, by simpa using hi⟩
  rw [glue_val hw hl hlh hli hhi hgl hgh hi']
  by_cases h3 : g w (i : Nat) = h
  · simp [h3, Ne.symm h1, Ne.symm h2]
  · simp [h3]
theorem glue_fix : fix (glue w l h) + 1 = fix w := by
  unfold fix
  rw [glue_length]
  have e : (List.range w.length).filter (fun i => decide (1 ≤ i ∧ g w (i : Nat) = (i : Int))) = (List.range w.length).filter (fun i => decide (1 ≤ i ∧ g (glue w l h) (i : Nat) = (i : Int)) || decide (i = h.toNat)) := by
    refine List.filter_congr fun i hi => ?_
    have hi' : In w (i : Nat) := ⟨by omega, by simpa using hi⟩
    rw [glue_val hw hl hlh hli hhi hgl hgh hi', Bool.eq_iff_iff]
    simp only [decide_eq_true_eq, Bool.or_eq_true]
    by_cases h3 : g w (i : Nat) = h
    · rw [if_pos h3]
      constructor
      · rintro ⟨a, b⟩; exact .inr (by omega)
      · rintro (⟨a, b⟩ | b)
        · exfalso
          rw [← b] at h3; omega
        · exact ⟨by omega, by omega⟩
    · rw [if_neg h3]
      constructor
      · exact .inl
      · rintro (a | b)
        · exact a
        · exfalso
          have : ((i : Nat) : Int) = h := by have := hhi.1; omega
          rw [this] at h3; exact h3 hgh
  rw [e, filter_split]
  · have : (List.range w.length).filter (fun i => decide (i = h.toNat)) = [h.toNat] := by
      have hlt : h.toNat < w.length := by have := hhi.1; have := hhi.2; omega
      generalize w.length = n at hlt
      induction n with
      | zero => omega
      | succ n ih =>
        rw [List.range_succ, List.filter_append]
        by_cases e : h.toNat = n
        · have : (List.range n).filter (fun i => decide (i = h.toNat)) = [] := by
            refine List.filter_eq_nil_iff.2 fun x hx => ?_
            simp at hx ⊢; omega
          rw [this]; simp [e]
        · rw [ih (by omega)]
          have : n ≠ h.toNat := by omega
          simp [this]
    rw [this]; rfl
  · intro i hi hc
    simp only [decide_eq_true_eq] at hc
    obtain ⟨⟨a, b⟩, c⟩ := hc
    have hi' : In w (i : Nat) := ⟨by omega, by simpa using hi⟩
    have e2 : ((i : Nat) : Int) = h := by have := hhi.1; omega
    rw [glue_val hw hl hlh hli hhi hgl hgh hi', e2, hgh, if_pos rfl] at b
    omega
end

open Classical in
/-- A root is hung under another one. -/
theorem hang {m : Int → Nat} {U : List Int} (hw : Wf m U) {p q : Int} (hp : In U p) (hq : In U q) (hpp : g U p = p) (hqq : g U q = q) (hne : p ≠ q) :
    ∃ m', Wf m' (U.set q.toNat p) ∧ ∀ x r, In U x → Root U x r → Root (U.set q.toNat p) x (if r = q then p else r) := by
  have e1 : g (U.set q.toNat p) q = p := g_set_same hq
  have e2 : ∀ x, 0 ≤ x → x ≠ q → g (U.set q.toNat p) x = g U x := fun x hx h => g_set_other hq.1 hx h
  have hin : ∀ x, In (U.set q.toNat p) x ↔ In U x := fun x => by simp [In]
  refine ⟨fun x => if Root U x q then m x + m p + 1 else m x, fun i hi => ?_, ?_⟩
  · rw [hin] at hi
    rw [hin]
    by_cases e : i = q
    · subst e
      rw [e1]
      refine ⟨hp, .inr ?_⟩
      have h1 : ¬ Root U p i := fun h => by cases h with
        | here _ => exact hne rfl
        | up h _ => exact h hpp
      have h2 : Root U i i := .here hqq
      show (if Root U p i then m p + m p + 1 else m p) < (if Root U i i then m i + m p + 1 else m i)
      rw [if_neg h1, if_pos h2]; omega
    · rw [e2 i hi.1 e]
      obtain ⟨h1, h2⟩ := hw i hi
      refine ⟨h1, ?_⟩
      by_cases h3 : g U i = i
      · exact .inl h3
      · refine .inr ?_
        have h4 := h2.resolve_left h3
        have h5 : Root U i q ↔ Root U (g U i) q := ⟨fun h => by cases h with
          | here h => exact absurd h h3
          | up _ h => exact h, fun h => .up h3 h⟩
        show (if Root U (g U i) q then m (g U i) + m p + 1 else m (g U i)) < (if Root U i q then m i + m p + 1 else m i)
        by_cases h6 : Root U i q
        · rw [if_pos h6, if_pos (h5.1 h6)]; omega
        · rw [if_neg h6, if_neg (fun h => h6 (h5.2 h))]; exact h4
  · intro x r hx hr
    have hpr : Root (U.set q.toNat p) p p := .here (by rw [e2 p hp.1 hne]; exact hpp)
    induction hr with
    | @here a h =>
      by_cases e : a = q
      · rw [if_pos e]; subst e
        exact .up (by rw [e1]; exact hne) (by rw [e1]; exact hpr)
      · rw [if_neg e]; exact .here (by rw [e2 a hx.1 e]; exact h)
    | @up a r h hr ih =>
      have e : a ≠ q := fun e => h (e ▸ hqq)
      exact .up (by rw [e2 a hx.1 e]; exact h) (by rw [e2 a hx.1 e]; exact ih (hw a hx).1)

theorem g_root {w : List Int} {U : List Int} {m : Int → Nat} (hw : Wf m U) (hl : U.length = w.length) {x r : Int} (hx : In w x) (h : Root U x r) : In w r := by
  have : In U r := h.inn hw (by simpa [In, hl] using hx)
  simpa [In, hl] using this

/-- Two sets are joined. -/
theorem JInv.join {m : Int → Nat} {U S L : List Int} {k : Int} {w : List Int} (h : JInv m U S L k w) {a b ra rb p q : Int} (ha : rhas w a) (hb : rhas w b) (hra : Root U a ra) (hrb : Root U b rb) (hne : ra ≠ rb)
    (hpq : (p = ra ∧ q = rb) ∨ (p = rb ∧ q = ra)) :
    ∃ m', JInv m' (U.set q.toNat p) (S.set p.toNat (g S p + g S q)) (L.set p.toNat (if g L q < g L p then g L q else g L p)) (k - 1) (runite w a b).1 ∧ (runite w a b).2 = true ∧ In w p ∧ In w q ∧ 0 ≤ g S p ∧ 0 ≤ g S q ∧ g S p + g S q ≤ w.length ∧ k ≤ w.length ∧ 1 ≤ k := by
  have hia : In w a := ⟨by have := ha.1; omega, ha.2⟩
  have hib : In w b := ⟨by have := hb.1; omega, hb.2⟩
  have hwne : g w a ≠ g w b := fun e => hne ((h.same a b ra rb hia hib hra hrb).2 e)
  -- p, q are the roots of some c, d
  obtain ⟨c, d, hc, hd, hrc, hrd, hcd⟩ : ∃ c d, rhas w c ∧ rhas w d ∧ Root U c p ∧ Root U d q ∧ ((c = a ∧ d = b) ∨ (c = b ∧ d = a)) := by
    rcases hpq with ⟨rfl, rfl⟩ | ⟨rfl, rfl⟩
    · exact ⟨a, b, ha, hb, hra, hrb, .inl ⟨rfl, rfl⟩⟩
    · exact ⟨b, a, hb, ha, hrb, hra, .inr ⟨rfl, rfl⟩⟩
  have hic : In w c := ⟨by have := hc.1; omega, hc.2⟩
  have hid : In w d := ⟨by have := hd.1; omega, hd.2⟩
  have hpn : p ≠ q := by rcases hpq with ⟨rfl, rfl⟩ | ⟨rfl, rfl⟩; exact hne; exact Ne.symm hne
  have hip := g_root h.wf h.lu hic hrc
  have hiq := g_root h.wf h.lu hid hrd
  have hipU : In U p := by simpa [In, h.lu] using hip
  have hiqU : In U q := by simpa [In, h.lu] using hiq
  obtain ⟨r1, r2⟩ := h.rep c p hic hrc
  obtain ⟨s1, s2⟩ := h.rep d q hid hrd
  have hcdw : g w c ≠ g w d := by rcases hcd with ⟨rfl, rfl⟩ | ⟨rfl, rfl⟩; exact hwne; exact Ne.symm hwne
  have hrun : runite w a b = (glue w (lo w a b) (hi w a b), true) := by unfold runite; rw [if_pos ⟨ha, hb, hwne⟩]
  have hla := h.wok.le a hia
  have hlb := h.wok.le b hib
  have hpa := h.wok.low a hia ha.1
  have hpb := h.wok.low b hib hb.1
  have hga : In w (g w a) := ⟨hla.1, by have := hia.2; omega⟩
  have hgb : In w (g w b) := ⟨hlb.1, by have := hib.2; omega⟩
  obtain ⟨l, hl⟩ : ∃ l, l = lo w a b := ⟨_, rfl⟩
  obtain ⟨hh, hhe⟩ : ∃ hh, hh = hi w a b := ⟨_, rfl⟩
  have hcases : (l = g w a ∧ hh = g w b ∧ g w a < g w b) ∨ (l = g w b ∧ hh = g w a ∧ g w b < g w a) := by
    rw [hl, hhe]; unfold lo hi; by_cases hlt : g w b < g w a
    · rw [if_pos hlt, if_pos hlt]; exact .inr ⟨rfl, rfl, hlt⟩
    · rw [if_neg hlt, if_neg hlt]; exact .inl ⟨rfl, rfl, by omega⟩
  have q1 : 1 ≤ l := by rcases hcases with ⟨rfl, _⟩ | ⟨rfl, _⟩; exact hpa; exact hpb
  have q2 : l < hh := by rcases hcases with ⟨rfl, rfl, x⟩ | ⟨rfl, rfl, x⟩ <;> exact x
  have q3 : In w l := by rcases hcases with ⟨rfl, _⟩ | ⟨rfl, _⟩; exact hga; exact hgb
  have q4 : In w hh := by rcases hcases with ⟨_, rfl, _⟩ | ⟨_, rfl, _⟩; exact hgb; exact hga
  have q5 : g w l = l := by rcases hcases with ⟨rfl, _⟩ | ⟨rfl, _⟩; exact h.wok.idem a hia; exact h.wok.idem b hib
  have q6 : g w hh = hh := by rcases hcases with ⟨_, rfl, _⟩ | ⟨_, rfl, _⟩; exact h.wok.idem b hib; exact h.wok.idem a hia
  have hset : (l = g w c ∧ hh = g w d) ∨ (l = g w d ∧ hh = g w c) := by
    rcases hcd with ⟨rfl, rfl⟩ | ⟨rfl, rfl⟩ <;> rcases hcases with ⟨x, y, _⟩ | ⟨x, y, _⟩
    · exact .inl ⟨x, y⟩
    · exact .inr ⟨x, y⟩
    · exact .inr ⟨x, y⟩
    · exact .inl ⟨x, y⟩
  have hin : ∀ x, In (glue w l hh) x ↔ In w x := fun x => by simp [In, glue_length]
  have hinU : ∀ x, In U x ↔ In w x := fun x => by simp [In, h.lu]
  have hv : ∀ x, In w x → g (glue w l hh) x = if g w x = hh then l else g w x := fun x hx => glue_val h.wok q1 q2 q3 q4 q5 q6 hx
  have hval : ∀ x, In w x → g (glue w l hh) x = if g w x = g w c ∨ g w x = g w d then l else g w x := fun x hx => by
    rw [hv x hx]
    rcases hset with ⟨e1, e2⟩ | ⟨e1, e2⟩ <;> rw [e1, e2] <;> by_cases h1 : g w x = g w c <;> by_cases h2 : g w x = g w d <;> simp_all
  obtain ⟨m', hw', hr'⟩ := hang h.wf hipU hiqU hrc.root hrd.root hpn
  have hcnt : (cnt (glue w l hh) l : Int) = g S p + g S q := by
    rw [glue_cnt_l h.wok q1 q2 q3 q4 q5 q6, r2, s2]
    rcases hset with ⟨e1, e2⟩ | ⟨e1, e2⟩ <;> rw [e1, e2] <;> push_cast <;> omega
  have hmin : (if g L q < g L p then g L q else g L p) = l := by
    rw [r1, s1]
    rcases hset with ⟨e1, e2⟩ | ⟨e1, e2⟩
    · rw [if_neg (by omega)]; exact e1.symm
    · rw [if_pos (by omega)]; exact e1.symm
  have hipS : In S p := by simpa [In, h.ls] using hip
  have hipL : In L p := by simpa [In, h.ll] using hip
  have hfix := glue_fix h.wok q1 q2 q3 q4 q5 q6
  have hroot : ∀ x r, In w x → Root (U.set q.toNat p) x r → ∃ r0, Root U x r0 ∧ r = if r0 = q then p else r0 := fun x r hx hr => by
    obtain ⟨r0, h0⟩ := Root.ex h.wf _ x (Nat.lt_succ_self _) ((hinU x).2 hx)
    exact ⟨r0, h0, (hr' x r0 ((hinU x).2 hx) h0).uniq hr⟩
  have hkw := fix_le w
  refine ⟨m', ?_, by rw [hrun], hip, hiq, by rw [r2]; omega, by rw [s2]; omega, ?_, by rw [h.sets]; omega, by rw [h.sets]; omega⟩
  · rw [hrun, ← hl, ← hhe]
    show JInv m' _ _ _ _ (glue w l hh)
    refine ⟨hw', by simp [glue_length, h.lu], by simp [glue_length, h.ls], by simp [glue_length, h.ll], glue_ok h.wok q1 q2 q3 q4 q5 q6, ?_, ?_, by rw [h.sets]; omega⟩
    · intro x r hx hr
      rw [hin] at hx
      obtain ⟨r0, h0, rfl⟩ := hroot x r hx hr
      obtain ⟨t1, t2⟩ := h.rep x r0 hx h0
      have hir := g_root h.wf h.lu hx h0
      rw [hval x hx]
      by_cases eq : r0 = q
      · rw [if_pos eq, g_set_same hipL, g_set_same hipS, hmin]
        have : g w x = g w d := (h.same x d r0 q hx hid h0 hrd).1 eq
        rw [if_pos (.inr this)]
        exact ⟨rfl, hcnt.symm⟩
      · rw [if_neg eq]
        by_cases ep : r0 = p
        · subst ep
          rw [g_set_same hipL, g_set_same hipS, hmin]
          have : g w x = g w c := (h.same x c r0 r0 hx hic h0 hrc).1 rfl
          rw [if_pos (.inl this)]
          exact ⟨rfl, hcnt.symm⟩
        · rw [g_set_other hip.1 hir.1 ep, g_set_other hip.1 hir.1 ep, t1, t2]
          have n1 : g w x ≠ g w c := fun e => ep ((h.same x c r0 p hx hic h0 hrc).2 e)
          have n2 : g w x ≠ g w d := fun e => eq ((h.same x d r0 q hx hid h0 hrd).2 e)
          rw [if_neg (by simp [n1, n2])]
          refine ⟨rfl, ?_⟩
          rw [glue_cnt_o h.wok q1 q2 q3 q4 q5 q6]
          · rcases hset with ⟨e1, e2⟩ | ⟨e1, e2⟩ <;> rw [e1] <;> assumption
          · rcases hset with ⟨e1, e2⟩ | ⟨e1, e2⟩ <;> rw [e2] <;> assumption
    · intro x y r t hx hy hr ht
      rw [hin] at hx hy
      obtain ⟨r0, h0, rfl⟩ := hroot x r hx hr
      obtain ⟨t0, h1, rfl⟩ := hroot y t hy ht
      have hxc := h.same x c r0 p hx hic h0 hrc
      have hxd := h.same x d r0 q hx hid h0 hrd
      have hyc := h.same y c t0 p hy hic h1 hrc
      have hyd := h.same y d t0 q hy hid h1 hrd
      have hxy := h.same x y r0 t0 hx hy h0 h1
      have key : ∀ z t0, In w z → (t0 = p ↔ g w z = g w c) → (t0 = q ↔ g w z = g w d) → ((t0 = q ∨ t0 = p) → g (glue w l hh) z = l) ∧ (t0 ≠ q → t0 ≠ p → g (glue w l hh) z = g w z ∧ g w z ≠ l) := by
        intro z t0 hz hc hd
        rw [hval z hz]
        refine ⟨fun ht => if_pos ?_, fun h1 h2 => ?_⟩
        · rcases ht with ht | ht
          · exact .inr (hd.1 ht)
          · exact .inl (hc.1 ht)
        · have n1 : g w z ≠ g w c := fun e => h2 (hc.2 e)
          have n2 : g w z ≠ g w d := fun e => h1 (hd.2 e)
          refine ⟨if_neg (by simp [n1, n2]), ?_⟩
          rcases hset with ⟨e1, _⟩ | ⟨e1, _⟩ <;> rw [e1] <;> assumption
      obtain ⟨kx1, kx2⟩ := key x r0 hx hxc hxd
      obtain ⟨ky1, ky2⟩ := key y t0 hy hyc hyd
      by_cases hxx : r0 = q ∨ r0 = p
      · have ex : (if r0 = q then p else r0) = p := by split; rfl; rename_i h1; exact hxx.resolve_left h1
        rw [ex, kx1 hxx]
        by_cases hyy : t0 = q ∨ t0 = p
        · have ey : (if t0 = q then p else t0) = p := by split; rfl; rename_i h1; exact hyy.resolve_left h1
          rw [ey, ky1 hyy]; simp
        · have y1 : t0 ≠ q := fun e => hyy (.inl e)
          have y2 : t0 ≠ p := fun e => hyy (.inr e)
          obtain ⟨e1, e2⟩ := ky2 y1 y2
          rw [if_neg y1, e1]
          exact ⟨fun e => absurd e.symm y2, fun e => absurd e.symm e2⟩
      · have x1 : r0 ≠ q := fun e => hxx (.inl e)
        have x2 : r0 ≠ p := fun e => hxx (.inr e)
        obtain ⟨e1, e2⟩ := kx2 x1 x2
        rw [if_neg x1, e1]
        by_cases hyy : t0 = q ∨ t0 = p
        · have ey : (if t0 = q then p else t0) = p := by split; rfl; rename_i h1; exact hyy.resolve_left h1
          rw [ey, ky1 hyy]
          exact ⟨fun e => absurd e x2, fun e => absurd e e2⟩
        · have y1 : t0 ≠ q := fun e => hyy (.inl e)
          have y2 : t0 ≠ p := fun e => hyy (.inr e)
          obtain ⟨e3, _⟩ := ky2 y1 y2
          rw [if_neg y1, e3]
          exact hxy
  · rw [← hcnt]; have := cnt_le (glue w l hh) l; rw [glue_length] at this; omega
end Go.Proofs.Ytnbgeodignljfaa.JP
