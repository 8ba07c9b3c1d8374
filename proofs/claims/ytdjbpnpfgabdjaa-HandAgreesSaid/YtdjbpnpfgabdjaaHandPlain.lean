/- hand, plain: two ends in any weather, and that they agree. -/
namespace Go.Proofs.Ytdjbpnpfgabdjaa.HP
set_option linter.unusedVariables false
set_option linter.unusedSimpArgs false
set_option linter.unusedSectionVars false

structure H where
  last : Int
  cur : Int
  prop : Int
  over : Bool
abbrev Note := Bool × Int

def H.May (h : H) : Prop := (0 ≤ h.last ∧ h.last ≤ 2147483647) ∧
  (h.over = true ∧ h.cur = 0 ∧ h.prop = 0 ∨ h.over = false ∧ (h.cur ≠ 0 ∧ h.cur = h.last ∧ h.prop = 0 ∨ h.cur = 0 ∧ h.last < h.prop ∧ h.prop ≤ 2147483647))
def hnew (last limit : Int) : H := if limit ≤ last then ⟨last, 0, 0, true⟩ else ⟨last, 0, last + 1, false⟩
def hello (limit : Int) (h : H) (p : Int) : H × Bool :=
  if h.over = true ∨ p < 1 ∨ limit < p then (h, false)
  else if h.cur = 0 then (if h.prop < p then ({ h with prop := p }, true) else (h, decide (p = h.prop)))
  else if h.cur < p then (⟨h.last, 0, p, false⟩, true) else (h, decide (p = h.cur))
/-- Does one's session end? -/
def helE (limit : Int) (h : H) (p : Int) : Bool := if h.over = true ∨ p < 1 ∨ limit < p then false else if h.cur = 0 then false else if h.cur < p then true else false
def welE (prop p : Int) : Bool := if prop = 0 ∨ p ≠ prop then false else true
def welcome (h : H) (p : Int) : H := if h.prop = 0 ∨ p ≠ h.prop then h else ⟨p, p, 0, false⟩
def close (limit : Int) (h : H) : H := if h.cur = 0 then h else hnew h.last limit

structure Pr where
  h0 : H
  h1 : H
  w0 : List Note
  w1 : List Note
def Pr.h (x : Pr) : Bool → H
  | false => x.h0
  | true => x.h1
def Pr.w (x : Pr) : Bool → List Note
  | false => x.w0
  | true => x.w1
def Pr.setH (x : Pr) (i : Bool) (h : H) : Pr := match i with
  | false => { x with h0 := h }
  | true => { x with h1 := h }
def Pr.setW (x : Pr) (i : Bool) (l : List Note) : Pr := match i with
  | false => { x with w0 := l }
  | true => { x with w1 := l }
/-- What the other end does with a note that end i sent. -/
def hear (limit : Int) (x : Pr) (i : Bool) (n : Note) : Pr :=
  if n.1 = true then
    (if (hello limit (x.h (!i)) n.2).2 = true then (x.setH (!i) (hello limit (x.h (!i)) n.2).1).setW (!i) (x.w (!i) ++ [(false, n.2)]) else x.setH (!i) (hello limit (x.h (!i)) n.2).1)
  else x.setH (!i) (welcome (x.h (!i)) n.2)
def at_ (n : Int) (len : Nat) : Nat := (n % (len : Int)).toNat
def onWay (limit : Int) (x : Pr) (i : Bool) (kind n : Int) : Pr :=
  if (x.w i).length = 0 ∨ kind < 2 ∨ 5 < kind then x else
  if kind = 2 then hear limit (x.setW i ((x.w i).eraseIdx (at_ n (x.w i).length))) i ((x.w i).getD (at_ n (x.w i).length) (false, 0))
  else if kind = 3 then x.setW i ((x.w i).eraseIdx (at_ n (x.w i).length))
  else if kind = 4 then x.setW i (x.w i ++ [(x.w i).getD (at_ n (x.w i).length) (false, 0)])
  else x.setW i ((x.w i).eraseIdx (at_ n (x.w i).length) ++ [(x.w i).getD (at_ n (x.w i).length) (false, 0)])
def act (limit : Int) (x : Pr) (i : Bool) (kind n : Int) : Pr :=
  if kind = 1 then (if (x.h i).prop = 0 then x else x.setW i (x.w i ++ [(true, (x.h i).prop)]))
  else if kind = 9 then x.setH i (close limit (x.h i))
  else onWay limit x i kind n
/-- An act: its kind, its end (1 or 2), its number. -/
structure Op where
  kind : Int
  a : Int
  n : Int
def step (limit : Int) (x : Pr) (o : Op) : Pr :=
  if o.a = 1 then act limit x false o.kind o.n else if o.a = 2 then act limit x true o.kind o.n else x
def begin_ (limit : Int) : Pr := ⟨hnew 0 limit, hnew 0 limit, [], []⟩
def run (limit : Int) (x : Pr) (l : List Op) : Pr := l.foldl (step limit) x

section
variable {limit : Int}
theorem Pr.h_setH (x : Pr) (i : Bool) (h : H) (j : Bool) : (x.setH i h).h j = if j = i then h else x.h j := by cases i <;> cases j <;> rfl
theorem Pr.w_setH (x : Pr) (i : Bool) (h : H) (j : Bool) : (x.setH i h).w j = x.w j := by cases i <;> cases j <;> rfl
theorem Pr.h_setW (x : Pr) (i : Bool) (l : List Note) (j : Bool) : (x.setW i l).h j = x.h j := by cases i <;> cases j <;> rfl
theorem Pr.w_setW (x : Pr) (i : Bool) (l : List Note) (j : Bool) : (x.setW i l).w j = if j = i then l else x.w j := by cases i <;> cases j <;> rfl

/-- An end is at least at a number. -/
def H.ge (h : H) (c : Int) : Prop := h.over = true ∨ c ≤ h.cur + h.prop
structure HI (limit : Int) (h : H) : Prop where
  may : h.May
  lim : h.prop ≤ limit
theorem hnew_ok (hl : 1 ≤ limit ∧ limit ≤ 2147483647) {last : Int} (h : 0 ≤ last ∧ last ≤ 2147483647) : HI limit (hnew last limit) := by
  unfold hnew; split
  · exact ⟨⟨h, .inl ⟨rfl, rfl, rfl⟩⟩, by show (0 : Int) ≤ limit; omega⟩
  · exact ⟨⟨h, .inr ⟨rfl, .inr ⟨rfl, by show last < last + 1; omega, by show last + 1 ≤ 2147483647; omega⟩⟩⟩, by show last + 1 ≤ limit; omega⟩
theorem hello_ok (hl : 1 ≤ limit ∧ limit ≤ 2147483647) {h : H} (hi : HI limit h) (p : Int) :
    HI limit (hello limit h p).1 ∧ (∀ c, h.ge c → (hello limit h p).1.ge c) ∧ ((hello limit h p).2 = true → 1 ≤ p ∧ (hello limit h p).1.ge p) ∧
    ((hello limit h p).1.cur ≠ 0 → (hello limit h p).1 = h) := by
  obtain ⟨⟨hl1, hm⟩, hp⟩ := hi
  unfold hello
  split
  · exact ⟨⟨⟨hl1, hm⟩, hp⟩, fun _ h => h, fun h => (by cases h), fun _ => rfl⟩
  rename_i h0
  have ho : h.over = false := by cases e : h.over with
    | false => rfl
    | true => exact absurd (.inl e) h0
  have hm' := hm.resolve_left (fun e => by rw [ho] at e; cases e.1)
  have hp1 : 1 ≤ p ∧ p ≤ limit := by
    refine ⟨?_, ?_⟩ <;> refine Decidable.byContradiction fun e => h0 ?_
    · exact .inr (.inl (by omega))
    · exact .inr (.inr (by omega))
  split
  · rename_i hc
    have hq := hm'.2.resolve_left (fun e => e.1 hc)
    split
    · rename_i hlt
      refine ⟨⟨⟨hl1, .inr ⟨ho, .inr ⟨hc, by show h.last < p; omega, by show p ≤ _; omega⟩⟩⟩, hp1.2⟩, fun c hcg => ?_, fun _ => ⟨hp1.1, .inr (by show p ≤ h.cur + p; omega)⟩, fun e => absurd hc e⟩
      rcases hcg with e | e
      · exact .inl e
      · exact .inr (by show c ≤ h.cur + p; omega)
    · exact ⟨⟨⟨hl1, hm⟩, hp⟩, fun _ h => h, fun e => ⟨hp1.1, .inr (by have := of_decide_eq_true e; show p ≤ h.cur + h.prop; omega)⟩, fun _ => rfl⟩
  · rename_i hc
    have hq := hm'.2.resolve_right (fun e => hc e.1)
    split
    · rename_i hlt
      refine ⟨⟨⟨hl1, .inr ⟨rfl, .inr ⟨rfl, by show h.last < p; omega, by show p ≤ _; omega⟩⟩⟩, hp1.2⟩, fun c hcg => ?_, fun _ => ⟨hp1.1, .inr (by show p ≤ 0 + p; omega)⟩, fun e => absurd rfl e⟩
      rcases hcg with e | e
      · rw [ho] at e; cases e
      · exact .inr (by show c ≤ 0 + p; omega)
    · exact ⟨⟨⟨hl1, hm⟩, hp⟩, fun _ h => h, fun e => ⟨hp1.1, .inr (by have := of_decide_eq_true e; show p ≤ h.cur + h.prop; omega)⟩, fun _ => rfl⟩
theorem welcome_ok {h : H} (hl : 1 ≤ limit ∧ limit ≤ 2147483647) (hi : HI limit h) (p : Int) :
    HI limit (welcome h p) ∧ (∀ c, h.ge c → (welcome h p).ge c) ∧ (welcome h p = h ∨ (welcome h p).cur = p ∧ h.last < p) := by
  unfold welcome
  split
  · exact ⟨hi, fun _ h => h, .inl rfl⟩
  rename_i h0
  obtain ⟨⟨hl1, hm⟩, hp⟩ := hi
  have e1 : h.prop ≠ 0 := fun e => h0 (.inl e)
  have e2 : p = h.prop := Decidable.byContradiction fun e => h0 (.inr e)
  subst e2
  have hq : h.over = false ∧ h.cur = 0 ∧ h.last < h.prop ∧ h.prop ≤ 2147483647 := by
    rcases hm with e | ⟨e, e2 | e2⟩
    · exact absurd e.2.2 e1
    · exact absurd e2.2.2 e1
    · exact ⟨e, e2⟩
  refine ⟨⟨⟨⟨by show 0 ≤ h.prop; omega, by show h.prop ≤ _; omega⟩, .inr ⟨rfl, .inl ⟨e1, rfl, rfl⟩⟩⟩, by show (0 : Int) ≤ limit; omega⟩, fun c hcg => ?_, .inr ⟨rfl, hq.2.2.1⟩⟩
  rcases hcg with e | e
  · rw [hq.1] at e; cases e
  · exact .inr (by show c ≤ h.prop + 0; omega)
theorem close_ok {h : H} (hl : 1 ≤ limit ∧ limit ≤ 2147483647) (hi : HI limit h) : HI limit (close limit h) ∧ (∀ c, h.ge c → (close limit h).ge c) ∧ (close limit h).cur = 0 := by
  unfold close
  split
  · rename_i h0; exact ⟨hi, fun _ h => h, h0⟩
  rename_i h0
  obtain ⟨⟨hl1, hm⟩, hp⟩ := hi
  refine ⟨hnew_ok hl hl1, fun c hcg => ?_, by unfold hnew; split <;> rfl⟩
  have hq : h.over = false ∧ h.cur = h.last ∧ h.prop = 0 := by
    rcases hm with e | ⟨e, e2 | e2⟩
    · exact absurd e.2.1 h0
    · exact ⟨e, e2.2⟩
    · exact absurd e2.1 h0
  unfold hnew
  split
  · exact .inl rfl
  · rcases hcg with e | e
    · rw [hq.1] at e; cases e
    · exact .inr (by show c ≤ 0 + (h.last + 1); omega)

/-- What holds in any weather. -/
structure Inv (limit : Int) (x : Pr) : Prop where
  ok : ∀ i, HI limit (x.h i)
  hel : ∀ i, ∀ n ∈ x.w i, n.1 = true → 1 ≤ n.2 ∧ n.2 ≤ limit
  wel : ∀ i, ∀ n ∈ x.w i, n.1 = false → (x.h i).ge n.2
  opn : ∀ i, (x.h i).cur ≠ 0 → (x.h (!i)).ge (x.h i).cur
theorem Inv.begin (hl : 1 ≤ limit ∧ limit ≤ 2147483647) : Inv limit (begin_ limit) := by
  have h0 := hnew_ok hl (last := 0) (by omega)
  have hc : (hnew 0 limit).cur = 0 := by unfold hnew; split <;> rfl
  refine ⟨fun i => (by cases i <;> exact h0), fun i n hn => (by cases i <;> cases hn), fun i n hn => (by cases i <;> cases hn), fun i hi => (by cases i <;> exact absurd hc hi)⟩
/-- Fewer notes, or the same ones again. -/
theorem Inv.less {x : Pr} (h : Inv limit x) (i : Bool) {l : List Note} (hl : ∀ n ∈ l, n ∈ x.w i) : Inv limit (x.setW i l) := by
  refine ⟨fun j => by rw [Pr.h_setW]; exact h.ok j, fun j n hn e => ?_, fun j n hn e => ?_, fun j hj => ?_⟩
  · rw [Pr.w_setW] at hn
    split at hn
    · rename_i e2; subst e2; exact h.hel j n (hl n hn) e
    · exact h.hel j n hn e
  · rw [Pr.w_setW] at hn; rw [Pr.h_setW]
    split at hn
    · rename_i e2; subst e2; exact h.wel j n (hl n hn) e
    · exact h.wel j n hn e
  · rw [Pr.h_setW] at hj ⊢; rw [Pr.h_setW]; exact h.opn j hj
/-- An end that goes on. -/
theorem Inv.goes {x : Pr} (h : Inv limit x) (i : Bool) {g : H} (hg : HI limit g) (hge : ∀ c, (x.h i).ge c → g.ge c) (hc : g.cur ≠ 0 → (x.h (!i)).ge g.cur) : Inv limit (x.setH i g) := by
  refine ⟨fun j => ?_, fun j n hn e => ?_, fun j n hn e => ?_, fun j hj => ?_⟩
  · rw [Pr.h_setH]; split
    · exact hg
    · exact h.ok j
  · rw [Pr.w_setH] at hn; exact h.hel j n hn e
  · rw [Pr.w_setH] at hn; rw [Pr.h_setH]; split
    · rename_i e2; subst e2; exact hge _ (h.wel j n hn e)
    · exact h.wel j n hn e
  · rw [Pr.h_setH] at hj ⊢; rw [Pr.h_setH]
    by_cases e : j = i
    · subst e
      rw [if_pos rfl] at hj ⊢
      rw [if_neg (by cases j <;> simp)]
      exact hc hj
    · rw [if_neg e] at hj ⊢
      have e2 : (!j) = i := by cases i <;> cases j <;> simp_all
      rw [if_pos e2]
      exact hge _ (by have := h.opn j hj; rwa [e2] at this)
theorem Inv.more {x : Pr} (h : Inv limit x) (i : Bool) (n : Note) (h1 : n.1 = true → 1 ≤ n.2 ∧ n.2 ≤ limit) (h2 : n.1 = false → (x.h i).ge n.2) : Inv limit (x.setW i (x.w i ++ [n])) := by
  refine ⟨fun j => by rw [Pr.h_setW]; exact h.ok j, fun j m hm e => ?_, fun j m hm e => ?_, fun j hj => ?_⟩
  · rw [Pr.w_setW] at hm
    split at hm
    · rename_i e2; subst e2
      rcases List.mem_append.1 hm with hm | hm
      · exact h.hel j m hm e
      · rw [List.mem_singleton.1 hm] at e ⊢; exact h1 e
    · exact h.hel j m hm e
  · rw [Pr.w_setW] at hm; rw [Pr.h_setW]
    split at hm
    · rename_i e2; subst e2
      rcases List.mem_append.1 hm with hm | hm
      · exact h.wel j m hm e
      · rw [List.mem_singleton.1 hm] at e ⊢; exact h2 e
    · exact h.wel j m hm e
  · rw [Pr.h_setW] at hj ⊢; rw [Pr.h_setW]; exact h.opn j hj
theorem Inv.hear (hl : 1 ≤ limit ∧ limit ≤ 2147483647) {x : Pr} (h : Inv limit x) (i : Bool) {n : Note} (h1 : n.1 = true → 1 ≤ n.2 ∧ n.2 ≤ limit) (h2 : n.1 = false → (x.h i).ge n.2) : Inv limit (hear limit x i n) := by
  unfold HP.hear
  have nn : (!(!i)) = i := by cases i <;> rfl
  split
  · rename_i e
    obtain ⟨a, b, c, d⟩ := hello_ok hl (h.ok (!i)) n.2
    have g := h.goes (!i) a b (fun hc => by rw [nn, d hc]; rw [d hc] at hc; have := h.opn (!i) hc; rwa [nn] at this)
    split
    · rename_i e2
      have := g.more (!i) (false, n.2) (fun e => by cases e) (fun _ => by rw [Pr.h_setH, if_pos rfl]; exact (c e2).2)
      rwa [Pr.w_setH] at this
    · exact g
  · rename_i e
    obtain ⟨a, b, c⟩ := welcome_ok hl (h.ok (!i)) n.2
    refine h.goes (!i) a b (fun hc => ?_)
    rw [nn]
    rcases c with c | c
    · rw [c] at hc ⊢; have := h.opn (!i) hc; rwa [nn] at this
    · rw [c.1]; exact h2 (by cases e3 : n.1 with
        | false => rfl
        | true => exact absurd e3 e)
theorem mem_erase {l : List Note} {k : Nat} : ∀ n ∈ l.eraseIdx k, n ∈ l := fun _ h => List.mem_of_mem_eraseIdx h
theorem getD_mem {l : List Note} {k : Nat} (h : k < l.length) (d : Note) : l.getD k d ∈ l := by
  simp [List.getD, h]
theorem at_lt {n : Int} {len : Nat} (h : len ≠ 0) : at_ n len < len := by
  unfold at_
  have := Int.emod_lt_of_pos n (show (0 : Int) < len by omega)
  have := Int.emod_nonneg n (show (len : Int) ≠ 0 by omega)
  omega
theorem Inv.act (hl : 1 ≤ limit ∧ limit ≤ 2147483647) {x : Pr} (h : Inv limit x) (i : Bool) (kind n : Int) : Inv limit (act limit x i kind n) := by
  unfold HP.act
  split
  · split
    · exact h
    · rename_i e
      refine h.more i _ (fun _ => ?_) (fun e => by cases e)
      have hm := (h.ok i).may.2
      have hp := (h.ok i).lim
      have hl0 := (h.ok i).may.1
      rcases hm with e1 | ⟨_, e1 | e1⟩
      · exact absurd e1.2.2 e
      · exact absurd e1.2.2 e
      · exact ⟨by show 1 ≤ (x.h i).prop; omega, hp⟩
  · split
    · obtain ⟨a, b, c⟩ := close_ok hl (h.ok i)
      exact h.goes i a b (fun e => absurd c e)
    · unfold onWay
      split
      · exact h
      rename_i hc
      have hlen : (x.w i).length ≠ 0 := fun e => hc (.inl e)
      have hm := getD_mem (at_lt (n := n) hlen) (false, 0)
      split
      · refine (h.less i mem_erase).hear hl i (fun e => h.hel i _ hm e) (fun e => by rw [Pr.h_setW]; exact h.wel i _ hm e)
      · split
        · exact h.less i mem_erase
        · split
          · refine h.less i (fun m hm2 => ?_)
            rcases List.mem_append.1 hm2 with e | e
            · exact e
            · rw [List.mem_singleton.1 e]; exact hm
          · refine h.less i (fun m hm2 => ?_)
            rcases List.mem_append.1 hm2 with e | e
            · exact mem_erase m e
            · rw [List.mem_singleton.1 e]; exact hm
theorem Inv.step (hl : 1 ≤ limit ∧ limit ≤ 2147483647) {x : Pr} (h : Inv limit x) (o : Op) : Inv limit (step limit x o) := by
  unfold HP.step
  split
  · exact h.act hl _ _ _
  · split
    · exact h.act hl _ _ _
    · exact h
theorem Inv.run (hl : 1 ≤ limit ∧ limit ≤ 2147483647) : ∀ (l : List Op) {x : Pr}, Inv limit x → Inv limit (run limit x l)
  | [], _, h => h
  | o :: l, _, h => Inv.run hl l (h.step hl o)

/-! how many notes -/
def Pr.notes (x : Pr) : Nat := x.w0.length + x.w1.length
theorem Pr.notes_setH (x : Pr) (i : Bool) (h : H) : (x.setH i h).notes = x.notes := by cases i <;> rfl
theorem Pr.notes_setW (x : Pr) (i : Bool) (l : List Note) : (x.setW i l).notes + (x.w i).length = x.notes + l.length := by
  cases i <;> simp only [Pr.notes, Pr.setW, Pr.w] <;> omega
theorem hear_notes (x : Pr) (i : Bool) (n : Note) : (hear limit x i n).notes ≤ x.notes + 1 := by
  unfold hear
  split
  · split
    · have := Pr.notes_setW (x.setH (!i) (hello limit (x.h (!i)) n.2).1) (!i) (x.w (!i) ++ [(false, n.2)])
      rw [Pr.w_setH, Pr.notes_setH, List.length_append, List.length_singleton] at this; omega
    · rw [Pr.notes_setH]; omega
  · rw [Pr.notes_setH]; omega
theorem act_notes (x : Pr) (i : Bool) (kind n : Int) : (act limit x i kind n).notes ≤ x.notes + 1 := by
  unfold act
  split
  · split
    · omega
    · have := Pr.notes_setW x i (x.w i ++ [(true, (x.h i).prop)])
      rw [List.length_append, List.length_singleton] at this; omega
  · split
    · rw [Pr.notes_setH]; omega
    · unfold onWay
      split
      · omega
      rename_i hc
      have hlen : (x.w i).length ≠ 0 := fun e => hc (.inl e)
      have hk := at_lt (n := n) hlen
      have he := List.length_eraseIdx_of_lt hk
      have h1 := Pr.notes_setW x i ((x.w i).eraseIdx (at_ n (x.w i).length))
      split
      · have := hear_notes (limit := limit) (x.setW i ((x.w i).eraseIdx (at_ n (x.w i).length))) i ((x.w i).getD (at_ n (x.w i).length) (false, 0)); omega
      · split
        · omega
        · split
          · have := Pr.notes_setW x i (x.w i ++ [(x.w i).getD (at_ n (x.w i).length) (false, 0)])
            rw [List.length_append, List.length_singleton] at this; omega
          · have := Pr.notes_setW x i ((x.w i).eraseIdx (at_ n (x.w i).length) ++ [(x.w i).getD (at_ n (x.w i).length) (false, 0)])
            rw [List.length_append, List.length_singleton] at this; omega
theorem step_notes (x : Pr) (o : Op) : (step limit x o).notes ≤ x.notes + 1 := by
  unfold step
  split
  · exact act_notes _ _ _ _
  · split
    · exact act_notes _ _ _ _
    · omega
theorem run_notes : ∀ (l : List Op) (x : Pr), (run limit x l).notes ≤ x.notes + l.length
  | [], x => Nat.le_refl _
  | o :: l, x => by have := run_notes l (step limit x o); have := step_notes (limit := limit) x o; show (run limit (step limit x o) l).notes ≤ _; rw [List.length_cons]; omega
theorem run_snoc (x : Pr) (l : List Op) (o : Op) : run limit x (l ++ [o]) = step limit (run limit x l) o := by simp [run]

/-! all that is on the ways comes -/
def weigh (l : List Note) : Nat := (l.map fun n => if n.1 = true then 2 else 1).sum
def Pr.weight (x : Pr) : Nat := weigh x.w0 + weigh x.w1
theorem weigh_append (l m : List Note) : weigh (l ++ m) = weigh l + weigh m := by simp [weigh]
theorem weigh_le (l : List Note) : weigh l ≤ 2 * l.length := by
  induction l with
  | nil => exact Nat.le_refl _
  | cons a l ih => simp only [weigh, List.map_cons, List.sum_cons, List.length_cons] at *; split <;> omega
theorem weigh_pos {l : List Note} (h : l.length ≠ 0) : 0 < weigh l := by
  cases l with
  | nil => exact absurd rfl h
  | cons a l => simp only [weigh, List.map_cons, List.sum_cons]; split <;> omega
theorem Pr.weight_le (x : Pr) : x.weight ≤ 2 * x.notes := by have := weigh_le x.w0; have := weigh_le x.w1; unfold weight notes; omega
theorem Pr.weight_setH (x : Pr) (i : Bool) (h : H) : (x.setH i h).weight = x.weight := by cases i <;> rfl
theorem Pr.weight_setW (x : Pr) (i : Bool) (l : List Note) : (x.setW i l).weight + weigh (x.w i) = x.weight + weigh l := by
  cases i <;> simp only [weight, Pr.setW, Pr.w] <;> omega
/-- The next one comes: of the first way, or, where nothing is there, of the second one. -/
def side (x : Pr) : Int := if x.w0.length = 0 then 2 else 1
def come (limit : Int) (x : Pr) : Pr := step limit x ⟨2, side x, 0⟩
theorem come_eq {x : Pr} (h : x.notes ≠ 0) : ∃ i n l, x.w i = n :: l ∧ come limit x = hear limit (x.setW i l) i n := by
  have key : ∀ i, (x.w i).length ≠ 0 → act limit x i 2 0 = hear limit (x.setW i ((x.w i).eraseIdx 0)) i ((x.w i).getD 0 (false, 0)) := by
    intro i hi
    have h0 : at_ 0 (x.w i).length = 0 := by simp [at_]
    unfold act onWay
    rw [if_neg (by decide), if_neg (by decide), if_neg (by simp [hi] <;> omega), if_pos rfl, h0]
  have fin : ∀ i, (x.w i).length ≠ 0 → come limit x = act limit x i 2 0 → ∃ i n l, x.w i = n :: l ∧ come limit x = hear limit (x.setW i l) i n := by
    intro i hi e
    rw [key i hi] at e
    cases hw : x.w i with
    | nil => rw [hw] at hi; exact absurd rfl hi
    | cons n l => rw [hw] at e; exact ⟨i, n, l, hw, e⟩
  unfold come step side at *
  by_cases h0 : x.w0.length = 0
  · refine fin true (by unfold Pr.notes at h; show x.w1.length ≠ 0; omega) ?_
    simp only [h0, if_true]; rfl
  · refine fin false h0 ?_
    simp only [h0, if_false]; rfl
theorem hear_weight (x : Pr) (i : Bool) (n : Note) : (hear limit x i n).weight + 1 ≤ x.weight + (if n.1 = true then 2 else 1) := by
  unfold hear
  by_cases e : n.1 = true
  · rw [if_pos e, if_pos e]
    split
    · have := Pr.weight_setW (x.setH (!i) (hello limit (x.h (!i)) n.2).1) (!i) (x.w (!i) ++ [(false, n.2)])
      rw [Pr.w_setH, Pr.weight_setH, weigh_append] at this
      have e1 : weigh [((false, n.2) : Note)] = 1 := rfl
      omega
    · rw [Pr.weight_setH]; omega
  · rw [if_neg e, if_neg e, Pr.weight_setH]; omega
theorem come_weight {x : Pr} (h : x.notes ≠ 0) : (come limit x).weight + 1 ≤ x.weight := by
  obtain ⟨i, n, l, e1, e2⟩ := come_eq (limit := limit) h
  rw [e2]
  have h1 := hear_weight (limit := limit) (x.setW i l) i n
  have h2 := Pr.weight_setW x i l
  rw [e1] at h2
  have h3 : weigh (n :: l) = (if n.1 = true then 2 else 1) + weigh l := by simp [weigh]
  omega
theorem notes_zero {x : Pr} (h : x.weight = 0) : x.notes = 0 := by
  unfold Pr.weight at h
  unfold Pr.notes
  have h0 : x.w0.length = 0 := Decidable.byContradiction fun e => by have := weigh_pos e; omega
  have h1 : x.w1.length = 0 := Decidable.byContradiction fun e => by have := weigh_pos e; omega
  omega
/-- What all that comes leaves. -/
def flush (limit : Int) : Nat → Pr → Pr
  | 0, x => x
  | k + 1, x => if x.notes = 0 then x else flush limit k (come limit x)
theorem flush_done {x : Pr} (h : x.notes = 0) : ∀ k, flush limit k x = x
  | 0 => rfl
  | k + 1 => by rw [flush, if_pos h]
theorem flush_more : ∀ (k k' : Nat) {x : Pr}, x.weight ≤ k → x.weight ≤ k' → flush limit k x = flush limit k' x
  | 0, k', x, h, _ => by rw [flush_done (notes_zero (by omega)), flush_done (notes_zero (by omega))]
  | k + 1, 0, x, _, h => by rw [flush_done (notes_zero (by omega)), flush_done (notes_zero (by omega))]
  | k + 1, k' + 1, x, h, h' => by
    simp only [flush]
    split
    · rfl
    · rename_i e
      have := come_weight (limit := limit) e
      exact flush_more k k' (by omega) (by omega)
theorem flush_empty : ∀ (k : Nat) {x : Pr}, x.weight ≤ k → (flush limit k x).notes = 0
  | 0, x, h => notes_zero (by show x.weight = 0; omega)
  | k + 1, x, h => by
    simp only [flush]
    split
    · assumption
    · rename_i e
      have := come_weight (limit := limit) e
      exact flush_empty k (by omega)
theorem Inv.come (hl : 1 ≤ limit ∧ limit ≤ 2147483647) {x : Pr} (h : Inv limit x) : Inv limit (come limit x) := h.step hl _
theorem Inv.flush (hl : 1 ≤ limit ∧ limit ≤ 2147483647) : ∀ (k : Nat) {x : Pr}, Inv limit x → Inv limit (flush limit k x)
  | 0, _, h => h
  | k + 1, x, h => by
    simp only [HP.flush]
    split
    · exact h
    · exact Inv.flush hl k (h.come hl)
end
end Go.Proofs.Ytdjbpnpfgabdjaa.HP
