/- hand, plain: behind three rounds in which all comes, two ends are open by one number, or one is over. -/
import Derived.Test.YtdjbpnpfgabdjaaHandPlain
namespace Go.Proofs.Ytdjbpnpfgabdjaa.HP
set_option linter.unusedVariables false
set_option linter.unusedSimpArgs false
set_option linter.unusedSectionVars false
section
variable {limit : Int}

theorem come_10 (h0 h1 : H) (n : Note) (l w1 : List Note) : come limit ⟨h0, h1, n :: l, w1⟩ = hear limit ⟨h0, h1, l, w1⟩ false n := by
  obtain ⟨i, n', l', e1, e2⟩ := come_eq (limit := limit) (x := ⟨h0, h1, n :: l, w1⟩) (by simp [Pr.notes])
  have e3 : come limit ⟨h0, h1, n :: l, w1⟩ = act limit ⟨h0, h1, n :: l, w1⟩ false 2 0 := by simp [come, step, side]
  rw [e3]; simp [act, onWay, Pr.w, at_, Pr.setW]
theorem come_01 (h0 h1 : H) (n : Note) (l : List Note) : come limit ⟨h0, h1, [], n :: l⟩ = hear limit ⟨h0, h1, [], l⟩ true n := by
  have e3 : come limit ⟨h0, h1, [], n :: l⟩ = act limit ⟨h0, h1, [], n :: l⟩ true 2 0 := by simp [come, step, side]
  rw [e3]; simp [act, onWay, Pr.w, at_, Pr.setW]
theorem hear_p0 {h0 h1 g : H} {w0 w1 : List Note} {p : Int} (e : hello limit h1 p = (g, true)) : hear limit ⟨h0, h1, w0, w1⟩ false (true, p) = ⟨h0, g, w0, w1 ++ [(false, p)]⟩ := by
  simp [hear, Pr.h, Pr.w, Pr.setH, Pr.setW, e]
theorem hear_n0 {h0 h1 g : H} {w0 w1 : List Note} {p : Int} (e : hello limit h1 p = (g, false)) : hear limit ⟨h0, h1, w0, w1⟩ false (true, p) = ⟨h0, g, w0, w1⟩ := by
  simp [hear, Pr.h, Pr.setH, e]
theorem hear_w0 {h0 h1 : H} {w0 w1 : List Note} {p : Int} : hear limit ⟨h0, h1, w0, w1⟩ false (false, p) = ⟨h0, welcome h1 p, w0, w1⟩ := by
  simp [hear, Pr.h, Pr.setH]
theorem hear_p1 {h0 h1 g : H} {w0 w1 : List Note} {p : Int} (e : hello limit h0 p = (g, true)) : hear limit ⟨h0, h1, w0, w1⟩ true (true, p) = ⟨g, h1, w0 ++ [(false, p)], w1⟩ := by
  simp [hear, Pr.h, Pr.w, Pr.setH, Pr.setW, e]
theorem hear_n1 {h0 h1 g : H} {w0 w1 : List Note} {p : Int} (e : hello limit h0 p = (g, false)) : hear limit ⟨h0, h1, w0, w1⟩ true (true, p) = ⟨g, h1, w0, w1⟩ := by
  simp [hear, Pr.h, Pr.setH, e]
theorem hear_w1 {h0 h1 : H} {w0 w1 : List Note} {p : Int} : hear limit ⟨h0, h1, w0, w1⟩ true (false, p) = ⟨welcome h0 p, h1, w0, w1⟩ := by
  simp [hear, Pr.h, Pr.setH]

theorem hello_open_lt {h : H} {p : Int} (ho : h.over = false) (hp : 1 ≤ p ∧ p ≤ limit) (hc : h.cur ≠ 0) (hlt : h.cur < p) : hello limit h p = (⟨h.last, 0, p, false⟩, true) := by
  unfold hello; rw [if_neg (by simp [ho]; omega), if_neg hc, if_pos hlt]
theorem hello_open_eq {h : H} {p : Int} (ho : h.over = false) (hp : 1 ≤ p ∧ p ≤ limit) (hc : h.cur ≠ 0) (he : h.cur = p) : hello limit h p = (h, true) := by
  unfold hello; rw [if_neg (by simp [ho]; omega), if_neg hc, if_neg (by omega), decide_eq_true he.symm]
theorem hello_opn_lt {h : H} {p : Int} (ho : h.over = false) (hp : 1 ≤ p ∧ p ≤ limit) (hc : h.cur = 0) (hlt : h.prop < p) : hello limit h p = ({ h with prop := p }, true) := by
  unfold hello; rw [if_neg (by simp [ho]; omega), if_pos hc, if_pos hlt]
theorem hello_opn_eq {h : H} {p : Int} (ho : h.over = false) (hp : 1 ≤ p ∧ p ≤ limit) (hc : h.cur = 0) (he : h.prop = p) : hello limit h p = (h, true) := by
  unfold hello; rw [if_neg (by simp [ho]; omega), if_pos hc, if_neg (by omega), decide_eq_true he.symm]
theorem hello_opn_gt {h : H} {p : Int} (ho : h.over = false) (hp : 1 ≤ p ∧ p ≤ limit) (hc : h.cur = 0) (hlt : p < h.prop) : hello limit h p = (h, false) := by
  unfold hello; rw [if_neg (by simp [ho]; omega), if_pos hc, if_neg (by omega), decide_eq_false (by omega)]
theorem welcome_eq {h : H} {p : Int} (h0 : p ≠ 0) (he : h.prop = p) : welcome h p = ⟨p, p, 0, false⟩ := by
  unfold welcome; rw [if_neg (by rw [he]; simp [h0])]
theorem flush_step {x : Pr} {k : Nat} (h : x.notes ≠ 0) : flush limit (k + 1) x = flush limit k (come limit x) := by rw [flush, if_neg h]

def tick (limit : Int) (x : Pr) : Pr := step limit (step limit x ⟨1, 1, 0⟩) ⟨1, 2, 0⟩
theorem Inv.tick (hl : 1 ≤ limit ∧ limit ≤ 2147483647) {x : Pr} (h : Inv limit x) : Inv limit (tick limit x) := (h.step hl _).step hl _
theorem tick_eq (h0 h1 : H) (w0 w1 : List Note) : tick limit ⟨h0, h1, w0, w1⟩ = ⟨h0, h1, if h0.prop = 0 then w0 else w0 ++ [(true, h0.prop)], if h1.prop = 0 then w1 else w1 ++ [(true, h1.prop)]⟩ := by
  by_cases e0 : h0.prop = 0 <;> by_cases e1 : h1.prop = 0 <;> simp [tick, step, act, Pr.h, Pr.w, Pr.setW, e0, e1]

def Good (x : Pr) : Prop := x.h0.over = true ∨ x.h1.over = true ∨ (x.h0.cur ≠ 0 ∧ x.h0.cur = x.h1.cur)
def Near (x : Pr) : Prop := Good x ∨ ∃ q, q ≠ 0 ∧ (x.h0.cur = q ∧ x.h1.cur = 0 ∧ x.h1.prop = q ∨ x.h1.cur = q ∧ x.h0.cur = 0 ∧ x.h0.prop = q)

/-! who is over stays so -/
theorem hello_over {h : H} (ho : h.over = true) (p : Int) : hello limit h p = (h, false) := by unfold hello; rw [if_pos (.inl ho)]
theorem Inv.over_prop {x : Pr} (h : Inv limit x) (j : Bool) (ho : (x.h j).over = true) : (x.h j).prop = 0 := by
  rcases (h.ok j).may.2 with e | e
  · exact e.2.2
  · rw [ho] at e; cases e.1
theorem hear_over {x : Pr} {i j : Bool} {n : Note} (ho : (x.h j).over = true) (hp : (x.h j).prop = 0) : ((hear limit x i n).h j).over = true := by
  unfold hear
  by_cases e : j = !i
  · subst e
    split
    · rw [hello_over ho]; simp only [Bool.false_eq_true, if_false]; rw [Pr.h_setH, if_pos rfl]; exact ho
    · rw [Pr.h_setH, if_pos rfl]; unfold welcome; rw [if_pos (.inl hp)]; exact ho
  · split
    · split
      · rw [Pr.h_setW, Pr.h_setH, if_neg e]; exact ho
      · rw [Pr.h_setH, if_neg e]; exact ho
    · rw [Pr.h_setH, if_neg e]; exact ho
theorem come_over {x : Pr} (h : Inv limit x) {j : Bool} (ho : (x.h j).over = true) : ((come limit x).h j).over = true := by
  by_cases h0 : x.notes = 0
  · have : x.w0 = [] ∧ x.w1 = [] := by
      unfold Pr.notes at h0
      exact ⟨List.length_eq_zero_iff.1 (by omega), List.length_eq_zero_iff.1 (by omega)⟩
    obtain ⟨h0, h1, w0, w1⟩ := x
    simp only at this
    obtain ⟨rfl, rfl⟩ := this
    simpa [come, step, side, act, onWay, Pr.w] using ho
  · obtain ⟨i, n, l, e1, e2⟩ := come_eq (limit := limit) h0
    rw [e2]
    exact hear_over (by rw [Pr.h_setW]; exact ho) (by rw [Pr.h_setW]; exact h.over_prop j ho)
theorem flush_over (hl : 1 ≤ limit ∧ limit ≤ 2147483647) : ∀ (k : Nat) {x : Pr}, Inv limit x → ∀ {j : Bool}, (x.h j).over = true → ((flush limit k x).h j).over = true
  | 0, _, _, _, ho => ho
  | k + 1, x, h, j, ho => by
    simp only [flush]
    split
    · exact ho
    · exact flush_over hl k (h.come hl) (come_over h ho)
theorem tick_over {x : Pr} {j : Bool} (ho : (x.h j).over = true) : ((tick limit x).h j).over = true := by
  obtain ⟨h0, h1, w0, w1⟩ := x
  rw [tick_eq]; cases j <;> exact ho
theorem over_good {x : Pr} {j : Bool} (h : (x.h j).over = true) : Good x := by
  cases j
  · exact .inl h
  · exact .inr (.inl h)

theorem inv_of {h0 h1 : H} {w0 w1 : List Note} (h : Inv limit ⟨h0, h1, w0, w1⟩) : HI limit h0 ∧ HI limit h1 ∧ (h0.cur ≠ 0 → h1.ge h0.cur) ∧ (h1.cur ≠ 0 → h0.ge h1.cur) := ⟨h.ok false, h.ok true, h.opn false, h.opn true⟩
theorem opening {h : H} (hi : HI limit h) (ho : h.over = false) (hc : h.cur = 0) : 1 ≤ h.prop ∧ h.prop ≤ limit := by
  have := hi.may.1
  rcases hi.may.2 with e | ⟨_, e | e⟩
  · rw [ho] at e; cases e.1
  · exact absurd hc e.1
  · exact ⟨by omega, hi.lim⟩
theorem opened {h : H} (hi : HI limit h) (ho : h.over = false) (hc : h.cur ≠ 0) : h.prop = 0 ∧ 1 ≤ h.cur := by
  have := hi.may.1
  rcases hi.may.2 with e | ⟨_, e | e⟩
  · rw [ho] at e; cases e.1
  · exact ⟨e.2.2, by have := e.1; have := e.2.1; omega⟩
  · exact absurd e.1 hc
theorem ge_of {h : H} (ho : h.over = false) {c : Int} (hg : h.ge c) : c ≤ h.cur + h.prop := by
  rcases hg with e | e
  · rw [ho] at e; cases e
  · exact e

/-- One round, from a state in which nothing is on the ways. -/
theorem round_near (hl : 1 ≤ limit ∧ limit ≤ 2147483647) {h0 h1 : H} (h : Inv limit ⟨h0, h1, [], []⟩) (k : Nat) :
    Near (flush limit (k + 4) (tick limit ⟨h0, h1, [], []⟩)) ∧ (Near ⟨h0, h1, [], []⟩ → Good (flush limit (k + 4) (tick limit ⟨h0, h1, [], []⟩))) := by
  cases o0 : h0.over with
  | true =>
    have g : Good (flush limit (k + 4) (tick limit ⟨h0, h1, [], []⟩)) := over_good (j := false) (flush_over hl _ (h.tick hl) (tick_over o0))
    exact ⟨.inl g, fun _ => g⟩
  | false =>
  cases o1 : h1.over with
  | true =>
    have g : Good (flush limit (k + 4) (tick limit ⟨h0, h1, [], []⟩)) := over_good (j := true) (flush_over hl _ (h.tick hl) (tick_over o1))
    exact ⟨.inl g, fun _ => g⟩
  | false =>
  obtain ⟨i0, i1, g0, g1⟩ := inv_of h
  by_cases c0 : h0.cur = 0
  · obtain ⟨p1, p2⟩ := opening i0 o0 c0
    by_cases c1 : h1.cur = 0
    · obtain ⟨q1, q2⟩ := opening i1 o1 c1
      have et : tick limit ⟨h0, h1, [], []⟩ = ⟨h0, h1, [(true, h0.prop)], [(true, h1.prop)]⟩ := by rw [tick_eq, if_neg (by omega), if_neg (by omega)]; rfl
      have nn : ¬ Near ⟨h0, h1, [], []⟩ := by
        rintro ((e | e | e) | ⟨q, hq, e | e⟩)
        · rw [show (⟨h0, h1, [], []⟩ : Pr).h0 = h0 from rfl, o0] at e; cases e
        · rw [show (⟨h0, h1, [], []⟩ : Pr).h1 = h1 from rfl, o1] at e; cases e
        · exact e.1 c0
        · exact hq (e.1.symm.trans c0)
        · exact hq (e.1.symm.trans c1)
      refine ⟨?_, fun e => absurd e nn⟩
      rw [et, flush_step (by simp [Pr.notes]), come_10]
      rcases Int.lt_trichotomy h0.prop h1.prop with hlt | heq | hgt
      · rw [hear_n0 (hello_opn_gt o1 ⟨p1, p2⟩ c1 hlt), flush_step (by simp [Pr.notes]), come_01, hear_p1 (hello_opn_lt o0 ⟨q1, q2⟩ c0 hlt), flush_step (by simp [Pr.notes])]
        rw [show ([] : List Note) ++ [(false, h1.prop)] = (false, h1.prop) :: [] from rfl, come_10, hear_w0, welcome_eq (by omega) rfl, flush_done (by rfl)]
        exact .inr ⟨h1.prop, by omega, .inr ⟨rfl, c0, rfl⟩⟩
      · rw [hear_p0 (hello_opn_eq o1 ⟨p1, p2⟩ c1 heq.symm), flush_step (by simp [Pr.notes])]
        rw [show [((true, h1.prop) : Note)] ++ [(false, h0.prop)] = (true, h1.prop) :: [(false, h0.prop)] from rfl, come_01, hear_p1 (hello_opn_eq o0 ⟨q1, q2⟩ c0 heq), flush_step (by simp [Pr.notes])]
        rw [show ([] : List Note) ++ [(false, h1.prop)] = (false, h1.prop) :: [] from rfl, come_10, hear_w0, welcome_eq (by omega) rfl, flush_step (by simp [Pr.notes]), come_01, hear_w1, welcome_eq (by omega) rfl, flush_done (by rfl)]
        exact .inl (.inr (.inr ⟨by show h0.prop ≠ 0; omega, heq⟩))
      · rw [hear_p0 (hello_opn_lt o1 ⟨p1, p2⟩ c1 hgt), flush_step (by simp [Pr.notes])]
        rw [show [((true, h1.prop) : Note)] ++ [(false, h0.prop)] = (true, h1.prop) :: [(false, h0.prop)] from rfl, come_01, hear_n1 (hello_opn_gt o0 ⟨q1, q2⟩ c0 hgt), flush_step (by simp [Pr.notes]), come_01, hear_w1, welcome_eq (by omega) rfl, flush_done (by rfl)]
        exact .inr ⟨h0.prop, by omega, .inl ⟨rfl, c1, rfl⟩⟩
    · obtain ⟨z1, q1⟩ := opened i1 o1 c1
      have hge := ge_of o0 (g1 c1)
      have et : tick limit ⟨h0, h1, [], []⟩ = ⟨h0, h1, [(true, h0.prop)], []⟩ := by rw [tick_eq, if_neg (by omega), if_pos z1]; rfl
      rw [et, flush_step (by simp [Pr.notes]), come_10]
      by_cases hlt : h1.cur < h0.prop
      · rw [hear_p0 (hello_open_lt o1 ⟨p1, p2⟩ c1 hlt), flush_step (by simp [Pr.notes])]
        rw [show ([] : List Note) ++ [(false, h0.prop)] = (false, h0.prop) :: [] from rfl, come_01, hear_w1, welcome_eq (by omega) rfl, flush_done (by rfl)]
        refine ⟨.inr ⟨h0.prop, by omega, .inl ⟨rfl, rfl, rfl⟩⟩, fun e => ?_⟩
        rcases e with (e | e | e) | ⟨q, hq, e | e⟩
        · rw [show (⟨h0, h1, [], []⟩ : Pr).h0 = h0 from rfl, o0] at e; cases e
        · rw [show (⟨h0, h1, [], []⟩ : Pr).h1 = h1 from rfl, o1] at e; cases e
        · exact absurd c0 e.1
        · exact absurd e.2.1 c1
        · have a1 : h1.cur = q := e.1
          have a2 : h0.prop = q := e.2.2
          omega
      · rw [hear_p0 (hello_open_eq o1 ⟨p1, p2⟩ c1 (by omega)), flush_step (by simp [Pr.notes])]
        rw [show ([] : List Note) ++ [(false, h0.prop)] = (false, h0.prop) :: [] from rfl, come_01, hear_w1, welcome_eq (by omega) rfl, flush_done (by rfl)]
        have g : Good ⟨⟨h0.prop, h0.prop, 0, false⟩, h1, [], []⟩ := .inr (.inr ⟨by show h0.prop ≠ 0; omega, by show h0.prop = h1.cur; omega⟩)
        exact ⟨.inl g, fun _ => g⟩
  · obtain ⟨z0, p1⟩ := opened i0 o0 c0
    by_cases c1 : h1.cur = 0
    · obtain ⟨q1, q2⟩ := opening i1 o1 c1
      have hge := ge_of o1 (g0 c0)
      have et : tick limit ⟨h0, h1, [], []⟩ = ⟨h0, h1, [], [(true, h1.prop)]⟩ := by rw [tick_eq, if_pos z0, if_neg (by omega)]; rfl
      rw [et, flush_step (by simp [Pr.notes]), come_01]
      by_cases hlt : h0.cur < h1.prop
      · rw [hear_p1 (hello_open_lt o0 ⟨q1, q2⟩ c0 hlt), flush_step (by simp [Pr.notes])]
        rw [show ([] : List Note) ++ [(false, h1.prop)] = (false, h1.prop) :: [] from rfl, come_10, hear_w0, welcome_eq (by omega) rfl, flush_done (by rfl)]
        refine ⟨.inr ⟨h1.prop, by omega, .inr ⟨rfl, rfl, rfl⟩⟩, fun e => ?_⟩
        rcases e with (e | e | e) | ⟨q, hq, e | e⟩
        · rw [show (⟨h0, h1, [], []⟩ : Pr).h0 = h0 from rfl, o0] at e; cases e
        · rw [show (⟨h0, h1, [], []⟩ : Pr).h1 = h1 from rfl, o1] at e; cases e
        · exact absurd (e.2.trans c1) c0
        · have a1 : h0.cur = q := e.1
          have a2 : h1.prop = q := e.2.2
          omega
        · exact absurd e.2.1 c0
      · rw [hear_p1 (hello_open_eq o0 ⟨q1, q2⟩ c0 (by omega)), flush_step (by simp [Pr.notes])]
        rw [show ([] : List Note) ++ [(false, h1.prop)] = (false, h1.prop) :: [] from rfl, come_10, hear_w0, welcome_eq (by omega) rfl, flush_done (by rfl)]
        have g : Good ⟨h0, ⟨h1.prop, h1.prop, 0, false⟩, [], []⟩ := .inr (.inr ⟨c0, by show h0.cur = h1.prop; omega⟩)
        exact ⟨.inl g, fun _ => g⟩
    · obtain ⟨z1, q1⟩ := opened i1 o1 c1
      have e1 := ge_of o1 (g0 c0)
      have e2 := ge_of o0 (g1 c1)
      have et : tick limit ⟨h0, h1, [], []⟩ = ⟨h0, h1, [], []⟩ := by rw [tick_eq, if_pos z0, if_pos z1]
      rw [et, flush_done (by rfl)]
      have g : Good ⟨h0, h1, [], []⟩ := .inr (.inr ⟨c0, by show h0.cur = h1.cur; omega⟩)
      exact ⟨.inl g, fun _ => g⟩
theorem near_of_good {x : Pr} (h : Good x) : Near x := .inl h
theorem round_weight {x : Pr} (h : x.notes = 0) : (tick limit x).weight ≤ 4 := by
  have h1 := step_notes (limit := limit) x ⟨1, 1, 0⟩
  have h2 := step_notes (limit := limit) (step limit x ⟨1, 1, 0⟩) ⟨1, 2, 0⟩
  have h3 := Pr.weight_le (tick limit x)
  unfold tick at h3 ⊢
  omega
/-- A round of any length that is enough. -/
def Round (limit : Int) (x y : Pr) : Prop := ∃ k, (tick limit x).weight ≤ k ∧ y = flush limit k (tick limit x)
theorem Round.ok (hl : 1 ≤ limit ∧ limit ≤ 2147483647) {x y : Pr} (h : Inv limit x) (r : Round limit x y) : Inv limit y ∧ y.notes = 0 := by
  obtain ⟨k, hk, rfl⟩ := r
  exact ⟨(h.tick hl).flush hl k, flush_empty k hk⟩
theorem Round.near (hl : 1 ≤ limit ∧ limit ≤ 2147483647) {x y : Pr} (h : Inv limit x) (hn : x.notes = 0) (r : Round limit x y) : Near y ∧ (Near x → Good y) := by
  obtain ⟨k, hk, rfl⟩ := r
  have hw := round_weight (limit := limit) hn
  obtain ⟨h0, h1, w0, w1⟩ := x
  obtain ⟨rfl, rfl⟩ : w0 = [] ∧ w1 = [] := by
    unfold Pr.notes at hn
    exact ⟨List.length_eq_zero_iff.1 (by simp only at hn; omega), List.length_eq_zero_iff.1 (by simp only at hn; omega)⟩
  rw [flush_more k (0 + 4) hk hw]
  exact round_near hl h 0
end
end Go.Proofs.Ytdjbpnpfgabdjaa.HP
