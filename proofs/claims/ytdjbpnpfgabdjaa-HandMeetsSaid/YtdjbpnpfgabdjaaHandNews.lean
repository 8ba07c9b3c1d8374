/- hand, plain: no number opens twice at an end. -/
import Derived.Test.YtdjbpnpfgabdjaaHandPlain
namespace Go.Proofs.Ytdjbpnpfgabdjaa.HP
set_option linter.unusedVariables false
set_option linter.unusedSimpArgs false
set_option linter.unusedSectionVars false
variable {limit : Int}
/-- An end that was g is h: if it is open by another number, the number is a new one. -/
def New (g h : H) : Prop := h.cur ≠ 0 → g.cur ≠ h.cur → g.last < h.cur
theorem New.refl (g : H) : New g g := fun _ e => absurd rfl e
theorem New.setH {x : Pr} {i : Bool} {g : H} (h : New (x.h i) g) (j : Bool) : New (x.h j) ((x.setH i g).h j) := by
  rw [Pr.h_setH]; split
  · rename_i e; subst e; exact h
  · exact .refl _
theorem hello_new (hl : 1 ≤ limit ∧ limit ≤ 2147483647) {h : H} (hi : HI limit h) (p : Int) : New h (hello limit h p).1 := fun e e2 => by
  rw [(hello_ok hl hi p).2.2.2 e] at e2; exact absurd rfl e2
theorem welcome_new (hl : 1 ≤ limit ∧ limit ≤ 2147483647) {h : H} (hi : HI limit h) (p : Int) : New h (welcome h p) := fun e e2 => by
  rcases (welcome_ok hl hi p).2.2 with c | c
  · rw [c] at e2; exact absurd rfl e2
  · rw [c.1]; exact c.2
theorem close_new (hl : 1 ≤ limit ∧ limit ≤ 2147483647) {h : H} (hi : HI limit h) : New h (close limit h) := fun e _ => absurd (close_ok hl hi).2.2 e
theorem hear_new (hl : 1 ≤ limit ∧ limit ≤ 2147483647) {x y : Pr} (hxy : ∀ j, y.h j = x.h j) (h : Inv limit x) (i : Bool) (n : Note) (j : Bool) : New (x.h j) ((hear limit y i n).h j) := by
  rw [← hxy j]
  have hI : HI limit (y.h (!i)) := by rw [hxy]; exact h.ok _
  unfold hear
  split
  · split
    · rw [Pr.h_setW]; exact New.setH (hello_new hl hI _) j
    · exact New.setH (hello_new hl hI _) j
  · exact New.setH (welcome_new hl hI _) j
theorem act_new (hl : 1 ≤ limit ∧ limit ≤ 2147483647) {x : Pr} (h : Inv limit x) (i : Bool) (kind n : Int) (j : Bool) : New (x.h j) ((act limit x i kind n).h j) := by
  unfold act
  split
  · split
    · exact .refl _
    · rw [Pr.h_setW]; exact .refl _
  · split
    · exact New.setH (close_new hl (h.ok i)) j
    · unfold onWay
      split
      · exact .refl _
      · split
        · exact hear_new hl (fun j => Pr.h_setW _ _ _ j) h i _ j
        · split
          · rw [Pr.h_setW]; exact .refl _
          · split
            · rw [Pr.h_setW]; exact .refl _
            · rw [Pr.h_setW]; exact .refl _
theorem step_new (hl : 1 ≤ limit ∧ limit ≤ 2147483647) {x : Pr} (h : Inv limit x) (o : Op) (j : Bool) : New (x.h j) ((step limit x o).h j) := by
  unfold step
  split
  · exact act_new hl h _ _ _ j
  · split
    · exact act_new hl h _ _ _ j
    · exact .refl _
end Go.Proofs.Ytdjbpnpfgabdjaa.HP
