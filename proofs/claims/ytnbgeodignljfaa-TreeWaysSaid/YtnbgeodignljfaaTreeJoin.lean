/- Forests, plain: sets that grow together tell who is linked. -/
import Derived.Test.YtnbgeodignljfaaTreePlain
import Derived.Test.YtnbgeodignljfaaJoinInv
namespace Go.Proofs.Ytnbgeodignljfaa.TP
set_option linter.unusedVariables false
set_option linter.unusedSimpArgs false
set_option linter.unusedSectionVars false
open JP
/-- The lists of least ones tell who is linked. -/
structure Cls (w : List Int) (l : List E) : Prop where
  ok : WOk w
  len : w.length = 65
  eq : ∀ x y, 1 ≤ x → x ≤ 64 → 1 ≤ y → y ≤ 64 → (g w x = g w y ↔ Conn l x y)
theorem Cls.step {w : List Int} {l : List E} {e : E} (h : Cls w l) (ha : Node e.a) (hb : Node e.b) :
    ((runite w e.a e.b).2 = true ∧ Cls (runite w e.a e.b).1 (l ++ [e]) ∧ ¬ Conn l e.a e.b) ∨ ((runite w e.a e.b).2 = false ∧ Conn l e.a e.b) := by
  have ra : rhas w e.a := ⟨ha.1, by rw [h.len]; have := ha.2; omega⟩
  have rb : rhas w e.b := ⟨hb.1, by rw [h.len]; have := hb.2; omega⟩
  have ia : In w e.a := ⟨by have := ha.1; omega, ra.2⟩
  have ib : In w e.b := ⟨by have := hb.1; omega, rb.2⟩
  have hcon := h.eq e.a e.b ha.1 ha.2 hb.1 hb.2
  by_cases hne : g w e.a = g w e.b
  · refine .inr ⟨?_, hcon.1 hne⟩
    unfold runite; rw [if_neg (fun x => x.2.2 hne)]
  · have hr : runite w e.a e.b = (glue w (lo w e.a e.b) (hi w e.a e.b), true) := by unfold runite; rw [if_pos ⟨ra, rb, hne⟩]
    have la := h.ok.low e.a ia ha.1
    have lb := h.ok.low e.b ib hb.1
    have ka := h.ok.le e.a ia
    have kb := h.ok.le e.b ib
    have fa := h.ok.idem e.a ia
    have fb := h.ok.idem e.b ib
    have h64 : w.length = 65 := h.len
    have key : WOk (glue w (lo w e.a e.b) (hi w e.a e.b)) ∧ ∀ x, In w x → g (glue w (lo w e.a e.b) (hi w e.a e.b)) x = if g w x = hi w e.a e.b then lo w e.a e.b else g w x := by
      unfold lo hi
      by_cases hlt : g w e.b < g w e.a
      · rw [if_pos hlt, if_pos hlt]
        exact ⟨glue_ok h.ok lb hlt ⟨by omega, by have := ib.2; omega⟩ ⟨by omega, by have := ia.2; omega⟩ fb fa, fun x hx => glue_val h.ok lb hlt ⟨by omega, by have := ib.2; omega⟩ ⟨by omega, by have := ia.2; omega⟩ fb fa hx⟩
      · rw [if_neg hlt, if_neg hlt]
        have hlt' : g w e.a < g w e.b := by omega
        exact ⟨glue_ok h.ok la hlt' ⟨by omega, by have := ia.2; omega⟩ ⟨by omega, by have := ib.2; omega⟩ fa fb, fun x hx => glue_val h.ok la hlt' ⟨by omega, by have := ia.2; omega⟩ ⟨by omega, by have := ib.2; omega⟩ fa fb hx⟩
    have hlh : (lo w e.a e.b = g w e.a ∧ hi w e.a e.b = g w e.b) ∨ (lo w e.a e.b = g w e.b ∧ hi w e.a e.b = g w e.a) := by
      unfold lo hi
      by_cases hlt : g w e.b < g w e.a
      · rw [if_pos hlt, if_pos hlt]; exact .inr ⟨rfl, rfl⟩
      · rw [if_neg hlt, if_neg hlt]; exact .inl ⟨rfl, rfl⟩
    rw [hr]
    refine .inl ⟨rfl, ⟨key.1, by rw [glue_length]; exact h.len, fun x y hx1 hx2 hy1 hy2 => ?_⟩, fun hc => hne (hcon.2 hc)⟩
    have ix : In w x := ⟨by omega, by omega⟩
    have iy : In w y := ⟨by omega, by omega⟩
    show g (glue w _ _) x = g (glue w _ _) y ↔ _
    rw [key.2 x ix, key.2 y iy]
    have xa := h.eq x e.a hx1 hx2 ha.1 ha.2
    have xb := h.eq x e.b hx1 hx2 hb.1 hb.2
    have ya := h.eq e.a y ha.1 ha.2 hy1 hy2
    have yb := h.eq e.b y hb.1 hb.2 hy1 hy2
    have xy := h.eq x y hx1 hx2 hy1 hy2
    have hadd : Conn (l ++ [e]) x y ↔ Conn l x y ∨ (Conn l x e.a ∧ Conn l e.b y) ∨ (Conn l x e.b ∧ Conn l e.a y) :=
      ⟨fun hc => Conn.add (l := l) (e := e) (fun f hf => (List.mem_append.1 hf).elim .inr (fun hf => .inl (List.mem_singleton.1 hf))) hc, fun hc => Conn.add' (l := l) (e := e) (fun f hf => List.mem_append_left _ hf) (by simp) hc⟩
    rw [hadd, ← xy, ← xa, ← xb, ← ya, ← yb]
    rcases hlh with ⟨e1, e2⟩ | ⟨e1, e2⟩
    · rw [e1, e2]
      by_cases c1 : g w x = g w e.b <;> by_cases c2 : g w y = g w e.b
      · rw [if_pos c1, if_pos c2]; exact ⟨fun _ => .inl (c1.trans c2.symm), fun _ => rfl⟩
      · rw [if_pos c1, if_neg c2]; grind
      · rw [if_neg c1, if_pos c2]; grind
      · rw [if_neg c1, if_neg c2]; grind
    · rw [e1, e2]
      by_cases c1 : g w x = g w e.a <;> by_cases c2 : g w y = g w e.a
      · rw [if_pos c1, if_pos c2]; exact ⟨fun _ => .inl (c1.trans c2.symm), fun _ => rfl⟩
      · rw [if_pos c1, if_neg c2]; grind
      · rw [if_neg c1, if_pos c2]; grind
      · rw [if_neg c1, if_neg c2]; grind
end Go.Proofs.Ytnbgeodignljfaa.TP
