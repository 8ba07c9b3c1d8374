/- join, plain: what joinings leave depends on the pairs alone. -/
import Derived.Test.YtphjkpnidoaonaaJoinSum
namespace Go.Proofs.Ytphjkpnidoaonaa.JP
set_option linter.unusedVariables false
set_option linter.unusedSimpArgs false
set_option linter.unusedSectionVars false

def E (w : List Int) (x y : Int) : Prop := g w x = g w y
theorem runite_g {w : List Int} (hw : WOk w) {a b : Int} (ha : rhas w a) (hb : rhas w b) {x : Int} (hx : In w x) :
    g (runite w a b).1 x = if g w x = g w a ∨ g w x = g w b then lo w a b else g w x := by
  have hia : In w a := ⟨by have := ha.1; omega, ha.2⟩
  have hib : In w b := ⟨by have := hb.1; omega, hb.2⟩
  by_cases hne : g w a = g w b
  · have e : runite w a b = (w, false) := by unfold runite; rw [if_neg (fun h => h.2.2 hne)]
    rw [e]
    have : lo w a b = g w a := by unfold lo; split <;> simp_all
    rw [this]
    by_cases h : g w x = g w a ∨ g w x = g w b
    · rw [if_pos h]; rcases h with h | h
      · exact h
      · rw [hne]; exact h
    · rw [if_neg h]
  · have e : runite w a b = (glue w (lo w a b) (hi w a b), true) := by unfold runite; rw [if_pos ⟨ha, hb, hne⟩]
    rw [e]
    have hla := hw.le a hia
    have hlb := hw.le b hib
    have hpa := hw.low a hia ha.1
    have hpb := hw.low b hib hb.1
    have iga : In w (g w a) := ⟨hla.1, by have := hia.2; omega⟩
    have igb : In w (g w b) := ⟨hlb.1, by have := hib.2; omega⟩
    by_cases hlt : g w b < g w a
    · have e1 : lo w a b = g w b := by unfold lo; rw [if_pos hlt]
      have e2 : hi w a b = g w a := by unfold hi; rw [if_pos hlt]
      rw [e1, e2, glue_val hw hpb hlt igb iga (hw.idem b hib) (hw.idem a hia) hx]
      by_cases h1 : g w x = g w a
      · rw [if_pos h1, if_pos (.inl h1)]
      · rw [if_neg h1]
        by_cases h2 : g w x = g w b
        · rw [if_pos (.inr h2), h2]
        · rw [if_neg (fun h => h.elim h1 h2)]
    · have e1 : lo w a b = g w a := by unfold lo; rw [if_neg hlt]
      have e2 : hi w a b = g w b := by unfold hi; rw [if_neg hlt]
      rw [e1, e2, glue_val hw hpa (by omega) iga igb (hw.idem a hia) (hw.idem b hib) hx]
      by_cases h1 : g w x = g w b
      · rw [if_pos h1, if_pos (.inr h1)]
      · rw [if_neg h1]
        by_cases h2 : g w x = g w a
        · rw [if_pos (.inl h2), h2]
        · rw [if_neg (fun h => h.elim h2 h1)]
theorem runite_bad {w : List Int} {a b : Int} (h : ¬ (rhas w a ∧ rhas w b)) : (runite w a b).1 = w := by
  unfold runite; rw [if_neg (fun e => h ⟨e.1, e.2.1⟩)]
theorem E.mono {w : List Int} (hw : WOk w) (a b : Int) {x y : Int} (hx : In w x) (hy : In w y) (h : E w x y) : E (runite w a b).1 x y := by
  unfold E at *
  by_cases hab : rhas w a ∧ rhas w b
  · rw [runite_g hw hab.1 hab.2 hx, runite_g hw hab.1 hab.2 hy, h]
  · rw [runite_bad hab]; exact h
theorem E.joined {w : List Int} (hw : WOk w) {a b : Int} (ha : rhas w a) (hb : rhas w b) : E (runite w a b).1 a b := by
  unfold E
  rw [runite_g hw ha hb ⟨by have := ha.1; omega, ha.2⟩, runite_g hw ha hb ⟨by have := hb.1; omega, hb.2⟩, if_pos (.inl rfl), if_pos (.inr rfl)]

/-- Joined, in any number of steps, by the pairs of a list. -/
inductive Conn (w0 : List Int) (l : List (Int × Int)) : Int → Int → Prop
  | refl (x) : Conn w0 l x x
  | pair {a b} (h : (a, b) ∈ l) (ha : rhas w0 a) (hb : rhas w0 b) : Conn w0 l a b
  | symm {x y} (h : Conn w0 l x y) : Conn w0 l y x
  | trans {x y z} (h : Conn w0 l x y) (h2 : Conn w0 l y z) : Conn w0 l x z
theorem Conn.mono {w0 : List Int} {l l' : List (Int × Int)} (hl : ∀ p ∈ l, p ∈ l' ∨ (p.2, p.1) ∈ l') {x y : Int} (h : Conn w0 l x y) : Conn w0 l' x y := by
  induction h with
  | refl x => exact .refl x
  | pair h ha hb =>
    rcases hl _ h with h | h
    · exact .pair h ha hb
    · exact .symm (.pair h hb ha)
  | symm _ ih => exact .symm ih
  | trans _ _ i1 i2 => exact .trans i1 i2

def runL (w : List Int) (l : List (Int × Int)) : List Int := l.foldl (fun w p => (runite w p.1 p.2).1) w
theorem runL_nil (w : List Int) : runL w [] = w := rfl
theorem runL_snoc (w : List Int) (l : List (Int × Int)) (p : Int × Int) : runL w (l ++ [p]) = (runite (runL w l) p.1 p.2).1 := by simp [runL]
theorem runL_cons (w : List Int) (l : List (Int × Int)) (p : Int × Int) : runL w (p :: l) = runL (runite w p.1 p.2).1 l := rfl
theorem runL_ok : ∀ (l : List (Int × Int)) {w : List Int}, WOk w → WOk (runL w l) ∧ (runL w l).length = w.length
  | [], _, h => ⟨h, rfl⟩
  | p :: l, w, h => by
    obtain ⟨h1, h2, _⟩ := runite_ok h p.1 p.2
    rw [runL_cons]
    obtain ⟨h3, h4⟩ := runL_ok l h1
    exact ⟨h3, by rw [h4, h2]⟩
theorem runL_mono : ∀ (l : List (Int × Int)) {w : List Int}, WOk w → ∀ {x y : Int}, In w x → In w y → E w x y → E (runL w l) x y
  | [], _, _, _, _, _, _, h => h
  | p :: l, w, hw, x, y, hx, hy, h => by
    obtain ⟨h1, h2, _⟩ := runite_ok hw p.1 p.2
    rw [runL_cons]
    exact runL_mono l h1 (by simpa [In, h2] using hx) (by simpa [In, h2] using hy) (h.mono hw _ _ hx hy)
theorem runL_pair : ∀ (l : List (Int × Int)) {w : List Int}, WOk w → ∀ {a b : Int}, (a, b) ∈ l → rhas w a → rhas w b → E (runL w l) a b
  | p :: l, w, hw, a, b, h, ha, hb => by
    obtain ⟨h1, h2, _⟩ := runite_ok hw p.1 p.2
    rw [runL_cons]
    rcases List.mem_cons.1 h with rfl | h
    · exact runL_mono l h1 ⟨by have := ha.1; omega, by rw [h2]; exact ha.2⟩ ⟨by have := hb.1; omega, by rw [h2]; exact hb.2⟩ (E.joined hw ha hb)
    · exact runL_pair l h1 h (by unfold rhas; rw [h2]; exact ha) (by unfold rhas; rw [h2]; exact hb)
/-- What is joined is joined by the pairs. -/
theorem conn_of {w0 : List Int} {l : List (Int × Int)} {w : List Int} (hw : WOk w) (hl : w.length = w0.length) (h : ∀ x y, In w x → In w y → E w x y → Conn w0 l x y) : ∀ (r : List (Int × Int)), (∀ p ∈ r, p ∈ l) → ∀ x y, In w x → In w y → E (runL w r) x y → Conn w0 l x y := by
  intro r
  induction r generalizing w with
  | nil => intro _ x y hx hy e; exact h x y hx hy e
  | cons p r ih =>
    intro hr x y hx hy e
    obtain ⟨h1, h2, _⟩ := runite_ok hw p.1 p.2
    refine ih h1 (by rw [h2, hl]) ?_ (fun q hq => hr q (List.mem_cons_of_mem _ hq)) x y (by simpa [In, h2] using hx) (by simpa [In, h2] using hy) e
    intro x y hx hy e
    have hx' : In w x := by simpa [In, h2] using hx
    have hy' : In w y := by simpa [In, h2] using hy
    by_cases hab : rhas w p.1 ∧ rhas w p.2
    · have hia : In w p.1 := ⟨by have := hab.1.1; omega, hab.1.2⟩
      have hib : In w p.2 := ⟨by have := hab.2.1; omega, hab.2.2⟩
      have hp : Conn w0 l p.1 p.2 := .pair (hr p (List.mem_cons_self ..)) (by unfold rhas; rw [← hl]; exact hab.1) (by unfold rhas; rw [← hl]; exact hab.2)
      unfold E at e
      rw [runite_g hw hab.1 hab.2 hx', runite_g hw hab.1 hab.2 hy'] at e
      have toa : ∀ z, In w z → (g w z = g w p.1 ∨ g w z = g w p.2) → Conn w0 l z p.1 := fun z hz hc => by
        rcases hc with hc | hc
        · exact h z p.1 hz hia hc
        · exact .trans (h z p.2 hz hib hc) (.symm hp)
      have hlo : lo w p.1 p.2 = g w p.1 ∨ lo w p.1 p.2 = g w p.2 := by unfold lo; split; exact .inr rfl; exact .inl rfl
      by_cases c1 : g w x = g w p.1 ∨ g w x = g w p.2
      · by_cases c2 : g w y = g w p.1 ∨ g w y = g w p.2
        · exact .trans (toa x hx' c1) (.symm (toa y hy' c2))
        · rw [if_pos c1, if_neg c2] at e
          exact absurd (hlo.elim (fun z => .inl (by rw [← e, z])) (fun z => .inr (by rw [← e, z]))) c2
      · by_cases c2 : g w y = g w p.1 ∨ g w y = g w p.2
        · rw [if_neg c1, if_pos c2] at e
          exact absurd (hlo.elim (fun z => .inl (by rw [e, z])) (fun z => .inr (by rw [e, z]))) c1
        · rw [if_neg c1, if_neg c2] at e
          exact h x y hx' hy' e
    · rw [runite_bad hab] at e
      exact h x y hx' hy' e
/-- Two lists of least ones that join alike are alike. -/
theorem same_of {w v : List Int} (hw : WOk w) (hv : WOk v) (hl : w.length = v.length) (h : ∀ x y, In w x → In w y → (E w x y ↔ E v x y)) {x : Int} (hx : In w x) : g w x = g v x := by
  have hx' : In v x := by simpa [In, hl] using hx
  have a := hw.le x hx
  have b := hv.le x hx'
  have iw : In w (g w x) := ⟨a.1, by have := hx.2; omega⟩
  have iv : In v (g v x) := ⟨b.1, by have := hx'.2; omega⟩
  have iw' : In v (g w x) := by simpa [In, hl] using iw
  have iv' : In w (g v x) := by simpa [In, hl] using iv
  have e1 : E v (g w x) x := (h _ _ iw hx).1 (hw.idem x hx)
  have e2 : E w (g v x) x := (h _ _ iv' hx).2 (hv.idem x hx')
  have l1 := (hv.le _ iw').2
  have l2 := (hw.le _ iv').2
  unfold E at e1 e2
  rw [e1] at l1
  rw [e2] at l2
  omega
theorem list_of_g {w v : List Int} (hl : w.length = v.length) (h : ∀ x, In w x → g w x = g v x) : w = v := by
  refine List.ext_getElem hl fun i h1 h2 => ?_
  have := h (i : Nat) ⟨by omega, by omega⟩
  simpa [g, List.getD, h1, h2] using this
theorem order_free {w0 : List Int} (hw : WOk w0) (h0 : ∀ x y, In w0 x → In w0 y → E w0 x y → x = y) {l l' : List (Int × Int)} (h1 : ∀ p ∈ l, p ∈ l' ∨ (p.2, p.1) ∈ l') (h2 : ∀ p ∈ l', p ∈ l ∨ (p.2, p.1) ∈ l) : runL w0 l = runL w0 l' := by
  obtain ⟨o1, e1⟩ := runL_ok l hw
  obtain ⟨o2, e2⟩ := runL_ok l' hw
  have eqv : ∀ (r : List (Int × Int)) {x y : Int}, Conn w0 r x y → In w0 x → In w0 y → E (runL w0 r) x y := by
    have inn : ∀ (r : List (Int × Int)) {x y : Int}, Conn w0 r x y → (In w0 x ↔ In w0 y) := fun r x y h => by
      induction h with
      | refl x => exact Iff.rfl
      | pair h ha hb => exact ⟨fun _ => ⟨by have := hb.1; omega, hb.2⟩, fun _ => ⟨by have := ha.1; omega, ha.2⟩⟩
      | symm _ ih => exact ih.symm
      | trans _ _ i1 i2 => exact i1.trans i2
    intro r x y h
    induction h with
    | refl x => intro _ _; rfl
    | pair h ha hb => intro _ _; exact runL_pair r hw h ha hb
    | symm _ ih => intro hx hy; exact (ih hy hx).symm
    | trans h _ i1 i2 => intro hx hz; have hy := (inn r h).1 hx; exact (i1 hx hy).trans (i2 hy hz)
  have base : ∀ r x y, In w0 x → In w0 y → E w0 x y → Conn w0 r x y := fun r x y hx hy h => by rw [h0 x y hx hy h]; exact .refl y
  refine list_of_g (by rw [e1, e2]) fun x hx => same_of o1 o2 (by rw [e1, e2]) (fun x y hx hy => ?_) hx
  have hx0 : In w0 x := by simpa [In, e1] using hx
  have hy0 : In w0 y := by simpa [In, e1] using hy
  constructor
  · intro h
    exact eqv l' (Conn.mono h1 (conn_of hw rfl (base l) l (fun p hp => hp) x y hx0 hy0 h)) hx0 hy0
  · intro h
    exact eqv l (Conn.mono h2 (conn_of hw rfl (base l') l' (fun p hp => hp) x y hx0 hy0 h)) hx0 hy0
end Go.Proofs.Ytphjkpnidoaonaa.JP
