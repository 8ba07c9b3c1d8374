/- texts of this claim, one behind the other: AbO. -/
import Derived.Test.YtoiplbackllgfaaM10
import Derived.Test.YtoiplbackllgfaaM20
import Derived.WideWitness

/- What comes in, opened into the abstract memory beside what is open already: slices of flat data, fields of structs. -/
namespace Go.Proofs.Ytoiplbackllgfaa.Ab
set_option linter.unusedVariables false
set_option linter.unusedSimpArgs false
set_option linter.unusedSectionVars false
open Go.RowKit Go.WideShapes
section
variable {P : Program} {w : World} {α : Type} {H : Type} {enc : TypeId × Value → H} {base : Nat} {spare : Nat → Bool} {held : Bool} {fuel : Nat}
theorem roR_le (L L1 : List (Loc × List Value)) : RLe (roR L) (roR (L ++ L1)) := by
  intro i l h
  unfold roR at h ⊢
  cases hp : L[i]? with
  | none => rw [hp] at h; cases h
  | some p =>
    have hl := (List.getElem?_eq_some_iff.1 hp).1
    rw [List.getElem?_append_left hl]; exact h
theorem roH_le {L L1 : List (Loc × List Value)} : ∀ i b, roH L i = some b → roH (L ++ L1) i = some b := by
  intro i b h
  unfold roH at h ⊢
  cases hp : L[i]? with
  | none => rw [hp] at h; cases h
  | some p =>
    have hl := (List.getElem?_eq_some_iff.1 hp).1
    rw [List.getElem?_append_left hl]; exact h
theorem roR_at {L : List (Loc × List Value)} {p : Loc × List Value} : roR (L ++ [p]) L.length = some p.1 := by unfold roR; simp
theorem roH_at {L : List (Loc × List Value)} {p : Loc × List Value} : At (roH (L ++ [p])) L.length (.cells false p.1.sz p.2) := by unfold At roH; simp
/-- Blocks of plain cells that lie there. -/
def Okl (W : World) (L : List (Loc × List Value)) : Prop := ∀ p ∈ L, ∀ i v, p.2[i]? = some v → W.cell? ⟨p.1.B, p.1.o + i, none⟩ = some v ∧ pl1 v = true
theorem Okl.nil {W : World} : Okl W [] := fun p hp => by cases hp
theorem Okl.add {W : World} {L : List (Loc × List Value)} {p : Loc × List Value} (h : Okl W L) (hp : ∀ i v, p.2[i]? = some v → W.cell? ⟨p.1.B, p.1.o + i, none⟩ = some v ∧ pl1 v = true) : Okl W (L ++ [p]) := fun q hq => by
  rcases List.mem_append.1 hq with hq | hq
  · exact h q hq
  · rw [List.mem_singleton.1 hq]; exact hp
theorem Okl.sim {W : World} {L : List (Loc × List Value)} (h : Okl W L) : Sim W (roR L) (roH L) W :=
  Sim.ro fun p hp i v hv => ⟨v, (h p hp i v hv).1, pl1.self _ (h p hp i v hv).2⟩
/-- A field of a struct. -/
theorem fld {t : TypeId} {fs : Array Field} {cs : List Value} {y : DataW H × List MemPlace} (hu : P.underlying t = some (.struct fs)) (h : DataW.trod enc P w base spare held fuel t cs = some y) (i : Nat) {f : Field} (hf : fs[i]? = some f) {m : Nat} (hm : P.cellsOf f.type = m) :
    ∃ n y', DataW.trod enc P w base spare held n f.type ((cs.drop f.offset).take m) = some y' := by
  obtain ⟨xs, n, _, hx, _, hl, hfield⟩ := DataW.trod_struct hu h
  have h1 := hfield i f hf
  have hi : i < xs.length := by rw [hl]; exact (Array.getElem?_eq_some_iff.1 hf).1
  rw [List.getElem?_eq_getElem hi, hm] at h1
  exact ⟨n, _, h1⟩
theorem fld_len {t : TypeId} {fs : Array Field} {cs : List Value} {y : DataW H × List MemPlace} (hu : P.underlying t = some (.struct fs)) (h : DataW.trod enc P w base spare held fuel t cs = some y) {m : Nat} (hm : P.cellsOf t = m) : cs.length = m := by
  obtain ⟨_, _, _, _, hl, _⟩ := DataW.trod_struct hu h
  rw [hl, hm]
theorem fld_int {t : TypeId} {fs : Array Field} {cs : List Value} {y : DataW H × List MemPlace} (hu : P.underlying t = some (.struct fs)) (h : DataW.trod enc P w base spare held fuel t cs = some y) (i : Nat) {f : Field} (hf : fs[i]? = some f) {k : IntKind} (hm : P.cellsOf f.type = 1) (hk : P.underlying f.type = some (.int k)) :
    ∃ n, cs[f.offset]? = some (.int k n) ∧ (Lit.int k n).wf = true := by
  obtain ⟨n, y', h1⟩ := fld hu h i hf hm
  obtain ⟨z, e, hw⟩ := flat_int hk enc base spare held n _ _ h1
  refine ⟨z, ?_, hw⟩
  have : ((cs.drop f.offset).take 1)[0]? = some (.int k z) := by rw [e]; rfl
  simpa using this
theorem fld_bool {t : TypeId} {fs : Array Field} {cs : List Value} {y : DataW H × List MemPlace} (hu : P.underlying t = some (.struct fs)) (h : DataW.trod enc P w base spare held fuel t cs = some y) (i : Nat) {f : Field} (hf : fs[i]? = some f) (hm : P.cellsOf f.type = 1) (hk : P.underlying f.type = some .bool) :
    ∃ b, cs[f.offset]? = some (.bool b) := by
  obtain ⟨n, y', h1⟩ := fld hu h i hf hm
  obtain ⟨z, e, _⟩ := flat_bool hk enc base spare held n _ _ h1
  refine ⟨z, ?_⟩
  have : ((cs.drop f.offset).take 1)[0]? = some (.bool z) := by rw [e]; rfl
  simpa using this
theorem okWide_slice {t e : TypeId} {a : Addr} {n c : Nat} (hu : P.underlying t = some (.slice e)) (h : Cell.okWide P w .any base t (.slice (some a) n c)) : a.spot = none := by
  unfold Cell.okWide at h
  rw [hu] at h
  simp only at h
  unfold Cell.ok at h
  rw [hu] at h
  simp only at h
  exact h.2.2.2.1
/-- A slice of flat data, as a block that is only read. -/
theorem slice_in {t e : TypeId} {m : Nat} {f : α → List Value} {wf : α → Prop} {v : Value} {y : DataW H × List MemPlace} {b : Nat} (hu : P.underlying t = some (.slice e)) (hm : P.cellsOf e = m) (hf : ∀ x, wf x → (f x).length = m) (hpl : ∀ x, wf x → (f x).all pl1 = true) (he : Flat P w e f wf)
    (hok : Cell.okWide P w .any b t v) (h : DataW.trod enc P w base spare held fuel t [v] = some y) {L : List (Loc × List Value)} (hL : Okl w L) :
    ∃ L1 v' xs, Okl w (L ++ L1) ∧ VA (roR (L ++ L1)) v' v ∧ (∀ x ∈ xs, wf x) ∧ ((v' = .slice none 0 0 ∧ xs = []) ∨ ∃ o c, v' = .slice (some ⟨o, 0, none⟩) xs.length c ∧ xs.length ≤ c ∧ At (roH (L ++ L1)) o (.cells false m (xs.flatMap f))) := by
  rcases flat_slice hu hm hf he h with e | ⟨a, cap, xs, e, hle, hwf, hc⟩
  · obtain rfl := (List.cons.inj e).1
    exact ⟨[], .slice none 0 0, [], by rw [List.append_nil]; exact hL, .nils, (fun x hx => by cases hx), .inl ⟨rfl, rfl⟩⟩
  · obtain rfl := (List.cons.inj e).1
    have hs := okWide_slice hu hok
    refine ⟨[(⟨a.block, a.off, cap * m, m⟩, xs.flatMap f)], .slice (some ⟨L.length, 0, none⟩) xs.length cap, xs, hL.add fun i u hu => ?_, VA.sl (l := ⟨a.block, a.off, cap * m, m⟩) roR_at hle (by simp) (.inr ?_) (Nat.le_refl _) (.inl rfl), hwf, .inr ⟨L.length, cap, rfl, hle, roH_at⟩⟩
    · have h1 := hc i u hu
      rw [add_at hs] at h1
      refine ⟨h1, ?_⟩
      obtain ⟨x, hx, hux⟩ := List.mem_flatMap.1 (List.mem_of_getElem? hu)
      exact List.all_eq_true.1 (hpl x (hwf x hx)) u hux
    · obtain ⟨B, o, sp⟩ := a
      simp only at hs; subst hs; rfl
end
end Go.Proofs.Ytoiplbackllgfaa.Ab
