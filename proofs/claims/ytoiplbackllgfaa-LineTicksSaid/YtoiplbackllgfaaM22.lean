/- texts of this claim, one behind the other: AbQ. -/
import Derived.Test.YtoiplbackllgfaaM11
import Derived.Test.YtoiplbackllgfaaM21
import Derived.SizedLaws

/- What comes in and holds slices of slices: opened from the inside out, each slice a block that is only read. -/
namespace Go.Proofs.Ytoiplbackllgfaa.Ab
set_option linter.unusedVariables false
set_option linter.unusedSimpArgs false
set_option linter.unusedSectionVars false
open Go.RowKit Go.WideShapes
section
variable {P : Program} {w : World} {α : Type}
/-- Blocks whose cells lie there, by the names in the list. -/
def OkV (W : World) (L : List (Loc × List Value)) : Prop := ∀ p ∈ L, ∀ i v, p.2[i]? = some v → ∃ v', W.cell? ⟨p.1.B, p.1.o + i, none⟩ = some v' ∧ V1 (roR L) v v'
theorem OkV.nil {W : World} : OkV W [] := fun p hp => by cases hp
theorem OkV.sim {W : World} {L : List (Loc × List Value)} (h : OkV W L) : Sim W (roR L) (roH L) W := Sim.ro h
theorem OkV.add {W : World} {L : List (Loc × List Value)} {p : Loc × List Value} (h : OkV W L) (hp : ∀ i v, p.2[i]? = some v → ∃ v', W.cell? ⟨p.1.B, p.1.o + i, none⟩ = some v' ∧ V1 (roR L) v v') : OkV W (L ++ [p]) := fun q hq i v hv => by
  rcases List.mem_append.1 hq with hq | hq
  · obtain ⟨v', h1, h2⟩ := h q hq i v hv
    exact ⟨v', h1, h2.mono (roR_le _ _)⟩
  · rw [List.mem_singleton.1 hq] at hv ⊢
    obtain ⟨v', h1, h2⟩ := hp i v hv
    exact ⟨v', h1, h2.mono (roR_le _ _)⟩
theorem roH_sub (L L1 : List (Loc × List Value)) : Sub (roH L) (roH (L ++ L1)) := fun i b h => roH_le i b h
theorem All2.len2 {α β : Type} {R : α → β → Prop} : ∀ {l : List α} {l' : List β}, All2 R l l' → l.length = l'.length
  | _, _, .nil => rfl
  | _, _, .cons _ r => by rw [List.length_cons, List.length_cons, All2.len2 r]
theorem All2.app {α β : Type} {R : α → β → Prop} : ∀ {l : List α} {l' : List β} {m : List α} {m' : List β}, All2 R l l' → All2 R m m' → All2 R (l ++ m) (l' ++ m')
  | _, _, _, _, .nil, k => k
  | _, _, _, _, .cons x r, k => .cons x (All2.app r k)
/-- Cells of a kind: how they are read, told beside what is told already. -/
def Opens (P : Program) (W : World) (t : TypeId) (es : Nat) (R : AHeap → List Value → α → Prop) (S : α → Prop) : Prop :=
  ∀ {H : Type} (enc : TypeId × Value → H) (base : Nat) (held : Bool) (fuel : Nat) (cs : List Value) (y : DataW H × List MemPlace),
    DataW.trod enc P W base (fun _ => true) held fuel t cs = some y → (∀ n ∈ y.1.weights P t, n ≤ reachBytes) → ∀ L, OkV W L →
    ∃ L1 cs' x, OkV W (L ++ L1) ∧ All2 (V1 (roR (L ++ L1))) cs' cs ∧ cs'.length = es ∧ R (roH (L ++ L1)) cs' x ∧ S x
theorem opens_byte {t : TypeId} (hu : P.underlying t = some (.int .u8)) : Opens P w t 1 (fun _ => RB) (fun _ => True) := by
  intro H enc base held fuel cs y h _ L hL
  obtain ⟨n, rfl, hn⟩ := flat_int hu enc base _ held fuel cs y h
  refine ⟨[], _, n, by rw [List.append_nil]; exact hL, .cons (.a (.int _ n)) .nil, rfl, ⟨rfl, ?_⟩, trivial⟩
  have h0 : IntKind.u8.min = 0 := by decide
  have h1 : IntKind.u8.max = 255 := by decide
  simp only [Lit.wf, h0, h1, Bool.and_eq_true, decide_eq_true_eq] at hn
  exact hn
theorem weights_all {H : Type} {e : TypeId} {n : Nat} {d : DataW H} (hn : n ∈ d.weights P e) : ∀ {l : List (DataW H)}, d ∈ l → n ∈ DataW.weightsAll P e l
  | d0 :: l, h => by
    rw [DataW.weightsAll, List.mem_append]
    rcases List.mem_cons.1 h with rfl | h
    · exact .inl hn
    · exact .inr (weights_all hn h)
theorem opens_slice {t e : TypeId} {es bz : Nat} {R : AHeap → List Value → α → Prop} {S : α → Prop} (hu : P.underlying t = some (.slice e)) (hm : P.cellsOf e = es) (D : Dat es R) (hb : P.bytesOf e = bz) (he : Opens P w e es R S) :
    Opens P w t 1 (fun b c l => ∃ v, c = [v] ∧ Sl b es (R b) v l) (fun l => l.length * bz ≤ reachBytes ∧ ∀ x ∈ l, S x) := by
  intro H enc base held fuel cs y h hw L hL
  rcases DataW.trod_slice hu h with ⟨rfl, _⟩ | ⟨a, len, cap, elems, rest, n, rfl, rfl, rfl, _, hlc, _, hlen, hel, hre, _⟩
  · exact ⟨[], _, [], by rw [List.append_nil]; exact hL, .cons (.a .nils) .nil, rfl, ⟨_, rfl, .nil⟩, by simp, fun x hx => by cases hx⟩
  · rw [DataW.weights, hu] at hw
    simp only [List.length_map, List.mem_cons, List.mem_append] at hw
    have whole : ∀ k, k ≤ len → ∃ L1 cells xs, OkV w (L ++ L1) ∧ xs.length = k ∧ Cs es (R (roH (L ++ L1))) cells xs ∧ (∀ x ∈ xs, S x) ∧ ∀ i u, cells[i]? = some u → ∃ v', w.cell? (a.add i) = some v' ∧ V1 (roR (L ++ L1)) u v' := by
      intro k
      induction k with
      | zero => intro _; exact ⟨[], [], [], by rw [List.append_nil]; exact hL, rfl, Cs.nil, fun x hx => (by cases hx), fun i u hu => by simp at hu⟩
      | succ k ih =>
        intro hk
        obtain ⟨L1, cells, xs, hL1, hl, hC, hS, hcell⟩ := ih (by omega)
        have h1 := hel k (by omega)
        rw [List.getElem?_eq_getElem (by omega)] at h1
        obtain ⟨c, hc, ht⟩ := Option.bind_eq_some_iff.1 h1
        obtain ⟨hcl, hcc⟩ := cells_at hc
        obtain ⟨L2, cs', x, hL2, hV, hlen2, hR, hSx⟩ := he enc base held n c _ ht (fun m hm' => hw m (.inr (.inl (weights_all hm' (List.mem_map.2 ⟨_, List.getElem_mem (by omega), rfl⟩))))) (L ++ L1) hL1
        rw [List.append_assoc] at hL2 hV hR
        have hs : Sub (roH (L ++ L1)) (roH (L ++ (L1 ++ L2))) := by rw [← List.append_assoc]; exact roH_sub _ _
        have hr : RLe (roR (L ++ L1)) (roR (L ++ (L1 ++ L2))) := by rw [← List.append_assoc]; exact roR_le _ _
        refine ⟨L1 ++ L2, cells ++ cs', xs ++ [x], hL2, by rw [List.length_append, hl]; rfl, (hC.mono fun _ _ => D.mono _ _ _ _ hs).snoc hlen2 hR, fun z hz => ?_, fun i u hu => ?_⟩
        · rcases List.mem_append.1 hz with hz | hz
          · exact hS z hz
          · rw [List.mem_singleton.1 hz]; exact hSx
        · rcases Nat.lt_or_ge i cells.length with hlt | hge
          · rw [List.getElem?_append_left hlt] at hu
            obtain ⟨v', e1, e2⟩ := hcell i u hu
            exact ⟨v', e1, e2.mono hr⟩
          · rw [List.getElem?_append_right hge] at hu
            obtain ⟨v', e1, e2⟩ := All2.get hV hu
            have e3 := hcc _ _ e1
            have hcl2 := hC.len
            rw [hm, addr_add2, show k * es + (i - cells.length) = i from by rw [← hl]; omega] at e3
            exact ⟨v', e3, e2⟩
    obtain ⟨L1, cells, xs, hL1, hl, hC, hS, hcell⟩ := whole len (Nat.le_refl _)
    have hcl := hC.len
    have hsp : cap = 0 ∨ a.spot = none := by
      by_cases h0 : cap = 0
      · exact .inl h0
      · refine .inr ?_
        have hc0 : ∃ c, w.cells? base (a.add (0 * P.cellsOf e)) (P.cellsOf e) = some c := by
          by_cases hl0 : len = 0
          · obtain ⟨hrl, hr⟩ := hre rfl
            have h1 := hr 0 (by omega)
            rw [List.getElem?_eq_getElem (by omega)] at h1
            simp only [hl0] at h1
            obtain ⟨c, hc, _⟩ := Option.bind_eq_some_iff.1 h1
            exact ⟨c, hc⟩
          · have h1 := hel 0 (by omega)
            rw [List.getElem?_eq_getElem (by omega)] at h1
            obtain ⟨c, hc, _⟩ := Option.bind_eq_some_iff.1 h1
            exact ⟨c, hc⟩
        obtain ⟨c, hc⟩ := hc0
        obtain ⟨hcl, hcc⟩ := cells_at hc
        have hne := D.ne
        have h2 := hcc 0 _ (List.getElem?_eq_getElem (by rw [hcl, hm]; omega))
        rw [Nat.zero_mul] at h2
        unfold Addr.add World.cell? at h2
        cases hs : a.spot with
        | none => rfl
        | some z => simp [hs] at h2; split at h2 <;> cases h2
    refine ⟨L1 ++ [(⟨a.block, a.off, cap * es, es⟩, cells)], [.slice (some ⟨(L ++ L1).length, 0, none⟩) len cap], xs, ?_, ?_, rfl, ⟨_, rfl, ?_⟩, ?_, hS⟩
    · rw [← List.append_assoc]
      refine hL1.add fun i u hu => ?_
      obtain ⟨v', e1, e2⟩ := hcell i u hu
      have hi := (List.getElem?_eq_some_iff.1 hu).1
      rcases hsp with h0 | hs
      · simp only [hcl, hl] at hi
        obtain rfl : len = 0 := by omega
        omega
      · rw [add_at hs] at e1
        exact ⟨v', e1, e2⟩
    · rw [← List.append_assoc]
      refine .cons (.a (VA.sl (l := ⟨a.block, a.off, cap * es, es⟩) roR_at hlc (by simp) ?_ (Nat.le_refl _) (.inl rfl))) .nil
      rcases hsp with h0 | hs
      · exact .inl h0
      · refine .inr ?_
        obtain ⟨B, o, sp⟩ := a
        simp only at hs; subst hs; rfl
    · rw [← List.append_assoc]
      have hs : Sub (roH (L ++ L1)) (roH (L ++ L1 ++ [(⟨a.block, a.off, cap * es, es⟩, cells)])) := roH_sub _ _
      refine .blk (roH_at (L := L ++ L1) (p := (⟨a.block, a.off, cap * es, es⟩, cells))) hl.symm hlc ?_
      rw [List.drop_zero, ← hl, ← hcl, List.take_length]
      exact hC.mono fun _ _ => D.mono _ _ _ _ hs
    · have := hw _ (.inl rfl)
      rw [hb] at this
      exact Nat.le_trans (Nat.mul_le_mul_right _ (by omega)) this
/-- A field, with what it weighs. -/
theorem fldW {H : Type} {enc : TypeId × Value → H} {base : Nat} {spare : Nat → Bool} {held : Bool} {fuel : Nat} {t : TypeId} {fs : Array Field} {cs : List Value} {y : DataW H × List MemPlace} (hu : P.underlying t = some (.struct fs)) (h : DataW.trod enc P w base spare held fuel t cs = some y) (hw : ∀ n ∈ y.1.weights P t, n ≤ reachBytes) (i : Nat) {f : Field} (hf : fs[i]? = some f) {m : Nat} (hm : P.cellsOf f.type = m) :
    ∃ n y', DataW.trod enc P w base spare held n f.type ((cs.drop f.offset).take m) = some y' ∧ ∀ n ∈ y'.1.weights P f.type, n ≤ reachBytes := by
  obtain ⟨xs, n, _, rfl, _, hl, hfield⟩ := DataW.trod_struct hu h
  have h1 := hfield i f hf
  have hi : i < xs.length := by rw [hl]; exact (Array.getElem?_eq_some_iff.1 hf).1
  rw [List.getElem?_eq_getElem hi, hm] at h1
  rw [DataW.weights, hu] at hw
  refine ⟨n, _, h1, fun k hk => hw k (DataW.weights_mem_each (j := i) (t := f.type) (d := xs[i].1) ?_ ?_ k hk)⟩
  · rw [List.getElem?_map, Array.getElem?_toList, hf]; rfl
  · rw [List.getElem?_map, List.getElem?_eq_getElem hi]; rfl
end
section
variable {P : Program} {W : World}
/-- A slice that comes in. -/
theorem slice_cells {t e : TypeId} {base : Nat} {v : Value} (hu : P.underlying t = some (.slice e)) (hv : Value.okWide P W .any base t v) : v.cells.toList = [v] := by
  have hv' : Cell.okWide P W .any base t v := by
    unfold Value.okWide at hv
    rw [hu] at hv; exact hv
  have hc : v.cells = #[v] := by
    unfold Cell.okWide Cell.ok at hv'
    rw [hu] at hv'
    cases v <;> first | rfl | exact hv'.elim
  rw [hc]
theorem struct_cells {t : TypeId} {fs : Array Field} {base : Nat} {v : Value} (hu : P.underlying t = some (.struct fs)) (hv : Value.okWide P W .any base t v) : ∃ cs, v = .agg cs ∧ v.cells = cs := by
  unfold Value.okWide at hv
  rw [hu] at hv
  obtain ⟨cs, rfl, _⟩ := hv
  exact ⟨cs, rfl, rfl⟩
theorem slice_get {t e : TypeId} {α : Type} {es : Nat} {R : AHeap → List Value → α → Prop} {S : List α → Prop} {base : Nat} {H : Type} {enc : TypeId × Value → H} {b0 : Nat} {held : Bool} {v : Value} {d : DataW H} {ps : List MemPlace} (hu : P.underlying t = some (.slice e)) (hO : Opens P W t 1 (fun b c l => ∃ v, c = [v] ∧ Sl b es (R b) v l) S)
    (hv : Value.okWide P W .any base t v) (h : DataW.Trod enc P W b0 (fun _ => true) held t v d ps) (hw : ∀ n ∈ d.weights P t, n ≤ reachBytes) {L : List (Loc × List Value)} (hL : OkV W L) :
    ∃ L1 v' l, OkV W (L ++ L1) ∧ VR (roR (L ++ L1)) v' v ∧ Sl (roH (L ++ L1)) es (R (roH (L ++ L1))) v' l ∧ S l := by
  obtain ⟨fuel, ht⟩ := h
  rw [slice_cells hu hv] at ht
  obtain ⟨L1, cs', l, hL1, hV, _, ⟨v', rfl, hR⟩, hS⟩ := hO enc b0 held fuel _ _ ht hw L hL
  cases hV with
  | cons hx _ => exact ⟨L1, v', l, hL1, .v (.v hx), hR, hS⟩
end
end Go.Proofs.Ytoiplbackllgfaa.Ab
