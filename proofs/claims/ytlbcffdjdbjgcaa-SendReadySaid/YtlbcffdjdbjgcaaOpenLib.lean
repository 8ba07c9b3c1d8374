/- How what comes in is opened, whatever its type: whole numbers, bools, strings, slices and structs, nested: the datum read as a Lean value of the print's kinds, with its sizes' bounds. -/
import Derived.ProofKit
import Derived.WalkKit
import Derived.OpenShut
import Derived.ShutString
import Derived.SizedLaws
import Derived.Test.YtlbcffdjdbjgcaaWWords
namespace Go.Proofs.Ytlbcffdjdbjgcaa.OpenLib
open Go.RowKit Go.WideShapes Go.Proofs.YtlbcffdjdbjgcaaW.PrintWords
section
variable {P : Program} {w : World} {α : Type}

/-- Whatever reads as a datum of type t, within the form's reach, is a value of kind d, of which wf holds. -/
def Opn (P : Program) (w : World) (t : TypeId) (d : Kd α) (wf : α → Prop) : Prop :=
  ∀ {H : Type} (enc : TypeId × Value → H) (base : Nat) (spare : Nat → Bool) (held : Bool) (fuel : Nat) (cs : List Value) (y : DataW H) (ps : List MemPlace),
    DataW.trod enc P w base spare held fuel t cs = some (y, ps) → (∀ n ∈ y.weights P t, n ≤ reachBytes) → ∃ x, d.K w x cs ∧ wf x

theorem opn_int {t : TypeId} {k : IntKind} (hu : P.underlying t = some (.int k)) : Opn P w t (Kd.int k) (fun x => (Lit.int k x).wf = true) := by
  intro H enc base spare held fuel cs y ps h _
  obtain ⟨n, rfl, _, hn⟩ := DataW.trod_int hu h
  exact ⟨n, rfl, hn⟩
theorem opn_bool {t : TypeId} (hu : P.underlying t = some .bool) : Opn P w t Kd.bool (fun _ => True) := by
  intro H enc base spare held fuel cs y ps h _
  obtain ⟨n, rfl, _⟩ := DataW.trod_bool hu h
  exact ⟨n, rfl, trivial⟩
theorem opn_string {t : TypeId} (hu : P.underlying t = some .string) : Opn P w t Kd.string (fun s => s.size ≤ 140737488351232) := by
  intro H enc base spare held fuel cs y ps h hw
  obtain ⟨s, rfl, hx, _⟩ := DataW.trod_string hu h
  obtain ⟨rfl, _⟩ := Prod.mk.inj hx
  have := hw s.data.toList.length (by simp [DataW.weights])
  refine ⟨s, rfl, ?_⟩
  rw [Array.length_toList] at this
  exact this
theorem weights_all {H : Type} {e : TypeId} {d : DataW H} : ∀ {l : List (DataW H)}, d ∈ l → ∀ n ∈ d.weights P e, n ∈ DataW.weightsAll P e l
  | [], h, _, _ => by cases h
  | d0 :: l, h, n, hn => by
    simp only [DataW.weightsAll, List.mem_append]
    rcases List.mem_cons.1 h with rfl | h
    · exact .inl hn
    · exact .inr (weights_all h n hn)
theorem cells_get {base n : Nat} {a : Addr} {cs : List Value} (h : w.cells? base a n = some cs) : cs.length = n ∧ ∀ i u, cs[i]? = some u → w.cell? (a.add i) = some u := by
  unfold World.cells? at h
  split at h
  · have hl : cs.length = n := by have := mapM_some_length h; simpa using this
    refine ⟨hl, fun i u hu => ?_⟩
    have hi : i < n := by have := (List.getElem?_eq_some_iff.1 hu).1; omega
    have := mapM_some_get h i i (by simp [hi])
    rw [this, hu]
  · cases h
theorem opn_slice {d : Kd α} {wf : α → Prop} {t e : TypeId} (hu : P.underlying t = some (.slice e)) {B : Nat} (hsz : P.cellsOf e = d.sz) (hB : P.bytesOf e = B) (he : Opn P w e d wf) :
    Opn P w t (Kd.slice e d) (fun l => l.length * B ≤ 140737488351232 ∧ ∀ x ∈ l, wf x) := by
  intro H enc base spare held fuel cs y ps h hw
  rcases DataW.trod_slice hu h with ⟨rfl, _⟩ | ⟨a, len, cap, elems, rest, n, rfl, rfl, hx, _, hlc, hcm, hlen, hel, _, _⟩
  · exact ⟨[], ⟨none, 0, rfl, Nat.le_refl _, rfl, by simp, fun hp => by simp at hp⟩, by simp, by simp⟩
  · obtain ⟨rfl, _⟩ := Prod.mk.inj hx
    have hweights : ∀ z ∈ elems, ∀ m ∈ z.1.weights P e, m ≤ reachBytes := by
      intro z hz m hm
      refine hw m ?_
      simp only [DataW.weights, hu, List.mem_cons, List.mem_append]
      exact .inr (.inl (weights_all (List.mem_map.2 ⟨z, hz, rfl⟩) m hm))
    have each : ∀ i, i < len → ∃ (x : α) (c : List Value), c.length = d.sz ∧ d.K w x c ∧ wf x ∧ ∀ j u, c[j]? = some u → w.cell? (a.add (i * d.sz + j)) = some u := by
      intro i hi
      have h1 := hel i hi
      have hi2 : i < elems.length := by omega
      rw [List.getElem?_eq_getElem hi2] at h1
      obtain ⟨c, hc, ht⟩ := Option.bind_eq_some_iff.1 h1
      obtain ⟨hcl, hcc⟩ := cells_get hc
      obtain ⟨x, hK, hwf⟩ := he enc base spare held n c elems[i].1 elems[i].2 ht (hweights _ (List.getElem_mem hi2))
      refine ⟨x, c, by rw [hcl, hsz], hK, hwf, fun j u hu => ?_⟩
      have := hcc j u hu
      rw [hsz] at this
      rwa [show (a.add (i * d.sz)).add j = a.add (i * d.sz + j) from add_add _ _ _] at this
    have whole : ∀ m, m ≤ len → ∃ xs : List α, xs.length = m ∧ (∀ x ∈ xs, wf x) ∧ ∀ j p, xs[j]? = some p → ∃ c, c.length = d.sz ∧ d.K w p c ∧ ∀ i u, c[i]? = some u → w.cell? (a.add (j * d.sz + i)) = some u := by
      intro m
      induction m with
      | zero => intro _; exact ⟨[], rfl, by simp, fun j p hj => by simp at hj⟩
      | succ m ih =>
        intro hm
        obtain ⟨xs, hl, hwf, hc⟩ := ih (by omega)
        obtain ⟨x, c, hcl, hK, hx, hcell⟩ := each m (by omega)
        refine ⟨xs ++ [x], by simp [hl], fun z hz => ?_, fun j p hj => ?_⟩
        · rcases List.mem_append.1 hz with hz | hz
          · exact hwf z hz
          · rw [List.mem_singleton.1 hz]; exact hx
        · rcases Nat.lt_or_ge j xs.length with hlt | hge
          · rw [List.getElem?_append_left hlt] at hj
            exact hc j p hj
          · have hj' : j = m := by
              have := (List.getElem?_eq_some_iff.1 hj).1
              simp at this
              omega
            subst hj'
            rw [List.getElem?_append_right hge, hl, Nat.sub_self] at hj
            simp at hj
            subst hj
            exact ⟨c, hcl, hK, hcell⟩
    obtain ⟨xs, hl, hwf, hc⟩ := whole len (Nat.le_refl _)
    have hm : cap ≤ 9223372036854775807 := hcm
    refine ⟨xs, ⟨some a, cap, by rw [hl], by omega, rfl, by omega, fun _ => ⟨a, rfl, hc⟩⟩, ?_, hwf⟩
    have hb := hw ((elems.length + rest.length) * P.bytesOf e) (by simp [DataW.weights, hu])
    rw [hB] at hb
    have : xs.length * B ≤ (elems.length + rest.length) * B := Nat.mul_le_mul_right _ (by omega)
    unfold reachBytes at hb
    omega
theorem weights_each {H : Type} : ∀ {ts : List TypeId} {ds : List (DataW H)} {j : Nat} {t : TypeId} {d : DataW H}, ts[j]? = some t → ds[j]? = some d → ∀ n ∈ d.weights P t, n ∈ DataW.weightsEach P ts ds := DataW.weights_mem_each
/-- One field of a struct. -/
theorem opn_field {H : Type} {enc : TypeId × Value → H} {base : Nat} {spare : Nat → Bool} {held : Bool} {fuel : Nat} {t : TypeId} {fs : Array Field} {cs : List Value} {y : DataW H} {ps : List MemPlace} (hu : P.underlying t = some (.struct fs))
    (h : DataW.trod enc P w base spare held fuel t cs = some (y, ps)) (hw : ∀ n ∈ y.weights P t, n ≤ reachBytes) (i : Nat) {f : Field} (hf : fs[i]? = some f) {m : Nat} (hm : P.cellsOf f.type = m) :
    ∃ n y' ps', DataW.trod enc P w base spare held n f.type ((cs.drop f.offset).take m) = some (y', ps') ∧ ∀ k ∈ DataW.weights P f.type y', k ≤ reachBytes := by
  obtain ⟨xs, n, _, hx, _, hl, hfield⟩ := DataW.trod_struct hu h
  obtain ⟨rfl, _⟩ := Prod.mk.inj hx
  have h1 := hfield i f hf
  have hi : i < xs.length := by rw [hl]; exact (Array.getElem?_eq_some_iff.1 hf).1
  rw [List.getElem?_eq_getElem hi, hm] at h1
  refine ⟨n, xs[i].1, xs[i].2, h1, fun k hk => hw k ?_⟩
  simp only [DataW.weights, hu]
  refine weights_each (j := i) ?_ ?_ k hk
  · simp [hf]
  · simp [hi]
theorem struct_length {H : Type} {enc : TypeId × Value → H} {base : Nat} {spare : Nat → Bool} {held : Bool} {fuel : Nat} {t : TypeId} {fs : Array Field} {cs : List Value} {x : DataW H × List MemPlace} (hu : P.underlying t = some (.struct fs))
    (h : DataW.trod enc P w base spare held fuel t cs = some x) {m : Nat} (hm : P.cellsOf t = m) : cs.length = m := by
  obtain ⟨_, _, _, _, hl, _⟩ := DataW.trod_struct hu h
  rw [hl, hm]
theorem okWide_agg {r : Reach} {base : Nat} {t : TypeId} {fs : Array Field} {v : Value} (hu : P.underlying t = some (.struct fs)) (h : Value.okWide P w r base t v) : ∃ l : List Value, v = .agg l.toArray := by
  unfold Value.okWide at h
  rw [hu] at h
  obtain ⟨cs, rfl, _⟩ := h
  exact ⟨cs.toList, rfl⟩
theorem len1 {l : List Value} (h : l.length = 1) : ∃ u0, l = [u0] := by
  match l, h with
  | [u0], _ => exact ⟨u0, rfl⟩
theorem len2 {l : List Value} (h : l.length = 2) : ∃ u0 u1, l = [u0, u1] := by
  match l, h with
  | [u0, u1], _ => exact ⟨u0, u1, rfl⟩
theorem len3 {l : List Value} (h : l.length = 3) : ∃ u0 u1 u2, l = [u0, u1, u2] := by
  match l, h with
  | [u0, u1, u2], _ => exact ⟨u0, u1, u2, rfl⟩
theorem len4 {l : List Value} (h : l.length = 4) : ∃ u0 u1 u2 u3, l = [u0, u1, u2, u3] := by
  match l, h with
  | [u0, u1, u2, u3], _ => exact ⟨u0, u1, u2, u3, rfl⟩
theorem len5 {l : List Value} (h : l.length = 5) : ∃ u0 u1 u2 u3 u4, l = [u0, u1, u2, u3, u4] := by
  match l, h with
  | [u0, u1, u2, u3, u4], _ => exact ⟨u0, u1, u2, u3, u4, rfl⟩
theorem len6 {l : List Value} (h : l.length = 6) : ∃ u0 u1 u2 u3 u4 u5, l = [u0, u1, u2, u3, u4, u5] := by
  match l, h with
  | [u0, u1, u2, u3, u4, u5], _ => exact ⟨u0, u1, u2, u3, u4, u5, rfl⟩
theorem len7 {l : List Value} (h : l.length = 7) : ∃ u0 u1 u2 u3 u4 u5 u6, l = [u0, u1, u2, u3, u4, u5, u6] := by
  match l, h with
  | [u0, u1, u2, u3, u4, u5, u6], _ => exact ⟨u0, u1, u2, u3, u4, u5, u6, rfl⟩
theorem len8 {l : List Value} (h : l.length = 8) : ∃ u0 u1 u2 u3 u4 u5 u6 u7, l = [u0, u1, u2, u3, u4, u5, u6, u7] := by
  match l, h with
  | [u0, u1, u2, u3, u4, u5, u6, u7], _ => exact ⟨u0, u1, u2, u3, u4, u5, u6, u7, rfl⟩
theorem len9 {l : List Value} (h : l.length = 9) : ∃ u0 u1 u2 u3 u4 u5 u6 u7 u8, l = [u0, u1, u2, u3, u4, u5, u6, u7, u8] := by
  match l, h with
  | [u0, u1, u2, u3, u4, u5, u6, u7, u8], _ => exact ⟨u0, u1, u2, u3, u4, u5, u6, u7, u8, rfl⟩
theorem len10 {l : List Value} (h : l.length = 10) : ∃ u0 u1 u2 u3 u4 u5 u6 u7 u8 u9, l = [u0, u1, u2, u3, u4, u5, u6, u7, u8, u9] := by
  match l, h with
  | [u0, u1, u2, u3, u4, u5, u6, u7, u8, u9], _ => exact ⟨u0, u1, u2, u3, u4, u5, u6, u7, u8, u9, rfl⟩
theorem len11 {l : List Value} (h : l.length = 11) : ∃ u0 u1 u2 u3 u4 u5 u6 u7 u8 u9 u10, l = [u0, u1, u2, u3, u4, u5, u6, u7, u8, u9, u10] := by
  match l, h with
  | [u0, u1, u2, u3, u4, u5, u6, u7, u8, u9, u10], _ => exact ⟨u0, u1, u2, u3, u4, u5, u6, u7, u8, u9, u10, rfl⟩
theorem len12 {l : List Value} (h : l.length = 12) : ∃ u0 u1 u2 u3 u4 u5 u6 u7 u8 u9 u10 u11, l = [u0, u1, u2, u3, u4, u5, u6, u7, u8, u9, u10, u11] := by
  match l, h with
  | [u0, u1, u2, u3, u4, u5, u6, u7, u8, u9, u10, u11], _ => exact ⟨u0, u1, u2, u3, u4, u5, u6, u7, u8, u9, u10, u11, rfl⟩
theorem len13 {l : List Value} (h : l.length = 13) : ∃ u0 u1 u2 u3 u4 u5 u6 u7 u8 u9 u10 u11 u12, l = [u0, u1, u2, u3, u4, u5, u6, u7, u8, u9, u10, u11, u12] := by
  match l, h with
  | [u0, u1, u2, u3, u4, u5, u6, u7, u8, u9, u10, u11, u12], _ => exact ⟨u0, u1, u2, u3, u4, u5, u6, u7, u8, u9, u10, u11, u12, rfl⟩
theorem len14 {l : List Value} (h : l.length = 14) : ∃ u0 u1 u2 u3 u4 u5 u6 u7 u8 u9 u10 u11 u12 u13, l = [u0, u1, u2, u3, u4, u5, u6, u7, u8, u9, u10, u11, u12, u13] := by
  match l, h with
  | [u0, u1, u2, u3, u4, u5, u6, u7, u8, u9, u10, u11, u12, u13], _ => exact ⟨u0, u1, u2, u3, u4, u5, u6, u7, u8, u9, u10, u11, u12, u13, rfl⟩
theorem len15 {l : List Value} (h : l.length = 15) : ∃ u0 u1 u2 u3 u4 u5 u6 u7 u8 u9 u10 u11 u12 u13 u14, l = [u0, u1, u2, u3, u4, u5, u6, u7, u8, u9, u10, u11, u12, u13, u14] := by
  match l, h with
  | [u0, u1, u2, u3, u4, u5, u6, u7, u8, u9, u10, u11, u12, u13, u14], _ => exact ⟨u0, u1, u2, u3, u4, u5, u6, u7, u8, u9, u10, u11, u12, u13, u14, rfl⟩
theorem len16 {l : List Value} (h : l.length = 16) : ∃ u0 u1 u2 u3 u4 u5 u6 u7 u8 u9 u10 u11 u12 u13 u14 u15, l = [u0, u1, u2, u3, u4, u5, u6, u7, u8, u9, u10, u11, u12, u13, u14, u15] := by
  match l, h with
  | [u0, u1, u2, u3, u4, u5, u6, u7, u8, u9, u10, u11, u12, u13, u14, u15], _ => exact ⟨u0, u1, u2, u3, u4, u5, u6, u7, u8, u9, u10, u11, u12, u13, u14, u15, rfl⟩
theorem len17 {l : List Value} (h : l.length = 17) : ∃ u0 u1 u2 u3 u4 u5 u6 u7 u8 u9 u10 u11 u12 u13 u14 u15 u16, l = [u0, u1, u2, u3, u4, u5, u6, u7, u8, u9, u10, u11, u12, u13, u14, u15, u16] := by
  match l, h with
  | [u0, u1, u2, u3, u4, u5, u6, u7, u8, u9, u10, u11, u12, u13, u14, u15, u16], _ => exact ⟨u0, u1, u2, u3, u4, u5, u6, u7, u8, u9, u10, u11, u12, u13, u14, u15, u16, rfl⟩
theorem len18 {l : List Value} (h : l.length = 18) : ∃ u0 u1 u2 u3 u4 u5 u6 u7 u8 u9 u10 u11 u12 u13 u14 u15 u16 u17, l = [u0, u1, u2, u3, u4, u5, u6, u7, u8, u9, u10, u11, u12, u13, u14, u15, u16, u17] := by
  match l, h with
  | [u0, u1, u2, u3, u4, u5, u6, u7, u8, u9, u10, u11, u12, u13, u14, u15, u16, u17], _ => exact ⟨u0, u1, u2, u3, u4, u5, u6, u7, u8, u9, u10, u11, u12, u13, u14, u15, u16, u17, rfl⟩
end
end Go.Proofs.Ytlbcffdjdbjgcaa.OpenLib
