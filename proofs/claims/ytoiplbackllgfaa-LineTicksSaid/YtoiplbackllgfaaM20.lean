/- texts of this claim, one behind the other: AbB. -/
import Derived.Test.YtoiplbackllgfaaM10
import Derived.OpenShut
import Derived.ShutString
import Derived.ChangeArms

/- What comes in, opened into the abstract memory: flat data (whole numbers, bools, strings, arrays of these) and slices of them. -/
namespace Go.Proofs.Ytoiplbackllgfaa.Ab
set_option linter.unusedVariables false
set_option linter.unusedSimpArgs false
set_option linter.unusedSectionVars false
open Go.RowKit
section
variable {P : Program} {w : World} {α : Type}

/-- What is read as a datum of a flat type lies in cells that tell it. -/
def Flat (P : Program) (w : World) (t : TypeId) (f : α → List Value) (wf : α → Prop) : Prop :=
  ∀ {H : Type} (enc : TypeId × Value → H) (base : Nat) (spare : Nat → Bool) (held : Bool) (fuel : Nat) (cs : List Value) (y : DataW H × List MemPlace),
    DataW.trod enc P w base spare held fuel t cs = some y → ∃ x, cs = f x ∧ wf x
theorem flat_int {t : TypeId} {k : IntKind} (hu : P.underlying t = some (.int k)) : Flat P w t (fun n : Int => [Value.int k n]) (fun n => (Lit.int k n).wf = true) := by
  intro H enc base spare held fuel cs y h
  obtain ⟨n, rfl, _, hn⟩ := DataW.trod_int hu h
  exact ⟨n, rfl, hn⟩
theorem flat_bool {t : TypeId} (hu : P.underlying t = some .bool) : Flat P w t (fun b : Bool => [Value.bool b]) (fun _ => True) := by
  intro H enc base spare held fuel cs y h
  obtain ⟨n, rfl, _⟩ := DataW.trod_bool hu h
  exact ⟨n, rfl, trivial⟩
theorem chunks {f : α → List Value} {wf : α → Prop} {m : Nat} : ∀ (n : Nat) (cs : List Value), cs.length = n * m → (∀ i, i < n → ∃ x, (cs.drop (i * m)).take m = f x ∧ wf x) → ∃ xs : List α, xs.length = n ∧ cs = xs.flatMap f ∧ ∀ x ∈ xs, wf x
  | 0, cs, h, _ => ⟨[], rfl, by rw [Nat.zero_mul] at h; rw [List.length_eq_zero_iff.1 h]; rfl, by simp⟩
  | n + 1, cs, h, hc => by
    have hlen : cs.length = n * m + m := by rw [h, Nat.succ_mul]
    obtain ⟨x, e, hx⟩ := hc 0 (by omega)
    rw [Nat.zero_mul, List.drop_zero] at e
    obtain ⟨xs, h1, h2, h3⟩ := chunks (f := f) (wf := wf) (m := m) n (cs.drop m) (by rw [List.length_drop, hlen]; omega) (fun i hi => by
      obtain ⟨y, e, hy⟩ := hc (i + 1) (by omega)
      refine ⟨y, ?_, hy⟩
      rw [List.drop_drop, ← e, Nat.succ_mul, Nat.add_comm])
    refine ⟨x :: xs, by simp [h1], ?_, fun z hz => ?_⟩
    · rw [List.flatMap_cons, ← h2, ← e, List.take_append_drop]
    · rcases List.mem_cons.1 hz with rfl | hz
      · exact hx
      · exact h3 z hz
theorem flat_array {t e : TypeId} {n m : Nat} {f : α → List Value} {wf : α → Prop} (hu : P.underlying t = some (.array n e)) (hm : P.cellsOf e = m) (ht : P.cellsOf t = n * m) (he : Flat P w e f wf) :
    Flat P w t (fun xs : List α => xs.flatMap f) (fun xs => xs.length = n ∧ ∀ x ∈ xs, wf x) := by
  intro H enc base spare held fuel cs y h
  obtain ⟨xs, k, _, _, hl, hxs, hel⟩ := DataW.trod_array hu h
  obtain ⟨zs, h1, h2, h3⟩ := chunks (f := f) (wf := wf) n cs (by rw [hl, ht]) (fun i hi => by
    have := hel i hi
    rw [hm, List.getElem?_eq_getElem (by omega)] at this
    exact he enc base spare held k _ _ this)
  exact ⟨zs, h2, h1, h3⟩
theorem cells_at {base n : Nat} {a : Addr} {cs : List Value} (h : w.cells? base a n = some cs) : cs.length = n ∧ ∀ i u, cs[i]? = some u → w.cell? (a.add i) = some u := by
  unfold World.cells? at h
  split at h
  · have hl : cs.length = n := by have := mapM_some_length h; simpa using this
    refine ⟨hl, fun i u hu => ?_⟩
    have hi : i < n := by have := (List.getElem?_eq_some_iff.1 hu).1; omega
    have := mapM_some_get h i i (by simp [hi])
    rw [this, hu]
  · cases h
theorem addr_add2 (a : Addr) (i j : Nat) : (a.add i).add j = a.add (i + j) := by
  unfold Addr.add
  by_cases hi : i = 0
  · subst hi; simp
  · by_cases hj : j = 0
    · subst hj; simp
    · simp [hi, hj, Nat.add_assoc]
theorem flat_slice {t e : TypeId} {m : Nat} {f : α → List Value} {wf : α → Prop} (hu : P.underlying t = some (.slice e)) (hm : P.cellsOf e = m) (hf : ∀ x, wf x → (f x).length = m) (he : Flat P w e f wf)
    {H : Type} {enc : TypeId × Value → H} {base : Nat} {spare : Nat → Bool} {held : Bool} {fuel : Nat} {cs : List Value} {y : DataW H × List MemPlace} (h : DataW.trod enc P w base spare held fuel t cs = some y) :
    cs = [.slice none 0 0] ∨ ∃ (a : Addr) (cap : Nat) (xs : List α), cs = [.slice (some a) xs.length cap] ∧ xs.length ≤ cap ∧ (∀ x ∈ xs, wf x) ∧ ∀ i u, (xs.flatMap f)[i]? = some u → w.cell? (a.add i) = some u := by
  rcases DataW.trod_slice hu h with ⟨rfl, _⟩ | ⟨a, len, cap, elems, rest, n, rfl, rfl, _, _, hlc, _, hlen, hel, _, _⟩
  · exact .inl rfl
  · have each : ∀ i, i < len → ∃ x, wf x ∧ ∀ j u, (f x)[j]? = some u → w.cell? (a.add (i * m + j)) = some u := fun i hi => by
      have h1 := hel i hi
      rw [List.getElem?_eq_getElem (by omega)] at h1
      obtain ⟨c, hc, ht⟩ := Option.bind_eq_some_iff.1 h1
      obtain ⟨_, hcc⟩ := cells_at hc
      obtain ⟨x, rfl, hx⟩ := he enc base spare held n c _ ht
      refine ⟨x, hx, fun j u hu => ?_⟩
      have := hcc j u hu
      rw [hm] at this
      rwa [show (a.add (i * m)).add j = a.add (i * m + j) from addr_add2 _ _ _] at this
    have whole : ∀ k, k ≤ len → ∃ xs : List α, xs.length = k ∧ (∀ x ∈ xs, wf x) ∧ ∀ i u, (xs.flatMap f)[i]? = some u → w.cell? (a.add i) = some u := by
      intro k
      induction k with
      | zero => intro _; exact ⟨[], rfl, by simp, fun i u hu => by simp at hu⟩
      | succ k ih =>
        intro hk
        obtain ⟨xs, hl, hwf, hc⟩ := ih (by omega)
        obtain ⟨x, hx, hcx⟩ := each k (by omega)
        have hlx : (xs.flatMap f).length = k * m := by
          rw [← hl]; clear hl hc ih
          induction xs with
          | nil => simp
          | cons z zs ihz =>
            rw [List.flatMap_cons, List.length_append, hf z (hwf z (by simp)), ihz (fun q hq => hwf q (by simp [hq])), List.length_cons, Nat.succ_mul, Nat.add_comm]
        refine ⟨xs ++ [x], by simp [hl], fun z hz => ?_, fun i u hu => ?_⟩
        · rcases List.mem_append.1 hz with hz | hz
          · exact hwf z hz
          · rw [List.mem_singleton.1 hz]; exact hx
        · rw [List.flatMap_append, List.flatMap_singleton] at hu
          rcases Nat.lt_or_ge i (xs.flatMap f).length with hlt | hge
          · rw [List.getElem?_append_left hlt] at hu; exact hc i u hu
          · rw [List.getElem?_append_right hge, hlx] at hu
            have := hcx _ u hu
            rwa [show k * m + (i - k * m) = i from by omega] at this
    obtain ⟨xs, hl, hwf, hc⟩ := whole len (Nat.le_refl _)
    exact .inr ⟨a, cap, xs, by rw [hl], by omega, hwf, hc⟩
end

/-- Blocks that are only read, one after the other. -/
def roH (L : List (Loc × List Value)) : AHeap := fun i => (L[i]?).map fun p => .cells false p.1.sz p.2
def roR (L : List (Loc × List Value)) : Ren := fun i => (L[i]?).map fun p => p.1
theorem Sim.ro {W : World} {L : List (Loc × List Value)} (h : ∀ p ∈ L, ∀ i v, p.2[i]? = some v → ∃ v', W.cell? ⟨p.1.B, p.1.o + i, none⟩ = some v' ∧ V1 (roR L) v v') : Sim W (roR L) (roH L) W := by
  refine ⟨Below.refl _ _, fun id b hb => ?_, fun id l hl => ?_, fun x y bx bY lx ly _ hx _ ho => ?_, ⟨L.length, fun id hid => ?_⟩⟩
  · unfold roH at hb
    cases hp : L[id]? with
    | none => rw [hp] at hb; cases hb
    | some p =>
      rw [hp] at hb; obtain rfl := Option.some.inj hb
      exact ⟨p.1, by unfold roR; rw [hp]; rfl, rfl, h p (List.mem_of_getElem? hp), fun e => by cases e⟩
  · unfold roR at hl
    cases hp : L[id]? with
    | none => rw [hp] at hl; cases hl
    | some p => unfold roH; rw [hp]; rfl
  · unfold roH at hx
    cases hp : L[x]? with
    | none => rw [hp] at hx; cases hx
    | some p => rw [hp] at hx; obtain rfl := Option.some.inj hx; cases ho
  · unfold roH; rw [List.getElem?_eq_none hid]; rfl
theorem add_at {a : Addr} (hs : a.spot = none) (i : Nat) : a.add i = ⟨a.block, a.off + i, none⟩ := by
  obtain ⟨b, o, sp⟩ := a
  simp only at hs; subst hs
  unfold Addr.add; split
  · rename_i e; subst e; rfl
  · rfl
end Go.Proofs.Ytoiplbackllgfaa.Ab
