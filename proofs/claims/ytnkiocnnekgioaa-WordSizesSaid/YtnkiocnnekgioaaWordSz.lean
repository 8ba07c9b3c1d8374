/- words, plain: the greatest ones. -/
import Derived.Test.YtnkiocnnekgioaaWordPlain
namespace Go.Proofs.Ytnkiocnnekgioaa.WP
set_option linter.unusedVariables false
set_option linter.unusedSimpArgs false
set_option linter.unusedSectionVars false
def kn (i p : Int) : Kn := ⟨i, p, 2147483647, 1, true⟩
/-- The first q of a node's links. -/
def rowS (i : Int) : Nat → List Kn
  | 0 => []
  | q + 1 => rowS i q ++ if ((q + 1 : Nat) : Int) ≠ i then [kn i ((q + 1 : Nat) : Int)] else []
def allS : Nat → List Kn
  | 0 => []
  | i + 1 => allS i ++ rowS ((i + 1 : Nat) : Int) 64
def ndS (n : Nat) : List Int := (List.range n).map fun i => ((i + 1 : Nat) : Int)
theorem ndS_succ (n : Nat) : ndS (n + 1) = ndS n ++ [((n + 1 : Nat) : Int)] := by simp [ndS, List.range_succ]
theorem ndS_length (n : Nat) : (ndS n).length = n := by simp [ndS]
theorem rowS_mem {i : Int} : ∀ {q : Nat} {k : Kn}, k ∈ rowS i q → k.node = i ∧ (1 ≤ k.peer ∧ k.peer ≤ q) ∧ k.peer ≠ i ∧ k.w = 2147483647 ∧ k.ses = 1
  | 0, k, h => by cases h
  | q + 1, k, h => by
    rw [rowS] at h
    rcases List.mem_append.1 h with h | h
    · have := rowS_mem h; refine ⟨this.1, ⟨this.2.1.1, by omega⟩, this.2.2⟩
    · split at h
      · rename_i hne
        rw [List.mem_singleton.1 h]; exact ⟨rfl, ⟨by show 1 ≤ ((q + 1 : Nat) : Int); omega, Int.le_refl _⟩, hne, rfl, rfl⟩
      · cases h
theorem rowS_sorted (i : Int) : ∀ q, (rowS i q).Pairwise ahead
  | 0 => List.Pairwise.nil
  | q + 1 => by
    rw [rowS, List.pairwise_append]
    refine ⟨rowS_sorted i q, ?_, fun a ha b hb => ?_⟩
    · split <;> simp
    · split at hb
      · rw [List.mem_singleton.1 hb]
        have := rowS_mem ha
        exact .inr ⟨this.1, by show a.peer < ((q + 1 : Nat) : Int); omega⟩
      · cases hb
theorem allS_mem : ∀ {n : Nat} {k : Kn}, k ∈ allS n → (1 ≤ k.node ∧ k.node ≤ n) ∧ (1 ≤ k.peer ∧ k.peer ≤ 64) ∧ k.peer ≠ k.node ∧ k.w = 2147483647 ∧ k.ses = 1
  | 0, k, h => by cases h
  | n + 1, k, h => by
    rw [allS] at h
    rcases List.mem_append.1 h with h | h
    · have := allS_mem h; refine ⟨⟨this.1.1, by omega⟩, this.2⟩
    · have := rowS_mem h
      refine ⟨by omega, this.2.1, by rw [this.1]; exact this.2.2.1, this.2.2.2⟩
theorem allS_sorted : ∀ n, (allS n).Pairwise ahead
  | 0 => List.Pairwise.nil
  | n + 1 => by
    rw [allS, List.pairwise_append]
    refine ⟨allS_sorted n, rowS_sorted _ _, fun a ha b hb => ?_⟩
    have h1 := allS_mem ha
    have h2 := rowS_mem hb
    exact .inl (by omega)
def wz (n lim : Nat) : Wd := ⟨2, 1, 1, ndS n, (allS n).take lim, ⟨0, 0, 0, 0⟩⟩
theorem wz_view {n lim : Nat} (h : n ≤ 64) : viewMay (wz n lim).ns (wz n lim).ls := by
  have hnd : ∀ {i : Nat} {x : Int}, (ndS n)[i]? = some x → x = ((i + 1 : Nat) : Int) ∧ i < n := fun {i x} h => by
    have hi := (List.getElem?_eq_some_iff.1 h).1
    rw [ndS_length] at hi
    simp only [ndS, List.getElem?_map, List.getElem?_range hi, Option.map_some, Option.some.injEq] at h
    exact ⟨h.symm, hi⟩
  refine ⟨fun i x hx => ?_, fun i k hk => ?_⟩
  · obtain ⟨rfl, hi⟩ := hnd hx
    refine ⟨⟨by omega, by omega⟩, fun y h0 hy => ?_⟩
    obtain ⟨rfl, _⟩ := hnd hy
    omega
  · have hm : k ∈ allS n := List.mem_of_mem_take (List.mem_of_getElem? hk)
    have := allS_mem hm
    refine ⟨⟨?_, ⟨this.2.1.1, this.2.1.2⟩, fun e => this.2.2.1 e.symm, by omega, by omega, by omega, by omega⟩, fun p h0 hp => ?_⟩
    · obtain ⟨j, hj⟩ : ∃ j : Nat, k.node = ((j + 1 : Nat) : Int) := ⟨(k.node - 1).toNat, by omega⟩
      rw [hj]
      exact List.mem_map.2 ⟨j, List.mem_range.2 (by omega), rfl⟩
    · have hs : ((allS n).take lim).Pairwise ahead := (allS_sorted n).sublist (List.take_sublist _ _)
      obtain ⟨h1, rfl⟩ := List.getElem?_eq_some_iff.1 hp
      obtain ⟨h2, rfl⟩ := List.getElem?_eq_some_iff.1 hk
      exact (List.pairwise_iff_getElem.1 hs) (i - 1) i h1 h2 (by omega)
theorem wz_may {n lim : Nat} (h1 : 1 ≤ n) (h : n ≤ 64) : (wz n lim).may ↔ (wz n lim).ls.length ≤ 1024 := by
  constructor
  · intro hm
    unfold Wd.may at hm
    rcases hm with ⟨a, _⟩ | ⟨_, _, hf, _⟩ | ⟨a, _⟩ | ⟨a, _⟩
    · exact absurd a (by show ¬ (2 : Int) = 1; decide)
    · exact hf.2.1
    · exact absurd a (by show ¬ (2 : Int) = 3; decide)
    · exact absurd a.1 (by show ¬ (4 : Int) ≤ 2; decide)
  · intro hl
    refine .inr (.inl ⟨rfl, ⟨by show (0 : Int) < 1; decide, .inr ⟨by show (1 : Int) ≤ 1; decide, by show (1 : Int) ≤ 2147483647; decide, by show (1 : Int) ≤ 1; decide, by show (1 : Int) ≤ 64; decide⟩⟩, ⟨fun e => ?_, hl, wz_view h⟩, rfl⟩)
    have := congrArg List.length e
    rw [show (wz n lim).ns = ndS n from rfl, ndS_length] at this
    simp at this; omega
theorem rowS_ext (i : Int) {q : Nat} (h : q ≤ 64) : ∃ t, rowS i 64 = rowS i q ++ t := by
  have key : ∀ d, ∃ t, rowS i (q + d) = rowS i q ++ t := by
    intro d
    induction d with
    | zero => exact ⟨[], (List.append_nil _).symm⟩
    | succ d ih =>
      obtain ⟨t, ht⟩ := ih
      refine ⟨t ++ (if ((q + d + 1 : Nat) : Int) ≠ i then [kn i ((q + d + 1 : Nat) : Int)] else []), ?_⟩
      rw [← List.append_assoc, ← ht]; rfl
  obtain ⟨t, ht⟩ := key (64 - q)
  rw [show q + (64 - q) = 64 from by omega] at ht
  exact ⟨t, ht⟩
/-- The links when a node's row is under way. -/
theorem take_more {α : Type} {a b : List α} {lim : Nat} (h : ¬ (a.take lim).length < lim) : (a ++ b).take lim = a.take lim := by
  rw [List.length_take] at h
  rw [List.take_append_of_le_length (by omega)]
theorem take_all {α : Type} {a : List α} {lim : Nat} (h : (a.take lim).length < lim) : a.take lim = a := by
  rw [List.length_take] at h
  exact List.take_of_length_le (by omega)
end Go.Proofs.Ytnkiocnnekgioaa.WP
