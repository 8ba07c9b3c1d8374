/- join, plain: sizes make up all; what is told of a joining. -/
import Derived.Test.YtphjkpnidoaonaaJoinInv
namespace Go.Proofs.Ytphjkpnidoaonaa.JP
set_option linter.unusedVariables false
set_option linter.unusedSimpArgs false
set_option linter.unusedSectionVars false

def sumN : Nat → (Nat → Nat) → Nat
  | 0, _ => 0
  | n + 1, f => sumN n f + f n
theorem sumN_congr {f h : Nat → Nat} : ∀ (n : Nat), (∀ i, i < n → f i = h i) → sumN n f = sumN n h
  | 0, _ => rfl
  | n + 1, e => by rw [sumN, sumN, sumN_congr n (fun i hi => e i (by omega)), e n (by omega)]
theorem sumN_add (f h : Nat → Nat) : ∀ n, sumN n (fun i => f i + h i) = sumN n f + sumN n h
  | 0 => rfl
  | n + 1 => by rw [sumN, sumN, sumN, sumN_add f h n]; omega
theorem sumN_zero : ∀ n, sumN n (fun _ => 0) = 0
  | 0 => rfl
  | n + 1 => by rw [sumN, sumN_zero n]
theorem sumN_swap (f : Nat → Nat → Nat) (m : Nat) : ∀ n, sumN n (fun i => sumN m (f i)) = sumN m (fun j => sumN n (fun i => f i j))
  | 0 => by simp only [sumN]; exact (sumN_zero m).symm
  | n + 1 => by rw [sumN, sumN_swap f m n, ← sumN_add]; rfl
theorem sumN_one {k : Nat} (c : Nat) : ∀ n, sumN n (fun i => if i = k then c else 0) = if k < n then c else 0
  | 0 => by simp [sumN]
  | n + 1 => by
    rw [sumN, sumN_one c n]
    by_cases h : n = k
    · subst h; simp
    · rw [if_neg h]
      by_cases h2 : k < n
      · rw [if_pos h2, if_pos (by omega)]; omega
      · rw [if_neg h2, if_neg (by omega)]
theorem filter_sum (p : Nat → Bool) : ∀ n, ((List.range n).filter p).length = sumN n (fun i => if p i then 1 else 0)
  | 0 => rfl
  | n + 1 => by
    rw [List.range_succ, List.filter_append, List.length_append, filter_sum p n, sumN]
    cases h : p n <;> simp [h]
theorem cnt_sum (w : List Int) (v : Int) : cnt w v = sumN w.length (fun i => if g w (i : Nat) = v then 1 else 0) := by
  unfold cnt; rw [filter_sum]; refine sumN_congr _ fun i _ => ?_; simp

/-- The sizes of all sets make up all. -/
def total (w : List Int) (n : Nat) : Nat := sumN n (fun i => if 1 ≤ i ∧ g w (i : Nat) = (i : Int) then cnt w (i : Int) else 0)
theorem total_all {w : List Int} (h : WOk w) : total w w.length + 1 = w.length := by
  have e1 : total w w.length = sumN w.length (fun i => sumN w.length (fun x => if 1 ≤ i ∧ g w (i : Nat) = (i : Int) ∧ g w (x : Nat) = (i : Int) then 1 else 0)) := by
    unfold total
    refine sumN_congr _ fun i _ => ?_
    by_cases hi : 1 ≤ i ∧ g w (i : Nat) = (i : Int)
    · rw [if_pos hi, cnt_sum]
      refine sumN_congr _ fun x _ => ?_
      simp [hi.1, hi.2]
    · rw [if_neg hi]
      refine ((sumN_congr _ fun x _ => ?_).trans (sumN_zero w.length)).symm
      rw [if_neg (fun e => hi ⟨e.1, e.2.1⟩)]
  rw [e1, sumN_swap]
  have e2 : sumN w.length (fun j => sumN w.length (fun i => if 1 ≤ i ∧ g w (i : Nat) = (i : Int) ∧ g w (j : Nat) = (i : Int) then 1 else 0)) = sumN w.length (fun j => if 1 ≤ j then 1 else 0) := by
    refine sumN_congr _ fun j hj => ?_
    have hIj : In w (j : Nat) := ⟨by omega, by omega⟩
    have hle := h.le j hIj
    by_cases h1 : 1 ≤ j
    · rw [if_pos h1]
      have hlow := h.low j hIj (by omega)
      have hid := h.idem j hIj
      obtain ⟨k, hk⟩ : ∃ k : Nat, g w (j : Nat) = (k : Int) := ⟨(g w (j : Nat)).toNat, by omega⟩
      have e3 : sumN w.length (fun i => if 1 ≤ i ∧ g w (i : Nat) = (i : Int) ∧ g w (j : Nat) = (i : Int) then 1 else 0) = sumN w.length (fun i => if i = k then 1 else 0) := by
        refine sumN_congr _ fun i _ => ?_
        by_cases e : i = k
        · subst e
          rw [if_pos rfl, if_pos ⟨by omega, by rw [← hk]; exact hid, hk⟩]
        · rw [if_neg e, if_neg (fun x => e (by have := x.2.2; omega))]
      rw [e3, sumN_one, if_pos (by omega)]
    · obtain rfl : j = 0 := by omega
      rw [if_neg (by omega)]
      refine (sumN_congr _ fun i _ => ?_).trans (sumN_zero w.length)
      rw [if_neg (fun x => by have h1 := x.2.2; have h2 := x.1; have h0 : g w ((0 : Nat) : Int) = 0 := h.zero; rw [h0] at h1; omega)]
  rw [e2]
  have e4 : ∀ n, sumN (n + 1) (fun j => if 1 ≤ j then 1 else 0) = n := by
    intro n
    induction n with
    | zero => rfl
    | succ n ih => rw [sumN, ih, if_pos (by omega)]
  obtain ⟨n, hn⟩ : ∃ n, w.length = n + 1 := ⟨w.length - 1, by have := h.pos; omega⟩
  rw [hn, e4]

theorem runite_ok {w : List Int} (hw : WOk w) (a b : Int) : WOk (runite w a b).1 ∧ (runite w a b).1.length = w.length ∧ (if (runite w a b).2 = true then fix (runite w a b).1 + 1 = fix w else (runite w a b).1 = w) := by
  by_cases h : rhas w a ∧ rhas w b ∧ g w a ≠ g w b
  · have e : runite w a b = (glue w (lo w a b) (hi w a b), true) := by unfold runite; rw [if_pos h]
    obtain ⟨ha, hb, hne⟩ := h
    have hia : In w a := ⟨by have := ha.1; omega, ha.2⟩
    have hib : In w b := ⟨by have := hb.1; omega, hb.2⟩
    have hla := hw.le a hia
    have hlb := hw.le b hib
    have hpa := hw.low a hia ha.1
    have hpb := hw.low b hib hb.1
    have iga : In w (g w a) := ⟨hla.1, by have := hia.2; omega⟩
    have igb : In w (g w b) := ⟨hlb.1, by have := hib.2; omega⟩
    have hcases : (lo w a b = g w a ∧ hi w a b = g w b ∧ g w a < g w b) ∨ (lo w a b = g w b ∧ hi w a b = g w a ∧ g w b < g w a) := by
      unfold lo hi; by_cases hlt : g w b < g w a
      · rw [if_pos hlt, if_pos hlt]; exact .inr ⟨rfl, rfl, hlt⟩
      · rw [if_neg hlt, if_neg hlt]; exact .inl ⟨rfl, rfl, by omega⟩
    rw [e]
    have ok : WOk (glue w (lo w a b) (hi w a b)) ∧ fix (glue w (lo w a b) (hi w a b)) + 1 = fix w := by
      rcases hcases with ⟨e1, e2, e3⟩ | ⟨e1, e2, e3⟩
      · rw [e1, e2]; exact ⟨glue_ok hw hpa e3 iga igb (hw.idem a hia) (hw.idem b hib), glue_fix hw hpa e3 iga igb (hw.idem a hia) (hw.idem b hib)⟩
      · rw [e1, e2]; exact ⟨glue_ok hw hpb e3 igb iga (hw.idem b hib) (hw.idem a hia), glue_fix hw hpb e3 igb iga (hw.idem b hib) (hw.idem a hia)⟩
    exact ⟨ok.1, glue_length _ _ _, by rw [if_pos rfl]; exact ok.2⟩
  · have e : runite w a b = (w, false) := by unfold runite; rw [if_neg h]
    rw [e]; exact ⟨hw, rfl, by rw [if_neg (by simp)]⟩
end Go.Proofs.Ytphjkpnidoaonaa.JP
