/- What Ready and Tick of a sender answer, and the reference's. -/
import Derived.Test.YtlbcffdjdbjgcaaSendSendNumbers
set_option linter.unusedSimpArgs false
set_option linter.unusedVariables false
namespace Go.Proofs.Ytlbcffdjdbjgcaa.PSendNumbers
open Go.RowKit Go.Proofs.YtlbcffdjdbjgcaaW.PrintWords Go.Proofs.YtlbcffdjdbjgcaaW.PrintLast Go.Proofs.Ytlbcffdjdbjgcaa.EvLib

/-- Payloads, numbered from a number on. -/
def sentV (c : Int) : List (List Int) → List S44
  | [] => []
  | x :: xs => ⟨c, x⟩ :: sentV (c + 1) xs
theorem sentV_length : ∀ (xs : List (List Int)) (c : Int), (sentV c xs).length = xs.length
  | [], _ => rfl
  | _ :: xs, c => by simp [sentV, sentV_length xs]
theorem sentV_f0 : ∀ (xs : List (List Int)) (c : Int) (i : Nat) (h : i < (sentV c xs).length), ((sentV c xs)[i]).f0 = c + (i : Int)
  | [], _, i, h => by simp [sentV] at h
  | x :: xs, c, 0, h => by simp [sentV]
  | x :: xs, c, i + 1, h => by
    have h' : i < (sentV (c + 1) xs).length := by simpa [sentV] using h
    have := sentV_f0 xs (c + 1) i h'
    simp only [sentV, List.getElem_cons_succ, this]
    omega
theorem rd44_at (l : List S44) (i : Nat) (h : i < l.length) : rd_T44 l (i : Int) = l[i] := by unfold rd_T44; simp [h]
theorem sent_cons (a : Int) (l : List (List Int)) (i m : Nat) (h : i < l.length) (acc : List S44) : (acc ++ [(⟨a + (i : Int), l[i]⟩ : S44)]) ++ sentV (a + ((i + 1 : Nat) : Int)) ((l.drop (i + 1)).take m) = acc ++ sentV (a + (i : Int)) ((l.drop i).take (m + 1)) := by
  have e1 : (l.drop i).take (m + 1) = l[i] :: (l.drop (i + 1)).take m := by rw [List.drop_eq_getElem_cons h, List.take_succ_cons]
  have e2 : a + (i : Int) + 1 = a + ((i + 1 : Nat) : Int) := by omega
  rw [e1, sentV, e2, List.append_assoc]; rfl
theorem numbered_loop (a b0 : Int) (l : List (List Int)) (d0 : Int) (t : Nat) (ht : t ≤ l.length) (ha : 0 ≤ a ∧ a ≤ 2147483647) (hl : l.length ≤ 256) (hx : ∀ x ∈ l, x.length < 140737488355328) : ∀ (m i : Nat) (acc : List S44), i + m = t → acc.length ≤ i → Ev (fun k => send_numbered.l0 k (t : Int) acc (i : Int) a b0 l d0) (acc ++ sentV (a + (i : Int)) ((l.drop i).take m)) := by
  intro m
  induction m with
  | zero =>
    intro i acc hi hacc
    have s1 : ¬ ((i : Int) < (t : Int)) := by omega
    rw [List.take_zero, sentV, List.append_nil]
    exact Ev.step (fun k => by simp only [send_numbered.l0]; rw [if_neg s1]) (Ev.now _)
  | succ m ih =>
    intro i acc hi hacc
    have hlt : i < l.length := by omega
    have s1 : (i : Int) < (t : Int) := by omega
    have s0 : 0 ≤ (i : Int) := by omega
    have s2 : (i : Int) < (l.length : Int) := by omega
    have hw : wrap64 ((i : Int) + 1) = ((i + 1 : Nat) : Int) := wrap_nat (by omega)
    have hw2 : wrap64 (a + (i : Int)) = a + (i : Int) := wrap_id (by omega) (by omega)
    have hc : slices_Clone_byte_byte.f (rd_L1 l (i : Int)) = some l[i] := by rw [rd_at l i hlt]; exact clone_v _ (hx _ (List.getElem_mem hlt))
    refine Ev.step (f := fun k => _) (fun k => by simp only [send_numbered.l0]; rw [if_pos s1, if_pos s0, if_pos s2]) ?_
    refine Ev.plain hc ?_
    refine Ev.pos (by omega) ?_
    rw [hw, hw2, ← sent_cons a l i m hlt acc]
    exact ih (i + 1) _ (by omega) (by rw [List.length_append]; simp; omega)
theorem numbered_ev (a b0 : Int) (l : List (List Int)) (d0 : Int) (b t : Nat) (hbt : b ≤ t) (ht : t ≤ l.length) (ha : 0 ≤ a ∧ a ≤ 2147483647) (hl : l.length ≤ 256) (hx : ∀ x ∈ l, x.length < 140737488355328) : Ev (fun k => send_numbered.f k a b0 l d0 (b : Int) (t : Int)) (sentV (a + (b : Int)) ((l.drop b).take (t - b))) := by
  unfold send_numbered.f
  have := numbered_loop a b0 l d0 t ht ha hl hx (t - b) b [] (by omega) (by simp)
  simpa using this
theorem short {a b : Int} {l : List (List Int)} {d : Int} (hm : MayS a b l d) : ∀ x ∈ l, x.length < 140737488355328 := fun x h => by
  have : ¬ x.length > 16384 := fun h2 => hm.2.2.2.2 ⟨x, h, h2⟩
  omega
theorem mn16 (l : List (List Int)) : mn 16 (l.length : Int) = ((min 16 l.length : Nat) : Int) := by
  show (if (l.length : Int) < 16 then (l.length : Int) else 16) = _
  split <;> omega
/-- What Ready sends. -/
def readyS (a b : Int) (l : List (List Int)) : List S44 := sentV (a + b) ((l.drop b.toNat).take (min 16 l.length - b.toNat))
/-- A sender behind Ready, and what it sends. -/
def readyV (a b : Int) (l : List (List Int)) (d : Int) : Int × Int × List (List Int) × Int × List S44 :=
  if ((readyS a b l).length : Int) > 0 then (a, ((min 16 l.length : Nat) : Int), l, 4, readyS a b l) else (a, b, l, d, readyS a b l)
theorem readyS_length (a : Int) (b : Nat) (l : List (List Int)) : (readyS a (b : Int) l).length = min 16 l.length - b := by
  unfold readyS
  rw [sentV_length, List.length_take, List.length_drop, Int.toNat_natCast]
  omega
theorem ready_ev (a b : Int) (l : List (List Int)) (d : Int) (hm : MayS a b l d) : Ev (fun k => send_Ready.f k a b l d) ((readyV a b l d).1, (readyV a b l d).2.1, (readyV a b l d).2.2.1, (readyV a b l d).2.2.2.1, (readyV a b l d).2.2.2.2, 0) := by
  have hx := short hm
  obtain ⟨bn, hbn⟩ := Int.eq_ofNat_of_zero_le hm.2.2.1.1
  subst hbn
  have hb := hm.2.2.1
  unfold send_Ready.f
  refine Ev.bind (check_ev a _ l d (by have := hm.2.1; omega)) ?_
  rw [if_pos hm]
  refine Ev.pos rfl ?_
  rw [mn16]
  refine Ev.bind (numbered_ev a _ l d bn (min 16 l.length) (by omega) (by omega) hm.1 hm.2.1 hx) ?_
  refine Ev.bind (own_ev l (by have := hm.2.1; omega) hx) ?_
  have e : sentV (a + (bn : Int)) ((l.drop bn).take (min 16 l.length - bn)) = readyS a (bn : Int) l := by unfold readyS; rw [Int.toNat_natCast]
  rw [e]
  unfold readyV
  refine Ev.cases (fun h => ?_) (fun h => ?_)
  · rw [if_pos h]; exact Ev.now _
  · rw [if_neg h]; exact Ev.now _
/-- A sender behind Tick, and what it sends. -/
def tickV (a b : Int) (l : List (List Int)) (d : Int) : Int × Int × List (List Int) × Int × List S44 :=
  if b = 0 then (a, b, l, d, []) else if d - 1 > 0 then (a, b, l, d - 1, []) else (a, b, l, 4, sentV a (l.take b.toNat))
theorem tick_ev (a b : Int) (l : List (List Int)) (d : Int) (hm : MayS a b l d) : Ev (fun k => send_Tick.f k a b l d) ((tickV a b l d).1, (tickV a b l d).2.1, (tickV a b l d).2.2.1, (tickV a b l d).2.2.2.1, (tickV a b l d).2.2.2.2, 0) := by
  have hx := short hm
  obtain ⟨bn, hbn⟩ := Int.eq_ofNat_of_zero_le hm.2.2.1.1
  subst hbn
  have hb := hm.2.2.1
  have hd := hm.2.2.2.1
  have hw : wrap64 (d - 1) = d - 1 := wrap_id (by omega) (by omega)
  unfold send_Tick.f
  refine Ev.bind (check_ev a _ l d (by have := hm.2.1; omega)) ?_
  rw [if_pos hm]
  refine Ev.pos rfl ?_
  refine Ev.bind (own_ev l (by have := hm.2.1; omega) hx) ?_
  unfold tickV
  refine Ev.cases (fun h => ?_) (fun h => ?_)
  · rw [if_pos h]; exact Ev.now _
  rw [if_neg h, hw]
  refine Ev.cases (fun h2 => ?_) (fun h2 => ?_)
  · rw [if_pos h2]; exact Ev.now _
  rw [if_neg h2]
  have e : sentV (a + ((0 : Nat) : Int)) ((l.drop 0).take (bn - 0)) = sentV a (l.take bn) := by simp
  have := numbered_ev a (bn : Int) l 4 0 bn (by omega) (by omega) hm.1 hm.2.1 hx
  rw [e] at this
  rw [Int.toNat_natCast]
  exact Ev.bind this (Ev.now _)
theorem readyV_may {a b : Int} {l : List (List Int)} {d : Int} (hm : MayS a b l d) : MayS (readyV a b l d).1 (readyV a b l d).2.1 (readyV a b l d).2.2.1 (readyV a b l d).2.2.2.1 ∧ (readyV a b l d).1 = a ∧ (readyV a b l d).2.2.1 = l := by
  obtain ⟨bn, hbn⟩ := Int.eq_ofNat_of_zero_le hm.2.2.1.1
  subst hbn
  have hlen := readyS_length a bn l
  have hb := hm.2.2.1
  unfold readyV
  by_cases h : ((readyS a (bn : Int) l).length : Int) > 0
  · rw [if_pos h]
    refine ⟨⟨hm.1, hm.2.1, ⟨by simp only; omega, by simp only; omega, by simp only; omega⟩, ⟨show (0 : Int) ≤ 4 by decide, show (4 : Int) ≤ 4 by decide, ?_⟩, hm.2.2.2.2⟩, rfl, rfl⟩
    simp only
    constructor
    · intro h4; omega
    · intro h4; omega
  · rw [if_neg h]; exact ⟨hm, rfl, rfl⟩
theorem tickV_may {a b : Int} {l : List (List Int)} {d : Int} (hm : MayS a b l d) : MayS (tickV a b l d).1 (tickV a b l d).2.1 (tickV a b l d).2.2.1 (tickV a b l d).2.2.2.1 ∧ (tickV a b l d).1 = a ∧ (tickV a b l d).2.2.1 = l := by
  have hd := hm.2.2.2.1
  unfold tickV
  by_cases h : b = 0
  · rw [if_pos h]; exact ⟨hm, rfl, rfl⟩
  · rw [if_neg h]
    by_cases h2 : d - 1 > 0
    · rw [if_pos h2]
      refine ⟨⟨hm.1, hm.2.1, hm.2.2.1, ⟨by simp only; omega, by simp only; omega, ?_⟩, hm.2.2.2.2⟩, rfl, rfl⟩
      simp only; omega
    · rw [if_neg h2]
      refine ⟨⟨hm.1, hm.2.1, hm.2.2.1, ⟨show (0 : Int) ≤ 4 by decide, show (4 : Int) ≤ 4 by decide, ?_⟩, hm.2.2.2.2⟩, rfl, rfl⟩
      simp only; omega
def ackV (a b : Int) (l : List (List Int)) (d n : Int) : Int × Int × List (List Int) × Int := if n ≤ a ∨ n > a + b then (a, b, l, d) else (n, b - (n - a), l.drop (n - a).toNat, if b - (n - a) = 0 then 0 else 4)
theorem ack_ev (a b : Int) (l : List (List Int)) (d n : Int) (hm : MayS a b l d) (hn : -9223372036854775808 ≤ n ∧ n ≤ 9223372036854775807) : Ev (fun k => send_Ack.f k a b l d n) ((ackV a b l d n).1, (ackV a b l d n).2.1, (ackV a b l d n).2.2.1, (ackV a b l d n).2.2.2, 0) := by
  obtain ⟨ha, hl, hb, hd, hx⟩ := hm
  have hx' : ∀ x ∈ l, x.length < 140737488355328 := fun x h => by
    have : ¬ x.length > 16384 := fun h2 => hx ⟨x, h, h2⟩
    omega
  have stay : (n ≤ a ∨ n > a + b) → Ev (fun k => send_Ack.j0 k n (wrap64 (n - a)) true a b l d) ((ackV a b l d n).1, (ackV a b l d n).2.1, (ackV a b l d n).2.2.1, (ackV a b l d n).2.2.2, 0) := by
    intro h
    unfold ackV
    rw [if_pos h]
    exact Ev.step (fun k => by simp only [send_Ack.j0]; rw [if_pos trivial]) (Ev.now _)
  unfold send_Ack.f
  refine Ev.bind (check_ev a b l d (by omega)) ?_
  rw [if_pos (show MayS a b l d from ⟨ha, hl, hb, hd, hx⟩)]
  refine Ev.pos rfl ?_
  refine Ev.bind (own_ev l (by omega) hx') ?_
  refine Ev.cases (fun h1 => stay (.inl h1)) (fun h1 => ?_)
  have hw : wrap64 (n - a) = n - a := wrap_id (by omega) (by omega)
  by_cases h2 : n - a > b
  · rw [hw, decide_eq_true h2]
    have := stay (.inr (by omega))
    rw [hw] at this
    exact this
  · rw [hw, decide_eq_false h2]
    have hw2 : wrap64 (b - (n - a)) = b - (n - a) := wrap_id (by omega) (by omega)
    unfold ackV
    rw [if_neg (show ¬ (n ≤ a ∨ n > a + b) by omega)]
    have g0 : 0 ≤ n - a := by omega
    have g1 : n - a ≤ (l.length : Int) := by omega
    by_cases h3 : b - (n - a) = 0
    · refine Ev.step (fun k => ?_) (Ev.now _)
      simp only [send_Ack.j0]
      rw [if_neg (fun h => Bool.noConfusion h), if_pos g0, if_pos g1, hw2]
      simp only [Option.bind_some]
      rw [if_pos h3, if_pos h3]
    · refine Ev.step (fun k => ?_) (Ev.now _)
      simp only [send_Ack.j0]
      rw [if_neg (fun h => Bool.noConfusion h), if_pos g0, if_pos g1, hw2]
      simp only [Option.bind_some]
      rw [if_neg h3, if_neg h3]
def pushV (a b : Int) (l : List (List Int)) (d : Int) (x : List Int) (n : Int) : Int × Int × List (List Int) × Int × Int :=
  if ¬ (MayS a b l d ∧ 1 ≤ n ∧ n ≤ 2147483647) then (0, 0, [], 0, 1) else if x.length > 16384 then (0, 0, [], 0, 3) else if l.length = 256 then (0, 0, [], 0, 2) else if a + (l.length : Int) ≥ n then (0, 0, [], 0, 10) else (a, b, l ++ [x], d, 0)
theorem push_ev (a b : Int) (l : List (List Int)) (d : Int) (x : List Int) (n : Int) (hl : l.length < 5864062014805) (hx : x.length < 140737488355328) : Ev (fun k => send_Push.f k a b l d x n) (pushV a b l d x n) := by
  have no : ¬ (MayS a b l d ∧ 1 ≤ n ∧ n ≤ 2147483647) → Ev (fun k => send_Push.j0 k x n true a b l d) (pushV a b l d x n) := by
    intro h
    unfold pushV
    rw [if_pos h]
    exact Ev.step (fun k => by simp only [send_Push.j0]; rw [if_pos trivial]) (Ev.now _)
  unfold send_Push.f
  refine Ev.bind (check_ev a b l d (by omega)) ?_
  by_cases hm : MayS a b l d
  · rw [if_pos hm]
    refine Ev.pos rfl ?_
    refine Ev.cases (fun h1 => no (by omega)) (fun h1 => ?_)
    by_cases h2 : n > 2147483647
    · rw [decide_eq_true h2]; exact no (by omega)
    · rw [decide_eq_false h2]
      have hw : wrap64 (a + (l.length : Int)) = a + (l.length : Int) := wrap_id (by have := hm.1; omega) (by have := hm.1; have := hm.2.1; omega)
      have hx' : ∀ y ∈ l, y.length < 140737488355328 := fun y h => by
        have : ¬ y.length > 16384 := fun h2 => hm.2.2.2.2 ⟨y, h, h2⟩
        omega
      unfold pushV
      rw [if_neg (fun h => h ⟨hm, by omega, by omega⟩)]
      refine Ev.step (f := fun k => _) (fun k => by simp only [send_Push.j0]; rw [if_neg (fun h => Bool.noConfusion h)]) ?_
      refine Ev.cases (fun h3 => ?_) (fun h3 => ?_)
      · rw [if_pos (by omega)]; exact Ev.now _
      rw [if_neg (by omega)]
      refine Ev.cases (fun h4 => ?_) (fun h4 => ?_)
      · rw [if_pos (by omega)]; exact Ev.now _
      rw [if_neg (by omega), hw]
      refine Ev.cases (fun h5 => ?_) (fun h5 => ?_)
      · rw [if_pos h5]; exact Ev.now _
      rw [if_neg h5]
      refine Ev.bind (own_ev l (by omega) hx') ?_
      refine Ev.plain (clone_v x hx) ?_
      exact Ev.pos hl (Ev.now _)
  · rw [if_neg hm]
    exact Ev.neg (by decide) (no (fun h => hm h.1))
theorem ackV_may {a b : Int} {l : List (List Int)} {d n : Int} (hm : MayS a b l d) (hn : n ≤ 2147483647) : MayS (ackV a b l d n).1 (ackV a b l d n).2.1 (ackV a b l d n).2.2.1 (ackV a b l d n).2.2.2 ∧ a ≤ (ackV a b l d n).1 ∧ ((ackV a b l d n).1 = a ∨ (ackV a b l d n).1 = n) ∧ ((ackV a b l d n).2.2.1.length : Int) = (l.length : Int) - ((ackV a b l d n).1 - a) := by
  unfold ackV
  by_cases h : n ≤ a ∨ n > a + b
  · rw [if_pos h]; exact ⟨hm, Int.le_refl _, .inl rfl, by simp only; omega⟩
  · rw [if_neg h]
    obtain ⟨ha, hl, hb, hd, hx⟩ := hm
    have hdl : ((l.drop (n - a).toNat).length : Int) = (l.length : Int) - (n - a) := by rw [List.length_drop]; omega
    refine ⟨⟨by simp only; omega, by simp only; omega, ⟨by simp only; omega, by simp only; omega, by simp only; omega⟩, ?_, ?_⟩, by simp only; omega, .inr rfl, hdl⟩
    · simp only
      by_cases h0 : b - (n - a) = 0
      · rw [if_pos h0]; omega
      · rw [if_neg h0]; omega
    · rintro ⟨x, h1, h2⟩
      exact hx ⟨x, List.mem_of_mem_drop h1, h2⟩
/-- What is sent is numbered one by one, within the window. -/
def SentOk (a : Int) (s : List S44) : Prop := ∃ c : Int, a ≤ c ∧ c + (s.length : Int) ≤ a + 16 ∧ ∀ (i : Nat) (h : i < s.length), s[i].f0 = c + (i : Int)
theorem good_sent {a c : Int} (xs : List (List Int)) (h1 : a ≤ c) (h2 : c + (xs.length : Int) ≤ a + 16) : SentOk a (sentV c xs) := ⟨c, h1, by rw [sentV_length]; exact h2, fun i h => sentV_f0 xs c i h⟩
theorem good_nil (a : Int) : SentOk a [] := ⟨a, Int.le_refl _, by simp only [List.length_nil]; omega, fun i h => by simp at h⟩
theorem ready_good {a b : Int} {l : List (List Int)} {d : Int} (hm : MayS a b l d) : SentOk a (readyV a b l d).2.2.2.2 ∧ ((readyV a b l d).2.2.2.2.length : Int) ≤ 16 := by
  obtain ⟨bn, hbn⟩ := Int.eq_ofNat_of_zero_le hm.2.2.1.1
  subst hbn
  have hb := hm.2.2.1
  have hlen := readyS_length a bn l
  have e : (readyV a (bn : Int) l d).2.2.2.2 = readyS a (bn : Int) l := by unfold readyV; split <;> rfl
  rw [e]
  refine ⟨?_, by omega⟩
  unfold readyS at hlen ⊢
  rw [sentV_length] at hlen
  exact good_sent _ (by omega) (by omega)
theorem tick_good {a b : Int} {l : List (List Int)} {d : Int} (hm : MayS a b l d) : SentOk a (tickV a b l d).2.2.2.2 ∧ ((tickV a b l d).2.2.2.2.length : Int) ≤ 16 := by
  have hb := hm.2.2.1
  unfold tickV
  by_cases h : b = 0
  · rw [if_pos h]; exact ⟨good_nil a, by simp⟩
  · rw [if_neg h]
    by_cases h2 : d - 1 > 0
    · rw [if_pos h2]; exact ⟨good_nil a, by simp⟩
    · rw [if_neg h2]
      have : ((l.take b.toNat).length : Int) ≤ 16 := by rw [List.length_take]; omega
      exact ⟨good_sent _ (Int.le_refl _) (by omega), by simp only [sentV_length]; exact this⟩
end Go.Proofs.Ytlbcffdjdbjgcaa.PSendNumbers
