/- What Ready and Tick of a sender answer, and the reference's. -/
import Derived.Test.YtlbcffdjdbjgcaaSendSendReady
set_option linter.unusedSimpArgs false
set_option linter.unusedVariables false
namespace Go.Proofs.Ytlbcffdjdbjgcaa.PSendReady
open Go.RowKit Go.Proofs.YtlbcffdjdbjgcaaW.PrintWords Go.Proofs.YtlbcffdjdbjgcaaW.PrintLast Go.Proofs.Ytlbcffdjdbjgcaa.EvLib

/-- Payloads, numbered from a number on. -/
def sentV (c : Int) : List (List Int) → List S44
  | [] => []
  | x :: xs => ⟨c, x⟩ :: sentV (c + 1) xs
theorem sentV_length : ∀ (xs : List (List Int)) (c : Int), (sentV c xs).length = xs.length
  | [], _ => rfl
  | _ :: xs, c => by simp [sentV, sentV_length xs]
theorem sentV_f0 : ∀ (xs : List (List Int)) (c : Int) (i : Nat) (h : i < (sentV c xs).length), ((sentV c xs)[i]).f0 = c + (i : Int)
  | [], _, i, h => by simp [sentV] at h
  | x :: xs, c, 0, h => by simp [sentV]
  | x :: xs, c, i + 1, h => by
    have h' : i < (sentV (c + 1) xs).length := by simpa [sentV] using h
    have := sentV_f0 xs (c + 1) i h'
    simp only [sentV, List.getElem_cons_succ, this]
    omega
theorem rd44_at (l : List S44) (i : Nat) (h : i < l.length) : rd_T44 l (i : Int) = l[i] := by unfold rd_T44; simp [h]
theorem sent_cons (a : Int) (l : List (List Int)) (i m : Nat) (h : i < l.length) (acc : List S44) : (acc ++ [(⟨a + (i : Int), l[i]⟩ : S44)]) ++ sentV (a + ((i + 1 : Nat) : Int)) ((l.drop (i + 1)).take m) = acc ++ sentV (a + (i : Int)) ((l.drop i).take (m + 1)) := by
  have e1 : (l.drop i).take (m + 1) = l[i] :: (l.drop (i + 1)).take m := by rw [List.drop_eq_getElem_cons h, List.take_succ_cons]
  have e2 : a + (i : Int) + 1 = a + ((i + 1 : Nat) : Int) := by omega
  rw [e1, sentV, e2, List.append_assoc]; rfl
theorem numbered_loop (a b0 : Int) (l : List (List Int)) (d0 : Int) (t : Nat) (ht : t ≤ l.length) (ha : 0 ≤ a ∧ a ≤ 2147483647) (hl : l.length ≤ 256) (hx : ∀ x ∈ l, x.length < 140737488355328) : ∀ (m i : Nat) (acc : List S44), i + m = t → acc.length ≤ i → Ev (fun k => send_numbered.l0 k (t : Int) acc (i : Int) a b0 l d0) (acc ++ sentV (a + (i : Int)) ((l.drop i).take m)) := by
  intro m
  induction m with
  | zero =>
    intro i acc hi hacc
    have s1 : ¬ ((i : Int) < (t : Int)) := by omega
    rw [List.take_zero, sentV, List.append_nil]
    exact Ev.step (fun k => by simp only [send_numbered.l0]; rw [if_neg s1]) (Ev.now _)
  | succ m ih =>
    intro i acc hi hacc
    have hlt : i < l.length := by omega
    have s1 : (i : Int) < (t : Int) := by omega
    have s0 : 0 ≤ (i : Int) := by omega
    have s2 : (i : Int) < (l.length : Int) := by omega
    have hw : wrap64 ((i : Int) + 1) = ((i + 1 : Nat) : Int) := wrap_nat (by omega)
    have hw2 : wrap64 (a + (i : Int)) = a + (i : Int) := wrap_id (by omega) (by omega)
    have hc : slices_Clone_byte_byte.f (rd_L1 l (i : Int)) = some l[i] := by rw [rd_at l i hlt]; exact clone_v _ (hx _ (List.getElem_mem hlt))
    refine Ev.step (f := fun k => _) (fun k => by simp only [send_numbered.l0]; rw [if_pos s1, if_pos s0, if_pos s2]) ?_
    refine Ev.plain hc ?_
    refine Ev.pos (by omega) ?_
    rw [hw, hw2, ← sent_cons a l i m hlt acc]
    exact ih (i + 1) _ (by omega) (by rw [List.length_append]; simp; omega)
theorem numbered_ev (a b0 : Int) (l : List (List Int)) (d0 : Int) (b t : Nat) (hbt : b ≤ t) (ht : t ≤ l.length) (ha : 0 ≤ a ∧ a ≤ 2147483647) (hl : l.length ≤ 256) (hx : ∀ x ∈ l, x.length < 140737488355328) : Ev (fun k => send_numbered.f k a b0 l d0 (b : Int) (t : Int)) (sentV (a + (b : Int)) ((l.drop b).take (t - b))) := by
  unfold send_numbered.f
  have := numbered_loop a b0 l d0 t ht ha hl hx (t - b) b [] (by omega) (by simp)
  simpa using this
theorem short {a b : Int} {l : List (List Int)} {d : Int} (hm : MayS a b l d) : ∀ x ∈ l, x.length < 140737488355328 := fun x h => by
  have : ¬ x.length > 16384 := fun h2 => hm.2.2.2.2 ⟨x, h, h2⟩
  omega
theorem mn16 (l : List (List Int)) : mn 16 (l.length : Int) = ((min 16 l.length : Nat) : Int) := by
  show (if (l.length : Int) < 16 then (l.length : Int) else 16) = _
  split <;> omega
/-- What Ready sends. -/
def readyS (a b : Int) (l : List (List Int)) : List S44 := sentV (a + b) ((l.drop b.toNat).take (min 16 l.length - b.toNat))
/-- A sender behind Ready, and what it sends. -/
def readyV (a b : Int) (l : List (List Int)) (d : Int) : Int × Int × List (List Int) × Int × List S44 :=
  if ((readyS a b l).length : Int) > 0 then (a, ((min 16 l.length : Nat) : Int), l, 4, readyS a b l) else (a, b, l, d, readyS a b l)
theorem readyS_length (a : Int) (b : Nat) (l : List (List Int)) : (readyS a (b : Int) l).length = min 16 l.length - b := by
  unfold readyS
  rw [sentV_length, List.length_take, List.length_drop, Int.toNat_natCast]
  omega
theorem ready_ev (a b : Int) (l : List (List Int)) (d : Int) (hm : MayS a b l d) : Ev (fun k => send_Ready.f k a b l d) ((readyV a b l d).1, (readyV a b l d).2.1, (readyV a b l d).2.2.1, (readyV a b l d).2.2.2.1, (readyV a b l d).2.2.2.2, 0) := by
  have hx := short hm
  obtain ⟨bn, hbn⟩ := Int.eq_ofNat_of_zero_le hm.2.2.1.1
  subst hbn
  have hb := hm.2.2.1
  unfold send_Ready.f
  refine Ev.bind (check_ev a _ l d (by have := hm.2.1; omega)) ?_
  rw [if_pos hm]
  refine Ev.pos rfl ?_
  rw [mn16]
  refine Ev.bind (numbered_ev a _ l d bn (min 16 l.length) (by omega) (by omega) hm.1 hm.2.1 hx) ?_
  refine Ev.bind (own_ev l (by have := hm.2.1; omega) hx) ?_
  have e : sentV (a + (bn : Int)) ((l.drop bn).take (min 16 l.length - bn)) = readyS a (bn : Int) l := by unfold readyS; rw [Int.toNat_natCast]
  rw [e]
  unfold readyV
  refine Ev.cases (fun h => ?_) (fun h => ?_)
  · rw [if_pos h]; exact Ev.now _
  · rw [if_neg h]; exact Ev.now _
/-- A sender behind Tick, and what it sends. -/
def tickV (a b : Int) (l : List (List Int)) (d : Int) : Int × Int × List (List Int) × Int × List S44 :=
  if b = 0 then (a, b, l, d, []) else if d - 1 > 0 then (a, b, l, d - 1, []) else (a, b, l, 4, sentV a (l.take b.toNat))
theorem tick_ev (a b : Int) (l : List (List Int)) (d : Int) (hm : MayS a b l d) : Ev (fun k => send_Tick.f k a b l d) ((tickV a b l d).1, (tickV a b l d).2.1, (tickV a b l d).2.2.1, (tickV a b l d).2.2.2.1, (tickV a b l d).2.2.2.2, 0) := by
  have hx := short hm
  obtain ⟨bn, hbn⟩ := Int.eq_ofNat_of_zero_le hm.2.2.1.1
  subst hbn
  have hb := hm.2.2.1
  have hd := hm.2.2.2.1
  have hw : wrap64 (d - 1) = d - 1 := wrap_id (by omega) (by omega)
  unfold send_Tick.f
  refine Ev.bind (check_ev a _ l d (by have := hm.2.1; omega)) ?_
  rw [if_pos hm]
  refine Ev.pos rfl ?_
  refine Ev.bind (own_ev l (by have := hm.2.1; omega) hx) ?_
  unfold tickV
  refine Ev.cases (fun h => ?_) (fun h => ?_)
  · rw [if_pos h]; exact Ev.now _
  rw [if_neg h, hw]
  refine Ev.cases (fun h2 => ?_) (fun h2 => ?_)
  · rw [if_pos h2]; exact Ev.now _
  rw [if_neg h2]
  have e : sentV (a + ((0 : Nat) : Int)) ((l.drop 0).take (bn - 0)) = sentV a (l.take bn) := by simp
  have := numbered_ev a (bn : Int) l 4 0 bn (by omega) (by omega) hm.1 hm.2.1 hx
  rw [e] at this
  rw [Int.toNat_natCast]
  exact Ev.bind this (Ev.now _)
theorem readyV_may {a b : Int} {l : List (List Int)} {d : Int} (hm : MayS a b l d) : MayS (readyV a b l d).1 (readyV a b l d).2.1 (readyV a b l d).2.2.1 (readyV a b l d).2.2.2.1 ∧ (readyV a b l d).1 = a ∧ (readyV a b l d).2.2.1 = l := by
  obtain ⟨bn, hbn⟩ := Int.eq_ofNat_of_zero_le hm.2.2.1.1
  subst hbn
  have hlen := readyS_length a bn l
  have hb := hm.2.2.1
  unfold readyV
  by_cases h : ((readyS a (bn : Int) l).length : Int) > 0
  · rw [if_pos h]
    refine ⟨⟨hm.1, hm.2.1, ⟨by simp only; omega, by simp only; omega, by simp only; omega⟩, ⟨show (0 : Int) ≤ 4 by decide, show (4 : Int) ≤ 4 by decide, ?_⟩, hm.2.2.2.2⟩, rfl, rfl⟩
    simp only
    constructor
    · intro h4; omega
    · intro h4; omega
  · rw [if_neg h]; exact ⟨hm, rfl, rfl⟩
theorem tickV_may {a b : Int} {l : List (List Int)} {d : Int} (hm : MayS a b l d) : MayS (tickV a b l d).1 (tickV a b l d).2.1 (tickV a b l d).2.2.1 (tickV a b l d).2.2.2.1 ∧ (tickV a b l d).1 = a ∧ (tickV a b l d).2.2.1 = l := by
  have hd := hm.2.2.2.1
  unfold tickV
  by_cases h : b = 0
  · rw [if_pos h]; exact ⟨hm, rfl, rfl⟩
  · rw [if_neg h]
    by_cases h2 : d - 1 > 0
    · rw [if_pos h2]
      refine ⟨⟨hm.1, hm.2.1, hm.2.2.1, ⟨by simp only; omega, by simp only; omega, ?_⟩, hm.2.2.2.2⟩, rfl, rfl⟩
      simp only; omega
    · rw [if_neg h2]
      refine ⟨⟨hm.1, hm.2.1, hm.2.2.1, ⟨show (0 : Int) ≤ 4 by decide, show (4 : Int) ≤ 4 by decide, ?_⟩, hm.2.2.2.2⟩, rfl, rfl⟩
      simp only; omega
theorem rlist_ev (a b0 : Int) (l : List (List Int)) (d0 : Int) (t : Nat) (ht : t ≤ l.length) (ha : 0 ≤ a ∧ a ≤ 2147483647) (hl : l.length ≤ 256) : ∀ (m i : Nat) (acc : List S44), i + m = t → acc.length ≤ i → Ev (fun k => withyref14_list.l0 k (t : Int) acc (i : Int) a b0 l d0) (acc ++ sentV (a + (i : Int)) ((l.drop i).take m)) := by
  intro m
  induction m with
  | zero =>
    intro i acc hi hacc
    have s1 : ¬ ((i : Int) < (t : Int)) := by omega
    rw [List.take_zero, sentV, List.append_nil]
    exact Ev.step (fun k => by simp only [withyref14_list.l0]; rw [if_neg s1]) (Ev.now _)
  | succ m ih =>
    intro i acc hi hacc
    have hlt : i < l.length := by omega
    have s1 : (i : Int) < (t : Int) := by omega
    have s0 : 0 ≤ (i : Int) := by omega
    have s2 : (i : Int) < (l.length : Int) := by omega
    have s3 : acc.length < 4398046511104 := by omega
    have hw : wrap64 ((i : Int) + 1) = ((i + 1 : Nat) : Int) := wrap_nat (by omega)
    have hw2 : wrap64 (a + (i : Int)) = a + (i : Int) := wrap_id (by omega) (by omega)
    refine Ev.step (f := fun k => _) (fun k => by simp only [withyref14_list.l0]; rw [if_pos s1, if_pos s0, if_pos s2, if_pos s3, hw, hw2, rd_at l i hlt]) ?_
    rw [← sent_cons a l i m hlt acc]
    exact ih (i + 1) _ (by omega) (by rw [List.length_append]; simp; omega)
theorem rready_loop (a : Int) (l : List (List Int)) (ha : 0 ≤ a ∧ a ≤ 2147483647) (hl : l.length ≤ 256) : ∀ (m i : Nat) (acc : List S44) (d : Int), i + m = min 16 l.length → acc.length ≤ i → Ev (fun k => withyref14_Ready.l0 k acc a (i : Int) l d) (a, ((min 16 l.length : Nat) : Int), l, (if m = 0 then d else 4), acc ++ sentV (a + (i : Int)) ((l.drop i).take m)) := by
  intro m
  induction m with
  | zero =>
    intro i acc d hi hacc
    have e : ((min 16 l.length : Nat) : Int) = (i : Int) := by omega
    rw [List.take_zero, sentV, List.append_nil, if_pos rfl, e]
    by_cases h : (i : Int) < 16
    · have s2 : ¬ ((i : Int) < (l.length : Int)) := by omega
      exact Ev.step (fun k => by simp only [withyref14_Ready.l0]; rw [if_pos h, if_neg s2]) (Ev.now _)
    · exact Ev.step (fun k => by simp only [withyref14_Ready.l0]; rw [if_neg h]) (Ev.now _)
  | succ m ih =>
    intro i acc d hi hacc
    have hlt : i < l.length := by omega
    have s1 : (i : Int) < 16 := by omega
    have s0 : 0 ≤ (i : Int) := by omega
    have s2 : (i : Int) < (l.length : Int) := by omega
    have s3 : acc.length < 4398046511104 := by omega
    have hw : wrap64 ((i : Int) + 1) = ((i + 1 : Nat) : Int) := wrap_nat (by omega)
    have hw2 : wrap64 (a + (i : Int)) = a + (i : Int) := wrap_id (by omega) (by omega)
    refine Ev.step (f := fun k => _) (fun k => by simp only [withyref14_Ready.l0]; rw [if_pos s1, if_pos s2, if_pos s0, if_pos s3, hw, hw2, rd_at l i hlt]) ?_
    rw [← sent_cons a l i m hlt acc, if_neg (Nat.succ_ne_zero m)]
    have := ih (i + 1) (acc ++ [(⟨a + (i : Int), l[i]⟩ : S44)]) 4 (by omega) (by rw [List.length_append]; simp; omega)
    have e4 : (if m = 0 then (4 : Int) else 4) = 4 := by split <;> rfl
    rw [e4] at this
    exact this
theorem rready_ev (a b : Int) (l : List (List Int)) (d : Int) (hm : MayS a b l d) : Ev (fun k => withyref14_Ready.f k a b l d) (readyV a b l d) := by
  obtain ⟨bn, hbn⟩ := Int.eq_ofNat_of_zero_le hm.2.2.1.1
  subst hbn
  have hb := hm.2.2.1
  have hlen := readyS_length a bn l
  unfold withyref14_Ready.f
  have := rready_loop a l hm.1 hm.2.1 (min 16 l.length - bn) bn [] d (by omega) (by simp)
  have e : sentV (a + (bn : Int)) ((l.drop bn).take (min 16 l.length - bn)) = readyS a (bn : Int) l := by unfold readyS; rw [Int.toNat_natCast]
  rw [List.nil_append, e] at this
  unfold readyV
  by_cases h : ((readyS a (bn : Int) l).length : Int) > 0
  · rw [if_pos h]
    rw [if_neg (by omega)] at this
    exact this
  · rw [if_neg h]
    rw [if_pos (by omega)] at this
    have e2 : ((min 16 l.length : Nat) : Int) = (bn : Int) := by omega
    rw [e2] at this
    exact this
theorem rtick_ev (a b : Int) (l : List (List Int)) (d : Int) (hm : MayS a b l d) : Ev (fun k => withyref14_Tick.f k a b l d) (tickV a b l d) := by
  obtain ⟨bn, hbn⟩ := Int.eq_ofNat_of_zero_le hm.2.2.1.1
  subst hbn
  have hb := hm.2.2.1
  have hd := hm.2.2.2.1
  have hw : wrap64 (d - 1) = d - 1 := wrap_id (by omega) (by omega)
  unfold withyref14_Tick.f tickV
  refine Ev.cases (fun h => ?_) (fun h => ?_)
  · rw [if_pos h]; exact Ev.now _
  rw [if_neg h, hw]
  refine Ev.cases (fun h2 => ?_) (fun h2 => ?_)
  · rw [if_pos h2]; exact Ev.now _
  rw [if_neg h2]
  have e : sentV (a + ((0 : Nat) : Int)) ((l.drop 0).take bn) = sentV a (l.take bn) := by simp
  have := rlist_ev a (bn : Int) l 4 bn (by omega) hm.1 hm.2.1 bn 0 [] (by omega) (by simp)
  rw [List.nil_append, e] at this
  rw [Int.toNat_natCast]
  refine Ev.bind (a := sentV a (l.take bn)) ?_ (Ev.now _)
  unfold withyref14_list.f
  exact this
theorem rnumbered_ev (s : List S44) (hs : s.length < 4398046511104) : Ev (fun k => withyref14_Numbered.f k s s) true := by
  have go : ∀ (n i : Nat), i + n = s.length → Ev (fun k => withyref14_Numbered.l0 k s s (i : Int)) true := by
    intro n
    induction n with
    | zero =>
      intro i hi
      have s1 : ¬ ((i : Int) < (s.length : Int)) := by omega
      exact Ev.step (fun k => by simp only [withyref14_Numbered.l0]; rw [if_neg s1]) (Ev.now _)
    | succ n ih =>
      intro i hi
      have s1 : (i : Int) < (s.length : Int) := by omega
      have s0 : 0 ≤ (i : Int) := by omega
      have hw : wrap64 ((i : Int) + 1) = ((i + 1 : Nat) : Int) := wrap_nat (by omega)
      refine Ev.step (f := fun k => _) (fun k => by simp only [withyref14_Numbered.l0]; rw [if_pos s1, if_pos s0, if_pos s1, if_pos trivial, if_pos trivial, hw]) (ih (i + 1) (by omega))
  unfold withyref14_Numbered.f
  exact Ev.pos rfl (go s.length 0 (by omega))
end Go.Proofs.Ytlbcffdjdbjgcaa.PSendReady
