/- For any lists, one behind the other behind any bytes: they are taken as they were put. What is left of that statement when the program's machine is taken away. -/
import Derived.Test.YtfbdidijdibhmaaOctListOctetLists
import Derived.Test.YtfbdidijdibhmaaOctPutListOctetLists
set_option linter.unusedVariables false
namespace Go.Proofs.Ytfbdidijdibhmaa.Pure
open Go.RowKit Go.Proofs.Ytfbdidijdibhmaa.POctetLists Go.Proofs.YtfbdidijdibhmaaW.PrintWords Go.Proofs.YtfbdidijdibhmaaW.PrintLast Go.Proofs.Ytfbdidijdibhmaa.EvLib Go.Proofs.Ytfbdidijdibhmaa.OctPlain

theorem rd_at (l : List (List Int)) (i : Nat) (h : i < l.length) : rd_L1 l (i : Int) = l[i] := by unfold rd_L1; simp [h]
/-- Lists, one behind the other. -/
def packed : List (List Int) → List Int
  | [] => []
  | x :: l => num (x.length : Int) 2 ++ x ++ packed l
def total : List (List Int) → Nat
  | [] => 0
  | x :: l => x.length + total l
theorem packed_snoc (l : List (List Int)) (x : List Int) : packed (l ++ [x]) = packed l ++ (num (x.length : Int) 2 ++ x) := by
  induction l with
  | nil => simp [packed]
  | cons y l ih => simp [packed, ih]
theorem packed_len (l : List (List Int)) : (packed l).length = 2 * l.length + total l := by
  induction l with
  | nil => rfl
  | cons y l ih =>
    have := num_length (n := (y.length : Int)) (w := 2) (by decide) (by decide)
    simp only [packed, total, List.length_append, List.length_cons, ih]
    omega
theorem total_take (l : List (List Int)) (i : Nat) : total (l.take i) ≤ total l := by
  induction l generalizing i with
  | nil => simp [total]
  | cons y l ih =>
    cases i with
    | zero => simp [total]
    | succ i => have := ih i; simp only [List.take_succ_cons, total]; omega
theorem len_total (l : List (List Int)) (x : List Int) (h : x ∈ l) : x.length ≤ total l := by
  induction l with
  | nil => cases h
  | cons y l ih =>
    rcases List.mem_cons.1 h with rfl | h
    · simp only [total]; omega
    · have := ih h; simp only [total]; omega
theorem list_packed (x : List Int) (r : List Int) (hx : x.length ≤ 65535) : listV (num (x.length : Int) 2 ++ x ++ r) 0 = (x, r, 0) := by
  have hn := num_length (n := (x.length : Int)) (w := 2) (by decide) (by decide)
  have hn2 : (num (x.length : Int) 2).length = 2 := by omega
  have ht : (num (x.length : Int) 2 ++ x ++ r).take 2 = num (x.length : Int) 2 := by
    rw [List.append_assoc, ← hn2, List.take_left]
  have hd : (num (x.length : Int) 2 ++ x ++ r).drop 2 = x ++ r := by
    rw [List.append_assoc, ← hn2, List.drop_left]
  have hv : val (num (x.length : Int) 2) = (x.length : Int) := val_num (by decide) (by decide) (by omega) (by simp [topV]; omega)
  unfold listV
  rw [if_neg (by simp), if_neg (by simp only [List.length_append]; omega), ht, hd, hv]
  rw [if_neg (by simp only [List.length_append]; omega)]
  simp
theorem packed_bytes (l : List (List Int)) (h : ∀ x ∈ l, Bytes x) : Bytes (packed l) := by
  induction l with
  | nil => intro x hx; cases hx
  | cons y l ih => exact ((num_bytes _ _).append (h y List.mem_cons_self)).append (ih (fun x hx => h x (List.mem_cons_of_mem _ hx)))

theorem OctetLists : withylaw02_OctetLists.Pure := by
  intro l a hl hlw ha _
  have hB : ∀ x ∈ l, Bytes x := fun x hx => bytes_wf (hlw x hx).2
  have hL : ∀ x ∈ l, x.length ≤ 140737488351232 := fun x hx => by have := (hlw x hx).1; omega
  have yes2 : Ev (fun k => withylaw02_OctetLists.j2 k l a true) true := Ev.step (fun k => by simp only [withylaw02_OctetLists.j2]; rw [if_pos trivial]) fin_ev
  -- the last loop
  have take : l.length ≤ 100 → total l ≤ 3000 → ∀ (d i : Nat), i + d = l.length → Ev (fun k => withylaw02_OctetLists.l2 k l (i : Int) (packed (l.drop i)) 0) true := by
    intro h100 htot d
    induction d with
    | zero =>
      intro i hi
      refine Ev.step (f := fun k => _) (fun k => by simp only [withylaw02_OctetLists.l2]; rw [if_neg (show ¬ (i : Int) < (l.length : Int) by omega)]) ?_
      rw [List.drop_of_length_le (by omega)]
      refine Ev.plain (end_v _ _) ?_
      exact Ev.pos (by first | rfl | trivial) fin_ev
    | succ d ih =>
      intro i hi
      have hlt : i < l.length := by omega
      have hw : wrap64 ((i : Int) + 1) = ((i + 1 : Nat) : Int) := wrap_nat (by omega)
      have hx := len_total l l[i] (List.getElem_mem hlt)
      have hd : l.drop i = l[i] :: l.drop (i + 1) := List.drop_eq_getElem_cons hlt
      have hpl : (packed (l.drop i)).length < 140737488355328 := by
        have h1 := packed_len (l.drop i)
        have h2 : total (l.drop i) ≤ total l := by
          have : ∀ (m : List (List Int)) (i : Nat), total (m.drop i) ≤ total m := by
            intro m
            induction m with
            | nil => intro i; simp [total]
            | cons y m ih =>
              intro i
              cases i with
              | zero => simp
              | succ i => have := ih i; simp only [List.drop_succ_cons, total]; omega
          exact this l i
        rw [List.length_drop] at h1
        omega
      refine Ev.step (f := fun k => _) (fun k => by simp only [withylaw02_OctetLists.l2]; rw [if_pos (show (i : Int) < (l.length : Int) by omega), hw]) ?_
      refine Ev.bind (list_ev _ _ (packed_bytes _ (fun x hx => hB x (List.mem_of_mem_drop hx))) hpl) ?_
      have e : listV (packed (l.drop i)) 0 = (l[i], packed (l.drop (i + 1)), 0) := by
        rw [hd]
        exact list_packed l[i] _ (by omega)
      rw [e]
      refine Ev.pos (by omega) (Ev.pos ?_ (ih (i + 1) (by omega)))
      rw [rd_at l i hlt]
  -- the loop that puts
  have put : a.length ≤ 3000 → l.length ≤ 100 → total l ≤ 3000 → ∀ (d i : Nat), i + d = l.length → Ev (fun k => withylaw02_OctetLists.l1 k l a (a ++ packed (l.take i)) (i : Int)) true := by
    intro ha3 h100 htot d
    induction d with
    | zero =>
      intro i hi
      have hi' : l.take i = l := List.take_of_length_le (by omega)
      refine Ev.step (f := fun k => _) (fun k => by simp only [withylaw02_OctetLists.l1]; rw [if_neg (show ¬ (i : Int) < (l.length : Int) by omega)]) ?_
      rw [hi']
      refine Ev.neg (by rw [List.length_append]; omega) (Ev.pos (by omega) (Ev.pos (by rw [List.length_append]; omega) ?_))
      have e : (a ++ packed l).drop ((a.length : Int)).toNat = packed l := by rw [Int.toNat_natCast, List.drop_left]
      rw [e]
      refine Ev.plain (new_v _ (by have := packed_len l; omega)) ?_
      exact take h100 htot l.length 0 (by omega)
    | succ d ih =>
      intro i hi
      have hlt : i < l.length := by omega
      have hw : wrap64 ((i : Int) + 1) = ((i + 1 : Nat) : Int) := wrap_nat (by omega)
      have hx := len_total l l[i] (List.getElem_mem hlt)
      have hp := packed_len (l.take i)
      have ht := total_take l i
      rw [List.length_take] at hp
      refine Ev.step (f := fun k => _) (fun k => by simp only [withylaw02_OctetLists.l1]; rw [if_pos (show (i : Int) < (l.length : Int) by omega), if_pos (show 0 ≤ (i : Int) by omega), rd_at l i hlt, hw]) ?_
      refine Ev.bind (putlist_ev _ _ (by rw [List.length_append]; omega) (by rw [List.length_append]; omega)) ?_
      rw [if_neg (by omega)]
      refine Ev.pos (by first | rfl | trivial) ?_
      have e : a ++ packed (l.take i) ++ num (l[i].length : Int) 2 ++ l[i] = a ++ packed (l.take (i + 1)) := by
        rw [List.take_succ_eq_append_getElem hlt, packed_snoc]
        simp
      rw [e]
      exact ih (i + 1) (by omega)
  have mid : (l.length ≤ 100 → total l + a.length ≤ 3000) → Ev (fun k => if (l.length : Int) > 100 then withylaw02_OctetLists.j2 k l a true else withylaw02_OctetLists.j2 k l a (decide ((a.length : Int) > 3000))) true := by
    intro hm
    refine Ev.cases (fun _ => yes2) (fun h100 => ?_)
    by_cases h3 : (a.length : Int) > 3000
    · rw [decide_eq_true h3]; exact yes2
    rw [decide_eq_false h3]
    refine Ev.step (f := fun k => _) (fun k => by simp only [withylaw02_OctetLists.j2]; rw [if_neg (fun h => Bool.noConfusion h)]) ?_
    simp only [Option.bind_some, List.nil_append, List.length_nil, Nat.zero_add]
    refine Ev.pos (by omega) ?_
    have := put (by omega) (by omega) (by have := hm (by omega); omega) l.length 0 (by omega)
    simpa [packed] using this
  -- the loop that counts
  have count : ∀ (d i : Nat), i + d = l.length → total (l.take i) + a.length ≤ 140737488351232 + 3000 → (0 < i → total (l.take i) + a.length ≤ 3000) → Ev (fun k => withylaw02_OctetLists.l0 k l a ((total (l.take i) + a.length : Nat) : Int) (i : Int)) true := by
    intro d
    induction d with
    | zero =>
      intro i hi hn hn3
      refine Ev.step (f := fun k => _) (fun k => by simp only [withylaw02_OctetLists.l0]; rw [if_neg (show ¬ (i : Int) < (l.length : Int) by omega)]) ?_
      refine Ev.step (f := fun k => _) (fun k => by simp only [withylaw02_OctetLists.j1]; rw [if_neg (fun h => Bool.noConfusion h)]) ?_
      by_cases hi0 : 0 < i
      · exact mid (fun _ => by have := hn3 hi0; rw [List.take_of_length_le (by omega)] at this; exact this)
      · have hl0 : l = [] := List.eq_nil_of_length_eq_zero (by omega)
        by_cases h3 : (a.length : Int) > 3000
        · refine Ev.neg (by omega) ?_
          rw [decide_eq_true h3]; exact yes2
        · exact mid (fun _ => by subst hl0; simp [total]; omega)
    | succ d ih =>
      intro i hi hn hn3
      have hlt : i < l.length := by omega
      have hx := hL l[i] (List.getElem_mem hlt)
      refine Ev.step (f := fun k => _) (fun k => by simp only [withylaw02_OctetLists.l0]; rw [if_pos (show (i : Int) < (l.length : Int) by omega)]) ?_
      by_cases h100 : (i : Int) < 100
      · rw [decide_eq_true h100]
        have hw : wrap64 ((i : Int) + 1) = ((i + 1 : Nat) : Int) := wrap_nat (by omega)
        have w1 : wrap64 (3000 - ((total (l.take i) + a.length : Nat) : Int)) = 3000 - ((total (l.take i) + a.length : Nat) : Int) := wrap_id (by omega) (by omega)
        have w2 : wrap64 (((total (l.take i) + a.length : Nat) : Int) + (l[i].length : Int)) = ((total (l.take i) + a.length : Nat) : Int) + (l[i].length : Int) := wrap_id (by omega) (by omega)
        refine Ev.step (f := fun k => _) (fun k => by simp only [withylaw02_OctetLists.j1]; rw [if_pos trivial, if_pos (show 0 ≤ (i : Int) by omega), if_pos (show (i : Int) < (l.length : Int) by omega), rd_at l i hlt, hw, w1, w2]) ?_
        refine Ev.cases (fun _ => fin_ev) (fun h3 => ?_)
        have e : total (l.take (i + 1)) = total (l.take i) + l[i].length := by
          rw [List.take_succ_eq_append_getElem hlt]
          have : ∀ (m : List (List Int)) (x : List Int), total (m ++ [x]) = total m + x.length := by
            intro m x
            induction m with
            | nil => simp [total]
            | cons y m ih => simp only [List.cons_append, total, ih]; omega
          exact this _ _
        have e2 : ((total (l.take i) + a.length : Nat) : Int) + (l[i].length : Int) = ((total (l.take (i + 1)) + a.length : Nat) : Int) := by rw [e]; omega
        rw [e2]
        exact ih (i + 1) (by omega) (by rw [e]; omega) (fun _ => by rw [e]; omega)
      · rw [decide_eq_false h100]
        refine Ev.step (f := fun k => _) (fun k => by simp only [withylaw02_OctetLists.j1]; rw [if_neg (fun h => Bool.noConfusion h)]) ?_
        exact mid (fun h => by omega)
  refine Ev.rounds (g := fun k => withylaw02_OctetLists.f k l a) ?_
  unfold withylaw02_OctetLists.f
  have := count l.length 0 (by omega) (by simp [total]; omega) (fun h => by omega)
  simpa [total] using this
end Go.Proofs.Ytfbdidijdibhmaa.Pure
