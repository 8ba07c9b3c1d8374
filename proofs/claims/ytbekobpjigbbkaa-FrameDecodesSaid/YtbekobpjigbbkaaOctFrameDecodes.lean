/- What octet's Put, New, Take and End answer, as plain terms. -/
import Derived.Test.YtbekobpjigbbkaaOctPlain
import Derived.Test.YtbekobpjigbbkaaPFrameDecodesx
set_option linter.unusedSimpArgs false
set_option linter.unusedVariables false
namespace Go.Proofs.Ytbekobpjigbbkaa.PFrameDecodes
open Go.RowKit Go.Proofs.YtbekobpjigbbkaaW.PrintWords Go.Proofs.YtbekobpjigbbkaaW.PrintLast Go.Proofs.Ytbekobpjigbbkaa.EvLib Go.Proofs.Ytbekobpjigbbkaa.OctPlain

theorem limit_v {w : Int} (h1 : 1 ≤ w) (h4 : w ≤ 4) : octet_limit.f w = some (topV w) := by
  rcases width_cases h1 h4 with rfl | rfl | rfl | rfl <;> decide +kernel
theorem put_step {n i : Int} {x : List Int} {r : List Int × Int} (c : Int) (h0 : 0 ≤ i) (h3 : i ≤ 3) (hx : x.length < 140737488355328) (hc : (shr .i64 n (8 * i)) % 256 = c) (h : Ev (fun k => octet_Put.l0 k n (x ++ [c]) (i - 1)) r) :
    Ev (fun k => octet_Put.l0 k n x i) r := by
  have w1 : wrap64 (8 * i) = 8 * i := wrap_id (by omega) (by omega)
  have w2 : wrap64 (i - 1) = i - 1 := wrap_id (by omega) (by omega)
  refine Ev.step (f := fun k => _) (fun k => by simp only [octet_Put.l0]; rw [if_pos (show i ≥ 0 from h0), w1, if_pos (by omega), if_pos hx, w2, hc]) h
theorem put_done (n : Int) (x : List Int) : Ev (fun k => octet_Put.l0 k n x (-1)) (x, 0) :=
  Ev.step (fun k => by simp only [octet_Put.l0]; rw [if_neg (by decide)]) (Ev.now _)
theorem put_ev (l : List Int) (n w : Int) (hl : l.length < 140737488355000) : Ev (fun k => octet_Put.f k l n w) (putV l n w) := by
  have no : w < 1 ∨ w > 4 → Ev (fun k => octet_Put.j0 k l n w true) (putV l n w) := fun h => by
    unfold putV; rw [if_pos h]
    exact Ev.step (fun k => by simp only [octet_Put.j0]; rw [if_pos trivial]) (Ev.now _)
  unfold octet_Put.f
  refine Ev.cases (fun h1 => no (.inl h1)) (fun h1 => ?_)
  by_cases h4 : w > 4
  · rw [decide_eq_true h4]; exact no (.inr h4)
  rw [decide_eq_false h4]
  refine Ev.step (f := fun k => _) (fun k => by simp only [octet_Put.j0]; rw [if_neg (fun h => Bool.noConfusion h)]) ?_
  have hv : putV l n w = if n < 0 ∨ n > topV w then ([], 3) else (l ++ num n w, 0) := if_neg (by omega)
  refine Ev.cases (fun h0 => ?_) (fun h0 => ?_)
  · rw [hv, if_pos (.inl h0)]; exact Ev.now _
  refine Ev.plain (limit_v (by omega) (by omega)) ?_
  refine Ev.cases (fun ht => ?_) (fun ht => ?_)
  · rw [hv, if_pos (.inr ht)]; exact Ev.now _
  rw [hv, if_neg (by omega)]
  simp only [Option.bind_some, List.nil_append, List.length_nil, Nat.zero_add]
  refine Ev.pos (by omega) ?_
  have s : ∀ (i : Nat), i ≤ 3 → shr .i64 n (8 * (i : Int)) % 256 = n / 2 ^ (8 * i) % 256 := fun i hi => by
    unfold shr
    have : min (8 * (i : Int)).toNat IntKind.i64.bits = 8 * i := by simp [IntKind.bits]; omega
    rw [this]
  have s3 : shr .i64 n (8 * 3) % 256 = n / 256 / 256 / 256 % 256 := (s 3 (by omega)).trans (by simp; omega)
  have s2 : shr .i64 n (8 * 2) % 256 = n / 256 / 256 % 256 := (s 2 (by omega)).trans (by simp; omega)
  have s1 : shr .i64 n (8 * 1) % 256 = n / 256 % 256 := (s 1 (by omega)).trans (by simp)
  have s0 : shr .i64 n (8 * 0) % 256 = n % 256 := (s 0 (by omega)).trans (by simp)
  rcases width_cases (w := w) (by omega) (by omega) with rfl | rfl | rfl | rfl
  · rw [show wrap64 (1 - 1) = 0 from by decide +kernel]
    have := put_step (n := n) (i := 0) (x := l) _ (by decide) (by decide) (by omega) s0 (put_done n _)
    simpa [num] using this
  · rw [show wrap64 (2 - 1) = 1 from by decide +kernel]
    have := put_step (n := n) (i := 1) (x := l) _ (by decide) (by decide) (by omega) s1 (put_step (n := n) (i := 0) _ (by decide) (by decide) (by simp; omega) s0 (put_done n _))
    simpa [num] using this
  · rw [show wrap64 (3 - 1) = 2 from by decide +kernel]
    have := put_step (n := n) (i := 2) (x := l) _ (by decide) (by decide) (by omega) s2 (put_step (n := n) (i := 1) _ (by decide) (by decide) (by simp; omega) s1 (put_step (n := n) (i := 0) _ (by decide) (by decide) (by simp; omega) s0 (put_done n _)))
    simpa [num] using this
  · rw [show wrap64 (4 - 1) = 3 from by decide +kernel]
    have := put_step (n := n) (i := 3) (x := l) _ (by decide) (by decide) (by omega) s3 (put_step (n := n) (i := 2) _ (by decide) (by decide) (by simp; omega) s2 (put_step (n := n) (i := 1) _ (by decide) (by decide) (by simp; omega) s1 (put_step (n := n) (i := 0) _ (by decide) (by decide) (by simp; omega) s0 (put_done n _))))
    simpa [num] using this
theorem wrong_v (l : List Int) (e c : Int) : octet_Scan_wrong.f l e c = some (if e = 0 then c else e) := by
  unfold octet_Scan_wrong.f
  split <;> rfl
theorem rd_nat (l : List Int) (i : Nat) (h : i < l.length) : rd l (i : Int) = l[i] := by unfold rd; simp [h]
theorem take_loop (w : Int) (y l : List Int) (hy : y.length ≤ 4) (hb : Bytes y) {r : Int × List Int × Int}
    (h : Ev (fun k => octet_Scan_Take.l0 k w (val y) y (y.length : Int) (y.length : Int) l 0) r) :
    ∀ (m i : Nat), i + m = y.length → Ev (fun k => octet_Scan_Take.l0 k w (val (y.take i)) y (y.length : Int) (i : Int) l 0) r := by
  intro m
  induction m with
  | zero =>
    intro i hi
    obtain rfl : i = y.length := by omega
    rw [List.take_length]
    exact h
  | succ m ih =>
    intro i hi
    have hlt : i < y.length := by omega
    have hw : wrap64 ((i : Int) + 1) = ((i + 1 : Nat) : Int) := wrap_nat (by omega)
    have hc := hb y[i] (List.getElem_mem hlt)
    have hr := val_range (y.take i) (hb.take i)
    have hlen : (y.take i).length ≤ 3 := by rw [List.length_take]; omega
    have hp : (256 : Int) ^ (y.take i).length ≤ 16777216 := by
      rcases (show (y.take i).length = 0 ∨ (y.take i).length = 1 ∨ (y.take i).length = 2 ∨ (y.take i).length = 3 by omega) with h | h | h | h <;> rw [h] <;> decide
    have hj : Go.bits .or .i64 (wrap64 (val (y.take i) * 256)) (wrap64 (rd y (i : Int))) = val (y.take (i + 1)) := by
      rw [rd_nat y i hlt, or_join _ _ hr.1 (by omega) hc.1 hc.2, val_take_succ y i hlt]
    refine Ev.step (f := fun k => _) (fun k => by simp only [octet_Scan_Take.l0]; rw [if_pos (show (i : Int) < (y.length : Int) by omega), if_pos (show 0 ≤ (i : Int) by omega), if_pos (show (i : Int) < (y.length : Int) by omega), hj, hw]) (ih (i + 1) (by omega))
theorem take_ev (l : List Int) (e w : Int) (hb : Bytes l) : Ev (fun k => octet_Scan_Take.f k l e w) (takeV l e w) := by
  unfold octet_Scan_Take.f
  refine Ev.cases (fun he => ?_) (fun he => ?_)
  · subst he
    have no : w < 1 ∨ w > 4 → Ev (fun k => octet_Scan_Take.j0 k w true l 0) (takeV l 0 w) := fun h => by
      have e : takeV l 0 w = (0, l, 1) := by unfold takeV; rw [if_neg (by simp), if_pos h]
      rw [e]
      refine Ev.step (f := fun k => _) (fun k => by simp only [octet_Scan_Take.j0]; rw [if_pos trivial]) ?_
      exact Ev.plain (wrong_v l 0 1) (Ev.now _)
    refine Ev.cases (fun h1 => no (.inl h1)) (fun h1 => ?_)
    by_cases h4 : w > 4
    · rw [decide_eq_true h4]; exact no (.inr h4)
    rw [decide_eq_false h4]
    have e0 : takeV l 0 w = if (l.length : Int) < w then (0, l, 5) else if val (l.take w.toNat) > topV w then (0, l, 5) else (val (l.take w.toNat), l.drop w.toNat, 0) := by
      unfold takeV; rw [if_neg (by simp), if_neg (by omega)]
    refine Ev.step (f := fun k => _) (fun k => by simp only [octet_Scan_Take.j0]; rw [if_neg (fun h => Bool.noConfusion h)]) ?_
    refine Ev.cases (fun hl => ?_) (fun hl => ?_)
    · rw [e0, if_pos (by omega)]
      exact Ev.plain (wrong_v l 0 5) (Ev.now _)
    refine Ev.pos (by omega) (Ev.pos (by omega) ?_)
    refine Ev.name (f := fun k y => octet_Scan_Take.l0 k w 0 y (y.length : Int) 0 l 0) ?_
    have hy : (l.take w.toNat).length = w.toNat := by rw [List.length_take]; omega
    refine take_loop w (l.take w.toNat) l (by omega) (hb.take _) ?_ (l.take w.toNat).length 0 (by omega)
    refine Ev.step (f := fun k => _) (fun k => by simp only [octet_Scan_Take.l0]; rw [if_neg (show ¬ (((l.take w.toNat).length : Int) < ((l.take w.toNat).length : Int)) by omega)]) ?_
    refine Ev.plain (limit_v (by omega) (by omega)) ?_
    refine Ev.cases (fun ht => ?_) (fun ht => ?_)
    · rw [(e0.trans (if_neg (by omega))).trans (if_pos ht)]
      exact Ev.plain (wrong_v l 0 5) (Ev.now _)
    · rw [(e0.trans (if_neg (by omega))).trans (if_neg ht)]
      exact Ev.pos (by omega) (Ev.pos (by omega) (Ev.now _))
  · have e : takeV l e w = (0, l, e) := if_pos he
    rw [e]; exact Ev.now _
theorem new_v (l : List Int) (hl : l.length < 140737488355328) : octet_New.f l = some (l, 0) := by
  unfold octet_New.f
  simp only [Option.bind_some, List.nil_append, List.length_nil, Nat.zero_add]
  rw [if_pos hl]
end Go.Proofs.Ytbekobpjigbbkaa.PFrameDecodes
