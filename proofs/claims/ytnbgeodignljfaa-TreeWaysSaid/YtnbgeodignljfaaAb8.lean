/- Regions that draw their order. -/
import Derived.Test.YtnbgeodignljfaaAb7
namespace Go.Proofs.Ytnbgeodignljfaa.Ab
set_option linter.unusedVariables false
set_option linter.unusedSimpArgs false
set_option linter.unusedSectionVars false
open Go.RowKit

/-! ### the static side -/
def cC (C : List (List Nat)) (i : Nat) : List Nat := C.getD i []
def opNames (ops : Array Oper) (o : Oper) : List Nat :=
  o.dst.toList ++ (o.op.operands.toList.filterMap fun | .tmp t => some t | _ => none) ++
  (match o.guard with | some (g, _) => ((ops[g]?).bind (·.dst)).toList | none => [])
def drawOk (ops : Array Oper) (C : List (List Nat)) : Bool :=
  ops.toList.zipIdx.all fun (o, i) =>
    (o.after.toList.all fun e => !Region.binds .any e || decide (e.on < i)) &&
    ((cC C i).all fun k => decide (k < i) && o.after.toList.any fun e => Region.binds .any e && (e.on == k || (cC C e.on).contains k)) &&
    ((opNames ops o).all fun t => ops.toList.zipIdx.all fun (p, k) => p.dst != some t || k == i || (decide (k < i) && (cC C i).contains k) || (decide (i < k) && (cC C k).contains i))

def unordB (C : List (List Nat)) (i j : Nat) : Bool := i != j && !(cC C i).contains j && !(cC C j).contains i
/-- The names that other operations, of no order to the i-th, write. -/
def others (C : List (List Nat)) (W : List (Nat × List Nat)) (i : Nat) : List Nat := W.flatMap fun p => if unordB C i p.1 then p.2 else []
def own (W : List (Nat × List Nat)) (i : Nat) : List Nat := W.flatMap fun p => if p.1 = i then p.2 else []

def updH (s : AHeap) : List (Nat × ABlk) → AHeap
  | [] => s
  | (i, b) :: r => updH (s.set i b) r
def AgreeOff (U : List Nat) (t s : AHeap) : Prop := ∀ id, id ∉ U → t id = s id

theorem updH_out {d : List (Nat × ABlk)} : ∀ {s : AHeap} {id : Nat}, id ∉ d.map (·.1) → updH s d id = s id := by
  induction d with
  | nil => intro s id _; rfl
  | cons x d ih => intro s id h; simp only [List.map_cons, List.mem_cons, not_or] at h; rw [updH, ih h.2, AHeap.set_other _ _ h.1]
theorem updH_in {d : List (Nat × ABlk)} : ∀ {s t : AHeap} {id : Nat}, id ∈ d.map (·.1) → updH s d id = updH t d id := by
  induction d with
  | nil => intro s t id h; cases h
  | cons x d ih =>
    intro s t id h
    rw [updH, updH]
    by_cases hd : id ∈ d.map (·.1)
    · exact ih hd
    · rw [updH_out hd, updH_out hd]
      simp only [List.map_cons, List.mem_cons] at h
      obtain rfl := h.resolve_right hd
      rw [AHeap.set_same, AHeap.set_same]

def AOpsD (P : Program) (ops : Array Oper) (C : List (List Nat)) (W : List (Nat × List Nat)) : Nat → List Oper → Env → AHeap → (Env → AHeap → Prop) → Prop
  | _, [], tm, s, K => K tm s
  | i, o :: r, tm, s, K =>
    (match o.guard with | none => True | some (j, want) => yl ops tm j = some want) ∧ (∃ v d, (∀ id ∈ d.map (·.1), id ∈ own W i) ∧
      (∀ t, AgreeOff (others C W i) t s → AOp P o tm t fun v' t' => v' = v ∧ t' = updH t d) ∧ AOpsD P ops C W (i + 1) r (put tm o.dst v) (updH s d) K)
    ∨ (match o.guard with | none => False | some (j, want) => yl ops tm j ≠ some want) ∧ AOpsD P ops C W (i + 1) r (put tm o.dst undef) s K

section
variable {P : Program} {ops : Array Oper} {C : List (List Nat)} {W : List (Nat × List Nat)} {tm : Env} {s : AHeap} {K : Env → AHeap → Prop} {i : Nat} {o : Oper} {r : List Oper}

theorem AOpsD.nil (h : K tm s) : AOpsD P ops C W i [] tm s K := h
/-- An operation that writes nothing that was there. -/
theorem AOpsD.quiet (v : Value) (hg : (match o.guard with | none => True | some (j, want) => yl ops tm j = some want)) (h : ∀ t, AgreeOff (others C W i) t s → AOp P o tm t fun v' t' => v' = v ∧ t' = t)
    (hr : AOpsD P ops C W (i + 1) r (put tm o.dst v) s K) : AOpsD P ops C W i (o :: r) tm s K := .inl ⟨hg, v, [], by simp, h, hr⟩
theorem AOpsD.write (v : Value) (d : List (Nat × ABlk)) (hg : (match o.guard with | none => True | some (j, want) => yl ops tm j = some want)) (hd : ∀ id ∈ d.map (·.1), id ∈ own W i)
    (h : ∀ t, AgreeOff (others C W i) t s → AOp P o tm t fun v' t' => v' = v ∧ t' = updH t d)
    (hr : AOpsD P ops C W (i + 1) r (put tm o.dst v) (updH s d) K) : AOpsD P ops C W i (o :: r) tm s K := .inl ⟨hg, v, d, hd, h, hr⟩
theorem AOpsD.pass (hg : (match o.guard with | none => False | some (j, want) => yl ops tm j ≠ some want)) (hr : AOpsD P ops C W (i + 1) r (put tm o.dst undef) s K) : AOpsD P ops C W i (o :: r) tm s K := .inr ⟨hg, hr⟩
end

theorem AOp.congr {P : Program} {o : Oper} {tm tm' : Env} {s : AHeap} {K : Value → AHeap → Prop} (h : ∀ x ∈ o.op.operands, ev tm x = ev tm' x) (hh : AOp P o tm s K) : AOp P o tm' s K := by
  obtain ⟨dst, op, type, pos, after, guard⟩ := o
  have pairs : ∀ ps : List (Nat × Operand), (∀ x ∈ ps.map (·.2), ev tm x = ev tm' x) → (ps.map fun p => (p.1, ev tm p.2)) = ps.map fun p => (p.1, ev tm' p.2) := fun ps hp =>
    List.map_congr_left fun p hm => by rw [hp p.2 (List.mem_map.2 ⟨p, hm, rfl⟩)]
  have lists : ∀ ps : List Operand, (∀ x ∈ ps, ev tm x = ev tm' x) → ps.map (ev tm) = ps.map (ev tm') := fun ps hp => List.map_congr_left hp
  have arrs : ∀ ps : Array Operand, (∀ x ∈ ps, ev tm x = ev tm' x) → ps.map (ev tm) = ps.map (ev tm') := fun ps hp => Array.map_congr_left hp
  have ats : ∀ ps : List Operand, (∀ x ∈ ps, ev tm x = ev tm' x) → ps.all (fun x => isAt (ev tm x)) = ps.all (fun x => isAt (ev tm' x)) := fun ps hp => by
    induction ps with
    | nil => rfl
    | cons a l ih => rw [List.all_cons, List.all_cons, hp a (by simp), ih fun x hx => hp x (by simp [hx])]
  cases op <;> simp only [Op.operands] at h <;> simp only [AOp] at hh ⊢
  case build t ps => rw [← pairs _ (fun x hx => h x (by simpa using hx))]; exact hh
  case buildSlice t n ps => rw [← pairs _ (fun x hx => h x (by simpa using hx))]; exact hh
  case makeFunc fn first captured =>
    cases fn <;> simp only [] at hh ⊢
    case func f =>
      rw [← ats first.toList (fun x hx => h x (by simp at hx; simp [hx])), ← ats captured.toList (fun x hx => h x (by simp at hx; simp [hx])), ← arrs first (fun x hx => h x (by simp [hx])), ← arrs captured (fun x hx => h x (by simp [hx]))]
      exact hh
    all_goals exact hh
  case makeMap t r => cases r <;> exact hh
  case slice t x lo hi mx =>
    have h1 : ev tm x = ev tm' x := h x (by cases lo <;> cases hi <;> cases mx <;> simp)
    have h2 : lo.map (ev tm) = lo.map (ev tm') := by cases lo with | none => rfl | some y => exact congrArg some (h y (by cases hi <;> cases mx <;> simp))
    have h3 : hi.map (ev tm) = hi.map (ev tm') := by cases hi with | none => rfl | some y => exact congrArg some (h y (by cases lo <;> cases mx <;> simp))
    have h4 : mx.map (ev tm) = mx.map (ev tm') := by cases mx with | none => rfl | some y => exact congrArg some (h y (by cases lo <;> cases hi <;> simp))
    rw [← h1, ← h2, ← h3, ← h4]; exact hh
  case call c =>
    obtain ⟨callee, args, tys⟩ := c
    cases callee with
    | builtin b =>
      simp only [Call.operands] at h
      rw [← lists args.toList (fun x hx => h x (by simp at hx; simp [hx]))]
      exact hh
    | value f =>
      simp only [Call.operands] at h
      simp only [] at hh ⊢
      rw [← lists args.toList (fun x hx => h x (by simp at hx; simp [hx])), ← h f (by simp)]
      exact hh
    | invoke r m => exact hh
  all_goals first
    | exact hh
    | (simp only [List.mem_toArray, List.mem_cons, List.not_mem_nil, or_false, forall_eq_or_imp, forall_eq] at h
       first
       | (rw [← h]; exact hh)
       | (rw [← h.1, ← h.2]; exact hh)
       | (rw [← h.1, ← h.2.1, ← h.2.2]; exact hh)
       | (simpa [h] using hh))

/-! ### folds over the operations that are done -/
section
variable (ops : Array Oper) (L : Nat → Bool) (V : Nat → Value) (Dl : Nat → List (Nat × ABlk)) (tm0 : Env) (s0 : AHeap)
def dstAt (i : Nat) : Option Tmp := (ops[i]?).bind (·.dst)
def fT : Nat → Env
  | 0 => tm0
  | k + 1 => if L k = true then put (fT k) (dstAt ops k) (V k) else fT k
def fS : Nat → AHeap
  | 0 => s0
  | k + 1 => if L k = true then updH (fS k) (Dl k) else fS k
end

section
variable {ops : Array Oper} {L L' : Nat → Bool} {V V' : Nat → Value} {Dl Dl' : Nat → List (Nat × ABlk)} {tm0 : Env} {s0 : AHeap}
theorem fT_congr : ∀ {k : Nat}, (∀ j, j < k → L j = L' j ∧ V j = V' j) → fT ops L V tm0 k = fT ops L' V' tm0 k
  | 0, _ => rfl
  | k + 1, h => by simp only [fT]; rw [fT_congr fun j hj => h j (by omega), (h k (by omega)).1, (h k (by omega)).2]
theorem fS_congr : ∀ {k : Nat}, (∀ j, j < k → L j = L' j ∧ Dl j = Dl' j) → fS L Dl s0 k = fS L' Dl' s0 k
  | 0, _ => rfl
  | k + 1, h => by simp only [fS]; rw [fS_congr fun j hj => h j (by omega), (h k (by omega)).1, (h k (by omega)).2]
theorem put_other {tm : Env} {d : Option Tmp} {v : Value} {t : Nat} (h : d ≠ some t) : put tm d v t = tm t := by
  cases d with
  | none => rfl
  | some d => have : t ≠ d := fun e => h (by rw [e]); simp [put, this]
theorem put_same {tm : Env} {v : Value} {t : Nat} : put tm (some t) v t = v := by simp [put]

theorem fT_slot {m i t : Nat} (hi : i ≤ m) (h : ∀ k, k < m → dstAt ops k = some t → (L k = true ↔ k < i)) : fT ops L V tm0 m t = fT ops (fun _ => true) V tm0 i t := by
  have key : ∀ k, k ≤ m → fT ops L V tm0 k t = fT ops (fun _ => true) V tm0 (min k i) t := by
    intro k
    induction k with
    | zero => intro _; simp [fT]
    | succ k ih =>
      intro hk
      have ih' := ih (by omega)
      simp only [fT]
      by_cases hd : dstAt ops k = some t
      · have hh := h k (by omega) hd
        by_cases hki : k < i
        · rw [if_pos (hh.2 hki), show min (k + 1) i = min k i + 1 by omega, show min k i = k by omega]
          simp only [fT, if_true]
          rw [hd, put_same, put_same]
        · rw [if_neg (fun e => hki (hh.1 e)), ih', show min (k + 1) i = min k i by omega]
      · have e1 : (if L k = true then put (fT ops L V tm0 k) (dstAt ops k) (V k) else fT ops L V tm0 k) t = fT ops L V tm0 k t := by
          split
          · exact put_other hd
          · rfl
        rw [e1, ih']
        by_cases hki : k < i
        · rw [show min (k + 1) i = min k i + 1 by omega, show min k i = k by omega]
          simp only [fT, if_true]
          rw [put_other hd]
        · rw [show min (k + 1) i = min k i by omega]
  have := key m (Nat.le_refl _)
  rwa [show min m i = i by omega] at this

theorem fS_slot {m i id : Nat} (hi : i ≤ m) (h : ∀ k, k < m → id ∈ (Dl k).map (·.1) → (L k = true ↔ k < i)) : fS L Dl s0 m id = fS (fun _ => true) Dl s0 i id := by
  have key : ∀ k, k ≤ m → fS L Dl s0 k id = fS (fun _ => true) Dl s0 (min k i) id := by
    intro k
    induction k with
    | zero => intro _; simp [fS]
    | succ k ih =>
      intro hk
      have ih' := ih (by omega)
      simp only [fS]
      by_cases hd : id ∈ (Dl k).map (·.1)
      · have hh := h k (by omega) hd
        by_cases hki : k < i
        · rw [if_pos (hh.2 hki), show min (k + 1) i = min k i + 1 by omega, show min k i = k by omega]
          simp only [fS, if_true]
          exact updH_in hd
        · rw [if_neg (fun e => hki (hh.1 e)), ih', show min (k + 1) i = min k i by omega]
      · have e1 : (if L k = true then updH (fS L Dl s0 k) (Dl k) else fS L Dl s0 k) id = fS L Dl s0 k id := by
          split
          · exact updH_out hd
          · rfl
        rw [e1, ih']
        by_cases hki : k < i
        · rw [show min (k + 1) i = min k i + 1 by omega, show min k i = k by omega]
          simp only [fS, if_true]
          rw [updH_out hd]
        · rw [show min (k + 1) i = min k i by omega]
  have := key m (Nat.le_refl _)
  rwa [show min m i = i by omega] at this

theorem fT_last {m i t : Nat} (hi : i < m) (hL : L i = true) (hd : dstAt ops i = some t) (h : ∀ k, k < m → i < k → dstAt ops k = some t → L k = false) : fT ops L V tm0 m t = V i := by
  have key : ∀ k, i < k → k ≤ m → fT ops L V tm0 k t = V i := by
    intro k
    induction k with
    | zero => intro h; omega
    | succ k ih =>
      intro hik hk
      simp only [fT]
      by_cases e : k = i
      · subst e; rw [if_pos hL, hd, put_same]
      · have := ih (by omega) (by omega)
        by_cases hdk : dstAt ops k = some t
        · rw [if_neg (by rw [h k (by omega) (by omega) hdk]; simp)]; exact this
        · split
          · rw [put_other hdk]; exact this
          · exact this
  exact key m hi (Nat.le_refl _)

theorem fS_last {m i id : Nat} (hi : i < m) (hL : L i = true) (hd : id ∈ (Dl i).map (·.1)) (h : ∀ k, k < m → i < k → id ∈ (Dl k).map (·.1) → L k = false) (s : AHeap) : fS L Dl s0 m id = updH s (Dl i) id := by
  have key : ∀ k, i < k → k ≤ m → fS L Dl s0 k id = updH s (Dl i) id := by
    intro k
    induction k with
    | zero => intro h; omega
    | succ k ih =>
      intro hik hk
      simp only [fS]
      by_cases e : k = i
      · subst e; rw [if_pos hL]; exact updH_in hd
      · have := ih (by omega) (by omega)
        by_cases hdk : id ∈ (Dl k).map (·.1)
        · rw [if_neg (by rw [h k (by omega) (by omega) hdk]; simp)]; exact this
        · split
          · rw [updH_out hdk]; exact this
          · exact this
  exact key m hi (Nat.le_refl _)

theorem fT_set {m i : Nat} (hi : i < m) (hL : L i = false) (hL' : L' i = true) (hne : ∀ k, k ≠ i → L' k = L k) (h : ∀ k t, k < m → i < k → dstAt ops i = some t → dstAt ops k = some t → L k = false) :
    fT ops L' V tm0 m = put (fT ops L V tm0 m) (dstAt ops i) (V i) := by
  funext t
  by_cases hd : dstAt ops i = some t
  · rw [fT_last hi hL' hd (fun k hk hik hdk => by rw [hne k (by omega)]; exact h k t hk hik hd hdk), hd, put_same]
  · rw [put_other hd]
    have key : ∀ k, k ≤ m → fT ops L' V tm0 k t = fT ops L V tm0 k t := by
      intro k
      induction k with
      | zero => intro _; rfl
      | succ k ih =>
        intro hk
        simp only [fT]
        by_cases e : k = i
        · subst e; rw [if_pos hL', if_neg (by rw [hL]; simp), put_other hd]; exact ih (by omega)
        · rw [hne k e]
          by_cases hdk : dstAt ops k = some t
          · split
            · rw [hdk, put_same, put_same]
            · exact ih (by omega)
          · split
            · rw [put_other hdk, put_other hdk]; exact ih (by omega)
            · exact ih (by omega)
    exact key m (Nat.le_refl _)

theorem fS_set {m i : Nat} (hi : i < m) (hL : L i = false) (hL' : L' i = true) (hne : ∀ k, k ≠ i → L' k = L k) (h : ∀ k id, k < m → i < k → id ∈ (Dl i).map (·.1) → id ∈ (Dl k).map (·.1) → L k = false) :
    fS L' Dl s0 m = updH (fS L Dl s0 m) (Dl i) := by
  funext id
  by_cases hd : id ∈ (Dl i).map (·.1)
  · exact fS_last hi hL' hd (fun k hk hik hdk => by rw [hne k (by omega)]; exact h k id hk hik hd hdk) _
  · rw [updH_out hd]
    have key : ∀ k, k ≤ m → fS L' Dl s0 k id = fS L Dl s0 k id := by
      intro k
      induction k with
      | zero => intro _; rfl
      | succ k ih =>
        intro hk
        simp only [fS]
        by_cases e : k = i
        · subst e; rw [if_pos hL', if_neg (by rw [hL]; simp), updH_out hd]; exact ih (by omega)
        · rw [hne k e]
          by_cases hdk : id ∈ (Dl k).map (·.1)
          · split
            · exact updH_in hdk
            · exact ih (by omega)
          · split
            · rw [updH_out hdk, updH_out hdk]; exact ih (by omega)
            · exact ih (by omega)
    exact key m (Nat.le_refl _)
end

/-! ### what the text's order tells of each operation -/
def StepFact (P : Program) (ops : Array Oper) (C : List (List Nat)) (W : List (Nat × List Nat)) (V : Nat → Value) (Dl : Nat → List (Nat × ABlk)) (tm0 : Env) (s0 : AHeap) (k : Nat) : Prop :=
  ∀ o, ops[k]? = some o →
    ((match o.guard with | none => True | some (j, want) => yl ops (fT ops (fun _ => true) V tm0 k) j = some want) ∧ (∀ id ∈ (Dl k).map (·.1), id ∈ own W k) ∧
      ∀ t, AgreeOff (others C W k) t (fS (fun _ => true) Dl s0 k) → AOp P o (fT ops (fun _ => true) V tm0 k) t fun v' t' => v' = V k ∧ t' = updH t (Dl k)) ∨
    ((match o.guard with | none => False | some (j, want) => yl ops (fT ops (fun _ => true) V tm0 k) j ≠ some want) ∧ V k = undef ∧ Dl k = [])

theorem AOpsD.facts {P : Program} {ops : Array Oper} {C : List (List Nat)} {W : List (Nat × List Nat)} {tm0 : Env} {s0 : AHeap} {K : Env → AHeap → Prop} (h : AOpsD P ops C W 0 ops.toList tm0 s0 K) :
    ∃ V Dl, (∀ k, k < ops.size → StepFact P ops C W V Dl tm0 s0 k) ∧ K (fT ops (fun _ => true) V tm0 ops.size) (fS (fun _ => true) Dl s0 ops.size) := by
  have key : ∀ i, i ≤ ops.size → ∃ V Dl, (∀ k, k < i → StepFact P ops C W V Dl tm0 s0 k) ∧ AOpsD P ops C W i (ops.toList.drop i) (fT ops (fun _ => true) V tm0 i) (fS (fun _ => true) Dl s0 i) K := by
    intro i
    induction i with
    | zero => intro _; exact ⟨fun _ => undef, fun _ => [], fun k hk => by omega, h⟩
    | succ i ih =>
      intro hi
      obtain ⟨V, Dl, hf, hr⟩ := ih (by omega)
      have hlt : i < ops.toList.length := by simpa using (show i < ops.size by omega)
      rw [List.drop_eq_getElem_cons hlt] at hr
      have ho : ops[i]? = some ops.toList[i] := by simp [show i < ops.size by omega]
      have hda : dstAt ops i = ops.toList[i].dst := by unfold dstAt; rw [ho]; rfl
      have keep : ∀ (v : Value) (d : List (Nat × ABlk)) (V' : Nat → Value) (Dl' : Nat → List (Nat × ABlk)), V' = (fun k => if k = i then v else V k) → Dl' = (fun k => if k = i then d else Dl k) →
          (∀ k, k ≤ i → fT ops (fun _ => true) V' tm0 k = fT ops (fun _ => true) V tm0 k ∧ fS (fun _ => true) Dl' s0 k = fS (fun _ => true) Dl s0 k) ∧ (∀ k, k < i → StepFact P ops C W V' Dl' tm0 s0 k) := by
        intro v d V' Dl' hV hD
        have hk : ∀ k, k ≤ i → fT ops (fun _ => true) V' tm0 k = fT ops (fun _ => true) V tm0 k ∧ fS (fun _ => true) Dl' s0 k = fS (fun _ => true) Dl s0 k := fun k hk =>
          ⟨fT_congr fun j hj => ⟨rfl, by rw [hV]; simp [show j ≠ i by omega]⟩, fS_congr fun j hj => ⟨rfl, by rw [hD]; simp [show j ≠ i by omega]⟩⟩
        refine ⟨hk, fun k hki => ?_⟩
        intro o ho
        have h1 := hf k hki o ho
        have e1 : V' k = V k := by rw [hV]; simp [show k ≠ i by omega]
        have e2 : Dl' k = Dl k := by rw [hD]; simp [show k ≠ i by omega]
        rw [(hk k (by omega)).1, (hk k (by omega)).2, e1, e2]
        exact h1
      simp only [AOpsD] at hr
      rcases hr with ⟨hg, v, d, hd, hrob, hrest⟩ | ⟨hg, hrest⟩
      · obtain ⟨k1, k2⟩ := keep v d _ _ rfl rfl
        refine ⟨fun k => if k = i then v else V k, fun k => if k = i then d else Dl k, fun k hk => ?_, ?_⟩
        · by_cases e : k = i
          · subst e
            intro o ho'
            rw [ho] at ho'
            obtain rfl := Option.some.inj ho'
            refine .inl ⟨?_, ?_, ?_⟩
            · rw [(k1 k (Nat.le_refl _)).1]; exact hg
            · simpa using hd
            · rw [(k1 k (Nat.le_refl _)).1, (k1 k (Nat.le_refl _)).2]; simpa using hrob
          · exact k2 k (by omega)
        · simp only [fT, fS, if_true]
          rw [(k1 i (Nat.le_refl _)).1, (k1 i (Nat.le_refl _)).2, hda]
          exact hrest
      · obtain ⟨k1, k2⟩ := keep undef [] _ _ rfl rfl
        refine ⟨fun k => if k = i then undef else V k, fun k => if k = i then [] else Dl k, fun k hk => ?_, ?_⟩
        · by_cases e : k = i
          · subst e
            intro o ho'
            rw [ho] at ho'
            obtain rfl := Option.some.inj ho'
            refine .inr ⟨?_, by simp, by simp⟩
            rw [(k1 k (Nat.le_refl _)).1]; exact hg
          · exact k2 k (by omega)
        · simp only [fT, fS, if_true]
          rw [(k1 i (Nat.le_refl _)).1, (k1 i (Nat.le_refl _)).2, hda]
          exact hrest
  obtain ⟨V, Dl, hf, hr⟩ := key ops.size (Nat.le_refl _)
  rw [List.drop_of_length_le (by simp)] at hr
  exact ⟨V, Dl, hf, hr⟩

theorem drawOk_spec {ops : Array Oper} {C : List (List Nat)} (h : drawOk ops C = true) {i : Nat} {o : Oper} (ho : ops[i]? = some o) :
    (∀ e ∈ o.after, Region.binds .any e = true → e.on < i) ∧ (∀ k ∈ cC C i, k < i ∧ ∃ e ∈ o.after, Region.binds .any e = true ∧ (e.on = k ∨ k ∈ cC C e.on)) ∧
    (∀ t ∈ opNames ops o, ∀ k p, ops[k]? = some p → p.dst = some t → k = i ∨ (k < i ∧ k ∈ cC C i) ∨ (i < k ∧ i ∈ cC C k)) := by
  have hmem : ∀ {k : Nat} {p : Oper}, ops[k]? = some p → (p, k) ∈ ops.toList.zipIdx := fun {k p} hk => by
    rw [List.mem_zipIdx_iff_getElem?]; simpa using hk
  have h1 := List.all_eq_true.1 h _ (hmem ho)
  simp only [Bool.and_eq_true, List.all_eq_true] at h1
  obtain ⟨⟨ha, hb⟩, hc⟩ := h1
  refine ⟨fun e he hbd => ?_, fun k hk => ?_, fun t ht k p hp hd => ?_⟩
  · have := ha e (by simpa using he)
    simpa [hbd] using this
  · have := hb k hk
    simp only [Bool.and_eq_true, decide_eq_true_eq, List.any_eq_true, Bool.or_eq_true, beq_iff_eq, List.contains_iff_mem] at this
    obtain ⟨h1, e, he, hbd, hor⟩ := this
    exact ⟨h1, e, by simpa using he, hbd, hor⟩
  · have := hc t ht (p, k) (hmem hp)
    simp only [Bool.or_eq_true, bne_iff_ne, ne_eq, beq_iff_eq, Bool.and_eq_true, decide_eq_true_eq, List.contains_iff_mem] at this
    rcases this with ((h1 | h1) | h1) | h1
    · exact absurd hd h1
    · exact .inl h1
    · exact .inr (.inl h1)
    · exact .inr (.inr h1)

theorem mem_others {C : List (List Nat)} {W : List (Nat × List Nat)} {i k id : Nat} (hu : unordB C i k = true) (h : id ∈ own W k) : id ∈ others C W i := by
  simp only [own, List.mem_flatMap] at h
  obtain ⟨p, hp, hid⟩ := h
  split at hid
  · rename_i e
    simp only [others, List.mem_flatMap]
    exact ⟨p, hp, by rw [e, if_pos hu]; exact hid⟩
  · cases hid

theorem unordB_of {C : List (List Nat)} {i k : Nat} (h : unordB C i k = false) : i = k ∨ k ∈ cC C i ∨ i ∈ cC C k := by
  simp only [unordB, Bool.and_eq_false_iff, bne_eq_false_iff_eq, Bool.not_eq_false', List.contains_iff_mem] at h
  rcases h with (h | h) | h
  · exact .inl h
  · exact .inr (.inl h)
  · exact .inr (.inr h)

def apartW (C : List (List Nat)) (W : List (Nat × List Nat)) : Prop := ∀ p ∈ W, ∀ q ∈ W, unordB C p.1 q.1 = true → ∀ id ∈ p.2, id ∉ q.2

theorem apartW_own {C : List (List Nat)} {W : List (Nat × List Nat)} (h : apartW C W) {i k id : Nat} (hu : unordB C i k = true) (hi : id ∈ own W i) : id ∉ own W k := by
  intro hk
  simp only [own, List.mem_flatMap] at hi hk
  obtain ⟨p, hp, hip⟩ := hi
  obtain ⟨q, hq, hiq⟩ := hk
  split at hip
  · rename_i ep
    split at hiq
    · rename_i eq
      exact h p hp q hq (by rw [ep, eq]; exact hu) id hip hiq
    · cases hiq
  · cases hip

section
variable {P : Program} {n : Nat} {Q : AExit → Env → AHeap → Prop} {tm : Env} {s : AHeap}
theorem AWp.draw {id : Nat} {l : List Oper} (C : List (List Nat)) (W : List (Nat × List Nat)) (hm : P.follows .mixedOrders = true) (hC : drawOk l.toArray C = true) (hW : apartW C W)
    (h : AOpsD P l.toArray C W 0 l tm s fun tm' s' => Q .normal tm' s') : AWp P n (.region id l.toArray true) Q tm s := fun hg W0 ρ a w he hd hS => by
  obtain ⟨ops, hops⟩ : ∃ ops : Array Oper, ops = l.toArray := ⟨_, rfl⟩
  have hl : ops.toList = l := by rw [hops]
  rw [← hops] at hC h ⊢
  rw [← hl] at h
  have hg' : ops.toList.all (goodO n) = true := by rw [hops]; exact hg
  obtain ⟨V, Dl, hf, hK⟩ := h.facts
  obtain ⟨m, hmm⟩ : ∃ m, m = ops.size := ⟨_, rfl⟩
  rw [← hmm] at hf hK
  refine wp_region_any hm ?_
  have key : ∀ (fuel : Nat) (listed : Array Bool) (ρ1 : Ren) (a : Act) (w : World), listed.size = m → ((List.range m).filter fun k => !(listed.getD k false)).length ≤ fuel →
      RLe ρ ρ1 → EnvR ρ1 n (fT ops (fun k => listed.getD k false) V tm m) a.tmps → a.defers = [] → Sim W0 ρ1 (fS (fun k => listed.getD k false) Dl s m) w →
      (∀ j, j < m → listed.getD j false = true → ∀ k ∈ cC C j, listed.getD k false = true) → wpAny P .any ops (APost P W0 n Q ρ) fuel listed a w := by
    intro fuel
    induction fuel with
    | zero =>
      intro listed ρ1 a w hsz hcnt hle he hd hS hdc
      have hall : ∀ k, k < m → listed.getD k false = true := by
        intro k hk
        have h0 : (List.range m).filter (fun k => !(listed.getD k false)) = [] := List.length_eq_zero_iff.1 (Nat.le_zero.1 hcnt)
        have := List.filter_eq_nil_iff.1 h0 k (by simpa using hk)
        simpa using this
      refine ⟨?_, .normal, _, _, ρ1, rfl, hK, hle, ?_, hd, ?_⟩
      · cases hr : Region.ready .any ops listed with
        | nil => rfl
        | cons x xs =>
          have hx : x ∈ Region.ready .any ops listed := by rw [hr]; simp
          obtain ⟨h0, o, ho, _⟩ := mem_ready.1 hx
          have hxm : x < m := by rw [hmm]; exact (Array.getElem?_eq_some_iff.1 ho).1
          have := hall x hxm
          simp [show x < listed.size by omega] at this h0
          rw [h0] at this; cases this
      · rw [fT_congr (L' := fun k => listed.getD k false) (V' := V) fun j hj => ⟨(hall j hj).symm, rfl⟩]; exact he
      · rw [fS_congr (L' := fun k => listed.getD k false) (Dl' := Dl) fun j hj => ⟨(hall j hj).symm, rfl⟩]; exact hS
    | succ fuel ih =>
      intro listed ρ1 a w hsz hcnt hle he hd hS hdc
      refine ⟨fun hr => ?_, fun i hi => ?_⟩
      · have hall : ∀ k, k < m → listed.getD k false = true := by
          intro k
          induction k using Nat.strongRecOn with
          | _ k ihk =>
            intro hk
            cases hb : listed.getD k false with
            | true => rfl
            | false =>
              have hko : k < ops.size := by omega
              have : k ∈ Region.ready .any ops listed := mem_ready.2 ⟨by simp [show k < listed.size by omega] at hb ⊢; exact hb, ops[k], by simp [hko], fun e he hbd => by
                have := (drawOk_spec hC (show ops[k]? = some ops[k] by simp [hko])).1 e he hbd
                exact ihk e.on this (by omega)⟩
              rw [hr] at this; cases this
        refine ⟨.normal, _, _, ρ1, rfl, hK, hle, ?_, hd, ?_⟩
        · rw [fT_congr (L' := fun k => listed.getD k false) (V' := V) fun j hj => ⟨(hall j hj).symm, rfl⟩]; exact he
        · rw [fS_congr (L' := fun k => listed.getD k false) (Dl' := Dl) fun j hj => ⟨(hall j hj).symm, rfl⟩]; exact hS
      · obtain ⟨h0, o, ho, hedges⟩ := mem_ready.1 hi
        have him : i < m := by rw [hmm]; exact (Array.getElem?_eq_some_iff.1 ho).1
        have hLi : listed.getD i false = false := by simp [show i < listed.size by omega] at h0 ⊢; exact h0
        obtain ⟨d1, d2, d3⟩ := drawOk_spec hC ho
        have hpre : ∀ k ∈ cC C i, listed.getD k false = true := fun k hk => by
          obtain ⟨_, e, hem, hbd, hor⟩ := d2 k hk
          have he' := hedges e hem hbd
          rcases hor with rfl | hin
          · exact he'
          · exact hdc e.on (by have := d1 e hem hbd; omega) he' k hin
        have hpost : ∀ k, k < m → i ∈ cC C k → listed.getD k false = false := fun k hk hin => by
          cases hb : listed.getD k false with
          | false => rfl
          | true => have := hdc k hk hb i hin; rw [hLi] at this; cases this
        have hdst : ∀ {k t}, dstAt ops k = some t → ∃ p, ops[k]? = some p ∧ p.dst = some t := fun {k t} h => by
          unfold dstAt at h
          cases hp : ops[k]? with
          | none => rw [hp] at h; cases h
          | some p => rw [hp] at h; exact ⟨p, rfl, h⟩
        have hslot : ∀ t ∈ opNames ops o, ∀ k, k < m → dstAt ops k = some t → (listed.getD k false = true ↔ k < i) := fun t ht k hk hd => by
          obtain ⟨p, hp, hpd⟩ := hdst hd
          rcases d3 t ht k p hp hpd with rfl | ⟨h1, h2⟩ | ⟨h1, h2⟩
          · rw [hLi]; simp
          · rw [hpre k h2]; simp [h1]
          · rw [hpost k hk h2]; simp; omega
        have hsl : ∀ t ∈ opNames ops o, fT ops (fun k => listed.getD k false) V tm m t = fT ops (fun _ => true) V tm i t := fun t ht => fT_slot (by omega) (hslot t ht)
        have hev : ∀ x ∈ o.op.operands, ev (fT ops (fun _ => true) V tm i) x = ev (fT ops (fun k => listed.getD k false) V tm m) x := fun x hx => by
          cases x with
          | tmp t => exact (hsl t (by
              simp only [opNames, List.mem_append, List.mem_filterMap]
              exact .inl (.inr ⟨.tmp t, by simpa using hx, rfl⟩))).symm
          | _ => rfl
        have hyl : ∀ j want, o.guard = some (j, want) → yl ops (fT ops (fun k => listed.getD k false) V tm m) j = yl ops (fT ops (fun _ => true) V tm i) j := fun j want hgd => by
          unfold yl
          cases hj : (ops[j]?).bind (·.dst) with
          | none => rfl
          | some t =>
            have := hsl t (by simp only [opNames, List.mem_append, hgd, hj]; exact .inr (by simp))
            simp only [this]
        have hord : ∀ k id, k < m → id ∈ (Dl k).map (·.1) → id ∉ others C W i → k = i ∨ k ∈ cC C i ∨ i ∈ cC C k := fun k id hk hid hno => by
          have hok : id ∈ own W k := by
            rcases hf k hk ops[k] (by simp [show k < ops.size by omega]) with ⟨_, h2, _⟩ | ⟨_, _, h2⟩
            · exact h2 id hid
            · rw [h2] at hid; cases hid
          cases hu : unordB C i k with
          | true => exact absurd (mem_others hu hok) hno
          | false => rcases unordB_of hu with h | h | h
                     · exact .inl h.symm
                     · exact .inr (.inl h)
                     · exact .inr (.inr h)
        have hagree : AgreeOff (others C W i) (fS (fun k => listed.getD k false) Dl s m) (fS (fun _ => true) Dl s i) := fun id hid => fS_slot (by omega) fun k hk hdk => by
          rcases hord k id hk hdk hid with rfl | h1 | h1
          · rw [hLi]; simp
          · rw [hpre k h1]; simp; exact (d2 k h1).1
          · rw [hpost k hk h1]; simp
            have hko : k < ops.size := by omega
            exact Nat.le_of_lt ((drawOk_spec hC (show ops[k]? = some ops[k] by simp [hko])).2.1 i h1).1
        have hok := List.all_eq_true.1 hg' o (by simpa using Array.mem_of_getElem? ho)
        simp only [goodO, Bool.and_eq_true] at hok
        have hL' : ∀ k, (listed.setIfInBounds i true).getD k false = if k = i then true else listed.getD k false := fun k => by
          by_cases e : k = i
          · subst e; simp [show k < listed.size by omega]
          · rw [if_neg e, getD_set_ne false (Ne.symm e)]
        have hfT : fT ops (fun k => (listed.setIfInBounds i true).getD k false) V tm m = put (fT ops (fun k => listed.getD k false) V tm m) o.dst (V i) := by
          have hda : dstAt ops i = o.dst := by unfold dstAt; rw [ho]; rfl
          rw [← hda]
          refine fT_set him hLi (by rw [hL']; simp) (fun k hk => by rw [hL', if_neg hk]) ?_
          intro k t hk hik hdi hdk
          have ht : t ∈ opNames ops o := by rw [hda] at hdi; simp [opNames, hdi]
          cases hb : listed.getD k false with
          | false => rfl
          | true => have := (hslot t ht k hk hdk).1 hb; omega
        have hfS : fS (fun k => (listed.setIfInBounds i true).getD k false) Dl s m = updH (fS (fun k => listed.getD k false) Dl s m) (Dl i) := by
          refine fS_set him hLi (by rw [hL']; simp) (fun k hk => by rw [hL', if_neg hk]) ?_
          intro k id hk hik hdi hdk
          have hown : ∀ {k}, k < m → id ∈ (Dl k).map (·.1) → id ∈ own W k := fun {k} hk hid => by
            rcases hf k hk ops[k] (by simp [show k < ops.size by omega]) with ⟨_, h2, _⟩ | ⟨_, _, h2⟩
            · exact h2 id hid
            · rw [h2] at hid; cases hid
          cases hu : unordB C i k with
          | true => exact absurd (hown hk hdk) (apartW_own hW hu (hown him hdi))
          | false =>
            rcases unordB_of hu with h | h | h
            · omega
            · have := (d2 k h).1; omega
            · exact hpost k hk h
        have hcnt' : ((List.range m).filter fun k => !((listed.setIfInBounds i true).getD k false)).length ≤ fuel := by
          have h1 : ((List.range m).filter fun k => !((listed.setIfInBounds i true).getD k false)).length < ((List.range m).filter fun k => !(listed.getD k false)).length := by
            have e : (List.range m).filter (fun k => !((listed.setIfInBounds i true).getD k false)) = ((List.range m).filter fun k => !(listed.getD k false)).filter (fun k => k != i) := by
              rw [List.filter_filter]
              refine List.filter_congr fun k _ => ?_
              rw [hL']
              by_cases e : k = i <;> simp [e]
            rw [e]
            refine List.length_filter_lt_length_iff_exists.2 ⟨i, ?_, by simp⟩
            rw [List.mem_filter]
            exact ⟨by simpa using him, by simp [hLi]⟩
          omega
        have hdc' : ∀ j, j < m → (listed.setIfInBounds i true).getD j false = true → ∀ k ∈ cC C j, (listed.setIfInBounds i true).getD k false = true := fun j hj hLj k hk => by
          rw [hL'] at hLj ⊢
          by_cases ek : k = i
          · rw [if_pos ek]
          · rw [if_neg ek]
            by_cases ej : j = i
            · subst ej; exact hpre k hk
            · rw [if_neg ej] at hLj; exact hdc j hj hLj k hk
        have hput : ∀ dst v, (a.put dst v).defers = [] := fun dst v => by cases dst <;> exact hd
        have next : ∀ ρ2 v', RLe ρ1 ρ2 → VR ρ2 (V i) v' → ∀ w', Sim W0 ρ2 (updH (fS (fun k => listed.getD k false) Dl s m) (Dl i)) w' →
            wpAny P .any ops (APost P W0 n Q ρ) fuel (listed.setIfInBounds i true) (a.put o.dst v') w' := fun ρ2 v' hle2 hv w' hS' =>
          ih _ ρ2 _ _ (by simpa using hsz) hcnt' (hle.trans hle2) (by rw [hfT]; exact (he.mono hle2).put hok.1 hv) (hput _ _) (by rw [hfS]; exact hS') hdc'
        unfold wpOp
        rw [ho]
        simp only []
        rcases hf i him o ho with ⟨g1, _, g3⟩ | ⟨g1, g2, g3⟩
        · rw [if_pos (by
            cases hgd : o.guard with
            | none => simp [Region.wanted, hgd]
            | some jw =>
              obtain ⟨j, want⟩ := jw
              simp only [Region.wanted, hgd]
              rw [yielded_eq he hg', hyl j want hgd]
              rw [hgd] at g1
              simpa using g1)]
          refine .inl (AOp.sound ((g3 _ hagree).congr hev) hok.2 he hS ?_)
          intro ρ2 v0 v' s' w' hle2 hv hS' hk
          obtain ⟨rfl, rfl⟩ := hk
          exact next ρ2 v' hle2 hv w' hS'
        · rw [if_neg (by
            cases hgd : o.guard with
            | none => rw [hgd] at g1; exact g1.elim
            | some jw =>
              obtain ⟨j, want⟩ := jw
              simp only [Region.wanted, hgd]
              rw [yielded_eq he hg', hyl j want hgd]
              rw [hgd] at g1
              simpa using g1)]
          exact next ρ1 undef (RLe.refl _) (by rw [g2]; exact undef_VR _) w (by rw [g3]; exact hS)
  refine key ops.size _ ρ a _ (by simp [hmm]) ?_ (RLe.refl _) ?_ hd ?_ ?_
  · exact Nat.le_trans (List.length_filter_le _ _) (by simp [hmm])
  · have : fT ops (fun k => (Array.replicate ops.size false).getD k false) V tm m = tm := by
      have : ∀ k, fT ops (fun k => (Array.replicate ops.size false).getD k false) V tm k = tm := by
        intro k
        induction k with
        | zero => rfl
        | succ k ih => simp only [fT]; rw [if_neg (by simp [Array.getElem?_replicate]; split <;> simp), ih]
      exact this m
    rw [this]; exact he
  · have : fS (fun k => (Array.replicate ops.size false).getD k false) Dl s m = s := by
      have : ∀ k, fS (fun k => (Array.replicate ops.size false).getD k false) Dl s k = s := by
        intro k
        induction k with
        | zero => rfl
        | succ k ih => simp only [fS]; rw [if_neg (by simp [Array.getElem?_replicate]; split <;> simp), ih]
      exact this m
    rw [this]; exact hS.drew
  · intro j _ hj
    simp [Array.getElem?_replicate] at hj
    split at hj <;> simp at hj
end
end Go.Proofs.Ytnbgeodignljfaa.Ab
