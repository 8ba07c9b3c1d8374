/- texts of this claim, one behind the other: AbD, AbA, AbW, AbK, AbU, AbG. -/
import Derived.Test.YtoiplbackllgfaaM8
import Derived.Test.YtoiplbackllgfaaM9

/- Regions that draw their order: what only reads may be taken first, so that one order is left. -/
namespace Go.Proofs.Ytoiplbackllgfaa.Ab
set_option linter.unusedVariables false
set_option linter.unusedSimpArgs false
set_option linter.unusedSectionVars false
open Go.RowKit
theorem AOp.mono {P : Program} {o : Oper} {tm : Env} {s : AHeap} {K K' : Value → AHeap → Prop} (hk : ∀ v s', K v s' → K' v s') (h : AOp P o tm s K) : AOp P o tm s K' := by
  obtain ⟨dst, op, type, pos, after, guard⟩ := o
  cases op <;> simp only [AOp] at h ⊢
  case move => exact hk _ _ h
  case assign => exact hk _ _ h
  case pick => obtain ⟨b, h1, h2⟩ := h; exact ⟨b, h1, hk _ _ h2⟩
  case alloc => obtain ⟨id, td, h1, h2, h3, h4⟩ := h; exact ⟨id, td, h1, h2, h3, hk _ _ h4⟩
  case box => obtain ⟨id, h1, h2, h3⟩ := h; exact ⟨id, h1, h2, hk _ _ h3⟩
  case build => obtain ⟨v, h1, h2⟩ := h; exact ⟨v, h1, hk _ _ h2⟩
  case buildSlice => obtain ⟨id, v, s', h1, h2⟩ := h; exact ⟨id, v, s', h1, hk _ _ h2⟩
  case load => obtain ⟨v, h1, h2⟩ := h; exact ⟨v, h1, hk _ _ h2⟩
  case store => obtain ⟨s', h1, h2⟩ := h; exact ⟨s', h1, hk _ _ h2⟩
  case nilCheck => split at h <;> first | exact hk _ _ h | exact h
  case binOp => obtain ⟨v, h1, h2⟩ := h; exact ⟨v, h1, hk _ _ h2⟩
  case unOp => obtain ⟨v, h1, h2⟩ := h; exact ⟨v, h1, hk _ _ h2⟩
  case convert =>
    rcases h with ⟨v, h1, h2⟩ | ⟨s', h1, h2⟩
    · exact .inl ⟨v, h1, hk _ _ h2⟩
    · exact .inr ⟨s', h1, hk _ _ h2⟩
  case makeFunc fn first captured =>
    cases fn <;> simp only [] at h ⊢
    exact ⟨h.1, h.2.1, hk _ _ h.2.2⟩
  case makeSlice => obtain ⟨id, v, s', h1, h2⟩ := h; exact ⟨id, v, s', h1, hk _ _ h2⟩
  case slice => obtain ⟨v, h1, h2⟩ := h; exact ⟨v, h1, hk _ _ h2⟩
  case fieldAddr => obtain ⟨v, h1, h2⟩ := h; exact ⟨v, h1, hk _ _ h2⟩
  case field => obtain ⟨v, h1, h2⟩ := h; exact ⟨v, h1, hk _ _ h2⟩
  case indexAddr => obtain ⟨v, h1, h2⟩ := h; exact ⟨v, h1, hk _ _ h2⟩
  case index => obtain ⟨v, h1, h2⟩ := h; exact ⟨v, h1, hk _ _ h2⟩
  case extract => obtain ⟨v, h1, h2⟩ := h; exact ⟨v, h1, hk _ _ h2⟩
  case makeMap t r =>
    cases r <;> simp only [] at h ⊢
    obtain ⟨id, h1, h2⟩ := h; exact ⟨id, h1, hk _ _ h2⟩
  case lookup => obtain ⟨v, h1, h2⟩ := h; exact ⟨v, h1, hk _ _ h2⟩
  case mapUpdate => obtain ⟨s', h1, h2⟩ := h; exact ⟨s', h1, hk _ _ h2⟩
  case call c =>
    obtain ⟨callee, args, tys⟩ := c
    cases callee with
    | builtin b =>
      simp only [] at h ⊢
      unfold ABuiltin at h ⊢
      split at h <;> first | exact h.elim | (obtain ⟨id, r, s', h1, h2⟩ := h; exact ⟨id, r, s', h1, hk _ _ h2⟩) | (obtain ⟨v, h1, h2⟩ := h; exact ⟨v, h1, hk _ _ h2⟩)
    | value f =>
      simp only [] at h ⊢
      split at h
      · obtain ⟨Q, h1, h2⟩ := h; exact ⟨Q, h1, fun v s' q => hk _ _ (h2 v s' q)⟩
      · exact h.elim
    | invoke r m => exact h

section
variable {P : Program} {W0 : World} {n : Nat} {ops : Array Oper}
/-- One operation, or none where its guard says so. -/
def AStep (P : Program) (ops : Array Oper) (o : Oper) (tm : Env) (s : AHeap) (K : Value → AHeap → Prop) : Prop := match o.guard with
  | none => AOp P o tm s K
  | some (j, want) => (yl ops tm j = some want → AOp P o tm s K) ∧ (yl ops tm j ≠ some want → K undef s)
theorem AStep.mono {o : Oper} {tm : Env} {s : AHeap} {K K' : Value → AHeap → Prop} (hk : ∀ v s', K v s' → K' v s') (h : AStep P ops o tm s K) : AStep P ops o tm s K' := by
  unfold AStep at *
  split
  · rename_i hg; rw [hg] at h; exact AOp.mono hk h
  · rename_i hg; rw [hg] at h; exact ⟨fun e => AOp.mono hk (h.1 e), fun e => hk _ _ (h.2 e)⟩
theorem ev_looks {tm : Env} {dst : Option Tmp} {v : Value} {x : Operand} {o : Oper} (hx : x ∈ o.op.operands) (h : ∀ d, dst = some d → d ∉ o.looksAt ops) : ev (put tm dst v) x = ev tm x := by
  cases x with
  | tmp t =>
    refine put_other fun e => h t e ?_
    exact List.mem_append_left _ (List.mem_filterMap.2 ⟨.tmp t, by simpa using hx, rfl⟩)
  | _ => rfl
theorem yl_looks {tm : Env} {dst : Option Tmp} {v : Value} {o : Oper} {j : Nat} {want : Bool} (hg : o.guard = some (j, want)) (h : ∀ d, dst = some d → d ∉ o.looksAt ops) : yl ops (put tm dst v) j = yl ops tm j := by
  unfold yl
  cases hd : (ops[j]?).bind (·.dst) with
  | none => rfl
  | some e =>
    have : put tm dst v e = tm e := put_other fun he => h e he (List.mem_append_right _ (by rw [hg]; simp [hd]))
    simp only [this]
theorem AStep.looks {o : Oper} {tm : Env} {s : AHeap} {K : Value → AHeap → Prop} {dst : Option Tmp} {v : Value} (h : ∀ d, dst = some d → d ∉ o.looksAt ops) (hh : AStep P ops o (put tm dst v) s K) : AStep P ops o tm s K := by
  unfold AStep at *
  split
  · rename_i hg; rw [hg] at hh; exact AOp.congr (fun x hx => ev_looks hx h) hh
  · rename_i j want hg
    rw [hg] at hh
    simp only [yl_looks hg h] at hh
    exact ⟨fun e => AOp.congr (fun x hx => ev_looks hx h) (hh.1 e), hh.2⟩
/-- Whatever order is picked; 'S' holds behind each operation. -/
def AAny (P : Program) (ops : Array Oper) (S : Array Bool → AHeap → Prop) (K : Env → AHeap → Prop) : Nat → Array Bool → Env → AHeap → Prop
  | 0, listed, tm, s => Region.ready .any ops listed = [] ∧ K tm s
  | f + 1, listed, tm, s => (Region.ready .any ops listed = [] → K tm s) ∧ ∀ i ∈ Region.ready .any ops listed, ∀ o, ops[i]? = some o →
      AStep P ops o tm s fun v s' => S (listed.setIfInBounds i true) s' ∧ AAny P ops S K f (listed.setIfInBounds i true) (put tm o.dst v) s'
theorem AAny.sound {S : Array Bool → AHeap → Prop} {K : Env → AHeap → Prop} {Q : Exit → Act → World → Prop} (hd : ops.toList.all (goodO n) = true) : ∀ (f : Nat) {listed : Array Bool} {tm : Env} {s : AHeap} {ρ : Ren} {a : Act} {w : World},
    AAny P ops S K f listed tm s → EnvR ρ n tm a.tmps → a.defers = [] → Sim W0 ρ s w →
    (∀ ρ' tm' s' a' w', RLe ρ ρ' → EnvR ρ' n tm' a'.tmps → a'.defers = [] → Sim W0 ρ' s' w' → K tm' s' → Q .normal a' w') → wpAny P .any ops Q f listed a w
  | 0, _, tm, s, ρ, a, w, h, he, hdf, hS, hQ => ⟨h.1, hQ ρ tm s a w (RLe.refl _) he hdf hS h.2⟩
  | f + 1, listed, tm, s, ρ, a, w, h, he, hdf, hS, hQ => by
    refine ⟨fun hr => hQ ρ tm s a w (RLe.refl _) he hdf hS (h.1 hr), fun i hi => ?_⟩
    obtain ⟨_, o, ho, _⟩ := mem_ready.1 hi
    have h1 := h.2 i hi o ho
    have hok := List.all_eq_true.1 hd o (by simpa using Array.mem_of_getElem? ho)
    simp only [goodO, Bool.and_eq_true] at hok
    have hput : ∀ dst v, (a.put dst v).defers = [] := fun dst v => by cases dst <;> exact hdf
    unfold wpOp
    rw [ho]
    simp only []
    have step : AOp P o tm s (fun v s' => S (listed.setIfInBounds i true) s' ∧ AAny P ops S K f (listed.setIfInBounds i true) (put tm o.dst v) s') → o.wp P a w (wpAny P .any ops Q f (listed.setIfInBounds i true)) Q := fun h =>
      AOp.sound h hok.2 he hS fun ρ' v v' s' w' hle hv hS' hk =>
        AAny.sound hd f hk.2 ((he.mono hle).put hok.1 hv) (hput _ _) hS' fun ρ'' tm' s'' a' w'' hle' => hQ ρ'' tm' s'' a' w'' (hle.trans hle')
    unfold AStep at h1
    cases hgd : o.guard with
    | none =>
      rw [hgd] at h1
      rw [if_pos (by simp [Region.wanted, hgd])]
      exact .inl (step h1)
    | some jw =>
      obtain ⟨j, want⟩ := jw
      rw [hgd] at h1
      simp only [] at h1
      have hw : Region.wanted o (yielded ops a.tmps) = (yl ops tm j == some want) := by simp only [Region.wanted, hgd]; rw [yielded_eq he hd]
      rw [hw]
      by_cases hy : yl ops tm j = some want
      · rw [if_pos (by simp [hy])]
        exact .inl (step (h1.1 hy))
      · rw [if_neg (by simpa using hy)]
        exact AAny.sound hd f (h1.2 hy).2 (he.put hok.1 (undef_VR ρ)) (hput _ _) hS hQ
/-- An operation that only reads what 'r' tells. -/
def Qu (P : Program) (ops : Array Oper) (r : AHeap → Prop) (o : Oper) (v : Value) (tm : Env) : Prop :=
  ((match o.guard with | none => True | some (j, want) => yl ops tm j = some want) ∧ ∀ s', r s' → AOp P o tm s' fun v' s'' => v' = v ∧ s'' = s') ∨
  ((match o.guard with | none => False | some (j, want) => yl ops tm j ≠ some want) ∧ v = undef)
theorem Qu.step {r : AHeap → Prop} {o : Oper} {v : Value} {tm : Env} {s : AHeap} {K : Value → AHeap → Prop} (h : Qu P ops r o v tm) (hs : r s) (hk : K v s) : AStep P ops o tm s K := by
  unfold AStep
  rcases h with ⟨hg, h⟩ | ⟨hg, rfl⟩
  · split
    · exact AOp.mono (fun v' s' e => by obtain ⟨rfl, rfl⟩ := e; exact hk) (h s hs)
    · rename_i e; rw [e] at hg
      exact ⟨fun _ => AOp.mono (fun v' s' e => by obtain ⟨rfl, rfl⟩ := e; exact hk) (h s hs), fun h => absurd hg h⟩
  · split
    · rename_i e; rw [e] at hg; exact hg.elim
    · rename_i e; rw [e] at hg
      exact ⟨fun h => absurd h hg, fun _ => hk⟩
theorem Qu.put {r : AHeap → Prop} {o : Oper} {v : Value} {tm : Env} {dst : Option Tmp} {u : Value} (h : Qu P ops r o v tm) (hl : ∀ d, dst = some d → d ∉ o.looksAt ops) : Qu P ops r o v (put tm dst u) := by
  have hy : ∀ j want, o.guard = some (j, want) → yl ops (Ab.put tm dst u) j = yl ops tm j := fun j want hg => yl_looks hg hl
  rcases h with ⟨hg, h⟩ | ⟨hg, rfl⟩
  · refine .inl ⟨?_, fun s' hs => AOp.congr (fun x hx => (ev_looks hx hl).symm) (h s' hs)⟩
    split
    · trivial
    · rename_i e; rw [e] at hg; rw [hy _ _ e]; exact hg
  · refine .inr ⟨?_, rfl⟩
    split
    · rename_i e; rw [e] at hg; exact hg
    · rename_i e; rw [e] at hg; rw [hy _ _ e]; exact hg
theorem put_comm {tm : Env} {d e : Option Tmp} {v u : Value} (h : ∀ x, d = some x → e ≠ some x) : put (put tm d v) e u = put (put tm e u) d v := by
  funext t
  by_cases hd : d = some t
  · rw [put_other (h t hd), hd, put_same, put_same]
  · rw [put_other hd]
    by_cases he : e = some t
    · rw [he, put_same, put_same]
    · rw [put_other he, put_other he, put_other hd]
/-- The closure of what an operation waits for. -/
def closB (ops : Array Oper) (C : List (List Nat)) : Bool := ops.toList.zipIdx.all fun (o, i) => (cC C i).all fun k => o.after.toList.any fun e => Region.binds .any e && (e.on == k || (cC C e.on).contains k)
theorem closB_spec {C : List (List Nat)} (h : closB ops C = true) {j : Nat} {oj : Oper} (hj : ops[j]? = some oj) : ∀ k ∈ cC C j, ∃ e ∈ oj.after, Region.binds .any e = true ∧ (e.on = k ∨ k ∈ cC C e.on) := fun k hk => by
  have hm : (oj, j) ∈ ops.toList.zipIdx := by rw [List.mem_zipIdx_iff_getElem?]; simpa using hj
  have h1 := List.all_eq_true.1 h _ hm
  have h2 := List.all_eq_true.1 h1 k hk
  obtain ⟨e, he, hb⟩ := List.any_eq_true.1 h2
  simp only [Bool.and_eq_true, Bool.or_eq_true, beq_iff_eq, List.contains_iff_mem] at hb
  exact ⟨e, by simpa using he, hb.1, hb.2⟩
/-- Closed: what came up has all behind it that it waits for. -/
def Dc (C : List (List Nat)) (listed : Array Bool) : Prop := ∀ j, listed.getD j false = true → ∀ k ∈ cC C j, listed.getD k false = true
theorem Dc.pre {C : List (List Nat)} (h : closB ops C = true) {listed : Array Bool} (hd : Dc C listed) {j : Nat} (hj : j ∈ Region.ready .any ops listed) : ∀ k ∈ cC C j, listed.getD k false = true := fun k hk => by
  obtain ⟨_, o, ho, hall⟩ := mem_ready.1 hj
  obtain ⟨e, he, hb, hor⟩ := closB_spec h ho k hk
  have := hall e he hb
  rcases hor with rfl | hin
  · exact this
  · exact hd _ this k hin
theorem Dc.set {C : List (List Nat)} (h : closB ops C = true) {listed : Array Bool} (hd : Dc C listed) {j : Nat} (hj : j ∈ Region.ready .any ops listed) : Dc C (listed.setIfInBounds j true) := fun i hi k hk => by
  have up : ∀ k, listed.getD k false = true → (listed.setIfInBounds j true).getD k false = true := fun k h => getD_set_true h
  by_cases e : i = j
  · subst e; exact up k (hd.pre h hj k hk)
  · rw [getD_set_ne false (fun e' => e e'.symm)] at hi; exact up k (hd i hi k hk)
/-- What 'r' asks lies there as long as none of E came up. -/
def Held (E : List Nat) (r : AHeap → Prop) (listed : Array Bool) (s : AHeap) : Prop := (∀ e ∈ E, listed.getD e false = false) → r s
theorem AAny.first {K : Env → AHeap → Prop} {r : AHeap → Prop} {E : List Nat} {C : List (List Nat)} (hC : closB ops C = true) {i : Nat} {oi : Oper} {v : Value} (hi : ops[i]? = some oi) (hiE : i ∉ E) (hEi : ∀ j ∈ E, i ∈ cC C j) : ∀ (f : Nat) (listed : Array Bool) (tm : Env) (s : AHeap),
    (∀ j oj, ops[j]? = some oj → j ≠ i → listed.getD j true = false → (∀ e ∈ oj.after, Region.binds .any e = true → e.on ≠ i) → oi.apart ops oj = true) →
    i ∈ Region.ready .any ops listed → Dc C listed → Qu P ops r oi v tm → (∀ e ∈ E, listed.getD e false = false) → r s → AAny P ops (Held E r) K f (listed.setIfInBounds i true) (put tm oi.dst v) s → AAny P ops (Held E r) K (f + 1) listed tm s := by
  intro f
  induction f with
  | zero =>
    intro listed tm s _ hrd hdc hq hE hs H
    refine ⟨fun h => (by rw [h] at hrd; cases hrd), fun j hj o ho => ?_⟩
    by_cases hji : j = i
    · subst hji
      rw [hi] at ho; obtain rfl := Option.some.inj ho
      exact hq.step hs ⟨fun _ => hs, H⟩
    · have := ready_mono hj hji
      rw [H.1] at this
      cases this
  | succ f ih =>
    intro listed tm s hfree hrd hdc hq hE hs H
    refine ⟨fun h => (by rw [h] at hrd; cases hrd), fun j hj oj hoj => ?_⟩
    have hun := (mem_ready.1 hrd).1
    by_cases hji : j = i
    · subst hji
      rw [hi] at hoj; obtain rfl := Option.some.inj hoj
      exact hq.step hs ⟨fun _ => hs, H⟩
    · have h1 := H.2 j (ready_mono hj hji) oj hoj
      obtain ⟨hjun, oj', hoj', hall⟩ := mem_ready.1 hj
      rw [hoj] at hoj'; obtain rfl := Option.some.inj hoj'
      have hnot : ∀ e ∈ oj.after, Region.binds .any e = true → e.on ≠ i := fun e he hb heq => by
        have h1 := hall e he hb
        rw [heq] at h1
        rcases Nat.lt_or_ge i listed.size with h' | h'
        · simp [h'] at hun h1; rw [hun] at h1; cases h1
        · simp [Array.getElem?_eq_none h'] at h1
      have hjE : j ∉ E := fun h => by
        have h2 := hdc.pre hC hj i (hEi j h)
        rcases Nat.lt_or_ge i listed.size with h' | h'
        · simp [h'] at hun h2; rw [hun] at h2; cases h2
        · simp [Array.getElem?_eq_none h'] at h2
      have hne : ∀ (l : Array Bool) (k : Nat), k ∉ E → (∀ e ∈ E, l.getD e false = false) → ∀ e ∈ E, (l.setIfInBounds k true).getD e false = false := fun l k hk h e he => by
        rw [getD_set_ne false (fun e' => hk (by rw [e']; exact he))]; exact h e he
      have hap := hfree j oj hoj hji hjun hnot
      obtain ⟨a1, a2, a3⟩ := Oper.apart_spec hap
      refine (AStep.looks a1 h1).mono fun u s' hk => ?_
      have hr' := hk.1 (hne _ _ hjE (hne _ _ hiE hE))
      refine ⟨fun _ => hr', ih (listed.setIfInBounds j true) (put tm oj.dst u) s' (fun k ok hk hki hun hno => ?_) (ready_mono hrd (Ne.symm hji)) (hdc.set hC hj) (hq.put a3) (hne _ _ hjE hE) hr' ?_⟩
      · refine hfree k ok hk hki ?_ hno
        by_cases hjk : j = k
        · subst hjk; exact hjun
        · rw [getD_set_ne true hjk] at hun; exact hun
      · rw [Array.setIfInBounds_comm _ _ hji, ← put_comm a2]
        exact hk.2
theorem AAny.firstE {K : Env → AHeap → Prop} {r : AHeap → Prop} {E : List Nat} {i : Nat} {oi : Oper} {v : Value} (hi : ops[i]? = some oi) (hiE : i ∉ E) : ∀ (f : Nat) (listed : Array Bool) (tm : Env) (s : AHeap),
    (∀ j oj, ops[j]? = some oj → j ≠ i → listed.getD j true = false → (∀ e ∈ oj.after, Region.binds .any e = true → e.on ≠ i) → oi.apart ops oj = true) →
    i ∈ Region.ready .any ops listed → Qu P ops (fun _ => True) oi v tm → Held E r listed s → AAny P ops (Held E r) K f (listed.setIfInBounds i true) (put tm oi.dst v) s → AAny P ops (Held E r) K (f + 1) listed tm s := by
  intro f
  have hne : ∀ (l : Array Bool) (k : Nat), k ∉ E → (∀ e ∈ E, (l.setIfInBounds k true).getD e false = false) → ∀ e ∈ E, l.getD e false = false := fun l k hk h e he => by
    have := h e he
    rw [getD_set_ne false (fun e' => hk (by rw [e']; exact he))] at this; exact this
  have hnu : ∀ (l : Array Bool) (k : Nat), k ∉ E → (∀ e ∈ E, l.getD e false = false) → ∀ e ∈ E, (l.setIfInBounds k true).getD e false = false := fun l k hk h e he => by
    rw [getD_set_ne false (fun e' => hk (by rw [e']; exact he))]; exact h e he
  induction f with
  | zero =>
    intro listed tm s _ hrd hq hs H
    refine ⟨fun h => (by rw [h] at hrd; cases hrd), fun j hj o ho => ?_⟩
    by_cases hji : j = i
    · subst hji
      rw [hi] at ho; obtain rfl := Option.some.inj ho
      exact hq.step trivial ⟨fun he => hs (hne _ _ hiE he), H⟩
    · have := ready_mono hj hji
      rw [H.1] at this
      cases this
  | succ f ih =>
    intro listed tm s hfree hrd hq hs H
    refine ⟨fun h => (by rw [h] at hrd; cases hrd), fun j hj oj hoj => ?_⟩
    have hun := (mem_ready.1 hrd).1
    by_cases hji : j = i
    · subst hji
      rw [hi] at hoj; obtain rfl := Option.some.inj hoj
      exact hq.step trivial ⟨fun he => hs (hne _ _ hiE he), H⟩
    · have h1 := H.2 j (ready_mono hj hji) oj hoj
      obtain ⟨hjun, oj', hoj', hall⟩ := mem_ready.1 hj
      rw [hoj] at hoj'; obtain rfl := Option.some.inj hoj'
      have hnot : ∀ e ∈ oj.after, Region.binds .any e = true → e.on ≠ i := fun e he hb heq => by
        have h1 := hall e he hb
        rw [heq] at h1
        rcases Nat.lt_or_ge i listed.size with h' | h'
        · simp [h'] at hun h1; rw [hun] at h1; cases h1
        · simp [Array.getElem?_eq_none h'] at h1
      have hap := hfree j oj hoj hji hjun hnot
      obtain ⟨a1, a2, a3⟩ := Oper.apart_spec hap
      refine (AStep.looks a1 h1).mono fun u s' hk => ?_
      have hr' : Held E r (listed.setIfInBounds j true) s' := fun he => hk.1 (by rw [Array.setIfInBounds_comm _ _ (Ne.symm hji)]; exact hnu _ _ hiE he)
      refine ⟨hr', ih (listed.setIfInBounds j true) (put tm oj.dst u) s' (fun k ok hk hki hun hno => ?_) (ready_mono hrd (Ne.symm hji)) (hq.put a3) hr' ?_⟩
      · refine hfree k ok hk hki ?_ hno
        by_cases hjk : j = k
        · subst hjk; exact hjun
        · rw [getD_set_ne true hjk] at hun; exact hun
      · rw [Array.setIfInBounds_comm _ _ hji, ← put_comm a2]
        exact hk.2
/-- May 'i' be taken first? -/
def takeB (ops : Array Oper) (E : List Nat) (C : List (List Nat)) (listed : Array Bool) (i : Nat) : Bool :=
  (Region.ready .any ops listed).contains i && Region.free .any ops listed i && !E.contains i && (E.all fun j => !(listed.getD j false) && (cC C j).contains i)
theorem takeB_spec {E : List Nat} {C : List (List Nat)} {listed : Array Bool} {i : Nat} (ht : takeB ops E C listed i = true) : i ∈ Region.ready .any ops listed ∧ Region.free .any ops listed i = true ∧ i ∉ E ∧ ∀ j ∈ E, listed.getD j false = false ∧ i ∈ cC C j := by
  unfold takeB at ht
  simp only [Bool.and_eq_true, Bool.not_eq_true', List.all_eq_true] at ht
  obtain ⟨⟨⟨h1, h2⟩, h3⟩, h4⟩ := ht
  exact ⟨by simpa using h1, h2, by simpa using h3, fun j hj => ⟨(h4 j hj).1, by simpa using (h4 j hj).2⟩⟩
/-- One order: (number, 0: it writes; 1: it only reads; 2: it doesn't look at the memory). -/
def schedB (ops : Array Oper) (E : List Nat) (C : List (List Nat)) : List (Nat × Nat) → Array Bool → Bool
  | [], listed => (Region.ready .any ops listed).isEmpty
  | (i, 0) :: l, listed => Region.ready .any ops listed == [i] && schedB ops E C l (listed.setIfInBounds i true)
  | (i, 1) :: l, listed => takeB ops E C listed i && schedB ops E C l (listed.setIfInBounds i true)
  | (i, _ + 2) :: l, listed => ((Region.ready .any ops listed).contains i && Region.free .any ops listed i && !E.contains i) && schedB ops E C l (listed.setIfInBounds i true)
/-- A chain of operations in that order: those that only read do so wherever 'r' holds. -/
def AOpsP (P : Program) (ops : Array Oper) (E : List Nat) (r : AHeap → Prop) (K : Env → AHeap → Prop) : List (Nat × Nat) → Env → AHeap → Prop
  | [], tm, s => K tm s
  | (i, 0) :: l, tm, s => ∀ o, ops[i]? = some o → AStep P ops o tm s fun v s' => (E.contains i = false → r s') ∧ AOpsP P ops E r K l (put tm o.dst v) s'
  | (i, 1) :: l, tm, s => ∀ o, ops[i]? = some o → ∃ v, Qu P ops r o v tm ∧ AOpsP P ops E r K l (put tm o.dst v) s
  | (i, _ + 2) :: l, tm, s => ∀ o, ops[i]? = some o → ∃ v, Qu P ops (fun _ => True) o v tm ∧ AOpsP P ops E r K l (put tm o.dst v) s
theorem AOpsP.any {E : List Nat} {C : List (List Nat)} (hC : closB ops C = true) {r : AHeap → Prop} {K : Env → AHeap → Prop} : ∀ (l : List (Nat × Nat)) {listed : Array Bool} {tm : Env} {s : AHeap} {f : Nat}, l.length ≤ f → schedB ops E C l listed = true → Held E r listed s → listed.size = ops.size → Dc C listed → AOpsP P ops E r K l tm s → AAny P ops (Held E r) K f listed tm s
  | [], listed, tm, s, f, hf, hsc, hs, hz, hdc, h => by
    have : Region.ready .any ops listed = [] := by simpa [schedB] using hsc
    cases f with
    | zero => exact ⟨this, h⟩
    | succ f => exact ⟨fun _ => h, fun i hi => by rw [this] at hi; cases hi⟩
  | (i, 0) :: l, listed, tm, s, f, hf, hsc, hs, hz, hdc, h => by
    obtain ⟨f, rfl⟩ : ∃ g, f = g + 1 := ⟨f - 1, by simp only [List.length_cons] at hf; omega⟩
    simp only [schedB, Bool.and_eq_true, beq_iff_eq] at hsc
    refine ⟨fun e => (by rw [hsc.1] at e; cases e), fun j hj o ho => ?_⟩
    have hm := hj
    rw [hsc.1, List.mem_singleton] at hj
    subst hj
    have hjz : j < listed.size := by rw [hz]; exact (Array.getElem?_eq_some_iff.1 ho).1
    refine (h o ho).mono fun v s' hk => ?_
    have hh : Held E r (listed.setIfInBounds j true) s' := fun he => hk.1 (by
      cases hc : E.contains j with
      | false => rfl
      | true =>
        have := he j (by simpa using hc)
        simp [hjz] at this)
    exact ⟨hh, AOpsP.any hC l (by simp only [List.length_cons] at hf; omega) hsc.2 hh (by simpa using hz) (hdc.set hC hm) hk.2⟩
  | (i, 1) :: l, listed, tm, s, f, hf, hsc, hs, hz, hdc, h => by
    obtain ⟨f, rfl⟩ : ∃ g, f = g + 1 := ⟨f - 1, by simp only [List.length_cons] at hf; omega⟩
    simp only [schedB, Bool.and_eq_true] at hsc
    obtain ⟨hm, h2, h3, h4⟩ := takeB_spec hsc.1
    obtain ⟨_, o, ho, _⟩ := mem_ready.1 hm
    obtain ⟨v, hq, hr⟩ := h o ho
    have hrs := hs fun e he => (h4 e he).1
    exact AAny.first hC ho h3 (fun j hj => (h4 j hj).2) f listed tm s (Region.free_spec ho h2) hm hdc hq (fun e he => (h4 e he).1) hrs
      (AOpsP.any hC l (by simp only [List.length_cons] at hf; omega) hsc.2 (fun _ => hrs) (by simpa using hz) (hdc.set hC hm) hr)
  | (i, _ + 2) :: l, listed, tm, s, f, hf, hsc, hs, hz, hdc, h => by
    obtain ⟨f, rfl⟩ : ∃ g, f = g + 1 := ⟨f - 1, by simp only [List.length_cons] at hf; omega⟩
    simp only [schedB, Bool.and_eq_true, Bool.not_eq_true'] at hsc
    have hm : i ∈ Region.ready .any ops listed := by simpa using hsc.1.1.1
    have hiE : i ∉ E := by simpa using hsc.1.2
    obtain ⟨_, o, ho, _⟩ := mem_ready.1 hm
    obtain ⟨v, hq, hr⟩ := h o ho
    refine AAny.firstE ho hiE f listed tm s (Region.free_spec ho hsc.1.1.2) hm hq hs
      (AOpsP.any hC l (by simp only [List.length_cons] at hf; omega) hsc.2 (fun he => hs fun e h => ?_) (by simpa using hz) (hdc.set hC hm) hr)
    have := he e h
    rw [getD_set_ne false (fun e' => hiE (by rw [e']; exact h))] at this; exact this
/-- What lies there but for some names. -/
def del (s : AHeap) (ids : List Nat) : AHeap := fun i => if i ∈ ids then none else s i
theorem AWp.sched {n : Nat} {Q : AExit → Env → AHeap → Prop} {tm : Env} {s : AHeap} {id : Nat} {l : List Oper} (order : List (Nat × Nat)) (E : List Nat) (C : List (List Nat)) (r : AHeap → Prop) (hm : P.follows .mixedOrders = true) (hC : closB l.toArray C = true) (hs : schedB l.toArray E C order (Array.replicate l.toArray.size false) = true) (hl : Nat.ble order.length l.length = true) (hr : r s)
    (h : AOpsP P l.toArray E r (fun tm' s' => Q .normal tm' s') order tm s) : AWp P n (.region id l.toArray true) Q tm s := fun hg W0 ρ a w he hd hS => by
  refine wp_region_any hm ?_
  refine AAny.sound (n := n) (S := Held E r) (W0 := W0) (ρ := ρ) (tm := tm) (s := s) hg _ (AOpsP.any (P := P) hC order (by simpa using Nat.le_of_ble_eq_true hl) hs (fun _ => hr) (by simp) (fun j hj => by simp [Array.getElem?_replicate] at hj; split at hj <;> simp at hj) h) he hd hS.drew ?_
  intro ρ' tm' s' a' w' hle he' hd' hS' hk
  exact ⟨.normal, tm', s', ρ', rfl, hk, hle, he', hd', hS'⟩
end
end Go.Proofs.Ytoiplbackllgfaa.Ab

/- From a contract over the abstract memory to the statement's row: a law that comes back with true. -/
namespace Go.Proofs.Ytoiplbackllgfaa.Ab
set_option linter.unusedVariables false
set_option linter.unusedSimpArgs false
set_option linter.unusedSectionVars false
open Go.RowKit

/-- No names. -/
def noH : AHeap := fun _ => none
def noR : Ren := fun _ => none
theorem Sim.empty (W : World) : Sim W noR noH W := by
  refine ⟨Below.refl _ _, fun _ _ h => ?_, fun _ _ h => ?_, fun _ _ _ _ _ _ _ h => ?_, ⟨0, fun _ _ => rfl⟩⟩ <;> cases h
theorem ACall.law {P : Program} {f : FuncId} {args args' : List Value} {s s' : AHeap} {W : World} {ρ : Ren} (h : ACall P f args s (.bool true) s') (hS : Sim W ρ s W) (ha : All2 (VR ρ) args args') :
    Calls P f args'.toArray W fun e w' => e = .returned (.bool true) ∧ Below W.heap.size W w' := by
  refine (h.2 W ρ W args' ha hS).mono ?_
  rintro e w' ⟨ρ', v', rfl, hv, _, hS'⟩
  refine ⟨?_, hS'.below⟩
  cases hv with
  | v h => cases h with | v h => cases h with | a h => cases h; rfl
end Go.Proofs.Ytoiplbackllgfaa.Ab

/- Lists in memory that have room behind them, and what an append does to them, whatever the room. -/
namespace Go.Proofs.Ytoiplbackllgfaa.Ab
set_option linter.unusedVariables false
set_option linter.unusedSimpArgs false
set_option linter.unusedSectionVars false
open Go.RowKit

/-- A slice of n elements (of es cells each), the cells that it tells, in a block of its own. -/
inductive WAt (s : AHeap) (es : Nat) : Value → Option Nat → Nat → List Value → Prop
  | nil : WAt s es (.slice none 0 0) none 0 []
  | blk {o n c : Nat} {cs xs : List Value} (h : At s o (.cells true es cs)) (hn : n ≤ c) (hc : cs.length = c * es) (hx : cs.take (n * es) = xs) : WAt s es (.slice (some ⟨o, 0, none⟩) n c) (some o) n xs

theorem WAt.of_at {s s' : AHeap} {es : Nat} {v : Value} {on : Option Nat} {n : Nat} {xs : List Value} (h : WAt s es v on n xs) (hs : ∀ o, on = some o → s' o = s o) : WAt s' es v on n xs := by
  cases h with
  | nil => exact .nil
  | blk h a b c => exact .blk (by unfold At; rw [hs _ rfl]; exact h.eq) a b c
theorem WAt.len {s : AHeap} {es : Nat} {v : Value} {on : Option Nat} {n : Nat} {xs : List Value} (h : WAt s es v on n xs) : xs.length = n * es := by
  cases h with
  | nil => simp
  | @blk o n c cs xs h a b d =>
    rw [← d, List.length_take, b]
    have := Nat.mul_le_mul_right es a
    omega
theorem WAt.lt {s : AHeap} {es : Nat} {v : Value} {on : Option Nat} {n M : Nat} {xs : List Value} (h : WAt s es v on n xs) (hT : Top M s) : ∀ o, on = some o → o < M := by
  cases h with
  | nil => intro o e; cases e
  | blk h a b c => intro o e; obtain rfl := Option.some.inj e; exact hT.lt h
/-- The whole of a new block. -/
theorem WAt.new {s : AHeap} {es o n : Nat} {xs : List Value} (h : At s o (.cells true es xs)) (hl : xs.length = n * es) : WAt s es (.slice (some ⟨o, 0, none⟩) n n) (some o) n xs :=
  .blk h (Nat.le_refl _) hl (by rw [← hl, List.take_length])
theorem WAt.src {s : AHeap} {es : Nat} {v : Value} {on : Option Nat} {n : Nat} {xs : List Value} (h : WAt s es v on n xs) : Src s es v n xs := by
  cases h with
  | nil => exact Src.nil
  | @blk o n c cs xs h a b d =>
    by_cases hn : n = 0
    · subst hn; rw [Nat.zero_mul, List.take_zero] at d; subst d; exact Src.none
    · have := Nat.mul_le_mul_right es a
      exact Src.sl h hn (by omega) (by rw [List.drop_zero, d])

/-- What an append of m elements leaves: the slice, and the blocks that change. -/
def wapp (s : AHeap) (es m N : Nat) (xs ys : List Value) : Value → Value × List (Nat × ABlk)
  | .slice (some a) n c => match s a.block with
    | some (.cells _ _ cs) => if n + m ≤ c then (.slice (some a) (n + m) c, [(a.block, .cells true es (splice cs (n * es) ys))])
      else (.slice (some ⟨N, 0, none⟩) (n + m) (n + m), [(a.block, .dead), (N, .cells true es (xs ++ ys))])
    | _ => (.slice (some ⟨N, 0, none⟩) m m, [(N, .cells true es ys)])
  | _ => (.slice (some ⟨N, 0, none⟩) m m, [(N, .cells true es ys)])
theorem splice_take {cs ys : List Value} {k : Nat} (h : k + ys.length ≤ cs.length) : (splice cs k ys).take (k + ys.length) = cs.take k ++ ys := by
  induction ys generalizing cs k with
  | nil => simp [splice]
  | cons y ys ih =>
    rw [splice, List.length_cons, show k + (ys.length + 1) = (k + 1) + ys.length from by omega, ih (by rw [List.length_set]; simp only [List.length_cons] at h; omega)]
    have hk : k < cs.length := by simp only [List.length_cons] at h; omega
    rw [List.take_add_one, List.getElem?_set_self hk, List.take_set_of_le (Nat.le_refl _)]
    simp
theorem splice_all_pl {p : Value → Bool} {c l : List Value} {off : Nat} (hc : c.all p = true) (hl : l.all p = true) : (splice c off l).all p = true := by
  induction l generalizing c off with
  | nil => exact hc
  | cons v l ih =>
    simp only [List.all_cons, Bool.and_eq_true] at hl
    rw [splice]
    refine ih ?_ hl.2
    rw [List.all_eq_true] at hc ⊢
    intro x hx
    rcases List.mem_or_eq_of_mem_set hx with h | h
    · exact hc x h
    · rw [h]; exact hl.1
theorem updH_append (d : List (Nat × ABlk)) : ∀ (s : AHeap) (e : List (Nat × ABlk)), updH s (d ++ e) = updH (updH s d) e := by
  induction d with
  | nil => intro s e; rfl
  | cons p d ih => intro s e; obtain ⟨i, b⟩ := p; show updH (s.set i b) (d ++ e) = _; rw [ih]; rfl
theorem updH_snoc (d : List (Nat × ABlk)) (s : AHeap) (i : Nat) (b : ABlk) : updH s (d ++ [(i, b)]) = (updH s d).set i b := updH_append d s [(i, b)]
structure Wapp (P : Program) (t1 t2 : TypeId) (s : AHeap) (es m N : Nat) (xs ys : List Value) (v : Value) (on : Option Nat) (n : Nat) (v2 : Value) (d : List (Nat × ABlk)) : Prop where
  names : ∀ i ∈ d.map (·.1), on = some i ∨ i = N
  ats : ∀ s' : AHeap, ∀ p ∈ d, At (updH s' d) p.1 p.2
  pl : xs.all pl1 = true → ys.all pl1 = true → (∀ o cs, on = some o → At s o (.cells true es cs) → cs.all pl1 = true) → ∀ p ∈ d, (∃ cs, p.2 = .cells true es cs ∧ cs.all pl1 = true) ∨ p.2 = .dead
  at2 : ∀ s', (∀ i, on = some i → s' i = s i) → s' N = none → ∃ on2, WAt (updH s' d) es v2 on2 (n + m) (xs ++ ys) ∧ (on2 = on ∨ on2 = some N)
  op : ∀ {s' : AHeap} {tm : Env} {x y : Operand} {vy : Value} {dd : Option Tmp} {t : TypeId} {p : String} {af : Array Edge} {gd : Option (Nat × Bool)} {K : Value → AHeap → Prop}, (∀ i, on = some i → s' i = s i) → s' N = none →
    Ev tm x v → Ev tm y vy → Src s' es vy m ys → K v2 (updH s' d) → AOp P ⟨dd, .call ⟨.builtin .append, #[x, y], #[t1, t2]⟩, t, p, af, gd⟩ tm s' K
theorem WAt.app {P : Program} {t1 t2 e : TypeId} {s1 b1 : Nat} {z1 : Value} {ke : TK} {es eb : Nat} {ez : Value} {k2 : TK} {s2 b2 : Nat} {z2 : Value} [h1 : HasTD P t1 ⟨.slice e, s1, b1, z1⟩] [he : HasTD P e ⟨ke, es, eb, ez⟩] [h2 : HasTD P t2 ⟨k2, s2, b2, z2⟩]
    {s : AHeap} {v : Value} {on : Option Nat} {n m N : Nat} {xs ys : List Value} (h : WAt s es v on n xs) (hk : srcOk k2 = true) (hm : m ≠ 0) (hl : ys.length = m * es) (hz : ez.cells.size = es ∧ eb ≠ 0) (hb : (n + m) * eb ≤ 140737488355328) (hN : ∀ o, on = some o → o ≠ N) :
    ∃ v2 d, Wapp P t1 t2 s es m N xs ys v on n v2 d := by
  cases h with
  | nil =>
    refine ⟨.slice (some ⟨N, 0, none⟩) m m, [(N, .cells true es ys)], by simp, fun s' p hp => by rw [List.mem_singleton.1 hp]; exact At.hit, fun _ h _ p hp => by rw [List.mem_singleton.1 hp]; exact .inl ⟨_, rfl, h⟩, fun s' _ hf => ⟨some N, ?_, .inr rfl⟩, fun _ hf hx hy hs hK => ?_⟩
    · have : WAt (s'.set N (.cells true es ys)) es (.slice (some ⟨N, 0, none⟩) m m) (some N) m ys := WAt.new At.hit hl
      simpa [updH] using this
    · exact O.appendNil N hx hy hs hk hm hl hz (by rw [Nat.zero_add] at hb; exact hb) hf hK
  | @blk o n c cs xs ha hnc hc hx =>
    have hne := hN o rfl
    by_cases hr : n + m ≤ c
    · have hle := Nat.mul_le_mul_right es hr
      rw [Nat.add_mul] at hle
      refine ⟨.slice (some ⟨o, 0, none⟩) (n + m) c, [(o, .cells true es (splice cs (n * es) ys))], by simp, fun s' p hp => by rw [List.mem_singleton.1 hp]; exact At.hit, fun _ h hcs p hp => by rw [List.mem_singleton.1 hp]; exact .inl ⟨_, rfl, splice_all_pl (hcs o cs rfl ha) h⟩, fun s' hs' hf => ⟨some o, ?_, .inl rfl⟩, fun hs' hf hx hy hs hK => ?_⟩
      · refine WAt.blk (cs := splice cs (n * es) ys) (by show At (s'.set o _) o _; exact At.hit) hr (by rw [splice_length]; exact hc) ?_
        rw [← hx, Nat.add_mul, ← hl, splice_take (by omega)]
      · refine O.appendRoom hx hy hs (cs := cs) (by unfold At; rw [hs' o rfl]; exact ha.eq) hk hm hr hl (by rw [Nat.add_mul]; omega) ?_
        rw [Nat.zero_add]; exact hK
    · have hle := Nat.mul_le_mul_right es hnc
      refine ⟨.slice (some ⟨N, 0, none⟩) (n + m) (n + m), [(o, .dead), (N, .cells true es (xs ++ ys))], by simp, fun s' p hp => (by
        rcases List.mem_cons.1 hp with e | e
        · rw [e]; exact At.miss hne At.hit
        · rw [List.mem_singleton.1 e]; exact At.hit), fun h h' _ p hp => (by
        rcases List.mem_cons.1 hp with e | e
        · rw [e]; exact .inr rfl
        · rw [List.mem_singleton.1 e]; exact .inl ⟨_, rfl, by rw [List.all_append, h, h']; rfl⟩), fun s' hs' hf => ⟨some N, ?_, .inr rfl⟩, fun hs' hf hx' hy hs hK => ?_⟩
      · refine WAt.new (by show At ((s'.set o _).set N _) N _; exact At.hit) ?_
        rw [List.length_append, hl, ← hx, List.length_take, hc, Nat.add_mul, Nat.min_eq_left hle]
      · exact O.appendMove N hx' hy hs (cs := cs) (by unfold At; rw [hs' o rfl]; exact ha.eq) hk hm hr hl hz hb hf (by omega) (by rw [List.drop_zero]; exact hx) hK

theorem Keeps.fr {s s1 : AHeap} {v : Value} (h : Fr s1 s []) (hv : nmR (fun i => (s i).isSome = true) v) : Keeps s s1 s v := Keeps.same (fun i b hb => h i (by simp) b hb) hv
theorem plB.nm {D : Nat → Prop} {x : Value} (h : plB x = true) : nmB D x := by
  cases x with
  | agg cs => simp only [plB, List.all_eq_true] at h; exact fun x hx => pl1.nm (h x hx)
  | _ => (simp only [nmB]; exact pl1.nm h)
theorem plR.nm {D : Nat → Prop} {x : Value} (h : plR x = true) : nmR D x := by
  cases x with
  | tuple cs => simp only [plR, List.all_eq_true] at h; exact fun x hx => plB.nm (h x hx)
  | _ => (simp only [nmR]; exact plB.nm h)
/-- All of 's' is there yet, and what changed or is new speaks of names that are there. -/
structure Ext (s1 s : AHeap) : Prop where
  dom : ∀ id, (s id).isSome = true → (s1 id).isSome = true
  cl : ∀ id b, s1 id = some b → s id = some b ∨ b.nm fun i => (s1 i).isSome = true
theorem Ext.refl (s : AHeap) : Ext s s := ⟨fun _ h => h, fun _ _ h => .inl h⟩
theorem Ext.trans {a b c : AHeap} (h : Ext a b) (h2 : Ext b c) : Ext a c :=
  ⟨fun i hi => h.dom i (h2.dom i hi), fun i x hx => (h.cl i x hx).elim (fun e => (h2.cl i x e).imp id fun e => ABlk.nm_imp (fun k hk => h.dom k hk) e) .inr⟩
theorem Ext.set {s1 s : AHeap} {id : Nat} {b : ABlk} (h : Ext s1 s) (hb : b.nm fun i => (s1 i).isSome = true ∨ i = id) : Ext (s1.set id b) s := by
  have hd : ∀ i, (s1 i).isSome = true ∨ i = id → ((s1.set id b) i).isSome = true := fun i hi => by
    by_cases e : i = id
    · subst e; rw [AHeap.set_same]; rfl
    · rw [AHeap.set_other _ _ e]; exact hi.resolve_right e
  refine ⟨fun i hi => hd i (.inl (h.dom i hi)), fun i c hc => ?_⟩
  by_cases e : i = id
  · subst e; rw [AHeap.set_same] at hc; obtain rfl := Option.some.inj hc; exact .inr (ABlk.nm_imp hd hb)
  · rw [AHeap.set_other _ _ e] at hc; exact (h.cl i c hc).imp _root_.id fun e => ABlk.nm_imp (fun k hk => hd k (.inl hk)) e
theorem Ext.upd : ∀ (d : List (Nat × ABlk)) {s1 s : AHeap}, Ext s1 s → (∀ p ∈ d, p.2.nm fun i => (s1 i).isSome = true) → Ext (updH s1 d) s
  | [], _, _, h, _ => h
  | (id, b) :: d, s1, s, h, hd => by
    refine Ext.upd d (s1 := s1.set id b) (h.set (ABlk.nm_imp (fun _ => .inl) (hd _ (List.mem_cons_self ..)))) (fun p hp => ABlk.nm_imp (fun i hi => ?_) (hd p (List.mem_cons_of_mem _ hp)))
    by_cases e : i = id
    · subst e; rw [AHeap.set_same]; rfl
    · rw [AHeap.set_other _ _ e]; exact hi
theorem Keeps.ext {s s1 : AHeap} {v : Value} (h : Ext s1 s) (hv : nmR (fun i => (s1 i).isSome = true) v) : Keeps s s1 s1 v := ⟨fun _ _ h => h, h.dom, h.cl, hv⟩
/-! structs in memory, told whole -/
def plOf (P : Program) (t : TypeId) : Option (List (Nat × Nat)) := match tdOf P t with
  | some td => match td.k with
    | .struct fs => fldPlaces P fs
    | _ => none
  | none => none
class HasPl (P : Program) (t : TypeId) (pl : outParam (List (Nat × Nat))) : Prop where
  is : plOf P t = some pl
namespace O
section
variable {P : Program} {tm : Env} {s : AHeap} {K : Value → AHeap → Prop} {d : Option Tmp} {t : TypeId} {p : String} {af : Array Edge} {gd : Option (Nat × Bool)}
theorem boxA (id : Nat) {x : Operand} {e : TypeId} {l : List Value} (hx : Ev tm x (.agg l.toArray)) (hid : Free s id) (h : K (.pointer (some ⟨id, 0, none⟩)) (s.set id (.cells true 1 l))) :
    AOp P ⟨d, .box e x, t, p, af, gd⟩ tm s K := box id hx hid rfl h
theorem box1 (id : Nat) {x : Operand} {e : TypeId} {v : Value} (hx : Ev tm x v) (hid : Free s id) (hv : v.cells = #[v]) (hn : notTup v = true) (h : K (.pointer (some ⟨id, 0, none⟩)) (s.set id (.cells true 1 [v]))) :
    AOp P ⟨d, .box e x, t, p, af, gd⟩ tm s K := box id hx hid hn (by rw [hv]; exact h)
theorem allocA (id : Nat) {e : TypeId} {k : TK} {sz by_ : Nat} {l : List Value} [h1 : HasTD P e ⟨k, sz, by_, .agg l.toArray⟩] (hid : Free s id) (hp : l.all pl1 = true) (h : K (.pointer (some ⟨id, 0, none⟩)) (s.set id (.cells true 1 l))) :
    AOp P ⟨d, .alloc e, t, p, af, gd⟩ tm s K := alloc (td := ⟨k, sz, by_, .agg l.toArray⟩) id hid hp h
theorem alloc1 (id : Nat) {e : TypeId} {k : TK} {sz by_ : Nat} {z : Value} [h1 : HasTD P e ⟨k, sz, by_, z⟩] (hid : Free s id) (hp : plA z = true) (h : K (.pointer (some ⟨id, 0, none⟩)) (s.set id (.cells true 1 [z]))) :
    AOp P ⟨d, .alloc e, t, p, af, gd⟩ tm s K := by
  have hc : z.cells = #[z] := by unfold plA at hp; split at hp <;> first | rfl | cases hp
  have hb : plB z = true := by unfold plA at hp; split at hp <;> first | rfl | cases hp
  exact alloc (td := ⟨k, sz, by_, z⟩) id hid hb (by show K _ (s.set id (.cells true 1 z.cells.toList)); rw [hc]; exact h)
theorem loadAll {x : Operand} {xt : TypeId} {td : TD} [h1 : HasTD P xt td] {id sz : Nat} {rw : Bool} {c : List Value} (ha : td.agg = true) (hx : Ev tm x (.pointer (some ⟨id, 0, none⟩))) (hs : At s id (.cells rw sz c))
    (hl : c.length = td.size) (h : K (.agg c.toArray) s) : AOp P ⟨d, .load xt x, t, p, af, gd⟩ tm s K :=
  loadAgg hx hs ha (by rw [hl]; omega) (by rw [List.drop_zero, ← hl, List.take_length]) h
theorem splice_set {c l : List Value} {off : Nat} (h : off + l.length ≤ c.length) : splice c off l = c.take off ++ l ++ c.drop (off + l.length) := by
  induction l generalizing c off with
  | nil => simp [splice]
  | cons v l ih =>
    rw [splice, ih (by rw [List.length_set]; simp only [List.length_cons] at h; omega)]
    have hk : off < c.length := by simp only [List.length_cons] at h; omega
    rw [List.take_add_one, List.getElem?_set_self hk, List.take_set_of_le (Nat.le_refl _), List.drop_set_of_lt (by omega)]
    simp [Nat.add_assoc, Nat.add_comm 1]
theorem splice_all {c l : List Value} (h : l.length = c.length) : splice c 0 l = l := by
  rw [splice_set (by omega), List.take_zero, List.nil_append, Nat.zero_add, h, List.drop_length, List.append_nil]
theorem storeAll {x y : Operand} {xt : TypeId} {td : TD} [h1 : HasTD P xt td] {id sz : Nat} {c l : List Value} (hz : td.agg = true) (hx : Ev tm x (.pointer (some ⟨id, 0, none⟩))) (hy : Ev tm y (.agg l.toArray)) (hs : At s id (.cells true sz c)) (hl : l.length = td.size)
    (hc : c.length = td.size) (h : K undef (s.set id (.cells true sz l))) : AOp P ⟨d, .store xt x y, t, p, af, gd⟩ tm s K :=
  storeAgg hx hy hs hl (by omega) (by rw [splice_all (by omega)]; exact h)
/-- A store whose outcome is spelled out. -/
theorem storeAggN {x y : Operand} {xt : TypeId} {td : TD} [h1 : HasTD P xt td] {id off sz : Nat} {c l c' : List Value} (hz : td.agg = true) (hx : Ev tm x (.pointer (some ⟨id, off, none⟩))) (hy : Ev tm y (.agg l.toArray)) (hs : At s id (.cells true sz c)) (hl : l.length = td.size)
    (ho : Lt (off + td.size) (c.length + 1)) (hc : splice c off l = c') (h : K undef (s.set id (.cells true sz c'))) : AOp P ⟨d, .store xt x y, t, p, af, gd⟩ tm s K :=
  storeAgg hx hy hs hl (by unfold Lt at ho; omega) (by rw [hc]; exact h)
theorem storeN {x y : Operand} {xt : TypeId} {td : TD} [h1 : HasTD P xt td] {id off sz : Nat} {c c' : List Value} {v : Value} (hz : td.size = 1) (hx : Ev tm x (.pointer (some ⟨id, off, none⟩))) (hy : Ev tm y v) (hs : At s id (.cells true sz c)) (hv : v.cells = #[v])
    (hn : notTup v = true) (ho : Lt off c.length) (hc : c.set off v = c') (h : K undef (s.set id (.cells true sz c'))) : AOp P ⟨d, .store xt x y, t, p, af, gd⟩ tm s K := by
  subst hc; exact storeG hz hx hy hs hv hn ho h
theorem loadAggN {x : Operand} {xt : TypeId} {td : TD} [h1 : HasTD P xt td] {id off sz : Nat} {rw : Bool} {c l : List Value} (ha : td.agg = true) (hx : Ev tm x (.pointer (some ⟨id, off, none⟩))) (hs : At s id (.cells rw sz c))
    (ho : Lt (off + td.size) (c.length + 1)) (hl : (c.drop off).take td.size = l) (h : K (.agg l.toArray) s) : AOp P ⟨d, .load xt x, t, p, af, gd⟩ tm s K := loadAgg hx hs ha (by unfold Lt at ho; omega) hl h
theorem maxG {x y : Operand} {ts : Array TypeId} {k k' : IntKind} {a b : Int} (hx : Ev tm x (.int k a)) (hy : Ev tm y (.int k' b)) (h : GK (decide (b > a)) true (K (.int k b) s) (K (.int k a) s)) :
    AOp P ⟨d, .call ⟨.builtin .max, #[x, y], ts⟩, t, p, af, gd⟩ tm s K := max2 hx hy (by
  unfold GK at h
  by_cases e : b > a
  · rw [if_pos e]; exact h.1 (decide_eq_true e)
  · rw [if_neg e]; exact h.2 (decide_eq_false e))
theorem minG {x y : Operand} {ts : Array TypeId} {k k' : IntKind} {a b : Int} (hx : Ev tm x (.int k a)) (hy : Ev tm y (.int k' b)) (h : GK (decide (b < a)) true (K (.int k b) s) (K (.int k a) s)) :
    AOp P ⟨d, .call ⟨.builtin .min, #[x, y], ts⟩, t, p, af, gd⟩ tm s K := min2 hx hy (by
  unfold GK at h
  by_cases e : b < a
  · rw [if_pos e]; exact h.1 (decide_eq_true e)
  · rw [if_neg e]; exact h.2 (decide_eq_false e))
theorem remG {x y : Operand} {ty : TypeId} {xt : TypeId} {kk : IntKind} {sz by_ : Nat} {z : Value} [_h1 : HasTD P xt ⟨.int kk, sz, by_, z⟩] {k : IntKind} {a b : Int} (hx : Ev tm x (.int k a)) (hy : Ev tm y (.int k b)) (hb : Rg (b ≠ 0)) (h : K (.int k (a.tmod b)) s) :
    AOp P ⟨d, .binOp .rem xt x y ty, t, p, af, gd⟩ tm s K := int hx hy (by unfold Rg at hb; simp only [aint]; rw [if_pos ⟨trivial, hb⟩]) h
theorem remK {x y : Operand} {ty : TypeId} {xt : TypeId} {k : IntKind} {a b r : Int} (hr : a.tmod b = r) (hx : Ev tm x (.int k a)) (hy : Ev tm y (.int k b)) (hb : Rg (b ≠ 0)) (h : K (.int k r) s) :
    AOp P ⟨d, .binOp .rem xt x y ty, t, p, af, gd⟩ tm s K := int hx hy (by unfold Rg at hb; simp only [aint]; rw [if_pos ⟨trivial, hb⟩, hr]) h
/-! parts of slices -/
section
variable {xt e : TypeId} {sz by_ eb es : Nat} {z z1 : Value} {ke : TK} {x lo hi mx : Operand} {id off n c : Nat} {sp : Option Nat} {rw : Bool} {cs : List Value} {l h m : Int} {k1 k2 k3 : IntKind}
theorem sliceLH [h1 : HasTD P xt ⟨.slice e, sz, by_, z⟩] [h2 : HasTD P e ⟨ke, es, eb, z1⟩] (hx : Ev tm x (.slice (some ⟨id, off, sp⟩) n c)) (hs : At s id (.cells rw es cs)) (e1 : Ev tm lo (.int k1 l)) (e2 : Ev tm hi (.int k2 h)) (hr : Rg (0 ≤ l ∧ l ≤ h ∧ h ≤ c))
    (hk : K (.slice (some ⟨id, off + l.toNat * es, sp⟩) (h.toNat - l.toNat) (c - l.toNat)) s) : AOp P ⟨d, .slice xt x (some lo) (some hi) none, t, p, af, gd⟩ tm s K := by
  unfold Rg at hr; unfold At at hs
  refine slice hx (.some e1) (.some e2) .none ?_ hk
  simp only [aslice, h1.is, h2.is, hs, bnd, if_pos hr.1, if_pos (show 0 ≤ h by omega)]
  rw [if_pos ⟨trivial, by omega, by omega, by omega, rfl⟩]; rfl
theorem sliceL [h1 : HasTD P xt ⟨.slice e, sz, by_, z⟩] [h2 : HasTD P e ⟨ke, es, eb, z1⟩] (hx : Ev tm x (.slice (some ⟨id, off, sp⟩) n c)) (hs : At s id (.cells rw es cs)) (e1 : Ev tm lo (.int k1 l)) (hr : Rg (0 ≤ l ∧ l ≤ n ∧ n ≤ c))
    (hk : K (.slice (some ⟨id, off + l.toNat * es, sp⟩) (n - l.toNat) (c - l.toNat)) s) : AOp P ⟨d, .slice xt x (some lo) none none, t, p, af, gd⟩ tm s K := by
  unfold Rg at hr; unfold At at hs
  refine slice hx (.some e1) .none .none ?_ hk
  simp only [aslice, h1.is, h2.is, hs, bnd, if_pos hr.1]
  rw [if_pos ⟨trivial, by omega, by omega, by omega, rfl⟩]; rfl
theorem sliceH [h1 : HasTD P xt ⟨.slice e, sz, by_, z⟩] [h2 : HasTD P e ⟨ke, es, eb, z1⟩] (hx : Ev tm x (.slice (some ⟨id, off, sp⟩) n c)) (hs : At s id (.cells rw es cs)) (e2 : Ev tm hi (.int k2 h)) (hr : Rg (0 ≤ h ∧ h ≤ c))
    (hk : K (.slice (some ⟨id, off, sp⟩) h.toNat c) s) : AOp P ⟨d, .slice xt x none (some hi) none, t, p, af, gd⟩ tm s K := by
  unfold Rg at hr; unfold At at hs
  refine slice hx .none (.some e2) .none ?_ hk
  simp only [aslice, h1.is, h2.is, hs, bnd, if_pos hr.1]
  rw [if_pos ⟨trivial, by omega, by omega, by omega, rfl⟩, Nat.zero_mul, Nat.add_zero, Nat.sub_zero, Nat.sub_zero]; rfl
theorem sliceLHM [h1 : HasTD P xt ⟨.slice e, sz, by_, z⟩] [h2 : HasTD P e ⟨ke, es, eb, z1⟩] (hx : Ev tm x (.slice (some ⟨id, off, sp⟩) n c)) (hs : At s id (.cells rw es cs)) (e1 : Ev tm lo (.int k1 l)) (e2 : Ev tm hi (.int k2 h)) (e3 : Ev tm mx (.int k3 m)) (hr : Rg (0 ≤ l ∧ l ≤ h ∧ h ≤ m ∧ m ≤ c))
    (hk : K (.slice (some ⟨id, off + l.toNat * es, some 0⟩) (h.toNat - l.toNat) (m.toNat - l.toNat)) s) : AOp P ⟨d, .slice xt x (some lo) (some hi) (some mx), t, p, af, gd⟩ tm s K := by
  unfold Rg at hr; unfold At at hs
  refine slice hx (.some e1) (.some e2) (.some e3) ?_ hk
  simp only [aslice, h1.is, h2.is, hs, bnd, if_pos hr.1, if_pos (show 0 ≤ h by omega), if_pos (show 0 ≤ m by omega)]
  rw [if_pos ⟨trivial, by omega, by omega, by omega, rfl⟩]; rfl
theorem clear0 [h1 : HasTD P xt ⟨.slice e, sz, by_, z⟩] {a : Addr} (hx : Ev tm x (.slice (some a) 0 c)) (hk : K undef s) : AOp P ⟨d, .call ⟨.builtin .clear, #[x], #[xt]⟩, t, p, af, gd⟩ tm s K :=
  ⟨s, by rw [hx.eq]; simp only [aclear, h1.is, if_true], hk⟩
theorem clearG [h1 : HasTD P xt ⟨.slice e, sz, by_, z⟩] [h2 : HasTD P e ⟨ke, es, eb, z1⟩] (hx : Ev tm x (.slice (some ⟨id, off, sp⟩) n c)) (hs : At s id (.cells true es cs)) (hn : Rg (n ≠ 0)) (hb : Lt (off + n * es) (cs.length + 1)) (hz : z1.cells.size = es ∧ plB z1 = true)
    (hk : K undef (s.set id (.cells true es (splice cs off (zrep n z1.cells.toList))))) : AOp P ⟨d, .call ⟨.builtin .clear, #[x], #[xt]⟩, t, p, af, gd⟩ tm s K := by
  unfold Rg at hn; unfold Lt at hb; unfold At at hs
  refine ⟨_, ?_, hk⟩
  rw [hx.eq]
  simp only [aclear, h1.is, h2.is, hs, if_neg hn]
  rw [if_pos ⟨trivial, hz.1, by omega, hz.2⟩]
end
/-- Aggregates put together, spelled out. -/
theorem buildS {xt : TypeId} {parts : Array (Nat × Operand)} {l : List (Nat × Value)} {fs : List (Nat × TypeId)} {sz by_ : Nat} {z c0 c : List Value} {pl : List (Nat × Nat)} [h1 : HasTD P xt ⟨.struct fs, sz, by_, .agg z.toArray⟩] [h2 : HasPl P xt pl] (hp : EvP tm parts.toList l) (hz : z.all pl1 = true)
    (hc : afill (fun i => pl[i]?) z l = some c0) (hn : c0 = c) (h : K (.agg c.toArray) s) : AOp P ⟨d, .build xt parts, t, p, af, gd⟩ tm s K := by
  subst hn
  refine build hp (v := .agg c0.toArray) ?_ h
  have h3 := h2.is
  unfold plOf at h3
  rw [h1.is] at h3
  simp only at h3
  unfold abuild
  rw [h1.is]
  simp only [h3]
  rw [if_pos (by simpa [plB] using hz)]
  show (afill (fun i => pl[i]?) z l).map _ = _
  rw [hc]; rfl
theorem buildR {xt e : TypeId} {parts : Array (Nat × Operand)} {l : List (Nat × Value)} {n sz by_ : Nat} {z c0 c : List Value} {te : TD} [h1 : HasTD P xt ⟨.array n e, sz, by_, .agg z.toArray⟩] [h2 : HasTD P e te] (hp : EvP tm parts.toList l) (hz : z.all pl1 = true)
    (hc : afill (fun i => some (i * te.size, te.size)) z l = some c0) (hn : c0 = c) (h : K (.agg c.toArray) s) : AOp P ⟨d, .build xt parts, t, p, af, gd⟩ tm s K := by
  subst hn
  refine build hp (v := .agg c0.toArray) ?_ h
  unfold abuild
  rw [h1.is]
  simp only [h2.is]
  rw [if_pos (by simpa [plB] using hz)]
  show (afill (fun i => some (i * te.size, te.size)) z l).map _ = _
  rw [hc]; rfl
/-- A slice of one struct. -/
theorem build1A (id : Nat) {xt e : TypeId} {sz by_ eb es : Nat} {z z1 : Value} {l : List Value} {ke : TK} {x : Operand} [h1 : HasTD P xt ⟨.slice e, sz, by_, z⟩] [h2 : HasTD P e ⟨ke, es, eb, z1⟩] (hx : Ev tm x (.agg l.toArray)) (hl : l.length = es) (hz : z1.cells.size = es ∧ plB z1 = true) (hes : es ≤ 16777216) (hid : Free s id)
    (h : K (.slice (some ⟨id, 0, none⟩) 1 1) (s.set id (.cells true es l))) : AOp P ⟨d, .buildSlice xt 1 #[(0, x)], t, p, af, gd⟩ tm s K := by
  refine buildSlice id (te := ⟨ke, es, eb, z1⟩) (l := [(0, .agg l.toArray)]) (c := l) ?_ hid ⟨hz.1, by show 1 * es ≤ _; omega, hz.2⟩ ?_ h
  · exact EvP.cons hx EvP.nil
  · have hzl : (zrep 1 z1.cells.toList).length = es := by rw [zrep_length, Array.length_toList, hz.1, Nat.one_mul]
    simp only [afill]
    rw [if_pos ⟨by show (Value.agg l.toArray).cells.size = es; simpa [Value.cells] using hl, by rw [hzl]; omega, rfl⟩]
    congr 1
    show splice _ (0 * es) l = l
    rw [Nat.zero_mul]
    exact splice_all (by rw [hzl, hl])
end
end O

theorem EvR.cellA {P : Program} {tm : Env} {s : AHeap} {r : List ResultVar} {l : List Value} {a : Tmp} {t : TypeId} {id sz : Nat} {rw : Bool} {c : List Value} {td : TD} [h1 : HasTD P t td] (ha : td.agg = true) (h : Ev tm (.tmp a) (.pointer (some ⟨id, 0, none⟩)))
    (hs : At s id (.cells rw sz c)) (hl : c.length = td.size) (rest : EvR P tm s r l) : EvR P tm s (.cell a t :: r) (.agg c.toArray :: l) :=
  .cell h (by unfold At at hs; simp only [aload, h1.is, hs, ha, if_true]; rw [if_pos (by omega), List.drop_zero, ← hl, List.take_length]) rest
theorem EvR.cell1 {P : Program} {tm : Env} {s : AHeap} {r : List ResultVar} {l : List Value} {a : Tmp} {t : TypeId} {id sz : Nat} {rw : Bool} {v : Value} {c : List Value} {td : TD} [h1 : HasTD P t td] (ha : td.agg = false) (h : Ev tm (.tmp a) (.pointer (some ⟨id, 0, none⟩)))
    (hs : At s id (.cells rw sz (v :: c))) (rest : EvR P tm s r l) : EvR P tm s (.cell a t :: r) (v :: l) :=
  .cell h (by unfold At at hs; simp [aload, h1.is, hs, ha]) rest
theorem D.upd {P : Program} {ops : Array Oper} {C : List (List Nat)} {W : List (Nat × List Nat)} {tm : Env} {s : AHeap} {K : Env → AHeap → Prop} {i : Nat} {o : Op} {r : List Oper} {dd : Option Tmp} {t : TypeId} {p : String} {af : Array Edge} {v : Value}
    (d : List (Nat × ABlk)) (hw : ∀ id ∈ d.map (·.1), id ∈ own W i)
    (h : ∀ t', AgreeOff (others C W i) t' s → AOp P ⟨dd, o, t, p, af, none⟩ tm t' fun v' t'' => v' = v ∧ t'' = updH t' d) (hr : AOpsD P ops C W (i + 1) r (put tm dd v) (updH s d) K) : AOpsD P ops C W i (⟨dd, o, t, p, af, none⟩ :: r) tm s K :=
  AOpsD.write v d trivial hw h hr
/-- An operation that waits for all that write, or that they wait for. -/
theorem D.q0t {P : Program} {ops : Array Oper} {C : List (List Nat)} {W : List (Nat × List Nat)} {tm : Env} {s : AHeap} {K : Env → AHeap → Prop} {i : Nat} {o : Op} {r : List Oper} {d : Option Tmp} {t : TypeId} {p : String} {af : Array Edge} {v : Value}
    (hw : own W i = []) (hot : others C W i = []) (h : AOp P ⟨d, o, t, p, af, none⟩ tm s fun v' t'' => v' = v ∧ t'' = s) (hr : AOpsD P ops C W (i + 1) r (put tm d v) s K) : AOpsD P ops C W i (⟨d, o, t, p, af, none⟩ :: r) tm s K := by
  refine AOpsD.quiet v trivial (fun t' ha => ?_) hr
  have : t' = s := by funext i; exact ha i (by rw [hot]; simp)
  subst this; exact h
theorem D.w1t {P : Program} {ops : Array Oper} {C : List (List Nat)} {W : List (Nat × List Nat)} {tm : Env} {s : AHeap} {K : Env → AHeap → Prop} {i : Nat} {o : Op} {r : List Oper} {d : Option Tmp} {t : TypeId} {p : String} {af : Array Edge} {v : Value}
    {id : Nat} {b : ABlk} (hw : own W i = [id]) (hot : others C W i = []) (h : AOp P ⟨d, o, t, p, af, none⟩ tm s fun v' t'' => v' = v ∧ t'' = s.set id b) (hr : AOpsD P ops C W (i + 1) r (put tm d v) (s.set id b) K) : AOpsD P ops C W i (⟨d, o, t, p, af, none⟩ :: r) tm s K := by
  refine AOpsD.write v [(id, b)] trivial (by rw [hw]; simp) (fun t' ha => ?_) hr
  have : t' = s := by funext i; exact ha i (by rw [hot]; simp)
  subst this; exact h
theorem D.sett {P : Program} {ops : Array Oper} {C : List (List Nat)} {W : List (Nat × List Nat)} {tm : Env} {s : AHeap} {K : Env → AHeap → Prop} {i : Nat} {o : Op} {r : List Oper} {d : Option Tmp} {t : TypeId} {p : String} {af : Array Edge} {v : Value}
    {id : Nat} {b : ABlk} (hw : (own W i).contains id = true) (hot : others C W i = []) (h : AOp P ⟨d, o, t, p, af, none⟩ tm s fun v' t'' => v' = v ∧ t'' = s.set id b) (hr : AOpsD P ops C W (i + 1) r (put tm d v) (s.set id b) K) : AOpsD P ops C W i (⟨d, o, t, p, af, none⟩ :: r) tm s K := by
  refine AOpsD.write v [(id, b)] trivial (by simpa using hw) (fun t' ha => ?_) hr
  have : t' = s := by funext i; exact ha i (by rw [hot]; simp)
  subst this; exact h
/-- An append in a drawing region: what is known of the memory behind it. -/
theorem D.anyk {P : Program} {ops : Array Oper} {C : List (List Nat)} {W : List (Nat × List Nat)} {tm : Env} {s : AHeap} {K : Env → AHeap → Prop} {i : Nat} {o : Op} {r : List Oper} {dd : Option Tmp} {t : TypeId} {p : String} {af : Array Edge} {v : Value}
    (d : List (Nat × ABlk)) (M : AHeap → Prop) (hw : ∀ id ∈ d.map (·.1), id ∈ own W i) (hot : others C W i = [])
    (h : AOp P ⟨dd, o, t, p, af, none⟩ tm s fun v' t'' => v' = v ∧ t'' = updH s d) (hM : M (updH s d)) (hr : ∀ s3, M s3 → AOpsD P ops C W (i + 1) r (put tm dd v) s3 K) : AOpsD P ops C W i (⟨dd, o, t, p, af, none⟩ :: r) tm s K := by
  refine AOpsD.write v d trivial hw (fun t' ha => ?_) (hr _ hM)
  have : t' = s := by funext i; exact ha i (by rw [hot]; simp)
  subst this; exact h
theorem AllAt.of {s1 s' : AHeap} : ∀ {d : List (Nat × ABlk)}, (∀ p ∈ d, At s1 p.1 p.2 ∧ p.2.nm fun i => (s' i).isSome = true) → AllAt s1 s' d
  | [], _ => trivial
  | p :: d, h => ⟨h p (by simp), AllAt.of fun q hq => h q (by simp [hq])⟩
theorem pl_nm {d : List (Nat × ABlk)} {es : Nat} (h : ∀ p ∈ d, (∃ cs, p.2 = .cells true es cs ∧ cs.all pl1 = true) ∨ p.2 = .dead) : ∀ (D : Nat → Prop), ∀ p ∈ d, p.2.nm D := fun D p hp => by
  rcases h p hp with ⟨cs, e, hc⟩ | e
  · rw [e]; exact nm_scal hc
  · rw [e]; trivial
theorem pl_at {s : AHeap} {d : List (Nat × ABlk)} {es : Nat} (h : ∀ p ∈ d, (∃ cs, p.2 = .cells true es cs ∧ cs.all pl1 = true) ∨ p.2 = .dead) {o : Nat} {cs : List Value} (ha : At (updH s d) o (.cells true es cs)) (hs : At s o (.cells true es cs) → cs.all pl1 = true) : cs.all pl1 = true := by
  by_cases hd : o ∈ d.map (·.1)
  · obtain ⟨b, h1, h2⟩ := updH_get (s := s) hd
    have := ha.eq; rw [h2] at this
    obtain rfl := Option.some.inj this
    rcases h _ h1 with ⟨cs', e, hc⟩ | e
    · simp only at e; injection e with _ _ e; rw [e]; exact hc
    · cases e
  · unfold At at ha; rw [updH_out hd] at ha; exact hs ha
theorem WAt.nm {s : AHeap} {es : Nat} {v : Value} {on : Option Nat} {n : Nat} {xs : List Value} {D : Nat → Prop} (h : WAt s es v on n xs) (hD : ∀ o, on = some o → D o) : nm1 D v := by
  cases h with
  | nil => trivial
  | blk h a b c => exact hD _ rfl
theorem WAt.val {s : AHeap} {es : Nat} {v : Value} {on : Option Nat} {n : Nat} {xs : List Value} (h : WAt s es v on n xs) : v.cells = #[v] ∧ notTup v = true := by
  cases h <;> exact ⟨rfl, rfl⟩
theorem WAt.some {s : AHeap} {es : Nat} {v : Value} {on : Option Nat} {n : Nat} {xs : List Value} (h : WAt s es v on n xs) : ∀ o, on = Option.some o → (s o).isSome = true := by
  cases h with
  | nil => intro o e; cases e
  | blk h a b c => intro o e; obtain rfl := Option.some.inj e; rw [h.eq]; rfl
theorem At.upd {s : AHeap} {d : List (Nat × ABlk)} {i : Nat} {b : ABlk} (h : At s i b) (hi : i ∉ d.map (·.1)) : At (updH s d) i b := by unfold At at *; rw [updH_out hi]; exact h
theorem Fr.upd {s1 s : AHeap} {ids : List Nat} {d : List (Nat × ABlk)} (h : Fr s1 s ids) (hd : ∀ i ∈ d.map (·.1), i ∈ ids ∨ s i = none) : Fr (updH s1 d) s ids := fun i hi c hc => by
  rw [updH_out (fun hm => (hd i hm).elim hi (fun e => by rw [e] at hc; cases hc))]; exact h i hi c hc
theorem D.set2 {P : Program} {ops : Array Oper} {C : List (List Nat)} {W : List (Nat × List Nat)} {tm : Env} {s : AHeap} {K : Env → AHeap → Prop} {i : Nat} {o : Op} {r : List Oper} {d : Option Tmp} {t : TypeId} {p : String} {af : Array Edge} {v : Value}
    {id id' : Nat} {b b' : ABlk} (hw : (own W i).contains id = true ∧ (own W i).contains id' = true) (hot : others C W i = []) (h : AOp P ⟨d, o, t, p, af, none⟩ tm s fun v' t'' => v' = v ∧ t'' = (s.set id b).set id' b')
    (hr : AOpsD P ops C W (i + 1) r (put tm d v) ((s.set id b).set id' b') K) : AOpsD P ops C W i (⟨d, o, t, p, af, none⟩ :: r) tm s K := by
  refine AOpsD.write v [(id, b), (id', b')] trivial (by simpa using hw) (fun t' ha => ?_) hr
  have : t' = s := by funext i; exact ha i (by rw [hot]; simp)
  subst this; exact h
/-- New blocks, all under names from M on. -/
theorem grow {s sb : AHeap} {M M2 : Nat} {d : List (Nat × ABlk)} (hM : Top M s) (hF : Fr s sb []) (h2 : M ≤ M2) (hd : ∀ p ∈ d, M ≤ p.1 ∧ p.1 < M2 ∧ ∀ D, p.2.nm D) :
    Ext (updH s d) s ∧ Top M2 (updH s d) ∧ Fr (updH s d) sb [] ∧ ∀ i, i < M → updH s d i = s i := by
  have hout : ∀ i, (i < M ∨ M2 ≤ i) → i ∉ d.map (·.1) := fun i hi hm => by
    obtain ⟨p, hp, rfl⟩ := List.mem_map.1 hm
    have := hd p hp; omega
  refine ⟨(Ext.refl s).upd d fun p hp => (hd p hp).2.2 _, fun i hi => ?_, fun i hi c hc => ?_, fun i hi => updH_out (hout i (.inl hi))⟩
  · rw [updH_out (hout i (.inr hi))]; exact hM i (by omega)
  · have hs := hF i hi c hc
    have : i < M := Nat.lt_of_not_le fun e => by rw [hM i e] at hs; cases hs
    rw [updH_out (hout i (.inl this))]; exact hs
/-- The same, with a memory that is told by the names that change. -/
theorem D.anyt {P : Program} {ops : Array Oper} {C : List (List Nat)} {W : List (Nat × List Nat)} {tm : Env} {s : AHeap} {K : Env → AHeap → Prop} {i : Nat} {o : Op} {r : List Oper} {dd : Option Tmp} {t : TypeId} {p : String} {af : Array Edge} {v : Value}
    (d : List (Nat × ABlk)) (hw : ∀ id ∈ d.map (·.1), id ∈ own W i) (hot : others C W i = [])
    (h : AOp P ⟨dd, o, t, p, af, none⟩ tm s fun v' t'' => v' = v ∧ t'' = updH s d) (hr : AOpsD P ops C W (i + 1) r (put tm dd v) (updH s d) K) : AOpsD P ops C W i (⟨dd, o, t, p, af, none⟩ :: r) tm s K := by
  refine AOpsD.write v d trivial hw (fun t' ha => ?_) hr
  have : t' = s := by funext i; exact ha i (by rw [hot]; simp)
  subst this; exact h
end Go.Proofs.Ytoiplbackllgfaa.Ab

/- The rules of the walk under short names, their side conditions by kind. -/
namespace Go.Proofs.Ytoiplbackllgfaa.Ab
set_option linter.unusedVariables false
set_option linter.unusedSimpArgs false
set_option linter.unusedSectionVars false
open Go.RowKit
/-- To be spelled out. -/
def Nm (a b : List Value) : Prop := a = b
theorem Nm.mk {a b : List Value} (h : a = b) : Nm a b := h
namespace Qz
theorem tk {c : List Value} {n : Nat} (h : c.length = n) : (c.drop 0).take n = c := by rw [List.drop_zero, ← h, List.take_length]
theorem sp {c l : List Value} (h : l.length = c.length) : splice c 0 l = l := O.splice_all h
section
variable {P : Program} {tm : Env} {s : AHeap} {K : Value → AHeap → Prop} {d : Option Tmp} {t : TypeId} {p : String} {af : Array Edge} {gd : Option (Nat × Bool)}
theorem ld {x : Operand} {xt : TypeId} {td : TD} [h1 : HasTD P xt td] {id off sz : Nat} {rw : Bool} {c : List Value} {v : Value} (ha : td.agg = false) (hx : Ev tm x (.pointer (some ⟨id, off, none⟩))) (hs : At s id (.cells rw sz c))
    (hv : Get c off v) (h : K v s) : AOp P ⟨d, .load xt x, t, p, af, gd⟩ tm s K := O.loadG ha hx hs hv h
theorem lda {x : Operand} {xt : TypeId} {td : TD} [h1 : HasTD P xt td] {id off sz : Nat} {rw : Bool} {c l : List Value} (ha : td.agg = true) (hx : Ev tm x (.pointer (some ⟨id, off, none⟩))) (hs : At s id (.cells rw sz c))
    (ho : Lt (off + td.size) (c.length + 1)) (hl : Nm ((c.drop off).take td.size) l) (h : K (.agg l.toArray) s) : AOp P ⟨d, .load xt x, t, p, af, gd⟩ tm s K := O.loadAggN ha hx hs ho hl h
theorem st {x y : Operand} {xt : TypeId} {td : TD} [h1 : HasTD P xt td] {id off sz : Nat} {c c' : List Value} {v : Value} (ha : td.agg = false) (hz : td.size = 1) (hx : Ev tm x (.pointer (some ⟨id, off, none⟩))) (hy : Ev tm y v) (hs : At s id (.cells true sz c)) (hv : v.cells = #[v])
    (hn : notTup v = true) (ho : Lt off c.length) (hc : Nm (c.set off v) c') (h : K undef (s.set id (.cells true sz c'))) : AOp P ⟨d, .store xt x y, t, p, af, gd⟩ tm s K := O.storeN hz hx hy hs hv hn ho hc h
theorem sta {x y : Operand} {xt : TypeId} {td : TD} [h1 : HasTD P xt td] {id off sz : Nat} {c l c' : List Value} (ha : td.agg = true) (hx : Ev tm x (.pointer (some ⟨id, off, none⟩))) (hy : Ev tm y (.agg l.toArray)) (hs : At s id (.cells true sz c)) (hl : l.length = td.size)
    (ho : Lt (off + td.size) (c.length + 1)) (hc : Nm (splice c off l) c') (h : K undef (s.set id (.cells true sz c'))) : AOp P ⟨d, .store xt x y, t, p, af, gd⟩ tm s K := O.storeAggN ha hx hy hs hl ho hc h
theorem bs {xt : TypeId} {parts : Array (Nat × Operand)} {l : List (Nat × Value)} {fs : List (Nat × TypeId)} {sz by_ : Nat} {z c0 c : List Value} {pl : List (Nat × Nat)} [h1 : HasTD P xt ⟨.struct fs, sz, by_, .agg z.toArray⟩] [h2 : HasPl P xt pl] (hz : z.all pl1 = true) (hp : EvP tm parts.toList l)
    (hc : afill (fun i => pl[i]?) z l = some c0) (hn : Nm c0 c) (h : K (.agg c.toArray) s) : AOp P ⟨d, .build xt parts, t, p, af, gd⟩ tm s K := O.buildS hp hz hc hn h
theorem br {xt e : TypeId} {parts : Array (Nat × Operand)} {l : List (Nat × Value)} {n sz by_ : Nat} {z c0 c : List Value} {te : TD} [h1 : HasTD P xt ⟨.array n e, sz, by_, .agg z.toArray⟩] [h2 : HasTD P e te] (hz : z.all pl1 = true) (hp : EvP tm parts.toList l)
    (hc : afill (fun i => some (i * te.size, te.size)) z l = some c0) (hn : Nm c0 c) (h : K (.agg c.toArray) s) : AOp P ⟨d, .build xt parts, t, p, af, gd⟩ tm s K := O.buildR hp hz hc hn h
theorem ck {g : FuncId} {args : Array Operand} {ts : Array TypeId} {l : List Value} {v : Value} {s' : AHeap} (ha : Evs tm args.toList l)
    (hc : ACall P g l s v s') (h : K v s') : AOp P ⟨d, .call ⟨.value (.func g), args, ts⟩, t, p, af, gd⟩ tm s K := O.callF ha hc h
theorem xt {x : Operand} {i : Nat} {l : List Value} {v : Value} (hx : Ev tm x (.tuple l.toArray)) (hv : Get l i v) (h : K v s) : AOp P ⟨d, .extract x i, t, p, af, gd⟩ tm s K := O.extract hx (by unfold Get at hv; exact hv) h
/-- A box or a variable, under the first free name. -/
theorem bx {x : Operand} {e : TypeId} {l : List Value} {M : Nat} (hT : Top M s) (hx : Ev tm x (.agg l.toArray)) (h : K (.pointer (some ⟨M, 0, none⟩)) (s.set M (.cells true 1 l))) : AOp P ⟨d, .box e x, t, p, af, gd⟩ tm s K := O.boxA M hx (hT.free (Nat.le_refl _)) h
theorem bx1 {x : Operand} {e : TypeId} {v : Value} {M : Nat} (hT : Top M s) (hx : Ev tm x v) (hv : v.cells = #[v]) (hn : notTup v = true) (h : K (.pointer (some ⟨M, 0, none⟩)) (s.set M (.cells true 1 [v]))) : AOp P ⟨d, .box e x, t, p, af, gd⟩ tm s K := O.box1 M hx (hT.free (Nat.le_refl _)) hv hn h
theorem al {e : TypeId} {k : TK} {sz by_ M : Nat} {l : List Value} [h1 : HasTD P e ⟨k, sz, by_, .agg l.toArray⟩] (hp : l.all pl1 = true) (hT : Top M s) (h : K (.pointer (some ⟨M, 0, none⟩)) (s.set M (.cells true 1 l))) : AOp P ⟨d, .alloc e, t, p, af, gd⟩ tm s K := O.allocA M (hT.free (Nat.le_refl _)) hp h
theorem al1 {e : TypeId} {k : TK} {sz by_ M : Nat} {z : Value} [h1 : HasTD P e ⟨k, sz, by_, z⟩] (hp : plA z = true) (hT : Top M s) (h : K (.pointer (some ⟨M, 0, none⟩)) (s.set M (.cells true 1 [z]))) : AOp P ⟨d, .alloc e, t, p, af, gd⟩ tm s K := O.alloc1 M (hT.free (Nat.le_refl _)) hp h
/-- The same, under a name that is told. -/
theorem bxN (M : Nat) {x : Operand} {e : TypeId} {l : List Value} (hf : Free s M) (hx : Ev tm x (.agg l.toArray)) (h : K (.pointer (some ⟨M, 0, none⟩)) (s.set M (.cells true 1 l))) : AOp P ⟨d, .box e x, t, p, af, gd⟩ tm s K := O.boxA M hx hf h
end
end Qz
attribute [irreducible] Nm
/-! ### drawn regions in one order (AbD) -/
def Sub (b s : AHeap) : Prop := ∀ i c, b i = some c → s i = some c
theorem At.sd {s0 t : AHeap} {ids : List Nat} {i : Nat} {b : ABlk} (ha : Sub (del s0 ids) t) (hn : i ∉ ids) (h : At s0 i b) : At t i b := At.var (ha i b (by unfold del; rw [if_neg hn]; exact h.eq))
theorem Sub.del (s : AHeap) (ids : List Nat) : Sub (del s ids) s := fun i c h => by
  unfold Ab.del at h
  split at h
  · cases h
  · exact h
theorem Sub.setI {s t : AHeap} {ids : List Nat} {N : Nat} {c : ABlk} (h : Sub (Ab.del s ids) t) (hn : N ∈ ids) : Sub (Ab.del s ids) (t.set N c) := fun i x hx => by
  rw [AHeap.set_other _ _ (fun e => by subst e; unfold Ab.del at hx; rw [if_pos hn] at hx; cases hx)]; exact h i x hx
theorem Sub.setF {s t : AHeap} {ids : List Nat} {N : Nat} {c : ABlk} (h : Sub (Ab.del s ids) t) (hn : Free s N) : Sub (Ab.del s ids) (t.set N c) := fun i x hx => by
  rw [AHeap.set_other _ _ (fun e => by subst e; have := Sub.del s ids i x hx; rw [hn.eq] at this; cases this)]; exact h i x hx
/-- One step that only reads. -/
def QStep (P : Program) (r : AHeap → Prop) (o : Oper) (tm : Env) (C : Value → Prop) : Prop := ∃ v, (∀ s', r s' → AOp P o tm s' fun v' s'' => v' = v ∧ s'' = s') ∧ C v
/-- Behind a step that writes. -/
def NX (E : List Nat) (i : Nat) (r : AHeap → Prop) (s : AHeap) (C : Prop) : Prop := (E.contains i = false → r s) ∧ C
theorem K.aopsP {P : Program} {ops : Array Oper} {E : List Nat} {r : AHeap → Prop} {K : Env → AHeap → Prop} {l : List (Nat × Nat)} {tm : Env} {s : AHeap} (h : AOpsP P ops E r K l tm s) : AOpsP P ops E r K l tm s := h
namespace Pd
section
variable {P : Program} {ops : Array Oper} {E : List Nat} {r : AHeap → Prop} {K : Env → AHeap → Prop} {l : List (Nat × Nat)} {tm : Env} {s : AHeap} {i : Nat} {d : Option Tmp} {o : Op} {t : TypeId} {p : String} {af : Array Edge}
theorem nil (h : K tm s) : AOpsP P ops E r K [] tm s := h
theorem qs {tm : Env} {o : Oper} {C : Value → Prop} {v : Value} (h : ∀ s', r s' → AOp P o tm s' fun v' s'' => v' = v ∧ s'' = s') (hc : C v) : QStep P r o tm C := ⟨v, h, hc⟩
theorem q (hi : ops[i]? = some ⟨d, o, t, p, af, none⟩) (h : QStep P r ⟨d, o, t, p, af, none⟩ tm fun v => AOpsP P ops E r K l (put tm d v) s) : AOpsP P ops E r K ((i, 1) :: l) tm s := fun o' ho => by
  rw [hi] at ho; obtain rfl := Option.some.inj ho
  obtain ⟨v, h1, h2⟩ := h
  exact ⟨v, .inl ⟨trivial, h1⟩, h2⟩
theorem qG {j : Nat} {want b : Bool} {e : Tmp} (hi : ops[i]? = some ⟨d, o, t, p, af, some (j, want)⟩) (hd : (ops[j]?).bind (·.dst) = some e) (hb : Ev tm (.tmp e) (.bool b))
    (h : GK b want (QStep P r ⟨d, o, t, p, af, none⟩ tm fun v => AOpsP P ops E r K l (put tm d v) s) (AOpsP P ops E r K l (put tm d undef) s)) : AOpsP P ops E r K ((i, 1) :: l) tm s := fun o' ho => by
  rw [hi] at ho; obtain rfl := Option.some.inj ho
  have hy : yl ops tm j = some b := by
    have : tm e = .bool b := hb.eq
    unfold yl; rw [hd]; show (match tm e with | .bool b => some b | _ => none) = some b; rw [this]
  unfold GK at h
  by_cases hw : b = want
  · obtain ⟨v, h1, h2⟩ := h.1 hw
    exact ⟨v, .inl ⟨by rw [← hw]; exact hy, h1⟩, h2⟩
  · refine ⟨undef, .inr ⟨by show yl ops tm j ≠ some want; rw [hy]; simpa using hw, rfl⟩, h.2 (by cases b <;> cases want <;> simp_all)⟩
theorem qU {j : Nat} {want : Bool} {e : Tmp} (hi : ops[i]? = some ⟨d, o, t, p, af, some (j, want)⟩) (hd : (ops[j]?).bind (·.dst) = some e) (hb : Ev tm (.tmp e) undef)
    (h : AOpsP P ops E r K l (put tm d undef) s) : AOpsP P ops E r K ((i, 1) :: l) tm s := fun o' ho => by
  rw [hi] at ho; obtain rfl := Option.some.inj ho
  have hy : yl ops tm j = none := by
    have : tm e = undef := hb.eq
    unfold yl; rw [hd]; show (match tm e with | .bool b => some b | _ => none) = none; rw [this]; rfl
  exact ⟨undef, .inr ⟨by show yl ops tm j ≠ some want; rw [hy]; simp, rfl⟩, h⟩
theorem z (hi : ops[i]? = some ⟨d, o, t, p, af, none⟩) (h : QStep P (fun _ => True) ⟨d, o, t, p, af, none⟩ tm fun v => AOpsP P ops E r K l (put tm d v) s) : AOpsP P ops E r K ((i, 2) :: l) tm s := fun o' ho => by
  rw [hi] at ho; obtain rfl := Option.some.inj ho
  obtain ⟨v, h1, h2⟩ := h
  exact ⟨v, .inl ⟨trivial, h1⟩, h2⟩
theorem zG {j : Nat} {want b : Bool} {e : Tmp} (hi : ops[i]? = some ⟨d, o, t, p, af, some (j, want)⟩) (hd : (ops[j]?).bind (·.dst) = some e) (hb : Ev tm (.tmp e) (.bool b))
    (h : GK b want (QStep P (fun _ => True) ⟨d, o, t, p, af, none⟩ tm fun v => AOpsP P ops E r K l (put tm d v) s) (AOpsP P ops E r K l (put tm d undef) s)) : AOpsP P ops E r K ((i, 2) :: l) tm s := fun o' ho => by
  rw [hi] at ho; obtain rfl := Option.some.inj ho
  have hy : yl ops tm j = some b := by
    have : tm e = .bool b := hb.eq
    unfold yl; rw [hd]; show (match tm e with | .bool b => some b | _ => none) = some b; rw [this]
  unfold GK at h
  by_cases hw : b = want
  · obtain ⟨v, h1, h2⟩ := h.1 hw
    exact ⟨v, .inl ⟨by rw [← hw]; exact hy, h1⟩, h2⟩
  · refine ⟨undef, .inr ⟨by show yl ops tm j ≠ some want; rw [hy]; simpa using hw, rfl⟩, h.2 (by cases b <;> cases want <;> simp_all)⟩
theorem zU {j : Nat} {want : Bool} {e : Tmp} (hi : ops[i]? = some ⟨d, o, t, p, af, some (j, want)⟩) (hd : (ops[j]?).bind (·.dst) = some e) (hb : Ev tm (.tmp e) undef)
    (h : AOpsP P ops E r K l (put tm d undef) s) : AOpsP P ops E r K ((i, 2) :: l) tm s := fun o' ho => by
  rw [hi] at ho; obtain rfl := Option.some.inj ho
  have hy : yl ops tm j = none := by
    have : tm e = undef := hb.eq
    unfold yl; rw [hd]; show (match tm e with | .bool b => some b | _ => none) = none; rw [this]; rfl
  exact ⟨undef, .inr ⟨by show yl ops tm j ≠ some want; rw [hy]; simp, rfl⟩, h⟩
theorem st (hi : ops[i]? = some ⟨d, o, t, p, af, none⟩) (h : AOp P ⟨d, o, t, p, af, none⟩ tm s fun v s' => NX E i r s' (AOpsP P ops E r K l (put tm d v) s')) : AOpsP P ops E r K ((i, 0) :: l) tm s := fun o' ho => by
  rw [hi] at ho; obtain rfl := Option.some.inj ho
  exact h
theorem stG {j : Nat} {want b : Bool} {e : Tmp} (hi : ops[i]? = some ⟨d, o, t, p, af, some (j, want)⟩) (hd : (ops[j]?).bind (·.dst) = some e) (hb : Ev tm (.tmp e) (.bool b))
    (h : GK b want (AOp P ⟨d, o, t, p, af, none⟩ tm s fun v s' => NX E i r s' (AOpsP P ops E r K l (put tm d v) s')) (NX E i r s (AOpsP P ops E r K l (put tm d undef) s))) : AOpsP P ops E r K ((i, 0) :: l) tm s := fun o' ho => by
  rw [hi] at ho; obtain rfl := Option.some.inj ho
  have hy : yl ops tm j = some b := by
    have : tm e = .bool b := hb.eq
    unfold yl; rw [hd]; show (match tm e with | .bool b => some b | _ => none) = some b; rw [this]
  unfold GK at h
  refine ⟨fun e => h.1 (by rw [hy] at e; exact Option.some.inj e), fun e => h.2 (by rw [hy] at e; cases b <;> cases want <;> simp_all)⟩
theorem stU {j : Nat} {want : Bool} {e : Tmp} (hi : ops[i]? = some ⟨d, o, t, p, af, some (j, want)⟩) (hd : (ops[j]?).bind (·.dst) = some e) (hb : Ev tm (.tmp e) undef)
    (h : NX E i r s (AOpsP P ops E r K l (put tm d undef) s)) : AOpsP P ops E r K ((i, 0) :: l) tm s := fun o' ho => by
  rw [hi] at ho; obtain rfl := Option.some.inj ho
  have hy : yl ops tm j = none := by
    have : tm e = undef := hb.eq
    unfold yl; rw [hd]; show (match tm e with | .bool b => some b | _ => none) = none; rw [this]; rfl
  exact ⟨fun e => (by rw [hy] at e; cases e), fun _ => h⟩
theorem nxE {C : Prop} (hE : E.contains i = true) (h : C) : NX E i r s C := ⟨fun e => (by rw [hE] at e; cases e), h⟩
theorem nxR {C : Prop} (hr : r s) (h : C) : NX E i r s C := ⟨fun _ => hr, h⟩
end
end Pd
theorem AWp.schedS {P : Program} {n : Nat} {Q : AExit → Env → AHeap → Prop} {tm : Env} {s : AHeap} {id : Nat} {l : List Oper} (order : List (Nat × Nat)) (E : List Nat) (C : List (List Nat)) (ids : List Nat) (hm : P.follows .mixedOrders = true) (hC : closB l.toArray C = true) (hs : schedB l.toArray E C order (Array.replicate l.toArray.size false) = true) (hl : Nat.ble order.length l.length = true)
    (h : AOpsP P l.toArray E (Sub (del s ids)) (fun tm' s' => Q .normal tm' s') order tm s) : AWp P n (.region id l.toArray true) Q tm s := AWp.sched order E C _ hm hC hs hl (Sub.del s ids) h
end Go.Proofs.Ytoiplbackllgfaa.Ab

/- More rules: guards whose operation was skipped; truths told by what they decide. -/
namespace Go.Proofs.Ytoiplbackllgfaa.Ab
set_option linter.unusedVariables false
set_option linter.unusedSimpArgs false
set_option linter.unusedSectionVars false
open Go.RowKit
theorem yl_undef {ops : Array Oper} {tm : Env} {j : Nat} {e : Tmp} (hd : (ops[j]?).bind (·.dst) = some e) (hb : Ev tm (.tmp e) undef) : yl ops tm j = none := by
  have : tm e = undef := hb.eq
  unfold yl; rw [hd]
  show (match tm e with | .bool b => some b | _ => none) = none
  rw [this]; rfl
theorem S.guardU {P : Program} {ops : Array Oper} {r : List Oper} {tm : Env} {s : AHeap} {K : Env → AHeap → Prop} {d : Option Tmp} {t : TypeId} {p : String} {af : Array Edge} {op : Op} {j : Nat} {want : Bool} {e : Tmp}
    (hd : (ops[j]?).bind (·.dst) = some e) (hb : Ev tm (.tmp e) undef) (h : AOps P ops r (put tm d undef) s K) : AOps P ops (⟨d, op, t, p, af, some (j, want)⟩ :: r) tm s K := by
  unfold AOps
  simp only
  rw [yl_undef hd hb, if_neg (by simp)]; exact h
theorem D.guardU {P : Program} {ops : Array Oper} {C : List (List Nat)} {W : List (Nat × List Nat)} {i : Nat} {r : List Oper} {tm : Env} {s : AHeap} {K : Env → AHeap → Prop} {d : Option Tmp} {t : TypeId} {p : String} {af : Array Edge} {op : Op} {j : Nat} {want : Bool} {e : Tmp}
    (hd : (ops[j]?).bind (·.dst) = some e) (hb : Ev tm (.tmp e) undef) (h : AOpsD P ops C W (i + 1) r (put tm d undef) s K) : AOpsD P ops C W i (⟨d, op, t, p, af, some (j, want)⟩ :: r) tm s K :=
  .inr ⟨by show yl ops tm j ≠ some want; rw [yl_undef hd hb]; simp, h⟩
theorem bdec {P : Prop} {b : Bool} {i : Decidable P} (h : b = true ↔ P) : Value.bool b = Value.bool (@decide P i) := by
  congr 1; rw [Bool.eq_iff_iff, decide_eq_true_iff]; exact h
theorem mem {P : Program} {n : Nat} {c : Code} {Q : AExit → Env → AHeap → Prop} {tm : Env} {s : AHeap} (Mp : AHeap → Prop) (h : Mp s) (hr : ∀ s2, Mp s2 → AWp P n c Q tm s2) : AWp P n c Q tm s := hr s h
end Go.Proofs.Ytoiplbackllgfaa.Ab

/- Lists that grow by append: none yet, or all of a block of its own. -/
namespace Go.Proofs.Ytoiplbackllgfaa.Ab
set_option linter.unusedVariables false
set_option linter.unusedSimpArgs false
set_option linter.unusedSectionVars false
open Go.RowKit
theorem X.stopC {P : Program} {n id : Nat} {c z : Code} {Q : AExit → Env → AHeap → Prop} {tm : Env} {s : AHeap} (h : AWp P n (.seq (.block id c) z) Q tm s) : AWp P n (.seq (.block id c) z) Q tm s := h
/-- A conversion whose outcome is known. -/
theorem O.convW {P : Program} {tm : Env} {s : AHeap} {K : Value → AHeap → Prop} {d : Option Tmp} {t : TypeId} {p : String} {af : Array Edge} {gd : Option (Nat × Bool)} {x : Operand} {src dst : TypeId} {k k0 k1 : IntKind} {sz by_ : Nat} {z : Value} {sz' by' : Nat} {z' : Value} {a b : Int} [h1 : HasTD P src ⟨.int k0, sz, by_, z⟩] [h2 : HasTD P dst ⟨.int k1, sz', by', z'⟩]
    (hw : k1.wrap a = b) (hx : Ev tm x (.int k a)) (h : K (.int k1 b) s) : AOp P ⟨d, .convert src dst x, t, p, af, gd⟩ tm s K := by subst hw; exact O.convInt hx h
/-- A list of k elements (of es cells each): nil, or all of a block named from N on. -/
def Gr (s : AHeap) (es N : Nat) (v : Value) (on : Option Nat) (k : Nat) (xs : List Value) : Prop :=
  (v = .slice none 0 0 ∧ on = none ∧ k = 0 ∧ xs = []) ∨ ∃ q, on = some q ∧ v = .slice (some ⟨q, 0, none⟩) k k ∧ At s q (.cells true es xs) ∧ xs.length = k * es ∧ N ≤ q
namespace Gr
variable {s s' : AHeap} {es N k : Nat} {v : Value} {on : Option Nat} {xs : List Value}
theorem nil : Gr s es N (.slice none 0 0) none 0 [] := .inl ⟨rfl, rfl, rfl, rfl⟩
theorem new {q : Nat} (h : At s q (.cells true es xs)) (hl : xs.length = k * es) (hq : N ≤ q) : Gr s es N (.slice (some ⟨q, 0, none⟩) k k) (some q) k xs := .inr ⟨q, rfl, rfl, h, hl, hq⟩
theorem lat (h : Gr s es N v on k xs) : LAt s es v on k xs := by
  rcases h with ⟨rfl, rfl, rfl, rfl⟩ | ⟨q, rfl, rfl, h, hl, _⟩
  · exact .nil
  · exact .blk h hl
theorem of_at (h : Gr s es N v on k xs) (hs : ∀ q, on = some q → s' q = s q) : Gr s' es N v on k xs := by
  rcases h with ⟨rfl, rfl, rfl, rfl⟩ | ⟨q, rfl, rfl, h, hl, hq⟩
  · exact nil
  · exact new (by unfold At; rw [hs q rfl]; exact h.eq) hl hq
theorem lt {M : Nat} (h : Gr s es N v on k xs) (hT : Top M s) : ∀ q, on = some q → q < M := by
  rcases h with ⟨rfl, rfl, rfl, rfl⟩ | ⟨q, rfl, rfl, h, hl, hq⟩
  · intro q e; cases e
  · intro q' e; obtain rfl := Option.some.inj e; exact hT.lt h
theorem from_ (h : Gr s es N v on k xs) : ∀ q, on = some q → N ≤ q := by
  rcases h with ⟨rfl, rfl, rfl, rfl⟩ | ⟨q, rfl, rfl, h, hl, hq⟩
  · intro q e; cases e
  · intro q' e; obtain rfl := Option.some.inj e; exact hq
theorem set (h : Gr s es N v on k xs) {id : Nat} {b : ABlk} (hid : ∀ q, on = some q → q ≠ id) : Gr (s.set id b) es N v on k xs := h.of_at fun q e => AHeap.set_other _ _ (hid q e)
theorem own (h : Gr s es N v on k xs) (hk : k ≠ 0) : ∃ q, on = some q ∧ v = .slice (some ⟨q, 0, none⟩) k k ∧ At s q (.cells true es xs) ∧ xs.length = k * es ∧ N ≤ q := by
  rcases h with ⟨_, _, h, _⟩ | h
  · exact absurd h hk
  · exact h
theorem isl (h : Gr s es N v on k xs) : ∃ A, v = .slice A k k := by
  rcases h with ⟨rfl, rfl, rfl, rfl⟩ | ⟨q, rfl, rfl, h, hl, hq⟩
  · exact ⟨_, rfl⟩
  · exact ⟨_, rfl⟩
/-- Behind an append. -/
theorem app {M k' : Nat} {xs' : List Value} (g : Grew s s' on M (.cells true es xs')) (hl : xs'.length = k' * es) (hM : N ≤ M) : Gr s' es N (.slice (some ⟨M, 0, none⟩) k' k') (some M) k' xs' := new g.hit hl hM
/-- What else lies there behind an append. -/
theorem frN {s0 : AHeap} {M : Nat} {b : ABlk} (h : Gr s es N v on k xs) (g : Grew s s' on M b) (F : Fr s s0 []) (hT : Top N s0) : Fr s' s0 [] := g.fr F fun q e => .inl (hT.none (h.from_ q e))
theorem topN {M : Nat} {b : ABlk} (h : Gr s es N v on k xs) (g : Grew s s' on M b) (T : Top M s) : Top (M + 1) s' := g.topN T (h.lt T)
theorem off {M : Nat} {b c : ABlk} (g : Grew s s' on M b) {i : Nat} (hi : At s i c) (h1 : ∀ q, on = some q → q ≠ i) (h2 : i ≠ M) : At s' i c := At.var (by rw [g.off i (fun e => h1 i e rfl) h2]; exact hi.eq)
end Gr
end Go.Proofs.Ytoiplbackllgfaa.Ab
