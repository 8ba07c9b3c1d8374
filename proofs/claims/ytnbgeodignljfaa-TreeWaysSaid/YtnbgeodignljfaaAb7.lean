/- Regions, code, calls. -/
import Derived.Test.YtnbgeodignljfaaAb6
namespace Go.Proofs.Ytnbgeodignljfaa.Ab
set_option linter.unusedVariables false
set_option linter.unusedSimpArgs false
set_option linter.unusedSectionVars false
open Go.RowKit
section
variable {P : Program} {W0 w : World} {ρ : Ren} {s : AHeap} {n : Nat} {tm : Env} {a : Act}

/-! ### regions -/
def yl (ops : Array Oper) (tm : Env) (j : Nat) : Option Bool :=
  match (ops[j]?).bind (·.dst) with
  | some d => match tm d with
    | .bool b => some b
    | _ => none
  | none => none

theorem VR.notBool {x y : Value} (h : VR ρ x y) (hx : ∀ b, x ≠ .bool b) : ∀ b, y ≠ .bool b := by
  cases h with
  | v h => cases h with
    | v h => cases h with
      | a h => cases h <;> first | exact absurd rfl (hx _) | (intro b e; cases e)
      | fn => intro b e; cases e
    | agg => intro b e; cases e
  | tup => intro b e; cases e

theorem yielded_eq {ops : Array Oper} (he : EnvR ρ n tm a.tmps) (hd : ops.toList.all (goodO n) = true) (j : Nat) : yielded ops a.tmps j = yl ops tm j := by
  unfold yielded yl
  cases hj : (ops[j]?).bind (·.dst) with
  | none => rfl
  | some d =>
    have hdn : d < n := by
      cases ho : ops[j]? with
      | none => rw [ho] at hj; cases hj
      | some o =>
        rw [ho] at hj
        have hm : o ∈ ops.toList := by simpa using Array.mem_of_getElem? ho
        have := List.all_eq_true.1 hd o hm
        simp only [goodO, Bool.and_eq_true] at this
        have h1 := this.1
        simp only [Option.bind_some] at hj
        rw [hj] at h1
        exact of_decide_eq_true h1
    obtain ⟨v', e1, e2⟩ := he.2.1 d hdn
    simp only [Option.bind_some, e1]
    cases hv : tm d with
    | bool b => rw [hv] at e2; rw [e2.bool]
    | _ => 
      have := e2.notBool (by intro b; rw [hv]; simp)
      cases v' <;> first | rfl | exact absurd rfl (this _)

def AOps (P : Program) (ops : Array Oper) : List Oper → Env → AHeap → (Env → AHeap → Prop) → Prop
  | [], tm, s, K => K tm s
  | o :: r, tm, s, K => match o.guard with
    | none => AOp P o tm s fun v s' => AOps P ops r (put tm o.dst v) s' K
    | some (j, want) => if yl ops tm j = some want then AOp P o tm s fun v s' => AOps P ops r (put tm o.dst v) s' K else AOps P ops r (put tm o.dst undef) s K

theorem AOps.sound {ops : Array Oper} {Q : Exit → Act → World → Prop} (hd : ops.toList.all (goodO n) = true) : ∀ (l : List Oper) {tm : Env} {s : AHeap} {K : Env → AHeap → Prop} {ρ : Ren} {a : Act} {w : World},
    (∀ o ∈ l, goodO n o = true) → AOps P ops l tm s K → EnvR ρ n tm a.tmps → a.defers = [] → Sim W0 ρ s w →
    (∀ ρ' tm' s' a' w', RLe ρ ρ' → EnvR ρ' n tm' a'.tmps → a'.defers = [] → Sim W0 ρ' s' w' → K tm' s' → Q .normal a' w') → wpList P ops Q l a w
  | [], tm, s, K, ρ, a, w, _, h, he, hdf, hS, hQ => hQ ρ tm s a w (RLe.refl _) he hdf hS h
  | o :: r, tm, s, K, ρ, a, w, hg, h, he, hdf, hS, hQ => by
    have hgo := hg o (by simp)
    simp only [goodO, Bool.and_eq_true] at hgo
    have hput : ∀ dst v, (a.put dst v).defers = [] := fun dst v => by cases dst <;> exact hdf
    have step : AOp P o tm s (fun v s' => AOps P ops r (put tm o.dst v) s' K) → o.wp P a w (wpList P ops Q r) Q := fun h =>
      AOp.sound h hgo.2 he hS fun ρ' v v' s' w' hle hv hS' hk =>
        AOps.sound hd r (fun o ho => hg o (by simp [ho])) hk ((he.mono hle).put hgo.1 hv) (hput _ _) hS' fun ρ'' tm' s'' a' w'' hle' => hQ ρ'' tm' s'' a' w'' (hle.trans hle')
    have skip : AOps P ops r (put tm o.dst undef) s K → wpList P ops Q r (a.put o.dst undef) w := fun h =>
      AOps.sound hd r (fun o ho => hg o (by simp [ho])) h (he.put hgo.1 (undef_VR ρ)) (hput _ _) hS hQ
    simp only [AOps] at h
    unfold wpList
    cases hgd : o.guard with
    | none =>
      rw [hgd] at h
      rw [if_pos (by simp [Region.wanted, hgd])]
      exact .inl (step h)
    | some jw =>
      obtain ⟨j, want⟩ := jw
      rw [hgd] at h
      simp only [] at h
      have hw : Region.wanted o (yielded ops a.tmps) = (yl ops tm j == some want) := by simp only [Region.wanted, hgd]; rw [yielded_eq he hd]
      rw [hw]
      by_cases hy : yl ops tm j = some want
      · rw [if_pos hy] at h
        rw [if_pos (by simp [hy])]
        exact .inl (step h)
      · rw [if_neg hy] at h
        rw [if_neg (by simpa using hy)]
        exact skip h

/-! ### code -/
inductive AExit where
  | normal
  | exit (id : Nat)
  | ret
def AExit.to : AExit → Exit
  | .normal => .normal
  | .exit id => .exit id
  | .ret => .ret

def APost (P : Program) (W0 : World) (n : Nat) (Q : AExit → Env → AHeap → Prop) (ρ : Ren) : Exit → Act → World → Prop := fun e a' w' =>
  ∃ x tm' s' ρ', e = AExit.to x ∧ Q x tm' s' ∧ RLe ρ ρ' ∧ EnvR ρ' n tm' a'.tmps ∧ a'.defers = [] ∧ Sim W0 ρ' s' w'

def AWp (P : Program) (n : Nat) (c : Code) (Q : AExit → Env → AHeap → Prop) (tm : Env) (s : AHeap) : Prop :=
  goodC n c = true → ∀ W0 ρ a w, EnvR ρ n tm a.tmps → a.defers = [] → Sim W0 ρ s w → c.wp P (APost P W0 n Q ρ) a w
end

section
variable {P : Program} {n : Nat} {Q : AExit → Env → AHeap → Prop} {tm : Env} {s : AHeap}

theorem AWp.mono {c : Code} {Q' : AExit → Env → AHeap → Prop} (h : AWp P n c Q tm s) (hq : ∀ x tm s, Q x tm s → Q' x tm s) : AWp P n c Q' tm s := fun hg W0 ρ a w he hd hS =>
  wp_mono (h hg W0 ρ a w he hd hS) fun e a' w' ⟨x, tm', s', ρ', e1, e2, e3⟩ => ⟨x, tm', s', ρ', e1, hq _ _ _ e2, e3⟩

theorem AWp.skip (h : Q .normal tm s) : AWp P n .skip Q tm s := fun _ W0 ρ a w he hd hS => wp_skip ⟨.normal, tm, s, ρ, rfl, h, RLe.refl _, he, hd, hS⟩
theorem AWp.exit {id : Nat} (h : Q (.exit id) tm s) : AWp P n (.exit id) Q tm s := fun _ W0 ρ a w he hd hS => wp_exit ⟨.exit id, tm, s, ρ, rfl, h, RLe.refl _, he, hd, hS⟩
theorem AWp.ret (h : Q .ret tm s) : AWp P n .ret Q tm s := fun _ W0 ρ a w he hd hS => wp_ret ⟨.ret, tm, s, ρ, rfl, h, RLe.refl _, he, hd, hS⟩

def thenQ (P : Program) (n : Nat) (y : Code) (Q : AExit → Env → AHeap → Prop) : AExit → Env → AHeap → Prop
  | .normal, tm, s => AWp P n y Q tm s
  | x, tm, s => Q x tm s
theorem AWp.seq {x y : Code} (h : AWp P n x (thenQ P n y Q) tm s) : AWp P n (.seq x y) Q tm s := fun hg W0 ρ a w he hd hS => by
  simp only [goodC, Bool.and_eq_true] at hg
  refine wp_seq (wp_mono (h hg.1 W0 ρ a w he hd hS) ?_)
  rintro e a' w' ⟨z, tm', s', ρ', rfl, hq, hle, he', hd', hS'⟩
  cases z with
  | normal =>
    refine wp_mono (hq hg.2 W0 ρ' a' w' he' hd' hS') ?_
    rintro e a'' w'' ⟨z, tm'', s'', ρ'', rfl, hq2, hle2, r⟩
    exact ⟨z, tm'', s'', ρ'', rfl, hq2, hle.trans hle2, r⟩
  | exit id => exact ⟨.exit id, tm', s', ρ', rfl, hq, hle, he', hd', hS'⟩
  | ret => exact ⟨.ret, tm', s', ρ', rfl, hq, hle, he', hd', hS'⟩

theorem AWp.cond {c : Operand} {x y : Code} {b : Bool} (hc : ev tm c = .bool b) (ht : b = true → AWp P n x Q tm s) (hf : b = false → AWp P n y Q tm s) : AWp P n (.cond c x y) Q tm s := fun hg W0 ρ a w he hd hS => by
  simp only [goodC, Bool.and_eq_true] at hg
  have hv := he.val hg.1.1
  rw [hc] at hv
  cases b with
  | true => exact wp_cond_true hv.bool (ht rfl hg.1.2 W0 ρ a w he hd hS)
  | false => exact wp_cond_false hv.bool (hf rfl hg.2 W0 ρ a w he hd hS)

def blockQ (id : Nat) (Q : AExit → Env → AHeap → Prop) : AExit → Env → AHeap → Prop
  | .exit id', tm, s => if id' = id then Q .normal tm s else Q (.exit id') tm s
  | x, tm, s => Q x tm s
theorem AWp.block {id : Nat} {c : Code} (h : AWp P n c (blockQ id Q) tm s) : AWp P n (.block id c) Q tm s := fun hg W0 ρ a w he hd hS => by
  refine wp_block (wp_mono (h hg W0 ρ a w he hd hS) ?_)
  rintro e a' w' ⟨z, tm', s', ρ', rfl, hq, hle, he', hd', hS'⟩
  cases z with
  | normal => exact ⟨.normal, tm', s', ρ', rfl, hq, hle, he', hd', hS'⟩
  | ret => exact ⟨.ret, tm', s', ρ', rfl, hq, hle, he', hd', hS'⟩
  | exit id' =>
    simp only [AExit.to, Exit.inBlock]
    simp only [blockQ] at hq
    split
    · rename_i hid; rw [if_pos hid] at hq; exact ⟨.normal, tm', s', ρ', rfl, hq, hle, he', hd', hS'⟩
    · rename_i hid; rw [if_neg hid] at hq; exact ⟨.exit id', tm', s', ρ', rfl, hq, hle, he', hd', hS'⟩

def roundQ (I : Nat → Env → AHeap → Prop) (k : Nat) (Q : AExit → Env → AHeap → Prop) : AExit → Env → AHeap → Prop
  | .normal, tm, s => ∃ m, m < k ∧ I m tm s
  | x, tm, s => Q x tm s
/-- A loop: 'I k': what holds at a round's head with at most k rounds to go. -/
theorem AWp.loop {c : Code} (I : Nat → Env → AHeap → Prop) (k : Nat) (h0 : I k tm s) (hr : ∀ k tm s, I k tm s → AWp P n c (roundQ I k Q) tm s) : AWp P n (.loop c) Q tm s := fun hg W0 ρ a w he hd hS => by
  have key : ∀ k tm s ρ1 a w, RLe ρ ρ1 → EnvR ρ1 n tm a.tmps → a.defers = [] → Sim W0 ρ1 s w → I k tm s → ∀ (b : Frame) (kk : List Item) (cs : List Frame),
      ∃ e a' w', APost P W0 n Q ρ e a' w' ∧ Arrives P (lone (b.at a (.code c :: .inLoop c :: kk)) cs w) b kk cs e a' w' := by
    intro k
    induction k using Nat.strongRecOn with
    | _ k ih =>
      intro tm s ρ1 a w hle he hd hS hI b kk cs
      have hround := hr k tm s hI hg W0 ρ1 a w he hd hS b (.inLoop c :: kk) cs
      obtain ⟨e, a1, w1, ⟨z, tm1, s1, ρ2, rfl, hq, hle1, he1, hd1, hS1⟩, harr⟩ := hround
      cases z with
      | normal =>
        obtain ⟨m, hm, hI'⟩ := hq
        obtain ⟨e2, a2, w2, hq2, harr2⟩ := ih m hm tm1 s1 ρ2 a1 w1 (hle.trans hle1) he1 hd1 hS1 hI' b kk cs
        exact ⟨e2, a2, w2, hq2, .of_steps (Steps.trans harr (.one step_inLoop)) harr2⟩
      | exit id => exact ⟨_, a1, w1, ⟨.exit id, tm1, s1, ρ2, rfl, hq, hle.trans hle1, he1, hd1, hS1⟩, .pass (x := .inLoop c) rfl (fun _ _ => .inl (by simp [AExit.to])) harr⟩
      | ret => exact ⟨_, a1, w1, ⟨.ret, tm1, s1, ρ2, rfl, hq, hle.trans hle1, he1, hd1, hS1⟩, .pass (x := .inLoop c) rfl (fun _ _ => .inl (by simp [AExit.to])) harr⟩
  intro b kk cs
  obtain ⟨e, a', w', hq, harr⟩ := key k tm s ρ a w (RLe.refl _) he hd hS h0 b kk cs
  exact ⟨e, a', w', hq, .of_steps (.one step_loop) harr⟩

theorem AWp.region {id : Nat} {l : List Oper} (h : AOps P l.toArray l tm s fun tm' s' => Q .normal tm' s') : AWp P n (.region id l.toArray false) Q tm s := fun hg W0 ρ a w he hd hS => by
  have hg' : l.toArray.toList.all (goodO n) = true := hg
  refine wp_region_lit (AOps.sound hg' l (fun o ho => List.all_eq_true.1 hg' o (by simpa using ho)) h he hd hS ?_)
  intro ρ' tm' s' a' w' hle he' hd' hS' hk
  exact ⟨.normal, tm', s', ρ', rfl, hk, hle, he', hd', hS'⟩

/-! ### entering and leaving a function -/
def ares (P : Program) (tm : Env) (s : AHeap) : List ResultVar → Option (List Value)
  | [] => some []
  | .tmp t :: r => (ares P tm s r).map (tm t :: ·)
  | .cell a t :: r => match aload P t s (tm a), ares P tm s r with
    | some v, some l => some (v :: l)
    | _, _ => none
def resV : List Value → Value
  | [v] => v
  | l => .tuple l.toArray

def nargs (args : List Value) : Env := fun t => args.getD t undef

/-- What a call leaves: the memory that is told, and nothing else of its own. -/
structure Keeps (s s1 s' : AHeap) (v : Value) : Prop where
  sub : ∀ id b, s' id = some b → s1 id = some b
  dom : ∀ id, (s id).isSome = true → (s' id).isSome = true
  cl : ∀ id b, s' id = some b → s id = some b ∨ b.nm fun i => (s' i).isSome = true
  val : nmR (fun i => (s' i).isSome = true) v

theorem nmB.imp {D E : Nat → Prop} (h : ∀ i, D i → E i) {x : Value} (hx : nmB D x) : nmB E x := by
  cases x <;> simp only [nmB] at * <;> first | exact nm1.imp h hx | exact fun x m => (hx x m).imp h

theorem VB.nm {ρ : Ren} {x y : Value} (h : VB ρ x y) : nmB (fun i => (ρ i).isSome = true) x := by
  cases h with
  | v h =>
    have := h.nm
    cases h with
    | a h => cases h <;> simpa [nmB] using this
    | fn => simpa [nmB] using this
  | agg h => exact All2.nm (ρ := ρ) (fun _ _ h => V1.nm h) h

theorem Rep.nmOf {b0 ρ w l b} (h : Rep b0 ρ w l b) : b.nm fun i => (ρ i).isSome = true := by
  cases b with
  | cells rw sz c =>
    intro x hx
    obtain ⟨i, hi, rfl⟩ := List.getElem_of_mem hx
    obtain ⟨v', _, hv⟩ := h.2.1 i _ (List.getElem?_eq_getElem hi)
    exact hv.nm
  | map es =>
    obtain ⟨_, ents, clk, _, h2⟩ := h
    intro x hx
    obtain ⟨i, hi, rfl⟩ := List.getElem_of_mem hx
    obtain ⟨m, _, hm⟩ := h2.get (List.getElem?_eq_getElem hi)
    exact ⟨hm.1.nm, hm.2.nm⟩
  | dead => trivial

theorem ABlk.nm_imp {D E : Nat → Prop} (h : ∀ i, D i → E i) {b : ABlk} (hb : b.nm D) : b.nm E := by
  cases b with
  | cells rw sz c => exact fun x hx => (hb x hx).imp h
  | map es => exact fun x hx => ⟨(hb x hx).1.imp h, (hb x hx).2.imp h⟩
  | dead => trivial

theorem All2.with_left {α β : Type} {R : α → β → Prop} {p : α → Prop} : ∀ {l : List α} {l' : List β}, All2 R l l' → (∀ x ∈ l, p x) → All2 (fun a b => R a b ∧ p a) l l'
  | _, _, .nil, _ => .nil
  | _, _, .cons h r, hp => .cons ⟨h, hp _ (List.mem_cons_self ..)⟩ (r.with_left fun x hx => hp x (List.mem_cons_of_mem _ hx))

theorem Rep.cut {b0 ρ w l b} {D : Nat → Prop} (h : Rep b0 ρ w l b) (hb : b.nm D) : Rep b0 (cutR ρ D) w l b := by
  cases b with
  | cells rw sz c =>
    refine ⟨h.1, fun i v hv => ?_, h.2.2⟩
    obtain ⟨v', e, r⟩ := h.2.1 i v hv
    exact ⟨v', e, r.cut (hb v (List.mem_of_getElem? hv))⟩
  | map es =>
    obtain ⟨h1, ents, clk, h2, h3⟩ := h
    exact ⟨h1, ents, clk, h2, (h3.with_left (p := fun x => nmB D x.1 ∧ nmB D x.2) fun x hx => hb x hx).mono fun _ _ x => ⟨x.1.1.cut x.2.1, x.1.2.cut x.2.2⟩⟩
  | dead => trivial

/-! ### other names at the end -/
def mpA (π : Nat → Nat) : Value → Value
  | .pointer (some a) => .pointer (some { a with block := π a.block })
  | .slice (some a) n c => .slice (some { a with block := π a.block }) n c
  | .map (some r) => .map (some (π r))
  | v => v
def mp1 (π : Nat → Nat) : Value → Value
  | .func f fs cs => .func f (fs.map (mpA π)) (cs.map (mpA π))
  | v => mpA π v
def mpB (π : Nat → Nat) : Value → Value
  | .agg cs => .agg (cs.map (mp1 π))
  | v => mp1 π v
def mpR (π : Nat → Nat) : Value → Value
  | .tuple cs => .tuple (cs.map (mpB π))
  | v => mpB π v
def ABlk.mp (π : Nat → Nat) : ABlk → ABlk
  | .cells rw sz c => .cells rw sz (c.map (mp1 π))
  | .map es => .map (es.map fun e => (mpB π e.1, mpB π e.2))
  | .dead => .dead
theorem mpA_id : mpA (fun i => i) = fun x => x := by
  funext x; unfold mpA; split <;> rfl
theorem mp1_id : mp1 (fun i => i) = fun x => x := by
  funext x; unfold mp1; split
  · rw [mpA_id, Array.map_id', Array.map_id']
  · rw [mpA_id]
theorem mpB_id : mpB (fun i => i) = fun x => x := by
  funext x; unfold mpB; split
  · rw [mp1_id, Array.map_id']
  · rw [mp1_id]
theorem mpR_id (x : Value) : mpR (fun i => i) x = x := by
  unfold mpR; split
  · rw [mpB_id, Array.map_id']
  · rw [mpB_id]
theorem ABlk.mp_id (b : ABlk) : b.mp (fun i => i) = b := by
  cases b with
  | cells rw sz c => simp only [ABlk.mp, mp1_id, List.map_id']
  | map es => simp only [ABlk.mp, mpB_id]; rw [show (fun e : Value × Value => (e.1, e.2)) = fun e => e from rfl, List.map_id']
  | dead => rfl
theorem ABlk.mp_own (π : Nat → Nat) (b : ABlk) : (b.mp π).own = b.own := by cases b <;> rfl
theorem ABlk.mp_live (π : Nat → Nat) (b : ABlk) : (b.mp π).live = b.live := by
  cases b with
  | cells rw sz c => cases c <;> rfl
  | map es => rfl
  | dead => rfl
theorem All2.unmap {α β γ : Type} {R : β → γ → Prop} {f : α → β} : ∀ {l : List α} {l' : List γ}, All2 R (l.map f) l' → All2 (fun x y => R (f x) y) l l'
  | [], _, h => by cases h; exact .nil
  | a :: l, _, h => by cases h with | cons x r => exact .cons x r.unmap
theorem V1.notF {ρ : Ren} {x y : Value} (h : V1 ρ x y) (hx : ∀ f fs cs, x ≠ .func f fs cs) : VA ρ x y := by
  cases h with
  | a h => exact h
  | fn => exact absurd rfl (hx _ _ _)
theorem VB.notG {ρ : Ren} {x y : Value} (h : VB ρ x y) (hx : ∀ cs, x ≠ .agg cs) : V1 ρ x y := by
  cases h with
  | v h => exact h
  | agg => exact absurd rfl (hx _)
theorem VR.notT {ρ : Ren} {x y : Value} (h : VR ρ x y) (hx : ∀ cs, x ≠ .tuple cs) : VB ρ x y := by
  cases h with
  | v h => exact h
  | tup => exact absurd rfl (hx _)
theorem mpA_kind (π : Nat → Nat) (x : Value) : mpA π x = x ∨ ((∀ f fs cs, mpA π x ≠ .func f fs cs) ∧ (∀ cs, mpA π x ≠ .agg cs) ∧ (∀ cs, mpA π x ≠ .tuple cs)) := by
  unfold mpA; split <;> first | exact .inl rfl | (refine .inr ⟨?_, ?_, ?_⟩ <;> intros <;> simp)
section unmp
variable {ρ : Ren} {π : Nat → Nat} {x y : Value}
theorem VA.unmp (h : VA ρ (mpA π x) y) : VA (fun i => ρ (π i)) x y := by
  cases x with
  | pointer a =>
    cases a with
    | none => cases h; exact .nilp
    | some a => obtain ⟨B, o, sp⟩ := a; cases h with | ptr h => exact .ptr h
  | slice a n c =>
    cases a with
    | none => cases h; exact .nils
    | some a => obtain ⟨B, o, sp⟩ := a; cases h with | sl h a b c d e => exact .sl h a b c d e
  | map r =>
    cases r with
    | none => cases h; exact .nilm
    | some r => cases h with | map h => exact .map h
  | _ => cases h <;> constructor
theorem V1.unmp (h : V1 ρ (mp1 π x) y) : V1 (fun i => ρ (π i)) x y := by
  cases x with
  | func f fs cs =>
    cases h with
    | a h => cases h
    | fn h1 h2 =>
      rw [Array.toList_map] at h1 h2
      exact .fn (h1.unmap.mono fun _ _ h => h.unmp) (h2.unmap.mono fun _ _ h => h.unmp)
  | _ =>
    refine .a (VA.unmp (V1.notF h ?_))
    intro f fs cs e
    rcases mpA_kind π _ with k | k
    · rw [k] at e; cases e
    · exact k.1 _ _ _ e
theorem VB.unmp (h : VB ρ (mpB π x) y) : VB (fun i => ρ (π i)) x y := by
  cases x with
  | agg cs =>
    cases h with
    | v h => cases h with | a h => cases h
    | agg h => rw [Array.toList_map] at h; exact .agg (h.unmap.mono fun _ _ h => h.unmp)
  | func f fs cs => exact .v (V1.unmp (VB.notG h (by intro cs e; simp only [mpB, mp1] at e; cases e)))
  | _ =>
    refine .v (V1.unmp (VB.notG h ?_))
    intro cs e
    simp only [mpB, mp1] at e
    rcases mpA_kind π _ with k | k
    · rw [k] at e; cases e
    · exact k.2.1 _ e
theorem VR.unmp (h : VR ρ (mpR π x) y) : VR (fun i => ρ (π i)) x y := by
  cases x with
  | tuple cs =>
    cases h with
    | v h => cases h with | v h => cases h with | a h => cases h
    | tup h => rw [Array.toList_map] at h; exact .tup (h.unmap.mono fun _ _ h => h.unmp)
  | func f fs cs => exact .v (VB.unmp (VR.notT h (by intro cs e; simp only [mpR, mpB, mp1] at e; cases e)))
  | agg cs => exact .v (VB.unmp (VR.notT h (by intro cs e; simp only [mpR, mpB] at e; cases e)))
  | _ =>
    refine .v (VB.unmp (VR.notT h ?_))
    intro cs e
    simp only [mpR, mpB, mp1] at e
    rcases mpA_kind π _ with k | k
    · rw [k] at e; cases e
    · exact k.2.2 _ e
end unmp

theorem Rep.unmp {b0 ρ w l b} {π : Nat → Nat} (h : Rep b0 ρ w l (ABlk.mp π b)) : Rep b0 (fun i => ρ (π i)) w l b := by
  cases b with
  | cells rw sz c =>
    refine ⟨h.1, fun i v hv => ?_, fun hr => ?_⟩
    · obtain ⟨v', e, r⟩ := h.2.1 i (mp1 π v) (by rw [List.getElem?_map, hv]; rfl)
      exact ⟨v', e, r.unmp⟩
    · have := h.2.2 hr; rw [List.length_map] at this; exact this
  | map es =>
    obtain ⟨h1, ents, clk, h2, h3⟩ := h
    exact ⟨h1, ents, clk, h2, h3.unmap.mono fun _ _ x => ⟨x.1.unmp, x.2.unmp⟩⟩
  | dead => trivial

/-- What is kept, with other names for the new blocks. -/
structure KeepsR (π : Nat → Nat) (s s1 s' : AHeap) (v : Value) : Prop where
  old : ∀ id, (s id).isSome = true → (s' id).isSome = true ∧ π id = id
  inj : ∀ x y, (s' x).isSome = true → (s' y).isSome = true → π x = π y → x = y
  sub : ∀ id b, s' id = some b → (s id = some b ∧ s1 id = some b) ∨ (s1 (π id) = some (b.mp π) ∧ b.nm fun i => (s' i).isSome = true)
  fin : (∃ N, ∀ id, N ≤ id → s id = none) → (∃ N, ∀ id, N ≤ id → s1 id = none) → ∃ N, ∀ id, N ≤ id → s' id = none
  val : nmR (fun i => (s' i).isSome = true) v

theorem Keeps.ren {s s1 s' : AHeap} {v : Value} (h : Keeps s s1 s' v) : KeepsR (fun i => i) s s1 s' v := by
  refine ⟨fun id hi => ⟨h.dom id hi, rfl⟩, fun _ _ _ _ e => e, fun id b hb => ?_, fun _ hf => ?_, h.val⟩
  · rcases h.cl id b hb with h0 | h0
    · exact .inl ⟨h0, h.sub id b hb⟩
    · exact .inr ⟨by rw [ABlk.mp_id]; exact h.sub id b hb, h0⟩
  · obtain ⟨N, hN⟩ := hf
    refine ⟨N, fun id hid => ?_⟩
    cases hs : s' id with
    | none => rfl
    | some b => have := h.sub id b hs; rw [hN id hid] at this; cases this

theorem Sim.leave {W0 w w1 : World} {ρ ρ1 : Ren} {s s1 s' : AHeap} {v v' : Value} {π : Nat → Nat} (hS : Sim W0 ρ s w) (hS1 : Sim W0 ρ1 s1 w1) (hle : RLe ρ ρ1) (hk : KeepsR π s s1 s' v) (hv : VR ρ1 (mpR π v) v') :
    RLe ρ (cutR (fun i => ρ1 (π i)) fun i => (s' i).isSome = true) ∧ VR (cutR (fun i => ρ1 (π i)) fun i => (s' i).isSome = true) v v' ∧ Sim W0 (cutR (fun i => ρ1 (π i)) fun i => (s' i).isSome = true) s' w1 := by
  have hdom : ∀ id l, ρ id = some l → (s id).isSome = true := hS.dom
  refine ⟨fun id l h => cutR_in ?_ (hk.old id (hdom id l h)).1, hv.unmp.cut hk.val, hS1.below, ?_, ?_, ?_, hk.fin hS.fin hS1.fin⟩
  · show ρ1 (π id) = some l
    rw [(hk.old id (hdom id l h)).2]; exact hle id l h
  · intro id b hb
    have hi : (s' id).isSome = true := by rw [hb]; rfl
    rcases hk.sub id b hb with ⟨h0, h1⟩ | ⟨h1, h2⟩
    · obtain ⟨l, hl, hr⟩ := hS1.rep id b h1
      obtain ⟨l0, hl0, hr0⟩ := hS.rep id b h0
      have hs : (s id).isSome = true := by rw [h0]; rfl
      refine ⟨l, cutR_in (by show ρ1 (π id) = some l; rw [(hk.old id hs).2]; exact hl) hi, ?_⟩
      have hr1 := Rep.cut (D := fun i => (s i).isSome = true) hr (ABlk.nm_imp (fun i hi => by
        obtain ⟨l, hl⟩ := Option.isSome_iff_exists.1 hi
        exact hdom i l hl) hr0.nmOf)
      refine hr1.mono fun i li hli => ?_
      unfold cutR at hli
      split at hli
      · rename_i hd
        refine cutR_in ?_ (hk.old i hd).1
        show ρ1 (π i) = some li
        rw [(hk.old i hd).2]; exact hli
      · cases hli
    · obtain ⟨l, hl, hr⟩ := hS1.rep _ _ h1
      exact ⟨l, cutR_in hl hi, hr.unmp.cut h2⟩
  · intro id l hl
    unfold cutR at hl
    split at hl
    · assumption
    · cases hl
  · intro x y bx bY lx ly hne hx hy ho hlv hlx hly
    have hx1 : (s' x).isSome = true := by rw [hx]; rfl
    have hy1 : (s' y).isSome = true := by rw [hy]; rfl
    have at1 : ∀ id b, s' id = some b → ∃ b', s1 (π id) = some b' ∧ b'.own = b.own ∧ b'.live = b.live := fun id b hb => by
      rcases hk.sub id b hb with ⟨h0, h1⟩ | ⟨h1, h2⟩
      · exact ⟨b, by rw [(hk.old id (by rw [h0]; rfl)).2]; exact h1, rfl, rfl⟩
      · exact ⟨_, h1, ABlk.mp_own _ _, ABlk.mp_live _ _⟩
    obtain ⟨bx', e1, e2, _⟩ := at1 x bx hx
    obtain ⟨by', f1, _, f3⟩ := at1 y bY hy
    exact hS1.apart (π x) (π y) bx' by' lx ly (fun e => hne (hk.inj x y hx1 hy1 e)) e1 f1 (by rw [e2]; exact ho) (by rw [f3]; exact hlv) (cutR_le (fun i => ρ1 (π i)) _ x lx hlx) (cutR_le (fun i => ρ1 (π i)) _ y ly hly)

theorem ares_run {P : Program} {W0 w : World} {ρ : Ren} {s : AHeap} {n : Nat} {tm : Env} {a : Act} (he : EnvR ρ n tm a.tmps) (hS : Sim W0 ρ s w) : ∀ (rs : List ResultVar) {l : List Value}, ares P tm s rs = some l →
    ∃ l', ((rs.mapM (m := Sem) fun | .tmp t => pure (a.tmps.getD t undef) | .cell x t => do loadVar t (← asAddr (a.tmps.getD x undef))).run P w = .ok l' w) ∧ All2 (VR ρ) l l'
  | [], l, h => by obtain rfl := Option.some.inj h; exact ⟨[], by simp, .nil⟩
  | .tmp t :: r, l, h => by
    simp only [ares] at h
    cases hr : ares P tm s r with
    | none => rw [hr] at h; cases h
    | some l0 =>
    rw [hr] at h
    obtain rfl := Option.some.inj h
    obtain ⟨l', e1, e2⟩ := ares_run he hS r hr
    refine ⟨a.tmps.getD t undef :: l', ?_, .cons (he.val (x := .tmp t) rfl) e2⟩
    simp only [List.mapM_cons, Sem.run_bind, Sem.run_pure, Result.andThen_ok, e1]
  | .cell x t :: r, l, h => by
    simp only [ares] at h
    split at h
    case h_2 => cases h
    rename_i v l0 hv hr
    obtain rfl := Option.some.inj h
    obtain ⟨l', e1, e2⟩ := ares_run he hS r hr
    have hx := he.val (x := .tmp x) rfl
    obtain ⟨v', e3, e4⟩ := load_sound (P := P) hS hx hv
    refine ⟨v' :: l', ?_, .cons (.v e4) e2⟩
    have e5 : ((do loadVar t (← asAddr (a.tmps.getD x undef)) : Sem Value)).run P w = .ok v' w := by
      have e6 : a.eval (.tmp x) = a.tmps.getD x undef := rfl
      rw [e6] at e3 hx
      have : ∃ ad, a.tmps.getD x undef = .pointer (some ad) := by
        unfold aload at hv
        split at hv
        case h_2 => cases hv
        rename_i ad _ heq
        have hx' : VR ρ (tm x) (a.tmps.getD x undef) := hx
        rw [heq] at hx'
        obtain ⟨l, _, _, hh⟩ := hx'.ptr
        exact ⟨_, hh⟩
      obtain ⟨ad, had⟩ := this
      rw [had] at e3 ⊢
      simpa [Instr.loadAt, Instr.sureAddr, asAddr] using e3
    rw [List.mapM_cons]
    simp only [Sem.run_bind, e5, Result.andThen_ok, e1, Sem.run_pure]

def goodRes (l : List Value) : Bool := l.length == 1 || l.all notTup
theorem resV_rel {ρ : Ren} {l l' : List Value} (h : All2 (VR ρ) l l') (hg : goodRes l = true) : VR ρ (resV l) (resV l') := by
  cases h with
  | nil => exact .tup .nil
  | cons a r =>
    cases r with
    | nil => exact a
    | cons b r =>
      have hall : ∀ x ∈ _ :: _ :: _, notTup x = true := List.all_eq_true.1 (by simpa [goodRes] using hg)
      refine .tup ?_
      have : All2 (VR ρ) _ _ := All2.cons a (.cons b r)
      exact (this.with_left hall).mono fun x y h => h.1.toB fun cs e => by subst e; cases h.2

theorem results_run {P : Program} {w : World} (fn : Func) (tmps : Array Value) {l' : List Value}
    (h : (fn.results.toList.mapM (m := Sem) fun | .tmp t => pure (tmps.getD t undef) | .cell x t => do loadVar t (← asAddr (tmps.getD x undef))).run P w = .ok l' w) : (results fn tmps).run P w = .ok (resV l') w := by
  unfold results
  rw [Sem.run_bind, Array.mapM_eq_mapM_toList]
  simp only [Sem.run_map]
  erw [h]
  simp only [Result.andThen_ok, Sem.run_pure]
  congr 1
  match l' with
  | [] => rfl
  | [v] => rfl
  | a :: b :: r => simp [resV]

theorem ACall.intro {P : Program} {f : FuncId} {fn : Func} {c : Code} {args : List Value} {s s' : AHeap} {v : Value} (hf : P.funcs[f]? = some fn) (hb : fn.body = some c) (hg : goodC fn.ntmps c = true) (hnm : (fn.name == "runtime.NumGoroutine") = false)
    (hlen : args.length ≤ fn.ntmps)
    (h : ∀ N, (∀ id, N ≤ id → s id = none) → AWp P fn.ntmps c (fun x tm s1 => (∀ id, x ≠ .exit id) ∧ ∃ l π, ares P tm s1 fn.results.toList = some l ∧ goodRes l = true ∧ resV l = mpR π v ∧ KeepsR π s s1 s' v) (nargs args) s) :
    ACall P f args s v s' := by
  refine ⟨⟨fn, hf, by rw [hb]; rfl, hnm⟩, fun W0 ρ w args' ha hS => ?_⟩
  obtain ⟨N, hN⟩ := hS.fin
  have hl := ha.length
  have he : EnvR ρ fn.ntmps (nargs args) (args'.toArray ++ Array.replicate (fn.ntmps - args'.toArray.size) undef) := by
    refine ⟨by simp; omega, fun t ht => ?_, fun t ht => ?_⟩
    · by_cases hta : t < args.length
      · obtain ⟨v', e1, e2⟩ := ha.get (List.getElem?_eq_getElem hta)
        refine ⟨v', ?_, ?_⟩
        · rw [Array.getElem?_append_left (by simp; omega)]; simpa using e1
        · simpa [nargs, List.getD, hta] using e2
      · refine ⟨undef, ?_, ?_⟩
        · rw [Array.getElem?_append_right (by simp; omega)]; simp only [List.size_toArray]; rw [Array.getElem?_replicate, if_pos (by omega)]
        · have : nargs args t = undef := by simp [nargs, List.getD, List.getElem?_eq_none (show args.length ≤ t by omega)]
          rw [this]; exact undef_VR ρ
    · simp [nargs, List.getD, List.getElem?_eq_none (show args.length ≤ t by omega)]
  refine calls_of_wp hf hb (wp_mono (h N hN hg W0 ρ { tmps := _, defers := [] } w he rfl hS) ?_)
  rintro e a' w' ⟨x, tm', s1, ρ1, rfl, ⟨hx, l, π, hl1, hl2, hrv, hk⟩, hle, he', hd', hS1⟩
  obtain ⟨l', e1, e2⟩ := ares_run (P := P) he' hS1 _ hl1
  have hr := results_run fn a'.tmps e1
  have hv := resV_rel e2 hl2
  rw [hrv] at hv
  obtain ⟨f1, f2, f3⟩ := hS.leave hS1 hle hk hv
  cases x with
  | normal => exact ⟨hd', _, hr, _, _, rfl, f2, f1, f3⟩
  | ret => exact ⟨hd', _, hr, _, _, rfl, f2, f1, f3⟩
  | exit id => exact absurd rfl (hx id)
theorem ACallE.intro {P : Program} {f : FuncId} {fn : Func} {c : Code} {args : List Value} {s : AHeap} {Q : Value → AHeap → Prop} (hf : P.funcs[f]? = some fn) (hb : fn.body = some c) (hg : goodC fn.ntmps c = true) (hnm : (fn.name == "runtime.NumGoroutine") = false)
    (hlen : args.length ≤ fn.ntmps)
    (h : ∀ N, (∀ id, N ≤ id → s id = none) → AWp P fn.ntmps c (fun x tm s1 => (∀ id, x ≠ .exit id) ∧ ∃ l s', ares P tm s1 fn.results.toList = some l ∧ goodRes l = true ∧ Q (resV l) s' ∧ Keeps s s1 s' (resV l)) (nargs args) s) :
    ACallE P f args s Q := by
  refine ⟨⟨fn, hf, by rw [hb]; rfl, hnm⟩, fun W0 ρ w args' ha hS => ?_⟩
  obtain ⟨N, hN⟩ := hS.fin
  have hl := ha.length
  have he : EnvR ρ fn.ntmps (nargs args) (args'.toArray ++ Array.replicate (fn.ntmps - args'.toArray.size) undef) := by
    refine ⟨by simp; omega, fun t ht => ?_, fun t ht => ?_⟩
    · by_cases hta : t < args.length
      · obtain ⟨v', e1, e2⟩ := ha.get (List.getElem?_eq_getElem hta)
        refine ⟨v', ?_, ?_⟩
        · rw [Array.getElem?_append_left (by simp; omega)]; simpa using e1
        · simpa [nargs, List.getD, hta] using e2
      · refine ⟨undef, ?_, ?_⟩
        · rw [Array.getElem?_append_right (by simp; omega)]; simp only [List.size_toArray]; rw [Array.getElem?_replicate, if_pos (by omega)]
        · have : nargs args t = undef := by simp [nargs, List.getD, List.getElem?_eq_none (show args.length ≤ t by omega)]
          rw [this]; exact undef_VR ρ
    · simp [nargs, List.getD, List.getElem?_eq_none (show args.length ≤ t by omega)]
  refine calls_of_wp hf hb (wp_mono (h N hN hg W0 ρ { tmps := _, defers := [] } w he rfl hS) ?_)
  rintro e a' w' ⟨x, tm', s1, ρ1, rfl, ⟨hx, l, s', hl1, hl2, hq, hk⟩, hle, he', hd', hS1⟩
  obtain ⟨l', e1, e2⟩ := ares_run (P := P) he' hS1 _ hl1
  have hr := results_run fn a'.tmps e1
  have hv := resV_rel e2 hl2
  obtain ⟨f1, f2, f3⟩ := hS.leave hS1 hle hk.ren (by rw [mpR_id]; exact hv)
  cases x with
  | normal => exact ⟨hd', _, hr, _, s', _, _, hq, rfl, f2, f1, f3⟩
  | ret => exact ⟨hd', _, hr, _, s', _, _, hq, rfl, f2, f1, f3⟩
  | exit id => exact absurd rfl (hx id)
end
end Go.Proofs.Ytnbgeodignljfaa.Ab
