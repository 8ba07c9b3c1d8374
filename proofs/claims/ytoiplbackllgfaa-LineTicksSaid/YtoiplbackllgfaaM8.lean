/- texts of this claim, one behind the other: Ab6, Ab7, Ab8. -/
import Derived.Test.YtoiplbackllgfaaM7
import Derived.Tactics

/- Operations, regions, code and calls over the abstract memory, and that the machine follows them. -/
namespace Go.Proofs.Ytoiplbackllgfaa.Ab
set_option linter.unusedVariables false
set_option linter.unusedSimpArgs false
set_option linter.unusedSectionVars false
open Go.RowKit

abbrev Env := Nat → Value
def ev (tm : Env) : Operand → Value
  | .tmp t => tm t
  | .const v => v
  | .func f => .func (.func f) #[] #[]
  | .global _ => .tuple #[]
def put (tm : Env) : Option Tmp → Value → Env
  | none, _ => tm
  | some d, v => fun t => if t = d then v else tm t

def goodX : Operand → Bool
  | .tmp _ => true
  | .const v => plR v
  | .func _ => true
  | .global _ => false
def goodO (n : Nat) (o : Oper) : Bool := (match o.dst with | some d => decide (d < n) | none => true) && o.op.operands.all goodX
def goodC (n : Nat) : Code → Bool
  | .skip | .exit _ | .ret => true
  | .region _ ops _ => ops.toList.all (goodO n)
  | .seq a b => goodC n a && goodC n b
  | .cond c a b => goodX c && goodC n a && goodC n b
  | .block _ b => goodC n b
  | .loop b => goodC n b
  | _ => false

def EnvR (ρ : Ren) (n : Nat) (tm : Env) (tmps : Array Value) : Prop :=
  tmps.size = n ∧ (∀ t, t < n → ∃ v', tmps[t]? = some v' ∧ VR ρ (tm t) v') ∧ ∀ t, n ≤ t → tm t = undef

section
variable {P : Program} {W0 w : World} {ρ : Ren} {s : AHeap} {n : Nat} {tm : Env} {a : Act}

theorem undef_VR (ρ : Ren) : VR ρ undef undef := .tup .nil
theorem EnvR.mono {ρ' tmps} (hle : RLe ρ ρ') (h : EnvR ρ n tm tmps) : EnvR ρ' n tm tmps :=
  ⟨h.1, fun t ht => let ⟨v', a, b⟩ := h.2.1 t ht; ⟨v', a, b.mono hle⟩, h.2.2⟩
theorem EnvR.val {x} (h : EnvR ρ n tm a.tmps) (hx : goodX x = true) : VR ρ (ev tm x) (a.eval x) := by
  cases x with
  | tmp t =>
    show VR ρ (tm t) (a.tmps.getD t undef)
    by_cases ht : t < n
    · obtain ⟨v', e, r⟩ := h.2.1 t ht
      have : a.tmps.getD t undef = v' := by simp [e]
      rw [this]; exact r
    · have ht' : n ≤ t := Nat.le_of_not_lt ht
      rw [h.2.2 t ht']
      have : a.tmps.getD t undef = undef := by simp [Array.getElem?_eq_none (show a.tmps.size ≤ t by rw [h.1]; exact ht')]
      rw [this]; exact undef_VR ρ
  | const v => exact plR.self ρ hx
  | global g => cases hx
  | func f => exact .v (.v (.fn .nil .nil))
theorem EnvR.put {ρ' dst v v'} (h : EnvR ρ' n tm a.tmps) (hd : (match dst with | some d => decide (d < n) | none => true) = true) (hv : VR ρ' v v') : EnvR ρ' n (put tm dst v) (a.put dst v').tmps := by
  cases dst with
  | none => exact h
  | some d =>
    have hd' : d < n := by simpa using hd
    refine ⟨by simp [Act.put, h.1], fun t ht => ?_, fun t ht => ?_⟩
    · by_cases e : t = d
      · subst e
        exact ⟨v', by simp [Act.put, h.1, ht], by simpa [Ab.put] using hv⟩
      · obtain ⟨u, e1, e2⟩ := h.2.1 t ht
        exact ⟨u, by simp only [Act.put]; rw [Array.getElem?_setIfInBounds_ne (Ne.symm e)]; exact e1, by simpa [Ab.put, e] using e2⟩
    · have : t ≠ d := fun e => absurd (e ▸ hd') (Nat.not_lt_of_le ht)
      simpa [Ab.put, this] using h.2.2 t ht
theorem EnvR.evs {l : List Operand} (h : EnvR ρ n tm a.tmps) (hl : l.all goodX = true) : All2 (VR ρ) (l.map (ev tm)) (l.map a.eval) := by
  induction l with
  | nil => exact .nil
  | cons x l ih => simp only [List.all_cons, Bool.and_eq_true] at hl; exact .cons (h.val hl.1) (ih hl.2)
end

/-! ### calls -/
def ACall (P : Program) (f : FuncId) (args : List Value) (s : AHeap) (v : Value) (s' : AHeap) : Prop :=
  (∃ fn, P.funcs[f]? = some fn ∧ fn.body.isSome = true ∧ (fn.name == "runtime.NumGoroutine") = false) ∧
  ∀ W0 ρ w (args' : List Value), All2 (VR ρ) args args' → Sim W0 ρ s w →
    Calls P f args'.toArray w fun e w' => ∃ ρ' v', e = .returned v' ∧ VR ρ' v v' ∧ RLe ρ ρ' ∧ Sim W0 ρ' s' w'
/-- A call that leaves one of the results and memories that are told. -/
def ACallE (P : Program) (f : FuncId) (args : List Value) (s : AHeap) (Q : Value → AHeap → Prop) : Prop :=
  (∃ fn, P.funcs[f]? = some fn ∧ fn.body.isSome = true ∧ (fn.name == "runtime.NumGoroutine") = false) ∧
  ∀ W0 ρ w (args' : List Value), All2 (VR ρ) args args' → Sim W0 ρ s w →
    Calls P f args'.toArray w fun e w' => ∃ v s' ρ' v', Q v s' ∧ e = .returned v' ∧ VR ρ' v v' ∧ RLe ρ ρ' ∧ Sim W0 ρ' s' w'
theorem ACall.toE {P : Program} {f : FuncId} {args : List Value} {s s' : AHeap} {v : Value} (h : ACall P f args s v s') : ACallE P f args s fun v1 s1 => v1 = v ∧ s1 = s' :=
  ⟨h.1, fun W0 ρ w args' ha hS => (h.2 W0 ρ w args' ha hS).mono fun e w' hh => by
    obtain ⟨ρ', v', a, b, c, d⟩ := hh; exact ⟨v, s', ρ', v', ⟨rfl, rfl⟩, a, b, c, d⟩⟩
theorem ACallE.mono {P : Program} {f : FuncId} {args : List Value} {s : AHeap} {Q Q' : Value → AHeap → Prop} (h : ACallE P f args s Q) (hq : ∀ v s', Q v s' → Q' v s') : ACallE P f args s Q' :=
  ⟨h.1, fun W0 ρ w args' ha hS => (h.2 W0 ρ w args' ha hS).mono fun e w' hh => by
    obtain ⟨v, s', ρ', v', q, r⟩ := hh; exact ⟨v, s', ρ', v', hq v s' q, r⟩⟩

def isAt : Value → Bool
  | .agg _ | .tuple _ | .func .. => false
  | _ => true

def ABuiltin (P : Program) (b : Builtin) (ts : List TypeId) (args : List Value) (s : AHeap) (K : Value → AHeap → Prop) : Prop :=
  match b, ts, args with
  | .append, [t, tx], [v, x] => ∃ id r s', aappend P t tx s v x id = some (r, s') ∧ K r s'
  | .len, [t], [x] => ∃ v, alen P t s x = some v ∧ K v s
  | .clear, [t], [x] => ∃ s', aclear P t s x = some s' ∧ K undef s'
  | .cap, [t], [x] => ∃ v, acap P t x = some v ∧ K v s
  | .min, _, l => ∃ v, amm false l = some v ∧ K v s
  | .max, _, l => ∃ v, amm true l = some v ∧ K v s
  | _, _, _ => False

def AOp (P : Program) (o : Oper) (tm : Env) (s : AHeap) (K : Value → AHeap → Prop) : Prop :=
  match o.op with
  | .move x => K (ev tm x) s
  | .assign x => K (ev tm x) s
  | .pick c x y => ∃ b, ev tm c = .bool b ∧ K (if b = true then ev tm x else ev tm y) s
  | .alloc e => ∃ id td, tdOf P e = some td ∧ s id = none ∧ plB td.zero = true ∧ K (.pointer (some ⟨id, 0, none⟩)) (s.set id (.cells true 1 td.zero.cells.toList))
  | .box _ x => ∃ id, s id = none ∧ notTup (ev tm x) = true ∧ K (.pointer (some ⟨id, 0, none⟩)) (s.set id (.cells true 1 (ev tm x).cells.toList))
  | .build t parts => ∃ v, abuild P t (parts.toList.map fun p => (p.1, ev tm p.2)) = some v ∧ K v s
  | .buildSlice t len parts => ∃ id v s', abuildSlice P t len (parts.toList.map fun p => (p.1, ev tm p.2)) s id = some (v, s') ∧ K v s'
  | .load t x => ∃ v, aload P t s (ev tm x) = some v ∧ K v s
  | .store t x y => ∃ s', astore P t s (ev tm x) (ev tm y) = some s' ∧ K undef s'
  | .nilCheck x => match ev tm x with
    | .pointer (some a) => K (.pointer (some a)) s
    | .func (.func f) fs cs => K (.func (.func f) fs cs) s
    | _ => False
  | .binOp op t x y _ => ∃ v, ABin P op t x y (ev tm x) (ev tm y) v ∧ K v s
  | .unOp op _ x => ∃ v, aun op (ev tm x) = some v ∧ K v s
  | .convert src dst x => (∃ v, aconv P src dst s (ev tm x) = some v ∧ K v s) ∨ ∃ s', amark P src dst s (ev tm x) = some s' ∧ K (ev tm x) s'
  | .makeFunc (.func f) first captured => first.toList.all (fun x => isAt (ev tm x)) = true ∧ captured.toList.all (fun x => isAt (ev tm x)) = true ∧ K (.func (.func f) (first.map (ev tm)) (captured.map (ev tm))) s
  | .makeSlice t l c => ∃ id v s', amakeSlice P t s (ev tm l) (ev tm c) id = some (v, s') ∧ K v s'
  | .slice t x lo hi mx => ∃ v, aslice P t s (ev tm x) (lo.map (ev tm)) (hi.map (ev tm)) (mx.map (ev tm)) = some v ∧ K v s
  | .fieldAddr t x f => ∃ v, afield P t (ev tm x) f = some v ∧ K v s
  | .field t x f => ∃ v, afieldV P t (ev tm x) f = some v ∧ K v s
  | .indexAddr t x i => ∃ v, aindexAddr P t (ev tm x) (ev tm i) = some v ∧ K v s
  | .index t x i => ∃ v, aindexV P t (ev tm x) (ev tm i) = some v ∧ K v s
  | .extract x i => ∃ v, aextract (ev tm x) i = some v ∧ K v s
  | .makeMap _ none => ∃ id, s id = none ∧ K (.map (some id)) (s.set id (.map []))
  | .lookup t x i ok => ∃ v, ALook P t s (ev tm x) (ev tm i) ok v ∧ K v s
  | .mapUpdate t m k x => ∃ s', AUpd P t s (ev tm m) (ev tm k) (ev tm x) s' ∧ K undef s'
  | .call c => match c.callee with
    | .builtin b => ABuiltin P b c.argTypes.toList (c.args.toList.map (ev tm)) s K
    | .value f => match ev tm f with
      | .func (.func g) first captured => ∃ Q, ACallE P g (first.toList ++ c.args.toList.map (ev tm) ++ captured.toList) s Q ∧ ∀ v s', Q v s' → K v s'
      | _ => False
    | .invoke .. => False
  | _ => False

section
variable {P : Program} {W0 w : World} {ρ : Ren} {s : AHeap} {n : Nat} {tm : Env} {a : Act}

theorem upon_v {o : Oper} {next : Act → World → Prop} {Q : Exit → Act → World → Prop} {sm : Sem Value} {v' : Value} {w' : World} (h : execOp a.eval o = (do pure (.value (← sm)))) (hr : sm.run P w = .ok v' w') (hn : next (a.put o.dst v') w') : o.wp P a w next Q := by
  unfold Oper.wp
  rw [h, Sem.run_bind, hr]
  exact hn
theorem upon_u {o : Oper} {next : Act → World → Prop} {Q : Exit → Act → World → Prop} {sm : Sem Unit} {w' : World} (h : execOp a.eval o = (do sm; pure .skip)) (hr : sm.run P w = .ok () w') (hn : next (a.put o.dst undef) w') : o.wp P a w next Q := by
  unfold Oper.wp
  rw [h, Sem.run_bind, hr]
  exact hn

theorem parts_rel {ps : List (Nat × Operand)} (he : EnvR ρ n tm a.tmps) (hp : (ps.map (·.2)).all goodX = true) : PartsR ρ (ps.map fun p => (p.1, ev tm p.2)) (ps.map fun p => (p.1, a.eval p.2)) := by
  induction ps with
  | nil => exact .nil
  | cons p ps ih => simp only [List.map_cons, List.all_cons, Bool.and_eq_true] at hp; exact .cons (he.val hp.1) (ih hp.2)

theorem opt_rel {x : Option Operand} (he : EnvR ρ n tm a.tmps) (hx : x.all goodX = true) : OR (VR ρ) (x.map (ev tm)) (x.map a.eval) := by
  cases x with
  | none => exact .none
  | some y => exact .some (he.val (by simpa using hx))

theorem atoms_rel {l : List Operand} (he : EnvR ρ n tm a.tmps) (hl : l.all goodX = true) (ha : l.all (fun x => isAt (ev tm x)) = true) : All2 (VA ρ) (l.map (ev tm)) (l.map a.eval) := by
  induction l with
  | nil => exact .nil
  | cons x l ih =>
    simp only [List.all_cons, Bool.and_eq_true] at hl ha
    refine .cons ((he.val hl.1).toA ?_ ?_) (ih hl.2 ha.2)
    · cases h : ev tm x <;> simp_all [isAt, Value.oneCell']
    · intro f b c h; simp [h, isAt] at ha

set_option maxHeartbeats 4000000 in
theorem AOp.sound {o : Oper} {K : Value → AHeap → Prop} {next : Act → World → Prop} {Q : Exit → Act → World → Prop} (h : AOp P o tm s K) (hg : o.op.operands.all goodX = true) (he : EnvR ρ n tm a.tmps) (hS : Sim W0 ρ s w)
    (hn : ∀ ρ' v v' s' w', RLe ρ ρ' → VR ρ' v v' → Sim W0 ρ' s' w' → K v s' → next (a.put o.dst v') w') : o.wp P a w next Q := by
  obtain ⟨dst, op, type, pos, after, guard⟩ := o
  cases op <;> simp only [AOp] at h <;> simp only [Op.operands] at hg
  case move x =>
    have hx := he.val (x := x) (by simpa using hg)
    exact hn ρ _ _ s w (RLe.refl _) hx hS h
  case assign x =>
    have hx := he.val (x := x) (by simpa using hg)
    exact hn ρ _ _ s w (RLe.refl _) hx hS h
  case pick c x y =>
    simp only [List.all_toArray, List.all_cons, List.all_nil, Bool.and_true, Bool.and_eq_true] at hg
    obtain ⟨b, hb, hk⟩ := h
    have hc := he.val hg.1
    rw [hb] at hc
    have hc' := hc.bool
    unfold Oper.wp
    have hrun : (execOp a.eval ⟨dst, .pick c x y, type, pos, after, guard⟩).run P w = .ok (.value (if b = true then a.eval x else a.eval y)) w := by simp [execOp, hc', asBool]
    rw [hrun]
    refine hn ρ _ _ s w (RLe.refl _) ?_ hS hk
    cases b
    · exact he.val hg.2.2
    · exact he.val hg.2.1
  case alloc e =>
    obtain ⟨id, td, ht, hid, hpl, hk⟩ := h
    obtain ⟨hle, hS'⟩ := hS.made (id := id) hid (c := td.zero.cells.toList) (arr := td.zero.cells) (el := e) (sz := 1) (by rw [List.take_of_length_le (by simp)]; exact (plB.self ρ hpl).cells) (by simp)
    exact upon_v (sm := Instr.alloc e true (.tuple #[])) rfl (by simp [Instr.alloc, td_zero ht, newVar, newRow]) (hn _ _ _ _ _ hle (.atom (.ptr (setR_same _ _ _))) hS' hk)
  case box e x =>
    obtain ⟨id, hid, hnt, hk⟩ := h
    have hx := he.val (x := x) (by simpa using hg)
    have hb := (hx.toB fun b e => by rw [e] at hnt; cases hnt).cells
    have hlen := hb.length
    simp only [Array.length_toList] at hlen
    obtain ⟨hle, hS'⟩ := hS.made (id := id) hid (c := (ev tm x).cells.toList) (arr := (a.eval x).cells) (el := e) (sz := 1) (by rw [List.take_of_length_le (by simp; omega)]; exact hb) (by simp; omega)
    exact upon_v (sm := Instr.box e (a.eval x)) rfl (by simp [Instr.box, newVar, newRow]) (hn _ _ _ _ _ hle (.atom (.ptr (setR_same _ _ _))) hS' hk)
  case build t parts =>
    obtain ⟨v, hv, hk⟩ := h
    have hp := parts_rel (ps := parts.toList) he (by simpa using hg)
    obtain ⟨v', e1, e2⟩ := build_sound (P := P) (w := w) (parts := (parts.toList.map fun p => (p.1, ev tm p.2)).toArray) (parts' := parts.map fun p => (p.1, a.eval p.2)) (by simpa using hp) (by simpa using hv)
    exact upon_v (sm := Instr.build t (parts.map fun p => (p.1, a.eval p.2))) rfl e1 (hn _ _ _ _ _ (RLe.refl _) e2 hS hk)
  case buildSlice t len parts =>
    obtain ⟨id, v, s', hv, hk⟩ := h
    have hp := parts_rel (ps := parts.toList) he (by simpa using hg)
    obtain ⟨v', w', ρ', e1, e2, e3, e4⟩ := buildSlice_sound (P := P) hS (parts := (parts.toList.map fun p => (p.1, ev tm p.2)).toArray) (parts' := parts.map fun p => (p.1, a.eval p.2)) (by simpa using hp) (by simpa using hv)
    exact upon_v (sm := Instr.buildSlice t len (parts.map fun p => (p.1, a.eval p.2))) rfl e1 (hn _ _ _ _ _ e2 e3 e4 hk)
  case load t x =>
    obtain ⟨v, hv, hk⟩ := h
    have hx := he.val (x := x) (by simpa using hg)
    obtain ⟨v', e1, e2⟩ := load_sound (P := P) hS hx hv
    exact upon_v (sm := Instr.loadAt t (a.eval x)) rfl e1 (hn _ _ _ _ _ (RLe.refl _) (.v e2) hS hk)
  case store t x y =>
    simp only [List.all_toArray, List.all_cons, List.all_nil, Bool.and_true, Bool.and_eq_true] at hg
    obtain ⟨s', hv, hk⟩ := h
    obtain ⟨w', e1, e2⟩ := store_sound (P := P) hS (he.val hg.1) (he.val hg.2) hv
    exact upon_u (sm := Instr.storeAt t (a.eval x) (a.eval y)) rfl e1 (hn ρ undef undef s' w' (RLe.refl _) (undef_VR ρ) e2 hk)
  case nilCheck x =>
    have hx := he.val (x := x) (by simpa using hg)
    split at h
    · rename_i ad heq
      rw [heq] at hx
      obtain ⟨l, hsp, hl, hv⟩ := hx.ptr
      have hrun : (execOp a.eval ⟨dst, .nilCheck x, type, pos, after, guard⟩).run P w = .ok (.value (a.eval x)) w := by simp [execOp, hv]
      unfold Oper.wp
      rw [hrun]
      exact hn ρ _ _ s w (RLe.refl _) hx hS h
    · rename_i f fs cs heq
      rw [heq] at hx
      obtain ⟨fs', cs', hv, _, _⟩ := hx.func
      have hrun : (execOp a.eval ⟨dst, .nilCheck x, type, pos, after, guard⟩).run P w = .ok (.value (a.eval x)) w := by simp [execOp, hv]
      unfold Oper.wp
      rw [hrun]
      exact hn ρ _ _ s w (RLe.refl _) hx hS h
    · exact h.elim
  case binOp op t x y yt =>
    simp only [List.all_toArray, List.all_cons, List.all_nil, Bool.and_true, Bool.and_eq_true] at hg
    obtain ⟨v, hv, hk⟩ := h
    obtain ⟨v', e1, e2⟩ := abin_sound (P := P) (w := w) (he.val hg.1) (he.val hg.2) hv
    exact upon_v (sm := do eqGuard op t x y (a.eval x) (a.eval y); Go.binOp op t (a.eval x) (a.eval y)) rfl e1 (hn _ _ _ _ _ (RLe.refl _) e2 hS hk)
  case unOp op t x =>
    obtain ⟨v, hv, hk⟩ := h
    obtain ⟨v', e1, e2⟩ := aun_sound (P := P) (w := w) (he.val (x := x) (by simpa using hg)) hv
    exact upon_v (sm := Op.unary op (a.eval x)) rfl e1 (hn _ _ _ _ _ (RLe.refl _) e2 hS hk)
  case convert src dst x =>
    have hx := he.val (x := x) (by simpa using hg)
    rcases h with ⟨v, hv, hk⟩ | ⟨s', hv, hk⟩
    · obtain ⟨v', e1, e2⟩ := conv_sound (P := P) hS hx hv
      exact upon_v (sm := Go.convert src dst (a.eval x)) rfl e1 (hn _ _ _ _ _ (RLe.refl _) e2 hS hk)
    · obtain ⟨w', e1, e2⟩ := mark_sound (P := P) hS hx hv
      exact upon_v (sm := Go.convert src dst (a.eval x)) rfl e1 (hn _ _ _ _ _ (RLe.refl _) hx e2 hk)
  case makeFunc fn first captured =>
    cases fn <;> simp only [] at h
    case func f =>
      obtain ⟨h1, h2, hk⟩ := h
      have hg' : first.toList.all goodX = true ∧ captured.toList.all goodX = true := by simpa using hg
      refine upon_v (sm := Instr.makeFunc (.func f) (first.map a.eval) (captured.map a.eval)) rfl rfl (hn _ _ _ _ _ (RLe.refl _) (.v (.v (.fn ?_ ?_))) hS hk)
      · simpa using atoms_rel he hg'.1 h1
      · simpa using atoms_rel he hg'.2 h2
    all_goals exact h.elim
  case makeSlice t l c =>
    simp only [List.all_toArray, List.all_cons, List.all_nil, Bool.and_true, Bool.and_eq_true] at hg
    obtain ⟨id, v, s', hv, hk⟩ := h
    obtain ⟨v', w', ρ', e1, e2, e3, e4⟩ := makeSlice_sound (P := P) hS (he.val hg.1) (he.val hg.2) hv
    exact upon_v (sm := Instr.makeSlice t (a.eval l) (a.eval c)) rfl e1 (hn _ _ _ _ _ e2 e3 e4 hk)
  case slice t x lo hi mx =>
    have hg' : goodX x = true ∧ lo.all goodX = true ∧ hi.all goodX = true ∧ mx.all goodX = true := by
      cases lo <;> cases hi <;> cases mx <;> simp_all
    obtain ⟨v, hv, hk⟩ := h
    obtain ⟨v', e1, e2⟩ := slice_sound (P := P) hS (he.val hg'.1) (opt_rel he hg'.2.1) (opt_rel he hg'.2.2.1) (opt_rel he hg'.2.2.2) hv
    exact upon_v (sm := Instr.sliceAt t (a.eval x) (lo.map a.eval) (hi.map a.eval) (mx.map a.eval)) rfl e1 (hn _ _ _ _ _ (RLe.refl _) e2 hS hk)
  case fieldAddr t x f =>
    obtain ⟨v, hv, hk⟩ := h
    obtain ⟨v', e1, e2⟩ := field_sound (P := P) (w := w) (he.val (x := x) (by simpa using hg)) hv
    exact upon_v (sm := Instr.fieldAt t (a.eval x) f) rfl e1 (hn _ _ _ _ _ (RLe.refl _) e2 hS hk)
  case field t x f =>
    obtain ⟨v, hv, hk⟩ := h
    obtain ⟨v', e1, e2⟩ := fieldV_sound (P := P) (w := w) (he.val (x := x) (by simpa using hg)) hv
    exact upon_v (sm := Instr.field t (a.eval x) f) rfl e1 (hn _ _ _ _ _ (RLe.refl _) e2 hS hk)
  case indexAddr t x i =>
    simp only [List.all_toArray, List.all_cons, List.all_nil, Bool.and_true, Bool.and_eq_true] at hg
    obtain ⟨v, hv, hk⟩ := h
    obtain ⟨v', e1, e2⟩ := indexAddr_sound (P := P) (w := w) (he.val hg.1) (he.val hg.2) hv
    exact upon_v (sm := Instr.indexAt t (a.eval x) (a.eval i)) rfl e1 (hn _ _ _ _ _ (RLe.refl _) e2 hS hk)
  case index t x i =>
    simp only [List.all_toArray, List.all_cons, List.all_nil, Bool.and_true, Bool.and_eq_true] at hg
    obtain ⟨v, hv, hk⟩ := h
    obtain ⟨v', e1, e2⟩ := indexV_sound (P := P) (w := w) (he.val hg.1) (he.val hg.2) hv
    exact upon_v (sm := Instr.index t (a.eval x) (a.eval i)) rfl e1 (hn _ _ _ _ _ (RLe.refl _) e2 hS hk)
  case extract x i =>
    obtain ⟨v, hv, hk⟩ := h
    obtain ⟨v', e1, e2⟩ := extract_sound (P := P) (w := w) (he.val (x := x) (by simpa using hg)) hv
    exact upon_v (sm := Instr.extract (a.eval x) i) rfl e1 (hn _ _ _ _ _ (RLe.refl _) e2 hS hk)
  case makeMap t r =>
    cases r <;> simp only [] at h
    case none =>
      obtain ⟨id, hid, hk⟩ := h
      obtain ⟨v', w', ρ', e1, e2, e3, e4⟩ := makeMap_sound (P := P) (t := t) hS hid
      exact upon_v (sm := Instr.makeMap t none) rfl e1 (hn _ _ _ _ _ e2 e3 e4 hk)
    all_goals exact h.elim
  case lookup t x i ok =>
    simp only [List.all_toArray, List.all_cons, List.all_nil, Bool.and_true, Bool.and_eq_true] at hg
    obtain ⟨v, hv, hk⟩ := h
    obtain ⟨v', e1, e2⟩ := lookup_sound (P := P) hS (he.val hg.1) (he.val hg.2) hv
    exact upon_v (sm := Instr.lookup t (a.eval x) (a.eval i) ok) rfl e1 (hn _ _ _ _ _ (RLe.refl _) e2 hS hk)
  case mapUpdate t m k x =>
    simp only [List.all_toArray, List.all_cons, List.all_nil, Bool.and_true, Bool.and_eq_true] at hg
    obtain ⟨s', hv, hk⟩ := h
    obtain ⟨w', e1, e2⟩ := update_sound (P := P) hS (he.val hg.1) (he.val hg.2.1) (he.val hg.2.2) hv
    exact upon_u (sm := Instr.mapUpdate t (a.eval m) (a.eval k) (a.eval x)) rfl e1 (hn ρ undef undef s' w' (RLe.refl _) (undef_VR ρ) e2 hk)
  case call c =>
    obtain ⟨callee, args, ats⟩ := c
    cases callee with
    | builtin b =>
      have hg' : args.toList.all goodX = true := by simpa [Call.operands] using hg
      have hargs := he.evs hg'
      simp only [ABuiltin] at h
      split at h
      · rename_i t tx v x hts hl
        obtain ⟨id, r, s', hv, hk⟩ := h
        rw [hl] at hargs
        obtain ⟨v', x', hl', hv2, hx2⟩ : ∃ v' x', args.toList.map a.eval = [v', x'] ∧ VR ρ v v' ∧ VR ρ x x' := by
          generalize args.toList.map a.eval = l' at hargs
          cases hargs with | cons h1 r => cases r with | cons h2 r => cases r; exact ⟨_, _, rfl, h1, h2⟩
        obtain ⟨r', w', ρ', e1, e2, e3, e4⟩ := append_sound (P := P) (ty := type) hS hv2 hx2 hv
        have hts' : ats = #[t, tx] := by apply Array.ext'; simpa using hts
        have hav : args.map a.eval = #[v', x'] := by apply Array.ext'; simpa using hl'
        refine upon_v (sm := Builtin.append_ ats type (args.map a.eval)) rfl (by rw [hts', hav]; exact e1) (hn _ _ _ _ _ e2 e3 e4 hk)
      · rename_i t x hts hl
        obtain ⟨v, hv, hk⟩ := h
        rw [hl] at hargs
        obtain ⟨x', hl', hx2⟩ : ∃ x', args.toList.map a.eval = [x'] ∧ VR ρ x x' := by
          generalize args.toList.map a.eval = l' at hargs
          cases hargs with | cons h1 r => cases r; exact ⟨_, rfl, h1⟩
        have hav : args.map a.eval = #[x'] := by apply Array.ext'; simpa using hl'
        have hats : ats = #[t] := by apply Array.ext'; simpa using hts
        obtain ⟨v', e1, e2⟩ := len_sound (P := P) (ts := ats) (ty := type) hS (t := t) (by rw [hats]; rfl) hx2 hv
        exact upon_v (sm := Builtin.len_ ats type (args.map a.eval)) rfl (by rw [hav]; exact e1) (hn _ _ _ _ _ (RLe.refl _) e2 hS hk)
      · rename_i t x hts hl
        obtain ⟨s', hv, hk⟩ := h
        rw [hl] at hargs
        obtain ⟨x', hl', hx2⟩ : ∃ x', args.toList.map a.eval = [x'] ∧ VR ρ x x' := by
          generalize args.toList.map a.eval = l' at hargs
          cases hargs with | cons h1 r => cases r; exact ⟨_, rfl, h1⟩
        have hav : args.map a.eval = #[x'] := by apply Array.ext'; simpa using hl'
        have hats : ats = #[t] := by apply Array.ext'; simpa using hts
        obtain ⟨w', e1, e2⟩ := clear_sound (P := P) (ty := type) hS hx2 hv
        exact upon_v (sm := Builtin.clear_ ats type (args.map a.eval)) rfl (by rw [hav, hats]; exact e1) (hn _ _ _ _ _ (RLe.refl _) (undef_VR ρ) e2 hk)
      · rename_i t x hts hl
        obtain ⟨v, hv, hk⟩ := h
        rw [hl] at hargs
        obtain ⟨x', hl', hx2⟩ : ∃ x', args.toList.map a.eval = [x'] ∧ VR ρ x x' := by
          generalize args.toList.map a.eval = l' at hargs
          cases hargs with | cons h1 r => cases r; exact ⟨_, rfl, h1⟩
        have hav : args.map a.eval = #[x'] := by apply Array.ext'; simpa using hl'
        have hats : ats = #[t] := by apply Array.ext'; simpa using hts
        obtain ⟨v', e1, e2⟩ := cap_sound (P := P) (w := w) (ty := type) hx2 hv
        exact upon_v (sm := Builtin.cap_ ats type (args.map a.eval)) rfl (by rw [hav, hats]; exact e1) (hn _ _ _ _ _ (RLe.refl _) e2 hS hk)
      · obtain ⟨v, hv, hk⟩ := h
        obtain ⟨e1, e2⟩ := amm_sound (P := P) (w := w) (ts := ats) (ty := type) hargs hv
        exact upon_v (sm := Builtin.min_ ats type (args.map a.eval)) rfl (by rw [show args.map a.eval = (args.toList.map a.eval).toArray by apply Array.ext'; simp]; exact e1) (hn _ _ _ _ _ (RLe.refl _) (.atom (plA.self ρ e2)) hS hk)
      · obtain ⟨v, hv, hk⟩ := h
        obtain ⟨e1, e2⟩ := amm_sound (P := P) (w := w) (ts := ats) (ty := type) hargs hv
        exact upon_v (sm := Builtin.max_ ats type (args.map a.eval)) rfl (by rw [show args.map a.eval = (args.toList.map a.eval).toArray by apply Array.ext'; simp]; exact e1) (hn _ _ _ _ _ (RLe.refl _) (.atom (plA.self ρ e2)) hS hk)
      · exact h.elim
    | value f =>
      simp only [] at h
      split at h
      · rename_i g first captured heq
        obtain ⟨Q, ⟨⟨fn, hf, hb, hnm⟩, hcall⟩, hk⟩ := h
        have hg' : goodX f = true ∧ args.toList.all goodX = true := by simpa [Call.operands] using hg
        have hfv := he.val hg'.1
        rw [heq] at hfv
        obtain ⟨fs', cs', hfe, hfs, hcs⟩ := hfv.func
        have hargs := he.evs hg'.2
        have hall : All2 (VR ρ) (first.toList ++ args.toList.map (ev tm) ++ captured.toList) (fs'.toList ++ args.toList.map a.eval ++ cs'.toList) :=
          ((hfs.mono fun _ _ h => .atom h).append hargs).append (hcs.mono fun _ _ h => .atom h)
        have hc := hcall W0 ρ w _ hall hS
        have hexec : (execOp a.eval ⟨dst, .call ⟨.value f, args, ats⟩, type, pos, after, guard⟩).run P w = .ok (.enter g (fs'.toList ++ args.toList.map a.eval ++ cs'.toList).toArray) w := by
          have hnm' : ¬ fn.name = "runtime.NumGoroutine" := by simpa using hnm
          have hbn : fn.body.isNone = false := by cases hbb : fn.body <;> simp_all
          have hA : (fs'.toList ++ args.toList.map a.eval ++ cs'.toList).toArray = (fs' ++ args.map a.eval) ++ cs' := by apply Array.ext'; simp
          rw [hA]
          simp only [execOp, resolve, hfe, Deferred.ofValue, pure_bind, invoke, callFunc, Sem.run_bind, run_program, Result.andThen_ok, hf]
          simp [hnm', hbn]
        unfold Oper.wp
        rw [hexec]
        refine Calls.mono hc fun e w' hh => ?_
        obtain ⟨v, s', ρ', v', hq, rfl, hvr, hle, hS'⟩ := hh
        exact hn _ _ _ _ _ hle hvr hS' (hk v s' hq)
      · exact h.elim
    | invoke r m => exact h.elim
  all_goals exact h.elim

end
end Go.Proofs.Ytoiplbackllgfaa.Ab

/- Regions, code, calls. -/
namespace Go.Proofs.Ytoiplbackllgfaa.Ab
set_option linter.unusedVariables false
set_option linter.unusedSimpArgs false
set_option linter.unusedSectionVars false
open Go.RowKit
section
variable {P : Program} {W0 w : World} {ρ : Ren} {s : AHeap} {n : Nat} {tm : Env} {a : Act}

/-! ### regions -/
def yl (ops : Array Oper) (tm : Env) (j : Nat) : Option Bool :=
  match (ops[j]?).bind (·.dst) with
  | some d => match tm d with
    | .bool b => some b
    | _ => none
  | none => none

theorem VR.notBool {x y : Value} (h : VR ρ x y) (hx : ∀ b, x ≠ .bool b) : ∀ b, y ≠ .bool b := by
  cases h with
  | v h => cases h with
    | v h => cases h with
      | a h => cases h <;> first | exact absurd rfl (hx _) | (intro b e; cases e)
      | fn => intro b e; cases e
    | agg => intro b e; cases e
  | tup => intro b e; cases e

theorem yielded_eq {ops : Array Oper} (he : EnvR ρ n tm a.tmps) (hd : ops.toList.all (goodO n) = true) (j : Nat) : yielded ops a.tmps j = yl ops tm j := by
  unfold yielded yl
  cases hj : (ops[j]?).bind (·.dst) with
  | none => rfl
  | some d =>
    have hdn : d < n := by
      cases ho : ops[j]? with
      | none => rw [ho] at hj; cases hj
      | some o =>
        rw [ho] at hj
        have hm : o ∈ ops.toList := by simpa using Array.mem_of_getElem? ho
        have := List.all_eq_true.1 hd o hm
        simp only [goodO, Bool.and_eq_true] at this
        have h1 := this.1
        simp only [Option.bind_some] at hj
        rw [hj] at h1
        exact of_decide_eq_true h1
    obtain ⟨v', e1, e2⟩ := he.2.1 d hdn
    simp only [Option.bind_some, e1]
    cases hv : tm d with
    | bool b => rw [hv] at e2; rw [e2.bool]
    | _ => 
      have := e2.notBool (by intro b; rw [hv]; simp)
      cases v' <;> first | rfl | exact absurd rfl (this _)

def AOps (P : Program) (ops : Array Oper) : List Oper → Env → AHeap → (Env → AHeap → Prop) → Prop
  | [], tm, s, K => K tm s
  | o :: r, tm, s, K => match o.guard with
    | none => AOp P o tm s fun v s' => AOps P ops r (put tm o.dst v) s' K
    | some (j, want) => if yl ops tm j = some want then AOp P o tm s fun v s' => AOps P ops r (put tm o.dst v) s' K else AOps P ops r (put tm o.dst undef) s K

theorem AOps.sound {ops : Array Oper} {Q : Exit → Act → World → Prop} (hd : ops.toList.all (goodO n) = true) : ∀ (l : List Oper) {tm : Env} {s : AHeap} {K : Env → AHeap → Prop} {ρ : Ren} {a : Act} {w : World},
    (∀ o ∈ l, goodO n o = true) → AOps P ops l tm s K → EnvR ρ n tm a.tmps → a.defers = [] → Sim W0 ρ s w →
    (∀ ρ' tm' s' a' w', RLe ρ ρ' → EnvR ρ' n tm' a'.tmps → a'.defers = [] → Sim W0 ρ' s' w' → K tm' s' → Q .normal a' w') → wpList P ops Q l a w
  | [], tm, s, K, ρ, a, w, _, h, he, hdf, hS, hQ => hQ ρ tm s a w (RLe.refl _) he hdf hS h
  | o :: r, tm, s, K, ρ, a, w, hg, h, he, hdf, hS, hQ => by
    have hgo := hg o (by simp)
    simp only [goodO, Bool.and_eq_true] at hgo
    have hput : ∀ dst v, (a.put dst v).defers = [] := fun dst v => by cases dst <;> exact hdf
    have step : AOp P o tm s (fun v s' => AOps P ops r (put tm o.dst v) s' K) → o.wp P a w (wpList P ops Q r) Q := fun h =>
      AOp.sound h hgo.2 he hS fun ρ' v v' s' w' hle hv hS' hk =>
        AOps.sound hd r (fun o ho => hg o (by simp [ho])) hk ((he.mono hle).put hgo.1 hv) (hput _ _) hS' fun ρ'' tm' s'' a' w'' hle' => hQ ρ'' tm' s'' a' w'' (hle.trans hle')
    have skip : AOps P ops r (put tm o.dst undef) s K → wpList P ops Q r (a.put o.dst undef) w := fun h =>
      AOps.sound hd r (fun o ho => hg o (by simp [ho])) h (he.put hgo.1 (undef_VR ρ)) (hput _ _) hS hQ
    simp only [AOps] at h
    unfold wpList
    cases hgd : o.guard with
    | none =>
      rw [hgd] at h
      rw [if_pos (by simp [Region.wanted, hgd])]
      exact .inl (step h)
    | some jw =>
      obtain ⟨j, want⟩ := jw
      rw [hgd] at h
      simp only [] at h
      have hw : Region.wanted o (yielded ops a.tmps) = (yl ops tm j == some want) := by simp only [Region.wanted, hgd]; rw [yielded_eq he hd]
      rw [hw]
      by_cases hy : yl ops tm j = some want
      · rw [if_pos hy] at h
        rw [if_pos (by simp [hy])]
        exact .inl (step h)
      · rw [if_neg hy] at h
        rw [if_neg (by simpa using hy)]
        exact skip h

/-! ### code -/
inductive AExit where
  | normal
  | exit (id : Nat)
  | ret
def AExit.to : AExit → Exit
  | .normal => .normal
  | .exit id => .exit id
  | .ret => .ret

def APost (P : Program) (W0 : World) (n : Nat) (Q : AExit → Env → AHeap → Prop) (ρ : Ren) : Exit → Act → World → Prop := fun e a' w' =>
  ∃ x tm' s' ρ', e = AExit.to x ∧ Q x tm' s' ∧ RLe ρ ρ' ∧ EnvR ρ' n tm' a'.tmps ∧ a'.defers = [] ∧ Sim W0 ρ' s' w'

def AWp (P : Program) (n : Nat) (c : Code) (Q : AExit → Env → AHeap → Prop) (tm : Env) (s : AHeap) : Prop :=
  goodC n c = true → ∀ W0 ρ a w, EnvR ρ n tm a.tmps → a.defers = [] → Sim W0 ρ s w → c.wp P (APost P W0 n Q ρ) a w
end

section
variable {P : Program} {n : Nat} {Q : AExit → Env → AHeap → Prop} {tm : Env} {s : AHeap}

theorem AWp.mono {c : Code} {Q' : AExit → Env → AHeap → Prop} (h : AWp P n c Q tm s) (hq : ∀ x tm s, Q x tm s → Q' x tm s) : AWp P n c Q' tm s := fun hg W0 ρ a w he hd hS =>
  wp_mono (h hg W0 ρ a w he hd hS) fun e a' w' ⟨x, tm', s', ρ', e1, e2, e3⟩ => ⟨x, tm', s', ρ', e1, hq _ _ _ e2, e3⟩

theorem AWp.skip (h : Q .normal tm s) : AWp P n .skip Q tm s := fun _ W0 ρ a w he hd hS => wp_skip ⟨.normal, tm, s, ρ, rfl, h, RLe.refl _, he, hd, hS⟩
theorem AWp.exit {id : Nat} (h : Q (.exit id) tm s) : AWp P n (.exit id) Q tm s := fun _ W0 ρ a w he hd hS => wp_exit ⟨.exit id, tm, s, ρ, rfl, h, RLe.refl _, he, hd, hS⟩
theorem AWp.ret (h : Q .ret tm s) : AWp P n .ret Q tm s := fun _ W0 ρ a w he hd hS => wp_ret ⟨.ret, tm, s, ρ, rfl, h, RLe.refl _, he, hd, hS⟩

def thenQ (P : Program) (n : Nat) (y : Code) (Q : AExit → Env → AHeap → Prop) : AExit → Env → AHeap → Prop
  | .normal, tm, s => AWp P n y Q tm s
  | x, tm, s => Q x tm s
theorem AWp.seq {x y : Code} (h : AWp P n x (thenQ P n y Q) tm s) : AWp P n (.seq x y) Q tm s := fun hg W0 ρ a w he hd hS => by
  simp only [goodC, Bool.and_eq_true] at hg
  refine wp_seq (wp_mono (h hg.1 W0 ρ a w he hd hS) ?_)
  rintro e a' w' ⟨z, tm', s', ρ', rfl, hq, hle, he', hd', hS'⟩
  cases z with
  | normal =>
    refine wp_mono (hq hg.2 W0 ρ' a' w' he' hd' hS') ?_
    rintro e a'' w'' ⟨z, tm'', s'', ρ'', rfl, hq2, hle2, r⟩
    exact ⟨z, tm'', s'', ρ'', rfl, hq2, hle.trans hle2, r⟩
  | exit id => exact ⟨.exit id, tm', s', ρ', rfl, hq, hle, he', hd', hS'⟩
  | ret => exact ⟨.ret, tm', s', ρ', rfl, hq, hle, he', hd', hS'⟩

theorem AWp.cond {c : Operand} {x y : Code} {b : Bool} (hc : ev tm c = .bool b) (ht : b = true → AWp P n x Q tm s) (hf : b = false → AWp P n y Q tm s) : AWp P n (.cond c x y) Q tm s := fun hg W0 ρ a w he hd hS => by
  simp only [goodC, Bool.and_eq_true] at hg
  have hv := he.val hg.1.1
  rw [hc] at hv
  cases b with
  | true => exact wp_cond_true hv.bool (ht rfl hg.1.2 W0 ρ a w he hd hS)
  | false => exact wp_cond_false hv.bool (hf rfl hg.2 W0 ρ a w he hd hS)

def blockQ (id : Nat) (Q : AExit → Env → AHeap → Prop) : AExit → Env → AHeap → Prop
  | .exit id', tm, s => if id' = id then Q .normal tm s else Q (.exit id') tm s
  | x, tm, s => Q x tm s
theorem AWp.block {id : Nat} {c : Code} (h : AWp P n c (blockQ id Q) tm s) : AWp P n (.block id c) Q tm s := fun hg W0 ρ a w he hd hS => by
  refine wp_block (wp_mono (h hg W0 ρ a w he hd hS) ?_)
  rintro e a' w' ⟨z, tm', s', ρ', rfl, hq, hle, he', hd', hS'⟩
  cases z with
  | normal => exact ⟨.normal, tm', s', ρ', rfl, hq, hle, he', hd', hS'⟩
  | ret => exact ⟨.ret, tm', s', ρ', rfl, hq, hle, he', hd', hS'⟩
  | exit id' =>
    simp only [AExit.to, Exit.inBlock]
    simp only [blockQ] at hq
    split
    · rename_i hid; rw [if_pos hid] at hq; exact ⟨.normal, tm', s', ρ', rfl, hq, hle, he', hd', hS'⟩
    · rename_i hid; rw [if_neg hid] at hq; exact ⟨.exit id', tm', s', ρ', rfl, hq, hle, he', hd', hS'⟩

def roundQ (I : Nat → Env → AHeap → Prop) (k : Nat) (Q : AExit → Env → AHeap → Prop) : AExit → Env → AHeap → Prop
  | .normal, tm, s => ∃ m, m < k ∧ I m tm s
  | x, tm, s => Q x tm s
/-- A loop: 'I k': what holds at a round's head with at most k rounds to go. -/
theorem AWp.loop {c : Code} (I : Nat → Env → AHeap → Prop) (k : Nat) (h0 : I k tm s) (hr : ∀ k tm s, I k tm s → AWp P n c (roundQ I k Q) tm s) : AWp P n (.loop c) Q tm s := fun hg W0 ρ a w he hd hS => by
  have key : ∀ k tm s ρ1 a w, RLe ρ ρ1 → EnvR ρ1 n tm a.tmps → a.defers = [] → Sim W0 ρ1 s w → I k tm s → ∀ (b : Frame) (kk : List Item) (cs : List Frame),
      ∃ e a' w', APost P W0 n Q ρ e a' w' ∧ Arrives P (lone (b.at a (.code c :: .inLoop c :: kk)) cs w) b kk cs e a' w' := by
    intro k
    induction k using Nat.strongRecOn with
    | _ k ih =>
      intro tm s ρ1 a w hle he hd hS hI b kk cs
      have hround := hr k tm s hI hg W0 ρ1 a w he hd hS b (.inLoop c :: kk) cs
      obtain ⟨e, a1, w1, ⟨z, tm1, s1, ρ2, rfl, hq, hle1, he1, hd1, hS1⟩, harr⟩ := hround
      cases z with
      | normal =>
        obtain ⟨m, hm, hI'⟩ := hq
        obtain ⟨e2, a2, w2, hq2, harr2⟩ := ih m hm tm1 s1 ρ2 a1 w1 (hle.trans hle1) he1 hd1 hS1 hI' b kk cs
        exact ⟨e2, a2, w2, hq2, .of_steps (Steps.trans harr (.one step_inLoop)) harr2⟩
      | exit id => exact ⟨_, a1, w1, ⟨.exit id, tm1, s1, ρ2, rfl, hq, hle.trans hle1, he1, hd1, hS1⟩, .pass (x := .inLoop c) rfl (fun _ _ => .inl (by simp [AExit.to])) harr⟩
      | ret => exact ⟨_, a1, w1, ⟨.ret, tm1, s1, ρ2, rfl, hq, hle.trans hle1, he1, hd1, hS1⟩, .pass (x := .inLoop c) rfl (fun _ _ => .inl (by simp [AExit.to])) harr⟩
  intro b kk cs
  obtain ⟨e, a', w', hq, harr⟩ := key k tm s ρ a w (RLe.refl _) he hd hS h0 b kk cs
  exact ⟨e, a', w', hq, .of_steps (.one step_loop) harr⟩

theorem AWp.region {id : Nat} {l : List Oper} (h : AOps P l.toArray l tm s fun tm' s' => Q .normal tm' s') : AWp P n (.region id l.toArray false) Q tm s := fun hg W0 ρ a w he hd hS => by
  have hg' : l.toArray.toList.all (goodO n) = true := hg
  refine wp_region_lit (AOps.sound hg' l (fun o ho => List.all_eq_true.1 hg' o (by simpa using ho)) h he hd hS ?_)
  intro ρ' tm' s' a' w' hle he' hd' hS' hk
  exact ⟨.normal, tm', s', ρ', rfl, hk, hle, he', hd', hS'⟩

/-! ### entering and leaving a function -/
def ares (P : Program) (tm : Env) (s : AHeap) : List ResultVar → Option (List Value)
  | [] => some []
  | .tmp t :: r => (ares P tm s r).map (tm t :: ·)
  | .cell a t :: r => match aload P t s (tm a), ares P tm s r with
    | some v, some l => some (v :: l)
    | _, _ => none
def resV : List Value → Value
  | [v] => v
  | l => .tuple l.toArray

def nargs (args : List Value) : Env := fun t => args.getD t undef

/-- What a call leaves: the memory that is told, and nothing else of its own. -/
structure Keeps (s s1 s' : AHeap) (v : Value) : Prop where
  sub : ∀ id b, s' id = some b → s1 id = some b
  dom : ∀ id, (s id).isSome = true → (s' id).isSome = true
  cl : ∀ id b, s' id = some b → s id = some b ∨ b.nm fun i => (s' i).isSome = true
  val : nmR (fun i => (s' i).isSome = true) v

theorem nmB.imp {D E : Nat → Prop} (h : ∀ i, D i → E i) {x : Value} (hx : nmB D x) : nmB E x := by
  cases x <;> simp only [nmB] at * <;> first | exact nm1.imp h hx | exact fun x m => (hx x m).imp h

theorem VB.nm {ρ : Ren} {x y : Value} (h : VB ρ x y) : nmB (fun i => (ρ i).isSome = true) x := by
  cases h with
  | v h =>
    have := h.nm
    cases h with
    | a h => cases h <;> simpa [nmB] using this
    | fn => simpa [nmB] using this
  | agg h => exact All2.nm (ρ := ρ) (fun _ _ h => V1.nm h) h

theorem Rep.nmOf {b0 ρ w l b} (h : Rep b0 ρ w l b) : b.nm fun i => (ρ i).isSome = true := by
  cases b with
  | cells rw sz c =>
    intro x hx
    obtain ⟨i, hi, rfl⟩ := List.getElem_of_mem hx
    obtain ⟨v', _, hv⟩ := h.2.1 i _ (List.getElem?_eq_getElem hi)
    exact hv.nm
  | map es =>
    obtain ⟨_, ents, clk, _, h2⟩ := h
    intro x hx
    obtain ⟨i, hi, rfl⟩ := List.getElem_of_mem hx
    obtain ⟨m, _, hm⟩ := h2.get (List.getElem?_eq_getElem hi)
    exact ⟨hm.1.nm, hm.2.nm⟩
  | dead => trivial

theorem ABlk.nm_imp {D E : Nat → Prop} (h : ∀ i, D i → E i) {b : ABlk} (hb : b.nm D) : b.nm E := by
  cases b with
  | cells rw sz c => exact fun x hx => (hb x hx).imp h
  | map es => exact fun x hx => ⟨(hb x hx).1.imp h, (hb x hx).2.imp h⟩
  | dead => trivial

theorem All2.with_left {α β : Type} {R : α → β → Prop} {p : α → Prop} : ∀ {l : List α} {l' : List β}, All2 R l l' → (∀ x ∈ l, p x) → All2 (fun a b => R a b ∧ p a) l l'
  | _, _, .nil, _ => .nil
  | _, _, .cons h r, hp => .cons ⟨h, hp _ (List.mem_cons_self ..)⟩ (r.with_left fun x hx => hp x (List.mem_cons_of_mem _ hx))

theorem Rep.cut {b0 ρ w l b} {D : Nat → Prop} (h : Rep b0 ρ w l b) (hb : b.nm D) : Rep b0 (cutR ρ D) w l b := by
  cases b with
  | cells rw sz c =>
    refine ⟨h.1, fun i v hv => ?_, h.2.2⟩
    obtain ⟨v', e, r⟩ := h.2.1 i v hv
    exact ⟨v', e, r.cut (hb v (List.mem_of_getElem? hv))⟩
  | map es =>
    obtain ⟨h1, ents, clk, h2, h3⟩ := h
    exact ⟨h1, ents, clk, h2, (h3.with_left (p := fun x => nmB D x.1 ∧ nmB D x.2) fun x hx => hb x hx).mono fun _ _ x => ⟨x.1.1.cut x.2.1, x.1.2.cut x.2.2⟩⟩
  | dead => trivial

/-! ### other names at the end -/
def mpA (π : Nat → Nat) : Value → Value
  | .pointer (some a) => .pointer (some { a with block := π a.block })
  | .slice (some a) n c => .slice (some { a with block := π a.block }) n c
  | .map (some r) => .map (some (π r))
  | v => v
def mp1 (π : Nat → Nat) : Value → Value
  | .func f fs cs => .func f (fs.map (mpA π)) (cs.map (mpA π))
  | v => mpA π v
def mpB (π : Nat → Nat) : Value → Value
  | .agg cs => .agg (cs.map (mp1 π))
  | v => mp1 π v
def mpR (π : Nat → Nat) : Value → Value
  | .tuple cs => .tuple (cs.map (mpB π))
  | v => mpB π v
def ABlk.mp (π : Nat → Nat) : ABlk → ABlk
  | .cells rw sz c => .cells rw sz (c.map (mp1 π))
  | .map es => .map (es.map fun e => (mpB π e.1, mpB π e.2))
  | .dead => .dead
theorem mpA_id : mpA (fun i => i) = fun x => x := by
  funext x; unfold mpA; split <;> rfl
theorem mp1_id : mp1 (fun i => i) = fun x => x := by
  funext x; unfold mp1; split
  · rw [mpA_id, Array.map_id', Array.map_id']
  · rw [mpA_id]
theorem mpB_id : mpB (fun i => i) = fun x => x := by
  funext x; unfold mpB; split
  · rw [mp1_id, Array.map_id']
  · rw [mp1_id]
theorem mpR_id (x : Value) : mpR (fun i => i) x = x := by
  unfold mpR; split
  · rw [mpB_id, Array.map_id']
  · rw [mpB_id]
theorem ABlk.mp_id (b : ABlk) : b.mp (fun i => i) = b := by
  cases b with
  | cells rw sz c => simp only [ABlk.mp, mp1_id, List.map_id']
  | map es => simp only [ABlk.mp, mpB_id]; rw [show (fun e : Value × Value => (e.1, e.2)) = fun e => e from rfl, List.map_id']
  | dead => rfl
theorem ABlk.mp_own (π : Nat → Nat) (b : ABlk) : (b.mp π).own = b.own := by cases b <;> rfl
theorem ABlk.mp_live (π : Nat → Nat) (b : ABlk) : (b.mp π).live = b.live := by
  cases b with
  | cells rw sz c => cases c <;> rfl
  | map es => rfl
  | dead => rfl
theorem All2.unmap {α β γ : Type} {R : β → γ → Prop} {f : α → β} : ∀ {l : List α} {l' : List γ}, All2 R (l.map f) l' → All2 (fun x y => R (f x) y) l l'
  | [], _, h => by cases h; exact .nil
  | a :: l, _, h => by cases h with | cons x r => exact .cons x r.unmap
theorem V1.notF {ρ : Ren} {x y : Value} (h : V1 ρ x y) (hx : ∀ f fs cs, x ≠ .func f fs cs) : VA ρ x y := by
  cases h with
  | a h => exact h
  | fn => exact absurd rfl (hx _ _ _)
theorem VB.notG {ρ : Ren} {x y : Value} (h : VB ρ x y) (hx : ∀ cs, x ≠ .agg cs) : V1 ρ x y := by
  cases h with
  | v h => exact h
  | agg => exact absurd rfl (hx _)
theorem VR.notT {ρ : Ren} {x y : Value} (h : VR ρ x y) (hx : ∀ cs, x ≠ .tuple cs) : VB ρ x y := by
  cases h with
  | v h => exact h
  | tup => exact absurd rfl (hx _)
theorem mpA_kind (π : Nat → Nat) (x : Value) : mpA π x = x ∨ ((∀ f fs cs, mpA π x ≠ .func f fs cs) ∧ (∀ cs, mpA π x ≠ .agg cs) ∧ (∀ cs, mpA π x ≠ .tuple cs)) := by
  unfold mpA; split <;> first | exact .inl rfl | (refine .inr ⟨?_, ?_, ?_⟩ <;> intros <;> simp)
section unmp
variable {ρ : Ren} {π : Nat → Nat} {x y : Value}
theorem VA.unmp (h : VA ρ (mpA π x) y) : VA (fun i => ρ (π i)) x y := by
  cases x with
  | pointer a =>
    cases a with
    | none => cases h; exact .nilp
    | some a => obtain ⟨B, o, sp⟩ := a; cases h with | ptr h => exact .ptr h
  | slice a n c =>
    cases a with
    | none => cases h; exact .nils
    | some a => obtain ⟨B, o, sp⟩ := a; cases h with | sl h a b c d e => exact .sl h a b c d e
  | map r =>
    cases r with
    | none => cases h; exact .nilm
    | some r => cases h with | map h => exact .map h
  | _ => cases h <;> constructor
theorem V1.unmp (h : V1 ρ (mp1 π x) y) : V1 (fun i => ρ (π i)) x y := by
  cases x with
  | func f fs cs =>
    cases h with
    | a h => cases h
    | fn h1 h2 =>
      rw [Array.toList_map] at h1 h2
      exact .fn (h1.unmap.mono fun _ _ h => h.unmp) (h2.unmap.mono fun _ _ h => h.unmp)
  | _ =>
    refine .a (VA.unmp (V1.notF h ?_))
    intro f fs cs e
    rcases mpA_kind π _ with k | k
    · rw [k] at e; cases e
    · exact k.1 _ _ _ e
theorem VB.unmp (h : VB ρ (mpB π x) y) : VB (fun i => ρ (π i)) x y := by
  cases x with
  | agg cs =>
    cases h with
    | v h => cases h with | a h => cases h
    | agg h => rw [Array.toList_map] at h; exact .agg (h.unmap.mono fun _ _ h => h.unmp)
  | func f fs cs => exact .v (V1.unmp (VB.notG h (by intro cs e; simp only [mpB, mp1] at e; cases e)))
  | _ =>
    refine .v (V1.unmp (VB.notG h ?_))
    intro cs e
    simp only [mpB, mp1] at e
    rcases mpA_kind π _ with k | k
    · rw [k] at e; cases e
    · exact k.2.1 _ e
theorem VR.unmp (h : VR ρ (mpR π x) y) : VR (fun i => ρ (π i)) x y := by
  cases x with
  | tuple cs =>
    cases h with
    | v h => cases h with | v h => cases h with | a h => cases h
    | tup h => rw [Array.toList_map] at h; exact .tup (h.unmap.mono fun _ _ h => h.unmp)
  | func f fs cs => exact .v (VB.unmp (VR.notT h (by intro cs e; simp only [mpR, mpB, mp1] at e; cases e)))
  | agg cs => exact .v (VB.unmp (VR.notT h (by intro cs e; simp only [mpR, mpB] at e; cases e)))
  | _ =>
    refine .v (VB.unmp (VR.notT h ?_))
    intro cs e
    simp only [mpR, mpB, mp1] at e
    rcases mpA_kind π _ with k | k
    · rw [k] at e; cases e
    · exact k.2.2 _ e
end unmp

theorem Rep.unmp {b0 ρ w l b} {π : Nat → Nat} (h : Rep b0 ρ w l (ABlk.mp π b)) : Rep b0 (fun i => ρ (π i)) w l b := by
  cases b with
  | cells rw sz c =>
    refine ⟨h.1, fun i v hv => ?_, fun hr => ?_⟩
    · obtain ⟨v', e, r⟩ := h.2.1 i (mp1 π v) (by rw [List.getElem?_map, hv]; rfl)
      exact ⟨v', e, r.unmp⟩
    · have := h.2.2 hr; rw [List.length_map] at this; exact this
  | map es =>
    obtain ⟨h1, ents, clk, h2, h3⟩ := h
    exact ⟨h1, ents, clk, h2, h3.unmap.mono fun _ _ x => ⟨x.1.unmp, x.2.unmp⟩⟩
  | dead => trivial

/-- What is kept, with other names for the new blocks. -/
structure KeepsR (π : Nat → Nat) (s s1 s' : AHeap) (v : Value) : Prop where
  old : ∀ id, (s id).isSome = true → (s' id).isSome = true ∧ π id = id
  inj : ∀ x y, (s' x).isSome = true → (s' y).isSome = true → π x = π y → x = y
  sub : ∀ id b, s' id = some b → (s id = some b ∧ s1 id = some b) ∨ (s1 (π id) = some (b.mp π) ∧ b.nm fun i => (s' i).isSome = true)
  fin : (∃ N, ∀ id, N ≤ id → s id = none) → (∃ N, ∀ id, N ≤ id → s1 id = none) → ∃ N, ∀ id, N ≤ id → s' id = none
  val : nmR (fun i => (s' i).isSome = true) v

theorem Keeps.ren {s s1 s' : AHeap} {v : Value} (h : Keeps s s1 s' v) : KeepsR (fun i => i) s s1 s' v := by
  refine ⟨fun id hi => ⟨h.dom id hi, rfl⟩, fun _ _ _ _ e => e, fun id b hb => ?_, fun _ hf => ?_, h.val⟩
  · rcases h.cl id b hb with h0 | h0
    · exact .inl ⟨h0, h.sub id b hb⟩
    · exact .inr ⟨by rw [ABlk.mp_id]; exact h.sub id b hb, h0⟩
  · obtain ⟨N, hN⟩ := hf
    refine ⟨N, fun id hid => ?_⟩
    cases hs : s' id with
    | none => rfl
    | some b => have := h.sub id b hs; rw [hN id hid] at this; cases this

theorem Sim.leave {W0 w w1 : World} {ρ ρ1 : Ren} {s s1 s' : AHeap} {v v' : Value} {π : Nat → Nat} (hS : Sim W0 ρ s w) (hS1 : Sim W0 ρ1 s1 w1) (hle : RLe ρ ρ1) (hk : KeepsR π s s1 s' v) (hv : VR ρ1 (mpR π v) v') :
    RLe ρ (cutR (fun i => ρ1 (π i)) fun i => (s' i).isSome = true) ∧ VR (cutR (fun i => ρ1 (π i)) fun i => (s' i).isSome = true) v v' ∧ Sim W0 (cutR (fun i => ρ1 (π i)) fun i => (s' i).isSome = true) s' w1 := by
  have hdom : ∀ id l, ρ id = some l → (s id).isSome = true := hS.dom
  refine ⟨fun id l h => cutR_in ?_ (hk.old id (hdom id l h)).1, hv.unmp.cut hk.val, hS1.below, ?_, ?_, ?_, hk.fin hS.fin hS1.fin⟩
  · show ρ1 (π id) = some l
    rw [(hk.old id (hdom id l h)).2]; exact hle id l h
  · intro id b hb
    have hi : (s' id).isSome = true := by rw [hb]; rfl
    rcases hk.sub id b hb with ⟨h0, h1⟩ | ⟨h1, h2⟩
    · obtain ⟨l, hl, hr⟩ := hS1.rep id b h1
      obtain ⟨l0, hl0, hr0⟩ := hS.rep id b h0
      have hs : (s id).isSome = true := by rw [h0]; rfl
      refine ⟨l, cutR_in (by show ρ1 (π id) = some l; rw [(hk.old id hs).2]; exact hl) hi, ?_⟩
      have hr1 := Rep.cut (D := fun i => (s i).isSome = true) hr (ABlk.nm_imp (fun i hi => by
        obtain ⟨l, hl⟩ := Option.isSome_iff_exists.1 hi
        exact hdom i l hl) hr0.nmOf)
      refine hr1.mono fun i li hli => ?_
      unfold cutR at hli
      split at hli
      · rename_i hd
        refine cutR_in ?_ (hk.old i hd).1
        show ρ1 (π i) = some li
        rw [(hk.old i hd).2]; exact hli
      · cases hli
    · obtain ⟨l, hl, hr⟩ := hS1.rep _ _ h1
      exact ⟨l, cutR_in hl hi, hr.unmp.cut h2⟩
  · intro id l hl
    unfold cutR at hl
    split at hl
    · assumption
    · cases hl
  · intro x y bx bY lx ly hne hx hy ho hlv hlx hly
    have hx1 : (s' x).isSome = true := by rw [hx]; rfl
    have hy1 : (s' y).isSome = true := by rw [hy]; rfl
    have at1 : ∀ id b, s' id = some b → ∃ b', s1 (π id) = some b' ∧ b'.own = b.own ∧ b'.live = b.live := fun id b hb => by
      rcases hk.sub id b hb with ⟨h0, h1⟩ | ⟨h1, h2⟩
      · exact ⟨b, by rw [(hk.old id (by rw [h0]; rfl)).2]; exact h1, rfl, rfl⟩
      · exact ⟨_, h1, ABlk.mp_own _ _, ABlk.mp_live _ _⟩
    obtain ⟨bx', e1, e2, _⟩ := at1 x bx hx
    obtain ⟨by', f1, _, f3⟩ := at1 y bY hy
    exact hS1.apart (π x) (π y) bx' by' lx ly (fun e => hne (hk.inj x y hx1 hy1 e)) e1 f1 (by rw [e2]; exact ho) (by rw [f3]; exact hlv) (cutR_le (fun i => ρ1 (π i)) _ x lx hlx) (cutR_le (fun i => ρ1 (π i)) _ y ly hly)

theorem ares_run {P : Program} {W0 w : World} {ρ : Ren} {s : AHeap} {n : Nat} {tm : Env} {a : Act} (he : EnvR ρ n tm a.tmps) (hS : Sim W0 ρ s w) : ∀ (rs : List ResultVar) {l : List Value}, ares P tm s rs = some l →
    ∃ l', ((rs.mapM (m := Sem) fun | .tmp t => pure (a.tmps.getD t undef) | .cell x t => do loadVar t (← asAddr (a.tmps.getD x undef))).run P w = .ok l' w) ∧ All2 (VR ρ) l l'
  | [], l, h => by obtain rfl := Option.some.inj h; exact ⟨[], by simp, .nil⟩
  | .tmp t :: r, l, h => by
    simp only [ares] at h
    cases hr : ares P tm s r with
    | none => rw [hr] at h; cases h
    | some l0 =>
    rw [hr] at h
    obtain rfl := Option.some.inj h
    obtain ⟨l', e1, e2⟩ := ares_run he hS r hr
    refine ⟨a.tmps.getD t undef :: l', ?_, .cons (he.val (x := .tmp t) rfl) e2⟩
    simp only [List.mapM_cons, Sem.run_bind, Sem.run_pure, Result.andThen_ok, e1]
  | .cell x t :: r, l, h => by
    simp only [ares] at h
    split at h
    case h_2 => cases h
    rename_i v l0 hv hr
    obtain rfl := Option.some.inj h
    obtain ⟨l', e1, e2⟩ := ares_run he hS r hr
    have hx := he.val (x := .tmp x) rfl
    obtain ⟨v', e3, e4⟩ := load_sound (P := P) hS hx hv
    refine ⟨v' :: l', ?_, .cons (.v e4) e2⟩
    have e5 : ((do loadVar t (← asAddr (a.tmps.getD x undef)) : Sem Value)).run P w = .ok v' w := by
      have e6 : a.eval (.tmp x) = a.tmps.getD x undef := rfl
      rw [e6] at e3 hx
      have : ∃ ad, a.tmps.getD x undef = .pointer (some ad) := by
        unfold aload at hv
        split at hv
        case h_2 => cases hv
        rename_i ad _ heq
        have hx' : VR ρ (tm x) (a.tmps.getD x undef) := hx
        rw [heq] at hx'
        obtain ⟨l, _, _, hh⟩ := hx'.ptr
        exact ⟨_, hh⟩
      obtain ⟨ad, had⟩ := this
      rw [had] at e3 ⊢
      simpa [Instr.loadAt, Instr.sureAddr, asAddr] using e3
    rw [List.mapM_cons]
    simp only [Sem.run_bind, e5, Result.andThen_ok, e1, Sem.run_pure]

def goodRes (l : List Value) : Bool := l.length == 1 || l.all notTup
theorem resV_rel {ρ : Ren} {l l' : List Value} (h : All2 (VR ρ) l l') (hg : goodRes l = true) : VR ρ (resV l) (resV l') := by
  cases h with
  | nil => exact .tup .nil
  | cons a r =>
    cases r with
    | nil => exact a
    | cons b r =>
      have hall : ∀ x ∈ _ :: _ :: _, notTup x = true := List.all_eq_true.1 (by simpa [goodRes] using hg)
      refine .tup ?_
      have : All2 (VR ρ) _ _ := All2.cons a (.cons b r)
      exact (this.with_left hall).mono fun x y h => h.1.toB fun cs e => by subst e; cases h.2

theorem results_run {P : Program} {w : World} (fn : Func) (tmps : Array Value) {l' : List Value}
    (h : (fn.results.toList.mapM (m := Sem) fun | .tmp t => pure (tmps.getD t undef) | .cell x t => do loadVar t (← asAddr (tmps.getD x undef))).run P w = .ok l' w) : (results fn tmps).run P w = .ok (resV l') w := by
  unfold results
  rw [Sem.run_bind, Array.mapM_eq_mapM_toList]
  simp only [Sem.run_map]
  erw [h]
  simp only [Result.andThen_ok, Sem.run_pure]
  congr 1
  match l' with
  | [] => rfl
  | [v] => rfl
  | a :: b :: r => simp [resV]

theorem ACall.intro {P : Program} {f : FuncId} {fn : Func} {c : Code} {args : List Value} {s s' : AHeap} {v : Value} (hf : P.funcs[f]? = some fn) (hb : fn.body = some c) (hg : goodC fn.ntmps c = true) (hnm : (fn.name == "runtime.NumGoroutine") = false)
    (hlen : args.length ≤ fn.ntmps)
    (h : ∀ N, (∀ id, N ≤ id → s id = none) → AWp P fn.ntmps c (fun x tm s1 => (∀ id, x ≠ .exit id) ∧ ∃ l π, ares P tm s1 fn.results.toList = some l ∧ goodRes l = true ∧ resV l = mpR π v ∧ KeepsR π s s1 s' v) (nargs args) s) :
    ACall P f args s v s' := by
  refine ⟨⟨fn, hf, by rw [hb]; rfl, hnm⟩, fun W0 ρ w args' ha hS => ?_⟩
  obtain ⟨N, hN⟩ := hS.fin
  have hl := ha.length
  have he : EnvR ρ fn.ntmps (nargs args) (args'.toArray ++ Array.replicate (fn.ntmps - args'.toArray.size) undef) := by
    refine ⟨by simp; omega, fun t ht => ?_, fun t ht => ?_⟩
    · by_cases hta : t < args.length
      · obtain ⟨v', e1, e2⟩ := ha.get (List.getElem?_eq_getElem hta)
        refine ⟨v', ?_, ?_⟩
        · rw [Array.getElem?_append_left (by simp; omega)]; simpa using e1
        · simpa [nargs, List.getD, hta] using e2
      · refine ⟨undef, ?_, ?_⟩
        · rw [Array.getElem?_append_right (by simp; omega)]; simp only [List.size_toArray]; rw [Array.getElem?_replicate, if_pos (by omega)]
        · have : nargs args t = undef := by simp [nargs, List.getD, List.getElem?_eq_none (show args.length ≤ t by omega)]
          rw [this]; exact undef_VR ρ
    · simp [nargs, List.getD, List.getElem?_eq_none (show args.length ≤ t by omega)]
  refine calls_of_wp hf hb (wp_mono (h N hN hg W0 ρ { tmps := _, defers := [] } w he rfl hS) ?_)
  rintro e a' w' ⟨x, tm', s1, ρ1, rfl, ⟨hx, l, π, hl1, hl2, hrv, hk⟩, hle, he', hd', hS1⟩
  obtain ⟨l', e1, e2⟩ := ares_run (P := P) he' hS1 _ hl1
  have hr := results_run fn a'.tmps e1
  have hv := resV_rel e2 hl2
  rw [hrv] at hv
  obtain ⟨f1, f2, f3⟩ := hS.leave hS1 hle hk hv
  cases x with
  | normal => exact ⟨hd', _, hr, _, _, rfl, f2, f1, f3⟩
  | ret => exact ⟨hd', _, hr, _, _, rfl, f2, f1, f3⟩
  | exit id => exact absurd rfl (hx id)
theorem ACallE.intro {P : Program} {f : FuncId} {fn : Func} {c : Code} {args : List Value} {s : AHeap} {Q : Value → AHeap → Prop} (hf : P.funcs[f]? = some fn) (hb : fn.body = some c) (hg : goodC fn.ntmps c = true) (hnm : (fn.name == "runtime.NumGoroutine") = false)
    (hlen : args.length ≤ fn.ntmps)
    (h : ∀ N, (∀ id, N ≤ id → s id = none) → AWp P fn.ntmps c (fun x tm s1 => (∀ id, x ≠ .exit id) ∧ ∃ l s', ares P tm s1 fn.results.toList = some l ∧ goodRes l = true ∧ Q (resV l) s' ∧ Keeps s s1 s' (resV l)) (nargs args) s) :
    ACallE P f args s Q := by
  refine ⟨⟨fn, hf, by rw [hb]; rfl, hnm⟩, fun W0 ρ w args' ha hS => ?_⟩
  obtain ⟨N, hN⟩ := hS.fin
  have hl := ha.length
  have he : EnvR ρ fn.ntmps (nargs args) (args'.toArray ++ Array.replicate (fn.ntmps - args'.toArray.size) undef) := by
    refine ⟨by simp; omega, fun t ht => ?_, fun t ht => ?_⟩
    · by_cases hta : t < args.length
      · obtain ⟨v', e1, e2⟩ := ha.get (List.getElem?_eq_getElem hta)
        refine ⟨v', ?_, ?_⟩
        · rw [Array.getElem?_append_left (by simp; omega)]; simpa using e1
        · simpa [nargs, List.getD, hta] using e2
      · refine ⟨undef, ?_, ?_⟩
        · rw [Array.getElem?_append_right (by simp; omega)]; simp only [List.size_toArray]; rw [Array.getElem?_replicate, if_pos (by omega)]
        · have : nargs args t = undef := by simp [nargs, List.getD, List.getElem?_eq_none (show args.length ≤ t by omega)]
          rw [this]; exact undef_VR ρ
    · simp [nargs, List.getD, List.getElem?_eq_none (show args.length ≤ t by omega)]
  refine calls_of_wp hf hb (wp_mono (h N hN hg W0 ρ { tmps := _, defers := [] } w he rfl hS) ?_)
  rintro e a' w' ⟨x, tm', s1, ρ1, rfl, ⟨hx, l, s', hl1, hl2, hq, hk⟩, hle, he', hd', hS1⟩
  obtain ⟨l', e1, e2⟩ := ares_run (P := P) he' hS1 _ hl1
  have hr := results_run fn a'.tmps e1
  have hv := resV_rel e2 hl2
  obtain ⟨f1, f2, f3⟩ := hS.leave hS1 hle hk.ren (by rw [mpR_id]; exact hv)
  cases x with
  | normal => exact ⟨hd', _, hr, _, s', _, _, hq, rfl, f2, f1, f3⟩
  | ret => exact ⟨hd', _, hr, _, s', _, _, hq, rfl, f2, f1, f3⟩
  | exit id => exact absurd rfl (hx id)
end
end Go.Proofs.Ytoiplbackllgfaa.Ab

/- Regions that draw their order. -/
namespace Go.Proofs.Ytoiplbackllgfaa.Ab
set_option linter.unusedVariables false
set_option linter.unusedSimpArgs false
set_option linter.unusedSectionVars false
open Go.RowKit

/-! ### the static side -/
def cC (C : List (List Nat)) (i : Nat) : List Nat := C.getD i []
def opNames (ops : Array Oper) (o : Oper) : List Nat :=
  o.dst.toList ++ (o.op.operands.toList.filterMap fun | .tmp t => some t | _ => none) ++
  (match o.guard with | some (g, _) => ((ops[g]?).bind (·.dst)).toList | none => [])
def drawOk (ops : Array Oper) (C : List (List Nat)) : Bool :=
  ops.toList.zipIdx.all fun (o, i) =>
    (o.after.toList.all fun e => !Region.binds .any e || decide (e.on < i)) &&
    ((cC C i).all fun k => decide (k < i) && o.after.toList.any fun e => Region.binds .any e && (e.on == k || (cC C e.on).contains k)) &&
    ((opNames ops o).all fun t => ops.toList.zipIdx.all fun (p, k) => p.dst != some t || k == i || (decide (k < i) && (cC C i).contains k) || (decide (i < k) && (cC C k).contains i))

def unordB (C : List (List Nat)) (i j : Nat) : Bool := i != j && !(cC C i).contains j && !(cC C j).contains i
/-- The names that other operations, of no order to the i-th, write. -/
def others (C : List (List Nat)) (W : List (Nat × List Nat)) (i : Nat) : List Nat := W.flatMap fun p => if unordB C i p.1 then p.2 else []
def own (W : List (Nat × List Nat)) (i : Nat) : List Nat := W.flatMap fun p => if p.1 = i then p.2 else []

def updH (s : AHeap) : List (Nat × ABlk) → AHeap
  | [] => s
  | (i, b) :: r => updH (s.set i b) r
def AgreeOff (U : List Nat) (t s : AHeap) : Prop := ∀ id, id ∉ U → t id = s id

theorem updH_out {d : List (Nat × ABlk)} : ∀ {s : AHeap} {id : Nat}, id ∉ d.map (·.1) → updH s d id = s id := by
  induction d with
  | nil => intro s id _; rfl
  | cons x d ih => intro s id h; simp only [List.map_cons, List.mem_cons, not_or] at h; rw [updH, ih h.2, AHeap.set_other _ _ h.1]
theorem updH_in {d : List (Nat × ABlk)} : ∀ {s t : AHeap} {id : Nat}, id ∈ d.map (·.1) → updH s d id = updH t d id := by
  induction d with
  | nil => intro s t id h; cases h
  | cons x d ih =>
    intro s t id h
    rw [updH, updH]
    by_cases hd : id ∈ d.map (·.1)
    · exact ih hd
    · rw [updH_out hd, updH_out hd]
      simp only [List.map_cons, List.mem_cons] at h
      obtain rfl := h.resolve_right hd
      rw [AHeap.set_same, AHeap.set_same]

def AOpsD (P : Program) (ops : Array Oper) (C : List (List Nat)) (W : List (Nat × List Nat)) : Nat → List Oper → Env → AHeap → (Env → AHeap → Prop) → Prop
  | _, [], tm, s, K => K tm s
  | i, o :: r, tm, s, K =>
    (match o.guard with | none => True | some (j, want) => yl ops tm j = some want) ∧ (∃ v d, (∀ id ∈ d.map (·.1), id ∈ own W i) ∧
      (∀ t, AgreeOff (others C W i) t s → AOp P o tm t fun v' t' => v' = v ∧ t' = updH t d) ∧ AOpsD P ops C W (i + 1) r (put tm o.dst v) (updH s d) K)
    ∨ (match o.guard with | none => False | some (j, want) => yl ops tm j ≠ some want) ∧ AOpsD P ops C W (i + 1) r (put tm o.dst undef) s K

section
variable {P : Program} {ops : Array Oper} {C : List (List Nat)} {W : List (Nat × List Nat)} {tm : Env} {s : AHeap} {K : Env → AHeap → Prop} {i : Nat} {o : Oper} {r : List Oper}

theorem AOpsD.nil (h : K tm s) : AOpsD P ops C W i [] tm s K := h
/-- An operation that writes nothing that was there. -/
theorem AOpsD.quiet (v : Value) (hg : (match o.guard with | none => True | some (j, want) => yl ops tm j = some want)) (h : ∀ t, AgreeOff (others C W i) t s → AOp P o tm t fun v' t' => v' = v ∧ t' = t)
    (hr : AOpsD P ops C W (i + 1) r (put tm o.dst v) s K) : AOpsD P ops C W i (o :: r) tm s K := .inl ⟨hg, v, [], by simp, h, hr⟩
theorem AOpsD.write (v : Value) (d : List (Nat × ABlk)) (hg : (match o.guard with | none => True | some (j, want) => yl ops tm j = some want)) (hd : ∀ id ∈ d.map (·.1), id ∈ own W i)
    (h : ∀ t, AgreeOff (others C W i) t s → AOp P o tm t fun v' t' => v' = v ∧ t' = updH t d)
    (hr : AOpsD P ops C W (i + 1) r (put tm o.dst v) (updH s d) K) : AOpsD P ops C W i (o :: r) tm s K := .inl ⟨hg, v, d, hd, h, hr⟩
theorem AOpsD.pass (hg : (match o.guard with | none => False | some (j, want) => yl ops tm j ≠ some want)) (hr : AOpsD P ops C W (i + 1) r (put tm o.dst undef) s K) : AOpsD P ops C W i (o :: r) tm s K := .inr ⟨hg, hr⟩
end

theorem AOp.congr {P : Program} {o : Oper} {tm tm' : Env} {s : AHeap} {K : Value → AHeap → Prop} (h : ∀ x ∈ o.op.operands, ev tm x = ev tm' x) (hh : AOp P o tm s K) : AOp P o tm' s K := by
  obtain ⟨dst, op, type, pos, after, guard⟩ := o
  have pairs : ∀ ps : List (Nat × Operand), (∀ x ∈ ps.map (·.2), ev tm x = ev tm' x) → (ps.map fun p => (p.1, ev tm p.2)) = ps.map fun p => (p.1, ev tm' p.2) := fun ps hp =>
    List.map_congr_left fun p hm => by rw [hp p.2 (List.mem_map.2 ⟨p, hm, rfl⟩)]
  have lists : ∀ ps : List Operand, (∀ x ∈ ps, ev tm x = ev tm' x) → ps.map (ev tm) = ps.map (ev tm') := fun ps hp => List.map_congr_left hp
  have arrs : ∀ ps : Array Operand, (∀ x ∈ ps, ev tm x = ev tm' x) → ps.map (ev tm) = ps.map (ev tm') := fun ps hp => Array.map_congr_left hp
  have ats : ∀ ps : List Operand, (∀ x ∈ ps, ev tm x = ev tm' x) → ps.all (fun x => isAt (ev tm x)) = ps.all (fun x => isAt (ev tm' x)) := fun ps hp => by
    induction ps with
    | nil => rfl
    | cons a l ih => rw [List.all_cons, List.all_cons, hp a (by simp), ih fun x hx => hp x (by simp [hx])]
  cases op <;> simp only [Op.operands] at h <;> simp only [AOp] at hh ⊢
  case build t ps => rw [← pairs _ (fun x hx => h x (by simpa using hx))]; exact hh
  case buildSlice t n ps => rw [← pairs _ (fun x hx => h x (by simpa using hx))]; exact hh
  case makeFunc fn first captured =>
    cases fn <;> simp only [] at hh ⊢
    case func f =>
      rw [← ats first.toList (fun x hx => h x (by simp at hx; simp [hx])), ← ats captured.toList (fun x hx => h x (by simp at hx; simp [hx])), ← arrs first (fun x hx => h x (by simp [hx])), ← arrs captured (fun x hx => h x (by simp [hx]))]
      exact hh
    all_goals exact hh
  case makeMap t r => cases r <;> exact hh
  case slice t x lo hi mx =>
    have h1 : ev tm x = ev tm' x := h x (by cases lo <;> cases hi <;> cases mx <;> simp)
    have h2 : lo.map (ev tm) = lo.map (ev tm') := by cases lo with | none => rfl | some y => exact congrArg some (h y (by cases hi <;> cases mx <;> simp))
    have h3 : hi.map (ev tm) = hi.map (ev tm') := by cases hi with | none => rfl | some y => exact congrArg some (h y (by cases lo <;> cases mx <;> simp))
    have h4 : mx.map (ev tm) = mx.map (ev tm') := by cases mx with | none => rfl | some y => exact congrArg some (h y (by cases lo <;> cases hi <;> simp))
    rw [← h1, ← h2, ← h3, ← h4]; exact hh
  case call c =>
    obtain ⟨callee, args, tys⟩ := c
    cases callee with
    | builtin b =>
      simp only [Call.operands] at h
      rw [← lists args.toList (fun x hx => h x (by simp at hx; simp [hx]))]
      exact hh
    | value f =>
      simp only [Call.operands] at h
      simp only [] at hh ⊢
      rw [← lists args.toList (fun x hx => h x (by simp at hx; simp [hx])), ← h f (by simp)]
      exact hh
    | invoke r m => exact hh
  all_goals first
    | exact hh
    | (simp only [List.mem_toArray, List.mem_cons, List.not_mem_nil, or_false, forall_eq_or_imp, forall_eq] at h
       first
       | (rw [← h]; exact hh)
       | (rw [← h.1, ← h.2]; exact hh)
       | (rw [← h.1, ← h.2.1, ← h.2.2]; exact hh)
       | (simpa [h] using hh))

/-! ### folds over the operations that are done -/
section
variable (ops : Array Oper) (L : Nat → Bool) (V : Nat → Value) (Dl : Nat → List (Nat × ABlk)) (tm0 : Env) (s0 : AHeap)
def dstAt (i : Nat) : Option Tmp := (ops[i]?).bind (·.dst)
def fT : Nat → Env
  | 0 => tm0
  | k + 1 => if L k = true then put (fT k) (dstAt ops k) (V k) else fT k
def fS : Nat → AHeap
  | 0 => s0
  | k + 1 => if L k = true then updH (fS k) (Dl k) else fS k
end

section
variable {ops : Array Oper} {L L' : Nat → Bool} {V V' : Nat → Value} {Dl Dl' : Nat → List (Nat × ABlk)} {tm0 : Env} {s0 : AHeap}
theorem fT_congr : ∀ {k : Nat}, (∀ j, j < k → L j = L' j ∧ V j = V' j) → fT ops L V tm0 k = fT ops L' V' tm0 k
  | 0, _ => rfl
  | k + 1, h => by simp only [fT]; rw [fT_congr fun j hj => h j (by omega), (h k (by omega)).1, (h k (by omega)).2]
theorem fS_congr : ∀ {k : Nat}, (∀ j, j < k → L j = L' j ∧ Dl j = Dl' j) → fS L Dl s0 k = fS L' Dl' s0 k
  | 0, _ => rfl
  | k + 1, h => by simp only [fS]; rw [fS_congr fun j hj => h j (by omega), (h k (by omega)).1, (h k (by omega)).2]
theorem put_other {tm : Env} {d : Option Tmp} {v : Value} {t : Nat} (h : d ≠ some t) : put tm d v t = tm t := by
  cases d with
  | none => rfl
  | some d => have : t ≠ d := fun e => h (by rw [e]); simp [put, this]
theorem put_same {tm : Env} {v : Value} {t : Nat} : put tm (some t) v t = v := by simp [put]

theorem fT_slot {m i t : Nat} (hi : i ≤ m) (h : ∀ k, k < m → dstAt ops k = some t → (L k = true ↔ k < i)) : fT ops L V tm0 m t = fT ops (fun _ => true) V tm0 i t := by
  have key : ∀ k, k ≤ m → fT ops L V tm0 k t = fT ops (fun _ => true) V tm0 (min k i) t := by
    intro k
    induction k with
    | zero => intro _; simp [fT]
    | succ k ih =>
      intro hk
      have ih' := ih (by omega)
      simp only [fT]
      by_cases hd : dstAt ops k = some t
      · have hh := h k (by omega) hd
        by_cases hki : k < i
        · rw [if_pos (hh.2 hki), show min (k + 1) i = min k i + 1 by omega, show min k i = k by omega]
          simp only [fT, if_true]
          rw [hd, put_same, put_same]
        · rw [if_neg (fun e => hki (hh.1 e)), ih', show min (k + 1) i = min k i by omega]
      · have e1 : (if L k = true then put (fT ops L V tm0 k) (dstAt ops k) (V k) else fT ops L V tm0 k) t = fT ops L V tm0 k t := by
          split
          · exact put_other hd
          · rfl
        rw [e1, ih']
        by_cases hki : k < i
        · rw [show min (k + 1) i = min k i + 1 by omega, show min k i = k by omega]
          simp only [fT, if_true]
          rw [put_other hd]
        · rw [show min (k + 1) i = min k i by omega]
  have := key m (Nat.le_refl _)
  rwa [show min m i = i by omega] at this

theorem fS_slot {m i id : Nat} (hi : i ≤ m) (h : ∀ k, k < m → id ∈ (Dl k).map (·.1) → (L k = true ↔ k < i)) : fS L Dl s0 m id = fS (fun _ => true) Dl s0 i id := by
  have key : ∀ k, k ≤ m → fS L Dl s0 k id = fS (fun _ => true) Dl s0 (min k i) id := by
    intro k
    induction k with
    | zero => intro _; simp [fS]
    | succ k ih =>
      intro hk
      have ih' := ih (by omega)
      simp only [fS]
      by_cases hd : id ∈ (Dl k).map (·.1)
      · have hh := h k (by omega) hd
        by_cases hki : k < i
        · rw [if_pos (hh.2 hki), show min (k + 1) i = min k i + 1 by omega, show min k i = k by omega]
          simp only [fS, if_true]
          exact updH_in hd
        · rw [if_neg (fun e => hki (hh.1 e)), ih', show min (k + 1) i = min k i by omega]
      · have e1 : (if L k = true then updH (fS L Dl s0 k) (Dl k) else fS L Dl s0 k) id = fS L Dl s0 k id := by
          split
          · exact updH_out hd
          · rfl
        rw [e1, ih']
        by_cases hki : k < i
        · rw [show min (k + 1) i = min k i + 1 by omega, show min k i = k by omega]
          simp only [fS, if_true]
          rw [updH_out hd]
        · rw [show min (k + 1) i = min k i by omega]
  have := key m (Nat.le_refl _)
  rwa [show min m i = i by omega] at this

theorem fT_last {m i t : Nat} (hi : i < m) (hL : L i = true) (hd : dstAt ops i = some t) (h : ∀ k, k < m → i < k → dstAt ops k = some t → L k = false) : fT ops L V tm0 m t = V i := by
  have key : ∀ k, i < k → k ≤ m → fT ops L V tm0 k t = V i := by
    intro k
    induction k with
    | zero => intro h; omega
    | succ k ih =>
      intro hik hk
      simp only [fT]
      by_cases e : k = i
      · subst e; rw [if_pos hL, hd, put_same]
      · have := ih (by omega) (by omega)
        by_cases hdk : dstAt ops k = some t
        · rw [if_neg (by rw [h k (by omega) (by omega) hdk]; simp)]; exact this
        · split
          · rw [put_other hdk]; exact this
          · exact this
  exact key m hi (Nat.le_refl _)

theorem fS_last {m i id : Nat} (hi : i < m) (hL : L i = true) (hd : id ∈ (Dl i).map (·.1)) (h : ∀ k, k < m → i < k → id ∈ (Dl k).map (·.1) → L k = false) (s : AHeap) : fS L Dl s0 m id = updH s (Dl i) id := by
  have key : ∀ k, i < k → k ≤ m → fS L Dl s0 k id = updH s (Dl i) id := by
    intro k
    induction k with
    | zero => intro h; omega
    | succ k ih =>
      intro hik hk
      simp only [fS]
      by_cases e : k = i
      · subst e; rw [if_pos hL]; exact updH_in hd
      · have := ih (by omega) (by omega)
        by_cases hdk : id ∈ (Dl k).map (·.1)
        · rw [if_neg (by rw [h k (by omega) (by omega) hdk]; simp)]; exact this
        · split
          · rw [updH_out hdk]; exact this
          · exact this
  exact key m hi (Nat.le_refl _)

theorem fT_set {m i : Nat} (hi : i < m) (hL : L i = false) (hL' : L' i = true) (hne : ∀ k, k ≠ i → L' k = L k) (h : ∀ k t, k < m → i < k → dstAt ops i = some t → dstAt ops k = some t → L k = false) :
    fT ops L' V tm0 m = put (fT ops L V tm0 m) (dstAt ops i) (V i) := by
  funext t
  by_cases hd : dstAt ops i = some t
  · rw [fT_last hi hL' hd (fun k hk hik hdk => by rw [hne k (by omega)]; exact h k t hk hik hd hdk), hd, put_same]
  · rw [put_other hd]
    have key : ∀ k, k ≤ m → fT ops L' V tm0 k t = fT ops L V tm0 k t := by
      intro k
      induction k with
      | zero => intro _; rfl
      | succ k ih =>
        intro hk
        simp only [fT]
        by_cases e : k = i
        · subst e; rw [if_pos hL', if_neg (by rw [hL]; simp), put_other hd]; exact ih (by omega)
        · rw [hne k e]
          by_cases hdk : dstAt ops k = some t
          · split
            · rw [hdk, put_same, put_same]
            · exact ih (by omega)
          · split
            · rw [put_other hdk, put_other hdk]; exact ih (by omega)
            · exact ih (by omega)
    exact key m (Nat.le_refl _)

theorem fS_set {m i : Nat} (hi : i < m) (hL : L i = false) (hL' : L' i = true) (hne : ∀ k, k ≠ i → L' k = L k) (h : ∀ k id, k < m → i < k → id ∈ (Dl i).map (·.1) → id ∈ (Dl k).map (·.1) → L k = false) :
    fS L' Dl s0 m = updH (fS L Dl s0 m) (Dl i) := by
  funext id
  by_cases hd : id ∈ (Dl i).map (·.1)
  · exact fS_last hi hL' hd (fun k hk hik hdk => by rw [hne k (by omega)]; exact h k id hk hik hd hdk) _
  · rw [updH_out hd]
    have key : ∀ k, k ≤ m → fS L' Dl s0 k id = fS L Dl s0 k id := by
      intro k
      induction k with
      | zero => intro _; rfl
      | succ k ih =>
        intro hk
        simp only [fS]
        by_cases e : k = i
        · subst e; rw [if_pos hL', if_neg (by rw [hL]; simp), updH_out hd]; exact ih (by omega)
        · rw [hne k e]
          by_cases hdk : id ∈ (Dl k).map (·.1)
          · split
            · exact updH_in hdk
            · exact ih (by omega)
          · split
            · rw [updH_out hdk, updH_out hdk]; exact ih (by omega)
            · exact ih (by omega)
    exact key m (Nat.le_refl _)
end

/-! ### what the text's order tells of each operation -/
def StepFact (P : Program) (ops : Array Oper) (C : List (List Nat)) (W : List (Nat × List Nat)) (V : Nat → Value) (Dl : Nat → List (Nat × ABlk)) (tm0 : Env) (s0 : AHeap) (k : Nat) : Prop :=
  ∀ o, ops[k]? = some o →
    ((match o.guard with | none => True | some (j, want) => yl ops (fT ops (fun _ => true) V tm0 k) j = some want) ∧ (∀ id ∈ (Dl k).map (·.1), id ∈ own W k) ∧
      ∀ t, AgreeOff (others C W k) t (fS (fun _ => true) Dl s0 k) → AOp P o (fT ops (fun _ => true) V tm0 k) t fun v' t' => v' = V k ∧ t' = updH t (Dl k)) ∨
    ((match o.guard with | none => False | some (j, want) => yl ops (fT ops (fun _ => true) V tm0 k) j ≠ some want) ∧ V k = undef ∧ Dl k = [])

theorem AOpsD.facts {P : Program} {ops : Array Oper} {C : List (List Nat)} {W : List (Nat × List Nat)} {tm0 : Env} {s0 : AHeap} {K : Env → AHeap → Prop} (h : AOpsD P ops C W 0 ops.toList tm0 s0 K) :
    ∃ V Dl, (∀ k, k < ops.size → StepFact P ops C W V Dl tm0 s0 k) ∧ K (fT ops (fun _ => true) V tm0 ops.size) (fS (fun _ => true) Dl s0 ops.size) := by
  have key : ∀ i, i ≤ ops.size → ∃ V Dl, (∀ k, k < i → StepFact P ops C W V Dl tm0 s0 k) ∧ AOpsD P ops C W i (ops.toList.drop i) (fT ops (fun _ => true) V tm0 i) (fS (fun _ => true) Dl s0 i) K := by
    intro i
    induction i with
    | zero => intro _; exact ⟨fun _ => undef, fun _ => [], fun k hk => by omega, h⟩
    | succ i ih =>
      intro hi
      obtain ⟨V, Dl, hf, hr⟩ := ih (by omega)
      have hlt : i < ops.toList.length := by simpa using (show i < ops.size by omega)
      rw [List.drop_eq_getElem_cons hlt] at hr
      have ho : ops[i]? = some ops.toList[i] := by simp [show i < ops.size by omega]
      have hda : dstAt ops i = ops.toList[i].dst := by unfold dstAt; rw [ho]; rfl
      have keep : ∀ (v : Value) (d : List (Nat × ABlk)) (V' : Nat → Value) (Dl' : Nat → List (Nat × ABlk)), V' = (fun k => if k = i then v else V k) → Dl' = (fun k => if k = i then d else Dl k) →
          (∀ k, k ≤ i → fT ops (fun _ => true) V' tm0 k = fT ops (fun _ => true) V tm0 k ∧ fS (fun _ => true) Dl' s0 k = fS (fun _ => true) Dl s0 k) ∧ (∀ k, k < i → StepFact P ops C W V' Dl' tm0 s0 k) := by
        intro v d V' Dl' hV hD
        have hk : ∀ k, k ≤ i → fT ops (fun _ => true) V' tm0 k = fT ops (fun _ => true) V tm0 k ∧ fS (fun _ => true) Dl' s0 k = fS (fun _ => true) Dl s0 k := fun k hk =>
          ⟨fT_congr fun j hj => ⟨rfl, by rw [hV]; simp [show j ≠ i by omega]⟩, fS_congr fun j hj => ⟨rfl, by rw [hD]; simp [show j ≠ i by omega]⟩⟩
        refine ⟨hk, fun k hki => ?_⟩
        intro o ho
        have h1 := hf k hki o ho
        have e1 : V' k = V k := by rw [hV]; simp [show k ≠ i by omega]
        have e2 : Dl' k = Dl k := by rw [hD]; simp [show k ≠ i by omega]
        rw [(hk k (by omega)).1, (hk k (by omega)).2, e1, e2]
        exact h1
      simp only [AOpsD] at hr
      rcases hr with ⟨hg, v, d, hd, hrob, hrest⟩ | ⟨hg, hrest⟩
      · obtain ⟨k1, k2⟩ := keep v d _ _ rfl rfl
        refine ⟨fun k => if k = i then v else V k, fun k => if k = i then d else Dl k, fun k hk => ?_, ?_⟩
        · by_cases e : k = i
          · subst e
            intro o ho'
            rw [ho] at ho'
            obtain rfl := Option.some.inj ho'
            refine .inl ⟨?_, ?_, ?_⟩
            · rw [(k1 k (Nat.le_refl _)).1]; exact hg
            · simpa using hd
            · rw [(k1 k (Nat.le_refl _)).1, (k1 k (Nat.le_refl _)).2]; simpa using hrob
          · exact k2 k (by omega)
        · simp only [fT, fS, if_true]
          rw [(k1 i (Nat.le_refl _)).1, (k1 i (Nat.le_refl _)).2, hda]
          exact hrest
      · obtain ⟨k1, k2⟩ := keep undef [] _ _ rfl rfl
        refine ⟨fun k => if k = i then undef else V k, fun k => if k = i then [] else Dl k, fun k hk => ?_, ?_⟩
        · by_cases e : k = i
          · subst e
            intro o ho'
            rw [ho] at ho'
            obtain rfl := Option.some.inj ho'
            refine .inr ⟨?_, by simp, by simp⟩
            rw [(k1 k (Nat.le_refl _)).1]; exact hg
          · exact k2 k (by omega)
        · simp only [fT, fS, if_true]
          rw [(k1 i (Nat.le_refl _)).1, (k1 i (Nat.le_refl _)).2, hda]
          exact hrest
  obtain ⟨V, Dl, hf, hr⟩ := key ops.size (Nat.le_refl _)
  rw [List.drop_of_length_le (by simp)] at hr
  exact ⟨V, Dl, hf, hr⟩

theorem drawOk_spec {ops : Array Oper} {C : List (List Nat)} (h : drawOk ops C = true) {i : Nat} {o : Oper} (ho : ops[i]? = some o) :
    (∀ e ∈ o.after, Region.binds .any e = true → e.on < i) ∧ (∀ k ∈ cC C i, k < i ∧ ∃ e ∈ o.after, Region.binds .any e = true ∧ (e.on = k ∨ k ∈ cC C e.on)) ∧
    (∀ t ∈ opNames ops o, ∀ k p, ops[k]? = some p → p.dst = some t → k = i ∨ (k < i ∧ k ∈ cC C i) ∨ (i < k ∧ i ∈ cC C k)) := by
  have hmem : ∀ {k : Nat} {p : Oper}, ops[k]? = some p → (p, k) ∈ ops.toList.zipIdx := fun {k p} hk => by
    rw [List.mem_zipIdx_iff_getElem?]; simpa using hk
  have h1 := List.all_eq_true.1 h _ (hmem ho)
  simp only [Bool.and_eq_true, List.all_eq_true] at h1
  obtain ⟨⟨ha, hb⟩, hc⟩ := h1
  refine ⟨fun e he hbd => ?_, fun k hk => ?_, fun t ht k p hp hd => ?_⟩
  · have := ha e (by simpa using he)
    simpa [hbd] using this
  · have := hb k hk
    simp only [Bool.and_eq_true, decide_eq_true_eq, List.any_eq_true, Bool.or_eq_true, beq_iff_eq, List.contains_iff_mem] at this
    obtain ⟨h1, e, he, hbd, hor⟩ := this
    exact ⟨h1, e, by simpa using he, hbd, hor⟩
  · have := hc t ht (p, k) (hmem hp)
    simp only [Bool.or_eq_true, bne_iff_ne, ne_eq, beq_iff_eq, Bool.and_eq_true, decide_eq_true_eq, List.contains_iff_mem] at this
    rcases this with ((h1 | h1) | h1) | h1
    · exact absurd hd h1
    · exact .inl h1
    · exact .inr (.inl h1)
    · exact .inr (.inr h1)

theorem mem_others {C : List (List Nat)} {W : List (Nat × List Nat)} {i k id : Nat} (hu : unordB C i k = true) (h : id ∈ own W k) : id ∈ others C W i := by
  simp only [own, List.mem_flatMap] at h
  obtain ⟨p, hp, hid⟩ := h
  split at hid
  · rename_i e
    simp only [others, List.mem_flatMap]
    exact ⟨p, hp, by rw [e, if_pos hu]; exact hid⟩
  · cases hid

theorem unordB_of {C : List (List Nat)} {i k : Nat} (h : unordB C i k = false) : i = k ∨ k ∈ cC C i ∨ i ∈ cC C k := by
  simp only [unordB, Bool.and_eq_false_iff, bne_eq_false_iff_eq, Bool.not_eq_false', List.contains_iff_mem] at h
  rcases h with (h | h) | h
  · exact .inl h
  · exact .inr (.inl h)
  · exact .inr (.inr h)

def apartW (C : List (List Nat)) (W : List (Nat × List Nat)) : Prop := ∀ p ∈ W, ∀ q ∈ W, unordB C p.1 q.1 = true → ∀ id ∈ p.2, id ∉ q.2

theorem apartW_own {C : List (List Nat)} {W : List (Nat × List Nat)} (h : apartW C W) {i k id : Nat} (hu : unordB C i k = true) (hi : id ∈ own W i) : id ∉ own W k := by
  intro hk
  simp only [own, List.mem_flatMap] at hi hk
  obtain ⟨p, hp, hip⟩ := hi
  obtain ⟨q, hq, hiq⟩ := hk
  split at hip
  · rename_i ep
    split at hiq
    · rename_i eq
      exact h p hp q hq (by rw [ep, eq]; exact hu) id hip hiq
    · cases hiq
  · cases hip

section
variable {P : Program} {n : Nat} {Q : AExit → Env → AHeap → Prop} {tm : Env} {s : AHeap}
theorem AWp.draw {id : Nat} {l : List Oper} (C : List (List Nat)) (W : List (Nat × List Nat)) (hm : P.follows .mixedOrders = true) (hC : drawOk l.toArray C = true) (hW : apartW C W)
    (h : AOpsD P l.toArray C W 0 l tm s fun tm' s' => Q .normal tm' s') : AWp P n (.region id l.toArray true) Q tm s := fun hg W0 ρ a w he hd hS => by
  obtain ⟨ops, hops⟩ : ∃ ops : Array Oper, ops = l.toArray := ⟨_, rfl⟩
  have hl : ops.toList = l := by rw [hops]
  rw [← hops] at hC h ⊢
  rw [← hl] at h
  have hg' : ops.toList.all (goodO n) = true := by rw [hops]; exact hg
  obtain ⟨V, Dl, hf, hK⟩ := h.facts
  obtain ⟨m, hmm⟩ : ∃ m, m = ops.size := ⟨_, rfl⟩
  rw [← hmm] at hf hK
  refine wp_region_any hm ?_
  have key : ∀ (fuel : Nat) (listed : Array Bool) (ρ1 : Ren) (a : Act) (w : World), listed.size = m → ((List.range m).filter fun k => !(listed.getD k false)).length ≤ fuel →
      RLe ρ ρ1 → EnvR ρ1 n (fT ops (fun k => listed.getD k false) V tm m) a.tmps → a.defers = [] → Sim W0 ρ1 (fS (fun k => listed.getD k false) Dl s m) w →
      (∀ j, j < m → listed.getD j false = true → ∀ k ∈ cC C j, listed.getD k false = true) → wpAny P .any ops (APost P W0 n Q ρ) fuel listed a w := by
    intro fuel
    induction fuel with
    | zero =>
      intro listed ρ1 a w hsz hcnt hle he hd hS hdc
      have hall : ∀ k, k < m → listed.getD k false = true := by
        intro k hk
        have h0 : (List.range m).filter (fun k => !(listed.getD k false)) = [] := List.length_eq_zero_iff.1 (Nat.le_zero.1 hcnt)
        have := List.filter_eq_nil_iff.1 h0 k (by simpa using hk)
        simpa using this
      refine ⟨?_, .normal, _, _, ρ1, rfl, hK, hle, ?_, hd, ?_⟩
      · cases hr : Region.ready .any ops listed with
        | nil => rfl
        | cons x xs =>
          have hx : x ∈ Region.ready .any ops listed := by rw [hr]; simp
          obtain ⟨h0, o, ho, _⟩ := mem_ready.1 hx
          have hxm : x < m := by rw [hmm]; exact (Array.getElem?_eq_some_iff.1 ho).1
          have := hall x hxm
          simp [show x < listed.size by omega] at this h0
          rw [h0] at this; cases this
      · rw [fT_congr (L' := fun k => listed.getD k false) (V' := V) fun j hj => ⟨(hall j hj).symm, rfl⟩]; exact he
      · rw [fS_congr (L' := fun k => listed.getD k false) (Dl' := Dl) fun j hj => ⟨(hall j hj).symm, rfl⟩]; exact hS
    | succ fuel ih =>
      intro listed ρ1 a w hsz hcnt hle he hd hS hdc
      refine ⟨fun hr => ?_, fun i hi => ?_⟩
      · have hall : ∀ k, k < m → listed.getD k false = true := by
          intro k
          induction k using Nat.strongRecOn with
          | _ k ihk =>
            intro hk
            cases hb : listed.getD k false with
            | true => rfl
            | false =>
              have hko : k < ops.size := by omega
              have : k ∈ Region.ready .any ops listed := mem_ready.2 ⟨by simp [show k < listed.size by omega] at hb ⊢; exact hb, ops[k], by simp [hko], fun e he hbd => by
                have := (drawOk_spec hC (show ops[k]? = some ops[k] by simp [hko])).1 e he hbd
                exact ihk e.on this (by omega)⟩
              rw [hr] at this; cases this
        refine ⟨.normal, _, _, ρ1, rfl, hK, hle, ?_, hd, ?_⟩
        · rw [fT_congr (L' := fun k => listed.getD k false) (V' := V) fun j hj => ⟨(hall j hj).symm, rfl⟩]; exact he
        · rw [fS_congr (L' := fun k => listed.getD k false) (Dl' := Dl) fun j hj => ⟨(hall j hj).symm, rfl⟩]; exact hS
      · obtain ⟨h0, o, ho, hedges⟩ := mem_ready.1 hi
        have him : i < m := by rw [hmm]; exact (Array.getElem?_eq_some_iff.1 ho).1
        have hLi : listed.getD i false = false := by simp [show i < listed.size by omega] at h0 ⊢; exact h0
        obtain ⟨d1, d2, d3⟩ := drawOk_spec hC ho
        have hpre : ∀ k ∈ cC C i, listed.getD k false = true := fun k hk => by
          obtain ⟨_, e, hem, hbd, hor⟩ := d2 k hk
          have he' := hedges e hem hbd
          rcases hor with rfl | hin
          · exact he'
          · exact hdc e.on (by have := d1 e hem hbd; omega) he' k hin
        have hpost : ∀ k, k < m → i ∈ cC C k → listed.getD k false = false := fun k hk hin => by
          cases hb : listed.getD k false with
          | false => rfl
          | true => have := hdc k hk hb i hin; rw [hLi] at this; cases this
        have hdst : ∀ {k t}, dstAt ops k = some t → ∃ p, ops[k]? = some p ∧ p.dst = some t := fun {k t} h => by
          unfold dstAt at h
          cases hp : ops[k]? with
          | none => rw [hp] at h; cases h
          | some p => rw [hp] at h; exact ⟨p, rfl, h⟩
        have hslot : ∀ t ∈ opNames ops o, ∀ k, k < m → dstAt ops k = some t → (listed.getD k false = true ↔ k < i) := fun t ht k hk hd => by
          obtain ⟨p, hp, hpd⟩ := hdst hd
          rcases d3 t ht k p hp hpd with rfl | ⟨h1, h2⟩ | ⟨h1, h2⟩
          · rw [hLi]; simp
          · rw [hpre k h2]; simp [h1]
          · rw [hpost k hk h2]; simp; omega
        have hsl : ∀ t ∈ opNames ops o, fT ops (fun k => listed.getD k false) V tm m t = fT ops (fun _ => true) V tm i t := fun t ht => fT_slot (by omega) (hslot t ht)
        have hev : ∀ x ∈ o.op.operands, ev (fT ops (fun _ => true) V tm i) x = ev (fT ops (fun k => listed.getD k false) V tm m) x := fun x hx => by
          cases x with
          | tmp t => exact (hsl t (by
              simp only [opNames, List.mem_append, List.mem_filterMap]
              exact .inl (.inr ⟨.tmp t, by simpa using hx, rfl⟩))).symm
          | _ => rfl
        have hyl : ∀ j want, o.guard = some (j, want) → yl ops (fT ops (fun k => listed.getD k false) V tm m) j = yl ops (fT ops (fun _ => true) V tm i) j := fun j want hgd => by
          unfold yl
          cases hj : (ops[j]?).bind (·.dst) with
          | none => rfl
          | some t =>
            have := hsl t (by simp only [opNames, List.mem_append, hgd, hj]; exact .inr (by simp))
            simp only [this]
        have hord : ∀ k id, k < m → id ∈ (Dl k).map (·.1) → id ∉ others C W i → k = i ∨ k ∈ cC C i ∨ i ∈ cC C k := fun k id hk hid hno => by
          have hok : id ∈ own W k := by
            rcases hf k hk ops[k] (by simp [show k < ops.size by omega]) with ⟨_, h2, _⟩ | ⟨_, _, h2⟩
            · exact h2 id hid
            · rw [h2] at hid; cases hid
          cases hu : unordB C i k with
          | true => exact absurd (mem_others hu hok) hno
          | false => rcases unordB_of hu with h | h | h
                     · exact .inl h.symm
                     · exact .inr (.inl h)
                     · exact .inr (.inr h)
        have hagree : AgreeOff (others C W i) (fS (fun k => listed.getD k false) Dl s m) (fS (fun _ => true) Dl s i) := fun id hid => fS_slot (by omega) fun k hk hdk => by
          rcases hord k id hk hdk hid with rfl | h1 | h1
          · rw [hLi]; simp
          · rw [hpre k h1]; simp; exact (d2 k h1).1
          · rw [hpost k hk h1]; simp
            have hko : k < ops.size := by omega
            exact Nat.le_of_lt ((drawOk_spec hC (show ops[k]? = some ops[k] by simp [hko])).2.1 i h1).1
        have hok := List.all_eq_true.1 hg' o (by simpa using Array.mem_of_getElem? ho)
        simp only [goodO, Bool.and_eq_true] at hok
        have hL' : ∀ k, (listed.setIfInBounds i true).getD k false = if k = i then true else listed.getD k false := fun k => by
          by_cases e : k = i
          · subst e; simp [show k < listed.size by omega]
          · rw [if_neg e, getD_set_ne false (Ne.symm e)]
        have hfT : fT ops (fun k => (listed.setIfInBounds i true).getD k false) V tm m = put (fT ops (fun k => listed.getD k false) V tm m) o.dst (V i) := by
          have hda : dstAt ops i = o.dst := by unfold dstAt; rw [ho]; rfl
          rw [← hda]
          refine fT_set him hLi (by rw [hL']; simp) (fun k hk => by rw [hL', if_neg hk]) ?_
          intro k t hk hik hdi hdk
          have ht : t ∈ opNames ops o := by rw [hda] at hdi; simp [opNames, hdi]
          cases hb : listed.getD k false with
          | false => rfl
          | true => have := (hslot t ht k hk hdk).1 hb; omega
        have hfS : fS (fun k => (listed.setIfInBounds i true).getD k false) Dl s m = updH (fS (fun k => listed.getD k false) Dl s m) (Dl i) := by
          refine fS_set him hLi (by rw [hL']; simp) (fun k hk => by rw [hL', if_neg hk]) ?_
          intro k id hk hik hdi hdk
          have hown : ∀ {k}, k < m → id ∈ (Dl k).map (·.1) → id ∈ own W k := fun {k} hk hid => by
            rcases hf k hk ops[k] (by simp [show k < ops.size by omega]) with ⟨_, h2, _⟩ | ⟨_, _, h2⟩
            · exact h2 id hid
            · rw [h2] at hid; cases hid
          cases hu : unordB C i k with
          | true => exact absurd (hown hk hdk) (apartW_own hW hu (hown him hdi))
          | false =>
            rcases unordB_of hu with h | h | h
            · omega
            · have := (d2 k h).1; omega
            · exact hpost k hk h
        have hcnt' : ((List.range m).filter fun k => !((listed.setIfInBounds i true).getD k false)).length ≤ fuel := by
          have h1 : ((List.range m).filter fun k => !((listed.setIfInBounds i true).getD k false)).length < ((List.range m).filter fun k => !(listed.getD k false)).length := by
            have e : (List.range m).filter (fun k => !((listed.setIfInBounds i true).getD k false)) = ((List.range m).filter fun k => !(listed.getD k false)).filter (fun k => k != i) := by
              rw [List.filter_filter]
              refine List.filter_congr fun k _ => ?_
              rw [hL']
              by_cases e : k = i <;> simp [e]
            rw [e]
            refine List.length_filter_lt_length_iff_exists.2 ⟨i, ?_, by simp⟩
            rw [List.mem_filter]
            exact ⟨by simpa using him, by simp [hLi]⟩
          omega
        have hdc' : ∀ j, j < m → (listed.setIfInBounds i true).getD j false = true → ∀ k ∈ cC C j, (listed.setIfInBounds i true).getD k false = true := fun j hj hLj k hk => by
          rw [hL'] at hLj ⊢
          by_cases ek : k = i
          · rw [if_pos ek]
          · rw [if_neg ek]
            by_cases ej : j = i
            · subst ej; exact hpre k hk
            · rw [if_neg ej] at hLj; exact hdc j hj hLj k hk
        have hput : ∀ dst v, (a.put dst v).defers = [] := fun dst v => by cases dst <;> exact hd
        have next : ∀ ρ2 v', RLe ρ1 ρ2 → VR ρ2 (V i) v' → ∀ w', Sim W0 ρ2 (updH (fS (fun k => listed.getD k false) Dl s m) (Dl i)) w' →
            wpAny P .any ops (APost P W0 n Q ρ) fuel (listed.setIfInBounds i true) (a.put o.dst v') w' := fun ρ2 v' hle2 hv w' hS' =>
          ih _ ρ2 _ _ (by simpa using hsz) hcnt' (hle.trans hle2) (by rw [hfT]; exact (he.mono hle2).put hok.1 hv) (hput _ _) (by rw [hfS]; exact hS') hdc'
        unfold wpOp
        rw [ho]
        simp only []
        rcases hf i him o ho with ⟨g1, _, g3⟩ | ⟨g1, g2, g3⟩
        · rw [if_pos (by
            cases hgd : o.guard with
            | none => simp [Region.wanted, hgd]
            | some jw =>
              obtain ⟨j, want⟩ := jw
              simp only [Region.wanted, hgd]
              rw [yielded_eq he hg', hyl j want hgd]
              rw [hgd] at g1
              simpa using g1)]
          refine .inl (AOp.sound ((g3 _ hagree).congr hev) hok.2 he hS ?_)
          intro ρ2 v0 v' s' w' hle2 hv hS' hk
          obtain ⟨rfl, rfl⟩ := hk
          exact next ρ2 v' hle2 hv w' hS'
        · rw [if_neg (by
            cases hgd : o.guard with
            | none => rw [hgd] at g1; exact g1.elim
            | some jw =>
              obtain ⟨j, want⟩ := jw
              simp only [Region.wanted, hgd]
              rw [yielded_eq he hg', hyl j want hgd]
              rw [hgd] at g1
              simpa using g1)]
          exact next ρ1 undef (RLe.refl _) (by rw [g2]; exact undef_VR _) w (by rw [g3]; exact hS)
  refine key ops.size _ ρ a _ (by simp [hmm]) ?_ (RLe.refl _) ?_ hd ?_ ?_
  · exact Nat.le_trans (List.length_filter_le _ _) (by simp [hmm])
  · have : fT ops (fun k => (Array.replicate ops.size false).getD k false) V tm m = tm := by
      have : ∀ k, fT ops (fun k => (Array.replicate ops.size false).getD k false) V tm k = tm := by
        intro k
        induction k with
        | zero => rfl
        | succ k ih => simp only [fT]; rw [if_neg (by simp [Array.getElem?_replicate]; split <;> simp), ih]
      exact this m
    rw [this]; exact he
  · have : fS (fun k => (Array.replicate ops.size false).getD k false) Dl s m = s := by
      have : ∀ k, fS (fun k => (Array.replicate ops.size false).getD k false) Dl s k = s := by
        intro k
        induction k with
        | zero => rfl
        | succ k ih => simp only [fS]; rw [if_neg (by simp [Array.getElem?_replicate]; split <;> simp), ih]
      exact this m
    rw [this]; exact hS.drew
  · intro j _ hj
    simp [Array.getElem?_replicate] at hj
    split at hj <;> simp at hj
end
end Go.Proofs.Ytoiplbackllgfaa.Ab
