/- Operations, regions, code and calls over the abstract memory, and that the machine follows them. -/
import Derived.Test.YtnbgeodignljfaaAbM
import Derived.Tactics
namespace Go.Proofs.Ytnbgeodignljfaa.Ab
set_option linter.unusedVariables false
set_option linter.unusedSimpArgs false
set_option linter.unusedSectionVars false
open Go.RowKit

abbrev Env := Nat → Value
def ev (tm : Env) : Operand → Value
  | .tmp t => tm t
  | .const v => v
  | .func f => .func (.func f) #[] #[]
  | .global _ => .tuple #[]
def put (tm : Env) : Option Tmp → Value → Env
  | none, _ => tm
  | some d, v => fun t => if t = d then v else tm t

def goodX : Operand → Bool
  | .tmp _ => true
  | .const v => plR v
  | .func _ => true
  | .global _ => false
def goodO (n : Nat) (o : Oper) : Bool := (match o.dst with | some d => decide (d < n) | none => true) && o.op.operands.all goodX
def goodC (n : Nat) : Code → Bool
  | .skip | .exit _ | .ret => true
  | .region _ ops _ => ops.toList.all (goodO n)
  | .seq a b => goodC n a && goodC n b
  | .cond c a b => goodX c && goodC n a && goodC n b
  | .block _ b => goodC n b
  | .loop b => goodC n b
  | _ => false

def EnvR (ρ : Ren) (n : Nat) (tm : Env) (tmps : Array Value) : Prop :=
  tmps.size = n ∧ (∀ t, t < n → ∃ v', tmps[t]? = some v' ∧ VR ρ (tm t) v') ∧ ∀ t, n ≤ t → tm t = undef

section
variable {P : Program} {W0 w : World} {ρ : Ren} {s : AHeap} {n : Nat} {tm : Env} {a : Act}

theorem undef_VR (ρ : Ren) : VR ρ undef undef := .tup .nil
theorem EnvR.mono {ρ' tmps} (hle : RLe ρ ρ') (h : EnvR ρ n tm tmps) : EnvR ρ' n tm tmps :=
  ⟨h.1, fun t ht => let ⟨v', a, b⟩ := h.2.1 t ht; ⟨v', a, b.mono hle⟩, h.2.2⟩
theorem EnvR.val {x} (h : EnvR ρ n tm a.tmps) (hx : goodX x = true) : VR ρ (ev tm x) (a.eval x) := by
  cases x with
  | tmp t =>
    show VR ρ (tm t) (a.tmps.getD t undef)
    by_cases ht : t < n
    · obtain ⟨v', e, r⟩ := h.2.1 t ht
      have : a.tmps.getD t undef = v' := by simp [e]
      rw [this]; exact r
    · have ht' : n ≤ t := Nat.le_of_not_lt ht
      rw [h.2.2 t ht']
      have : a.tmps.getD t undef = undef := by simp [Array.getElem?_eq_none (show a.tmps.size ≤ t by rw [h.1]; exact ht')]
      rw [this]; exact undef_VR ρ
  | const v => exact plR.self ρ hx
  | global g => cases hx
  | func f => exact .v (.v (.fn .nil .nil))
theorem EnvR.put {ρ' dst v v'} (h : EnvR ρ' n tm a.tmps) (hd : (match dst with | some d => decide (d < n) | none => true) = true) (hv : VR ρ' v v') : EnvR ρ' n (put tm dst v) (a.put dst v').tmps := by
  cases dst with
  | none => exact h
  | some d =>
    have hd' : d < n := by simpa using hd
    refine ⟨by simp [Act.put, h.1], fun t ht => ?_, fun t ht => ?_⟩
    · by_cases e : t = d
      · subst e
        exact ⟨v', by simp [Act.put, h.1, ht], by simpa [Ab.put] using hv⟩
      · obtain ⟨u, e1, e2⟩ := h.2.1 t ht
        exact ⟨u, by simp only [Act.put]; rw [Array.getElem?_setIfInBounds_ne (Ne.symm e)]; exact e1, by simpa [Ab.put, e] using e2⟩
    · have : t ≠ d := fun e => absurd (e ▸ hd') (Nat.not_lt_of_le ht)
      simpa [Ab.put, this] using h.2.2 t ht
theorem EnvR.evs {l : List Operand} (h : EnvR ρ n tm a.tmps) (hl : l.all goodX = true) : All2 (VR ρ) (l.map (ev tm)) (l.map a.eval) := by
  induction l with
  | nil => exact .nil
  | cons x l ih => simp only [List.all_cons, Bool.and_eq_true] at hl; exact .cons (h.val hl.1) (ih hl.2)
end

/-! ### calls -/
def ACall (P : Program) (f : FuncId) (args : List Value) (s : AHeap) (v : Value) (s' : AHeap) : Prop :=
  (∃ fn, P.funcs[f]? = some fn ∧ fn.body.isSome = true ∧ (fn.name == "runtime.NumGoroutine") = false) ∧
  ∀ W0 ρ w (args' : List Value), All2 (VR ρ) args args' → Sim W0 ρ s w →
    Calls P f args'.toArray w fun e w' => ∃ ρ' v', e = .returned v' ∧ VR ρ' v v' ∧ RLe ρ ρ' ∧ Sim W0 ρ' s' w'
/-- A call that leaves one of the results and memories that are told. -/
def ACallE (P : Program) (f : FuncId) (args : List Value) (s : AHeap) (Q : Value → AHeap → Prop) : Prop :=
  (∃ fn, P.funcs[f]? = some fn ∧ fn.body.isSome = true ∧ (fn.name == "runtime.NumGoroutine") = false) ∧
  ∀ W0 ρ w (args' : List Value), All2 (VR ρ) args args' → Sim W0 ρ s w →
    Calls P f args'.toArray w fun e w' => ∃ v s' ρ' v', Q v s' ∧ e = .returned v' ∧ VR ρ' v v' ∧ RLe ρ ρ' ∧ Sim W0 ρ' s' w'
theorem ACall.toE {P : Program} {f : FuncId} {args : List Value} {s s' : AHeap} {v : Value} (h : ACall P f args s v s') : ACallE P f args s fun v1 s1 => v1 = v ∧ s1 = s' :=
  ⟨h.1, fun W0 ρ w args' ha hS => (h.2 W0 ρ w args' ha hS).mono fun e w' hh => by
    obtain ⟨ρ', v', a, b, c, d⟩ := hh; exact ⟨v, s', ρ', v', ⟨rfl, rfl⟩, a, b, c, d⟩⟩
theorem ACallE.mono {P : Program} {f : FuncId} {args : List Value} {s : AHeap} {Q Q' : Value → AHeap → Prop} (h : ACallE P f args s Q) (hq : ∀ v s', Q v s' → Q' v s') : ACallE P f args s Q' :=
  ⟨h.1, fun W0 ρ w args' ha hS => (h.2 W0 ρ w args' ha hS).mono fun e w' hh => by
    obtain ⟨v, s', ρ', v', q, r⟩ := hh; exact ⟨v, s', ρ', v', hq v s' q, r⟩⟩

def isAt : Value → Bool
  | .agg _ | .tuple _ | .func .. => false
  | _ => true

def ABuiltin (P : Program) (b : Builtin) (ts : List TypeId) (args : List Value) (s : AHeap) (K : Value → AHeap → Prop) : Prop :=
  match b, ts, args with
  | .append, [t, tx], [v, x] => ∃ id r s', aappend P t tx s v x id = some (r, s') ∧ K r s'
  | .len, [t], [x] => ∃ v, alen P t s x = some v ∧ K v s
  | .clear, [t], [x] => ∃ s', aclear P t s x = some s' ∧ K undef s'
  | .cap, [t], [x] => ∃ v, acap P t x = some v ∧ K v s
  | .min, _, l => ∃ v, amm false l = some v ∧ K v s
  | .max, _, l => ∃ v, amm true l = some v ∧ K v s
  | _, _, _ => False

def AOp (P : Program) (o : Oper) (tm : Env) (s : AHeap) (K : Value → AHeap → Prop) : Prop :=
  match o.op with
  | .move x => K (ev tm x) s
  | .assign x => K (ev tm x) s
  | .pick c x y => ∃ b, ev tm c = .bool b ∧ K (if b = true then ev tm x else ev tm y) s
  | .alloc e => ∃ id td, tdOf P e = some td ∧ s id = none ∧ plB td.zero = true ∧ K (.pointer (some ⟨id, 0, none⟩)) (s.set id (.cells true 1 td.zero.cells.toList))
  | .box _ x => ∃ id, s id = none ∧ notTup (ev tm x) = true ∧ K (.pointer (some ⟨id, 0, none⟩)) (s.set id (.cells true 1 (ev tm x).cells.toList))
  | .build t parts => ∃ v, abuild P t (parts.toList.map fun p => (p.1, ev tm p.2)) = some v ∧ K v s
  | .buildSlice t len parts => ∃ id v s', abuildSlice P t len (parts.toList.map fun p => (p.1, ev tm p.2)) s id = some (v, s') ∧ K v s'
  | .load t x => ∃ v, aload P t s (ev tm x) = some v ∧ K v s
  | .store t x y => ∃ s', astore P t s (ev tm x) (ev tm y) = some s' ∧ K undef s'
  | .nilCheck x => match ev tm x with
    | .pointer (some a) => K (.pointer (some a)) s
    | .func (.func f) fs cs => K (.func (.func f) fs cs) s
    | _ => False
  | .binOp op t x y _ => ∃ v, ABin P op t x y (ev tm x) (ev tm y) v ∧ K v s
  | .unOp op _ x => ∃ v, aun op (ev tm x) = some v ∧ K v s
  | .convert src dst x => ∃ v, aconv P src dst s (ev tm x) = some v ∧ K v s
  | .makeFunc (.func f) first captured => first.toList.all (fun x => isAt (ev tm x)) = true ∧ captured.toList.all (fun x => isAt (ev tm x)) = true ∧ K (.func (.func f) (first.map (ev tm)) (captured.map (ev tm))) s
  | .makeSlice t l c => ∃ id v s', amakeSlice P t s (ev tm l) (ev tm c) id = some (v, s') ∧ K v s'
  | .slice t x lo hi mx => ∃ v, aslice P t s (ev tm x) (lo.map (ev tm)) (hi.map (ev tm)) (mx.map (ev tm)) = some v ∧ K v s
  | .fieldAddr t x f => ∃ v, afield P t (ev tm x) f = some v ∧ K v s
  | .field t x f => ∃ v, afieldV P t (ev tm x) f = some v ∧ K v s
  | .indexAddr t x i => ∃ v, aindexAddr P t (ev tm x) (ev tm i) = some v ∧ K v s
  | .index t x i => ∃ v, aindexV P t (ev tm x) (ev tm i) = some v ∧ K v s
  | .extract x i => ∃ v, aextract (ev tm x) i = some v ∧ K v s
  | .makeMap _ none => ∃ id, s id = none ∧ K (.map (some id)) (s.set id (.map []))
  | .lookup t x i ok => ∃ v, ALook P t s (ev tm x) (ev tm i) ok v ∧ K v s
  | .mapUpdate t m k x => ∃ s', AUpd P t s (ev tm m) (ev tm k) (ev tm x) s' ∧ K undef s'
  | .call c => match c.callee with
    | .builtin b => ABuiltin P b c.argTypes.toList (c.args.toList.map (ev tm)) s K
    | .value f => match ev tm f with
      | .func (.func g) first captured => ∃ Q, ACallE P g (first.toList ++ c.args.toList.map (ev tm) ++ captured.toList) s Q ∧ ∀ v s', Q v s' → K v s'
      | _ => False
    | .invoke .. => False
  | _ => False

section
variable {P : Program} {W0 w : World} {ρ : Ren} {s : AHeap} {n : Nat} {tm : Env} {a : Act}

theorem upon_v {o : Oper} {next : Act → World → Prop} {Q : Exit → Act → World → Prop} {sm : Sem Value} {v' : Value} {w' : World} (h : execOp a.eval o = (do pure (.value (← sm)))) (hr : sm.run P w = .ok v' w') (hn : next (a.put o.dst v') w') : o.wp P a w next Q := by
  unfold Oper.wp
  rw [h, Sem.run_bind, hr]
  exact hn
theorem upon_u {o : Oper} {next : Act → World → Prop} {Q : Exit → Act → World → Prop} {sm : Sem Unit} {w' : World} (h : execOp a.eval o = (do sm; pure .skip)) (hr : sm.run P w = .ok () w') (hn : next (a.put o.dst undef) w') : o.wp P a w next Q := by
  unfold Oper.wp
  rw [h, Sem.run_bind, hr]
  exact hn

theorem parts_rel {ps : List (Nat × Operand)} (he : EnvR ρ n tm a.tmps) (hp : (ps.map (·.2)).all goodX = true) : PartsR ρ (ps.map fun p => (p.1, ev tm p.2)) (ps.map fun p => (p.1, a.eval p.2)) := by
  induction ps with
  | nil => exact .nil
  | cons p ps ih => simp only [List.map_cons, List.all_cons, Bool.and_eq_true] at hp; exact .cons (he.val hp.1) (ih hp.2)

theorem opt_rel {x : Option Operand} (he : EnvR ρ n tm a.tmps) (hx : x.all goodX = true) : OR (VR ρ) (x.map (ev tm)) (x.map a.eval) := by
  cases x with
  | none => exact .none
  | some y => exact .some (he.val (by simpa using hx))

theorem atoms_rel {l : List Operand} (he : EnvR ρ n tm a.tmps) (hl : l.all goodX = true) (ha : l.all (fun x => isAt (ev tm x)) = true) : All2 (VA ρ) (l.map (ev tm)) (l.map a.eval) := by
  induction l with
  | nil => exact .nil
  | cons x l ih =>
    simp only [List.all_cons, Bool.and_eq_true] at hl ha
    refine .cons ((he.val hl.1).toA ?_ ?_) (ih hl.2 ha.2)
    · cases h : ev tm x <;> simp_all [isAt, Value.oneCell']
    · intro f b c h; simp [h, isAt] at ha

set_option maxHeartbeats 4000000 in
theorem AOp.sound {o : Oper} {K : Value → AHeap → Prop} {next : Act → World → Prop} {Q : Exit → Act → World → Prop} (h : AOp P o tm s K) (hg : o.op.operands.all goodX = true) (he : EnvR ρ n tm a.tmps) (hS : Sim W0 ρ s w)
    (hn : ∀ ρ' v v' s' w', RLe ρ ρ' → VR ρ' v v' → Sim W0 ρ' s' w' → K v s' → next (a.put o.dst v') w') : o.wp P a w next Q := by
  obtain ⟨dst, op, type, pos, after, guard⟩ := o
  cases op <;> simp only [AOp] at h <;> simp only [Op.operands] at hg
  case move x =>
    have hx := he.val (x := x) (by simpa using hg)
    exact hn ρ _ _ s w (RLe.refl _) hx hS h
  case assign x =>
    have hx := he.val (x := x) (by simpa using hg)
    exact hn ρ _ _ s w (RLe.refl _) hx hS h
  case pick c x y =>
    simp only [List.all_toArray, List.all_cons, List.all_nil, Bool.and_true, Bool.and_eq_true] at hg
    obtain ⟨b, hb, hk⟩ := h
    have hc := he.val hg.1
    rw [hb] at hc
    have hc' := hc.bool
    unfold Oper.wp
    have hrun : (execOp a.eval ⟨dst, .pick c x y, type, pos, after, guard⟩).run P w = .ok (.value (if b = true then a.eval x else a.eval y)) w := by simp [execOp, hc', asBool]
    rw [hrun]
    refine hn ρ _ _ s w (RLe.refl _) ?_ hS hk
    cases b
    · exact he.val hg.2.2
    · exact he.val hg.2.1
  case alloc e =>
    obtain ⟨id, td, ht, hid, hpl, hk⟩ := h
    obtain ⟨hle, hS'⟩ := hS.made (id := id) hid (c := td.zero.cells.toList) (arr := td.zero.cells) (el := e) (sz := 1) (by rw [List.take_of_length_le (by simp)]; exact (plB.self ρ hpl).cells) (by simp)
    exact upon_v (sm := Instr.alloc e true (.tuple #[])) rfl (by simp [Instr.alloc, td_zero ht, newVar, newRow]) (hn _ _ _ _ _ hle (.atom (.ptr (setR_same _ _ _))) hS' hk)
  case box e x =>
    obtain ⟨id, hid, hnt, hk⟩ := h
    have hx := he.val (x := x) (by simpa using hg)
    have hb := (hx.toB fun b e => by rw [e] at hnt; cases hnt).cells
    have hlen := hb.length
    simp only [Array.length_toList] at hlen
    obtain ⟨hle, hS'⟩ := hS.made (id := id) hid (c := (ev tm x).cells.toList) (arr := (a.eval x).cells) (el := e) (sz := 1) (by rw [List.take_of_length_le (by simp; omega)]; exact hb) (by simp; omega)
    exact upon_v (sm := Instr.box e (a.eval x)) rfl (by simp [Instr.box, newVar, newRow]) (hn _ _ _ _ _ hle (.atom (.ptr (setR_same _ _ _))) hS' hk)
  case build t parts =>
    obtain ⟨v, hv, hk⟩ := h
    have hp := parts_rel (ps := parts.toList) he (by simpa using hg)
    obtain ⟨v', e1, e2⟩ := build_sound (P := P) (w := w) (parts := (parts.toList.map fun p => (p.1, ev tm p.2)).toArray) (parts' := parts.map fun p => (p.1, a.eval p.2)) (by simpa using hp) (by simpa using hv)
    exact upon_v (sm := Instr.build t (parts.map fun p => (p.1, a.eval p.2))) rfl e1 (hn _ _ _ _ _ (RLe.refl _) e2 hS hk)
  case buildSlice t len parts =>
    obtain ⟨id, v, s', hv, hk⟩ := h
    have hp := parts_rel (ps := parts.toList) he (by simpa using hg)
    obtain ⟨v', w', ρ', e1, e2, e3, e4⟩ := buildSlice_sound (P := P) hS (parts := (parts.toList.map fun p => (p.1, ev tm p.2)).toArray) (parts' := parts.map fun p => (p.1, a.eval p.2)) (by simpa using hp) (by simpa using hv)
    exact upon_v (sm := Instr.buildSlice t len (parts.map fun p => (p.1, a.eval p.2))) rfl e1 (hn _ _ _ _ _ e2 e3 e4 hk)
  case load t x =>
    obtain ⟨v, hv, hk⟩ := h
    have hx := he.val (x := x) (by simpa using hg)
    obtain ⟨v', e1, e2⟩ := load_sound (P := P) hS hx hv
    exact upon_v (sm := Instr.loadAt t (a.eval x)) rfl e1 (hn _ _ _ _ _ (RLe.refl _) (.v e2) hS hk)
  case store t x y =>
    simp only [List.all_toArray, List.all_cons, List.all_nil, Bool.and_true, Bool.and_eq_true] at hg
    obtain ⟨s', hv, hk⟩ := h
    obtain ⟨w', e1, e2⟩ := store_sound (P := P) hS (he.val hg.1) (he.val hg.2) hv
    exact upon_u (sm := Instr.storeAt t (a.eval x) (a.eval y)) rfl e1 (hn ρ undef undef s' w' (RLe.refl _) (undef_VR ρ) e2 hk)
  case nilCheck x =>
    have hx := he.val (x := x) (by simpa using hg)
    split at h
    · rename_i ad heq
      rw [heq] at hx
      obtain ⟨l, hsp, hl, hv⟩ := hx.ptr
      have hrun : (execOp a.eval ⟨dst, .nilCheck x, type, pos, after, guard⟩).run P w = .ok (.value (a.eval x)) w := by simp [execOp, hv]
      unfold Oper.wp
      rw [hrun]
      exact hn ρ _ _ s w (RLe.refl _) hx hS h
    · rename_i f fs cs heq
      rw [heq] at hx
      obtain ⟨fs', cs', hv, _, _⟩ := hx.func
      have hrun : (execOp a.eval ⟨dst, .nilCheck x, type, pos, after, guard⟩).run P w = .ok (.value (a.eval x)) w := by simp [execOp, hv]
      unfold Oper.wp
      rw [hrun]
      exact hn ρ _ _ s w (RLe.refl _) hx hS h
    · exact h.elim
  case binOp op t x y yt =>
    simp only [List.all_toArray, List.all_cons, List.all_nil, Bool.and_true, Bool.and_eq_true] at hg
    obtain ⟨v, hv, hk⟩ := h
    obtain ⟨v', e1, e2⟩ := abin_sound (P := P) (w := w) (he.val hg.1) (he.val hg.2) hv
    exact upon_v (sm := do eqGuard op t x y (a.eval x) (a.eval y); Go.binOp op t (a.eval x) (a.eval y)) rfl e1 (hn _ _ _ _ _ (RLe.refl _) e2 hS hk)
  case unOp op t x =>
    obtain ⟨v, hv, hk⟩ := h
    obtain ⟨v', e1, e2⟩ := aun_sound (P := P) (w := w) (he.val (x := x) (by simpa using hg)) hv
    exact upon_v (sm := Op.unary op (a.eval x)) rfl e1 (hn _ _ _ _ _ (RLe.refl _) e2 hS hk)
  case convert src dst x =>
    obtain ⟨v, hv, hk⟩ := h
    obtain ⟨v', e1, e2⟩ := conv_sound (P := P) hS (he.val (x := x) (by simpa using hg)) hv
    exact upon_v (sm := Go.convert src dst (a.eval x)) rfl e1 (hn _ _ _ _ _ (RLe.refl _) e2 hS hk)
  case makeFunc fn first captured =>
    cases fn <;> simp only [] at h
    case func f =>
      obtain ⟨h1, h2, hk⟩ := h
      have hg' : first.toList.all goodX = true ∧ captured.toList.all goodX = true := by simpa using hg
      refine upon_v (sm := Instr.makeFunc (.func f) (first.map a.eval) (captured.map a.eval)) rfl rfl (hn _ _ _ _ _ (RLe.refl _) (.v (.v (.fn ?_ ?_))) hS hk)
      · simpa using atoms_rel he hg'.1 h1
      · simpa using atoms_rel he hg'.2 h2
    all_goals exact h.elim
  case makeSlice t l c =>
    simp only [List.all_toArray, List.all_cons, List.all_nil, Bool.and_true, Bool.and_eq_true] at hg
    obtain ⟨id, v, s', hv, hk⟩ := h
    obtain ⟨v', w', ρ', e1, e2, e3, e4⟩ := makeSlice_sound (P := P) hS (he.val hg.1) (he.val hg.2) hv
    exact upon_v (sm := Instr.makeSlice t (a.eval l) (a.eval c)) rfl e1 (hn _ _ _ _ _ e2 e3 e4 hk)
  case slice t x lo hi mx =>
    have hg' : goodX x = true ∧ lo.all goodX = true ∧ hi.all goodX = true ∧ mx.all goodX = true := by
      cases lo <;> cases hi <;> cases mx <;> simp_all
    obtain ⟨v, hv, hk⟩ := h
    obtain ⟨v', e1, e2⟩ := slice_sound (P := P) hS (he.val hg'.1) (opt_rel he hg'.2.1) (opt_rel he hg'.2.2.1) (opt_rel he hg'.2.2.2) hv
    exact upon_v (sm := Instr.sliceAt t (a.eval x) (lo.map a.eval) (hi.map a.eval) (mx.map a.eval)) rfl e1 (hn _ _ _ _ _ (RLe.refl _) e2 hS hk)
  case fieldAddr t x f =>
    obtain ⟨v, hv, hk⟩ := h
    obtain ⟨v', e1, e2⟩ := field_sound (P := P) (w := w) (he.val (x := x) (by simpa using hg)) hv
    exact upon_v (sm := Instr.fieldAt t (a.eval x) f) rfl e1 (hn _ _ _ _ _ (RLe.refl _) e2 hS hk)
  case field t x f =>
    obtain ⟨v, hv, hk⟩ := h
    obtain ⟨v', e1, e2⟩ := fieldV_sound (P := P) (w := w) (he.val (x := x) (by simpa using hg)) hv
    exact upon_v (sm := Instr.field t (a.eval x) f) rfl e1 (hn _ _ _ _ _ (RLe.refl _) e2 hS hk)
  case indexAddr t x i =>
    simp only [List.all_toArray, List.all_cons, List.all_nil, Bool.and_true, Bool.and_eq_true] at hg
    obtain ⟨v, hv, hk⟩ := h
    obtain ⟨v', e1, e2⟩ := indexAddr_sound (P := P) (w := w) (he.val hg.1) (he.val hg.2) hv
    exact upon_v (sm := Instr.indexAt t (a.eval x) (a.eval i)) rfl e1 (hn _ _ _ _ _ (RLe.refl _) e2 hS hk)
  case index t x i =>
    simp only [List.all_toArray, List.all_cons, List.all_nil, Bool.and_true, Bool.and_eq_true] at hg
    obtain ⟨v, hv, hk⟩ := h
    obtain ⟨v', e1, e2⟩ := indexV_sound (P := P) (w := w) (he.val hg.1) (he.val hg.2) hv
    exact upon_v (sm := Instr.index t (a.eval x) (a.eval i)) rfl e1 (hn _ _ _ _ _ (RLe.refl _) e2 hS hk)
  case extract x i =>
    obtain ⟨v, hv, hk⟩ := h
    obtain ⟨v', e1, e2⟩ := extract_sound (P := P) (w := w) (he.val (x := x) (by simpa using hg)) hv
    exact upon_v (sm := Instr.extract (a.eval x) i) rfl e1 (hn _ _ _ _ _ (RLe.refl _) e2 hS hk)
  case makeMap t r =>
    cases r <;> simp only [] at h
    case none =>
      obtain ⟨id, hid, hk⟩ := h
      obtain ⟨v', w', ρ', e1, e2, e3, e4⟩ := makeMap_sound (P := P) (t := t) hS hid
      exact upon_v (sm := Instr.makeMap t none) rfl e1 (hn _ _ _ _ _ e2 e3 e4 hk)
    all_goals exact h.elim
  case lookup t x i ok =>
    simp only [List.all_toArray, List.all_cons, List.all_nil, Bool.and_true, Bool.and_eq_true] at hg
    obtain ⟨v, hv, hk⟩ := h
    obtain ⟨v', e1, e2⟩ := lookup_sound (P := P) hS (he.val hg.1) (he.val hg.2) hv
    exact upon_v (sm := Instr.lookup t (a.eval x) (a.eval i) ok) rfl e1 (hn _ _ _ _ _ (RLe.refl _) e2 hS hk)
  case mapUpdate t m k x =>
    simp only [List.all_toArray, List.all_cons, List.all_nil, Bool.and_true, Bool.and_eq_true] at hg
    obtain ⟨s', hv, hk⟩ := h
    obtain ⟨w', e1, e2⟩ := update_sound (P := P) hS (he.val hg.1) (he.val hg.2.1) (he.val hg.2.2) hv
    exact upon_u (sm := Instr.mapUpdate t (a.eval m) (a.eval k) (a.eval x)) rfl e1 (hn ρ undef undef s' w' (RLe.refl _) (undef_VR ρ) e2 hk)
  case call c =>
    obtain ⟨callee, args, ats⟩ := c
    cases callee with
    | builtin b =>
      have hg' : args.toList.all goodX = true := by simpa [Call.operands] using hg
      have hargs := he.evs hg'
      simp only [ABuiltin] at h
      split at h
      · rename_i t tx v x hts hl
        obtain ⟨id, r, s', hv, hk⟩ := h
        rw [hl] at hargs
        obtain ⟨v', x', hl', hv2, hx2⟩ : ∃ v' x', args.toList.map a.eval = [v', x'] ∧ VR ρ v v' ∧ VR ρ x x' := by
          generalize args.toList.map a.eval = l' at hargs
          cases hargs with | cons h1 r => cases r with | cons h2 r => cases r; exact ⟨_, _, rfl, h1, h2⟩
        obtain ⟨r', w', ρ', e1, e2, e3, e4⟩ := append_sound (P := P) (ty := type) hS hv2 hx2 hv
        have hts' : ats = #[t, tx] := by apply Array.ext'; simpa using hts
        have hav : args.map a.eval = #[v', x'] := by apply Array.ext'; simpa using hl'
        refine upon_v (sm := Builtin.append_ ats type (args.map a.eval)) rfl (by rw [hts', hav]; exact e1) (hn _ _ _ _ _ e2 e3 e4 hk)
      · rename_i t x hts hl
        obtain ⟨v, hv, hk⟩ := h
        rw [hl] at hargs
        obtain ⟨x', hl', hx2⟩ : ∃ x', args.toList.map a.eval = [x'] ∧ VR ρ x x' := by
          generalize args.toList.map a.eval = l' at hargs
          cases hargs with | cons h1 r => cases r; exact ⟨_, rfl, h1⟩
        have hav : args.map a.eval = #[x'] := by apply Array.ext'; simpa using hl'
        have hats : ats = #[t] := by apply Array.ext'; simpa using hts
        obtain ⟨v', e1, e2⟩ := len_sound (P := P) (ts := ats) (ty := type) hS (t := t) (by rw [hats]; rfl) hx2 hv
        exact upon_v (sm := Builtin.len_ ats type (args.map a.eval)) rfl (by rw [hav]; exact e1) (hn _ _ _ _ _ (RLe.refl _) e2 hS hk)
      · rename_i t x hts hl
        obtain ⟨s', hv, hk⟩ := h
        rw [hl] at hargs
        obtain ⟨x', hl', hx2⟩ : ∃ x', args.toList.map a.eval = [x'] ∧ VR ρ x x' := by
          generalize args.toList.map a.eval = l' at hargs
          cases hargs with | cons h1 r => cases r; exact ⟨_, rfl, h1⟩
        have hav : args.map a.eval = #[x'] := by apply Array.ext'; simpa using hl'
        have hats : ats = #[t] := by apply Array.ext'; simpa using hts
        obtain ⟨w', e1, e2⟩ := clear_sound (P := P) (ty := type) hS hx2 hv
        exact upon_v (sm := Builtin.clear_ ats type (args.map a.eval)) rfl (by rw [hav, hats]; exact e1) (hn _ _ _ _ _ (RLe.refl _) (undef_VR ρ) e2 hk)
      · rename_i t x hts hl
        obtain ⟨v, hv, hk⟩ := h
        rw [hl] at hargs
        obtain ⟨x', hl', hx2⟩ : ∃ x', args.toList.map a.eval = [x'] ∧ VR ρ x x' := by
          generalize args.toList.map a.eval = l' at hargs
          cases hargs with | cons h1 r => cases r; exact ⟨_, rfl, h1⟩
        have hav : args.map a.eval = #[x'] := by apply Array.ext'; simpa using hl'
        have hats : ats = #[t] := by apply Array.ext'; simpa using hts
        obtain ⟨v', e1, e2⟩ := cap_sound (P := P) (w := w) (ty := type) hx2 hv
        exact upon_v (sm := Builtin.cap_ ats type (args.map a.eval)) rfl (by rw [hav, hats]; exact e1) (hn _ _ _ _ _ (RLe.refl _) e2 hS hk)
      · obtain ⟨v, hv, hk⟩ := h
        obtain ⟨e1, e2⟩ := amm_sound (P := P) (w := w) (ts := ats) (ty := type) hargs hv
        exact upon_v (sm := Builtin.min_ ats type (args.map a.eval)) rfl (by rw [show args.map a.eval = (args.toList.map a.eval).toArray by apply Array.ext'; simp]; exact e1) (hn _ _ _ _ _ (RLe.refl _) (.atom (plA.self ρ e2)) hS hk)
      · obtain ⟨v, hv, hk⟩ := h
        obtain ⟨e1, e2⟩ := amm_sound (P := P) (w := w) (ts := ats) (ty := type) hargs hv
        exact upon_v (sm := Builtin.max_ ats type (args.map a.eval)) rfl (by rw [show args.map a.eval = (args.toList.map a.eval).toArray by apply Array.ext'; simp]; exact e1) (hn _ _ _ _ _ (RLe.refl _) (.atom (plA.self ρ e2)) hS hk)
      · exact h.elim
    | value f =>
      simp only [] at h
      split at h
      · rename_i g first captured heq
        obtain ⟨Q, ⟨⟨fn, hf, hb, hnm⟩, hcall⟩, hk⟩ := h
        have hg' : goodX f = true ∧ args.toList.all goodX = true := by simpa [Call.operands] using hg
        have hfv := he.val hg'.1
        rw [heq] at hfv
        obtain ⟨fs', cs', hfe, hfs, hcs⟩ := hfv.func
        have hargs := he.evs hg'.2
        have hall : All2 (VR ρ) (first.toList ++ args.toList.map (ev tm) ++ captured.toList) (fs'.toList ++ args.toList.map a.eval ++ cs'.toList) :=
          ((hfs.mono fun _ _ h => .atom h).append hargs).append (hcs.mono fun _ _ h => .atom h)
        have hc := hcall W0 ρ w _ hall hS
        have hexec : (execOp a.eval ⟨dst, .call ⟨.value f, args, ats⟩, type, pos, after, guard⟩).run P w = .ok (.enter g (fs'.toList ++ args.toList.map a.eval ++ cs'.toList).toArray) w := by
          have hnm' : ¬ fn.name = "runtime.NumGoroutine" := by simpa using hnm
          have hbn : fn.body.isNone = false := by cases hbb : fn.body <;> simp_all
          have hA : (fs'.toList ++ args.toList.map a.eval ++ cs'.toList).toArray = (fs' ++ args.map a.eval) ++ cs' := by apply Array.ext'; simp
          rw [hA]
          simp only [execOp, resolve, hfe, Deferred.ofValue, pure_bind, invoke, callFunc, Sem.run_bind, run_program, Result.andThen_ok, hf]
          simp [hnm', hbn]
        unfold Oper.wp
        rw [hexec]
        refine Calls.mono hc fun e w' hh => ?_
        obtain ⟨v, s', ρ', v', hq, rfl, hvr, hle, hS'⟩ := hh
        exact hn _ _ _ _ _ hle hvr hS' (hk v s' hq)
      · exact h.elim
    | invoke r m => exact h.elim
  all_goals exact h.elim

end
end Go.Proofs.Ytnbgeodignljfaa.Ab
