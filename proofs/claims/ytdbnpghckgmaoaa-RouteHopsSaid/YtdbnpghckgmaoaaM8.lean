/- texts of this claim, one behind the other: Ab6, Ab7, Ab8, Ab9, AbA, AbW, AbK, AbU, AbG, AbN. -/
import Derived.Test.YtdbnpghckgmaoaaM7
import Derived.Tactics

/- Operations, regions, code and calls over the abstract memory, and that the machine follows them. -/
namespace Go.Proofs.Ytdbnpghckgmaoaa.Ab
set_option linter.unusedVariables false
set_option linter.unusedSimpArgs false
set_option linter.unusedSectionVars false
open Go.RowKit

abbrev Env := Nat → Value
def ev (tm : Env) : Operand → Value
  | .tmp t => tm t
  | .const v => v
  | .func f => .func (.func f) #[] #[]
  | .global _ => .tuple #[]
def put (tm : Env) : Option Tmp → Value → Env
  | none, _ => tm
  | some d, v => fun t => if t = d then v else tm t

def goodX : Operand → Bool
  | .tmp _ => true
  | .const v => plR v
  | .func _ => true
  | .global _ => false
def goodO (n : Nat) (o : Oper) : Bool := (match o.dst with | some d => decide (d < n) | none => true) && o.op.operands.all goodX
def goodC (n : Nat) : Code → Bool
  | .skip | .exit _ | .ret => true
  | .region _ ops _ => ops.toList.all (goodO n)
  | .seq a b => goodC n a && goodC n b
  | .cond c a b => goodX c && goodC n a && goodC n b
  | .block _ b => goodC n b
  | .loop b => goodC n b
  | _ => false

def EnvR (ρ : Ren) (n : Nat) (tm : Env) (tmps : Array Value) : Prop :=
  tmps.size = n ∧ (∀ t, t < n → ∃ v', tmps[t]? = some v' ∧ VR ρ (tm t) v') ∧ ∀ t, n ≤ t → tm t = undef

section
variable {P : Program} {W0 w : World} {ρ : Ren} {s : AHeap} {n : Nat} {tm : Env} {a : Act}

theorem undef_VR (ρ : Ren) : VR ρ undef undef := .tup .nil
theorem EnvR.mono {ρ' tmps} (hle : RLe ρ ρ') (h : EnvR ρ n tm tmps) : EnvR ρ' n tm tmps :=
  ⟨h.1, fun t ht => let ⟨v', a, b⟩ := h.2.1 t ht; ⟨v', a, b.mono hle⟩, h.2.2⟩
theorem EnvR.val {x} (h : EnvR ρ n tm a.tmps) (hx : goodX x = true) : VR ρ (ev tm x) (a.eval x) := by
  cases x with
  | tmp t =>
    show VR ρ (tm t) (a.tmps.getD t undef)
    by_cases ht : t < n
    · obtain ⟨v', e, r⟩ := h.2.1 t ht
      have : a.tmps.getD t undef = v' := by simp [e]
      rw [this]; exact r
    · have ht' : n ≤ t := Nat.le_of_not_lt ht
      rw [h.2.2 t ht']
      have : a.tmps.getD t undef = undef := by simp [Array.getElem?_eq_none (show a.tmps.size ≤ t by rw [h.1]; exact ht')]
      rw [this]; exact undef_VR ρ
  | const v => exact plR.self ρ hx
  | global g => cases hx
  | func f => exact .v (.v (.fn .nil .nil))
theorem EnvR.put {ρ' dst v v'} (h : EnvR ρ' n tm a.tmps) (hd : (match dst with | some d => decide (d < n) | none => true) = true) (hv : VR ρ' v v') : EnvR ρ' n (put tm dst v) (a.put dst v').tmps := by
  cases dst with
  | none => exact h
  | some d =>
    have hd' : d < n := by simpa using hd
    refine ⟨by simp [Act.put, h.1], fun t ht => ?_, fun t ht => ?_⟩
    · by_cases e : t = d
      · subst e
        exact ⟨v', by simp [Act.put, h.1, ht], by simpa [Ab.put] using hv⟩
      · obtain ⟨u, e1, e2⟩ := h.2.1 t ht
        exact ⟨u, by simp only [Act.put]; rw [Array.getElem?_setIfInBounds_ne (Ne.symm e)]; exact e1, by simpa [Ab.put, e] using e2⟩
    · have : t ≠ d := fun e => absurd (e ▸ hd') (Nat.not_lt_of_le ht)
      simpa [Ab.put, this] using h.2.2 t ht
theorem EnvR.evs {l : List Operand} (h : EnvR ρ n tm a.tmps) (hl : l.all goodX = true) : All2 (VR ρ) (l.map (ev tm)) (l.map a.eval) := by
  induction l with
  | nil => exact .nil
  | cons x l ih => simp only [List.all_cons, Bool.and_eq_true] at hl; exact .cons (h.val hl.1) (ih hl.2)
end

/-! ### calls -/
def ACall (P : Program) (f : FuncId) (args : List Value) (s : AHeap) (v : Value) (s' : AHeap) : Prop :=
  (∃ fn, P.funcs[f]? = some fn ∧ fn.body.isSome = true ∧ (fn.name == "runtime.NumGoroutine") = false) ∧
  ∀ W0 ρ w (args' : List Value), All2 (VR ρ) args args' → Sim W0 ρ s w →
    Calls P f args'.toArray w fun e w' => ∃ ρ' v', e = .returned v' ∧ VR ρ' v v' ∧ RLe ρ ρ' ∧ Sim W0 ρ' s' w'
/-- A call that leaves one of the results and memories that are told. -/
def ACallE (P : Program) (f : FuncId) (args : List Value) (s : AHeap) (Q : Value → AHeap → Prop) : Prop :=
  (∃ fn, P.funcs[f]? = some fn ∧ fn.body.isSome = true ∧ (fn.name == "runtime.NumGoroutine") = false) ∧
  ∀ W0 ρ w (args' : List Value), All2 (VR ρ) args args' → Sim W0 ρ s w →
    Calls P f args'.toArray w fun e w' => ∃ v s' ρ' v', Q v s' ∧ e = .returned v' ∧ VR ρ' v v' ∧ RLe ρ ρ' ∧ Sim W0 ρ' s' w'
theorem ACall.toE {P : Program} {f : FuncId} {args : List Value} {s s' : AHeap} {v : Value} (h : ACall P f args s v s') : ACallE P f args s fun v1 s1 => v1 = v ∧ s1 = s' :=
  ⟨h.1, fun W0 ρ w args' ha hS => (h.2 W0 ρ w args' ha hS).mono fun e w' hh => by
    obtain ⟨ρ', v', a, b, c, d⟩ := hh; exact ⟨v, s', ρ', v', ⟨rfl, rfl⟩, a, b, c, d⟩⟩
theorem ACallE.mono {P : Program} {f : FuncId} {args : List Value} {s : AHeap} {Q Q' : Value → AHeap → Prop} (h : ACallE P f args s Q) (hq : ∀ v s', Q v s' → Q' v s') : ACallE P f args s Q' :=
  ⟨h.1, fun W0 ρ w args' ha hS => (h.2 W0 ρ w args' ha hS).mono fun e w' hh => by
    obtain ⟨v, s', ρ', v', q, r⟩ := hh; exact ⟨v, s', ρ', v', hq v s' q, r⟩⟩

def isAt : Value → Bool
  | .agg _ | .tuple _ | .func .. => false
  | _ => true

def ABuiltin (P : Program) (b : Builtin) (ts : List TypeId) (args : List Value) (s : AHeap) (K : Value → AHeap → Prop) : Prop :=
  match b, ts, args with
  | .append, [t, tx], [v, x] => ∃ id r s', aappend P t tx s v x id = some (r, s') ∧ K r s'
  | .len, [t], [x] => ∃ v, alen P t s x = some v ∧ K v s
  | .clear, [t], [x] => ∃ s', aclear P t s x = some s' ∧ K undef s'
  | .cap, [t], [x] => ∃ v, acap P t x = some v ∧ K v s
  | .min, _, l => ∃ v, amm false l = some v ∧ K v s
  | .max, _, l => ∃ v, amm true l = some v ∧ K v s
  | _, _, _ => False

def AOp (P : Program) (o : Oper) (tm : Env) (s : AHeap) (K : Value → AHeap → Prop) : Prop :=
  match o.op with
  | .move x => K (ev tm x) s
  | .assign x => K (ev tm x) s
  | .pick c x y => ∃ b, ev tm c = .bool b ∧ K (if b = true then ev tm x else ev tm y) s
  | .alloc e => ∃ id td, tdOf P e = some td ∧ s id = none ∧ plB td.zero = true ∧ K (.pointer (some ⟨id, 0, none⟩)) (s.set id (.cells true 1 td.zero.cells.toList))
  | .box _ x => ∃ id, s id = none ∧ notTup (ev tm x) = true ∧ K (.pointer (some ⟨id, 0, none⟩)) (s.set id (.cells true 1 (ev tm x).cells.toList))
  | .build t parts => ∃ v, abuild P t (parts.toList.map fun p => (p.1, ev tm p.2)) = some v ∧ K v s
  | .buildSlice t len parts => ∃ id v s', abuildSlice P t len (parts.toList.map fun p => (p.1, ev tm p.2)) s id = some (v, s') ∧ K v s'
  | .load t x => ∃ v, aload P t s (ev tm x) = some v ∧ K v s
  | .store t x y => ∃ s', astore P t s (ev tm x) (ev tm y) = some s' ∧ K undef s'
  | .nilCheck x => match ev tm x with
    | .pointer (some a) => K (.pointer (some a)) s
    | .func (.func f) fs cs => K (.func (.func f) fs cs) s
    | _ => False
  | .binOp op t x y _ => ∃ v, ABin P op t x y (ev tm x) (ev tm y) v ∧ K v s
  | .unOp op _ x => ∃ v, aun op (ev tm x) = some v ∧ K v s
  | .convert src dst x => ∃ v, aconv P src dst s (ev tm x) = some v ∧ K v s
  | .makeFunc (.func f) first captured => first.toList.all (fun x => isAt (ev tm x)) = true ∧ captured.toList.all (fun x => isAt (ev tm x)) = true ∧ K (.func (.func f) (first.map (ev tm)) (captured.map (ev tm))) s
  | .makeSlice t l c => ∃ id v s', amakeSlice P t s (ev tm l) (ev tm c) id = some (v, s') ∧ K v s'
  | .slice t x lo hi mx => ∃ v, aslice P t s (ev tm x) (lo.map (ev tm)) (hi.map (ev tm)) (mx.map (ev tm)) = some v ∧ K v s
  | .fieldAddr t x f => ∃ v, afield P t (ev tm x) f = some v ∧ K v s
  | .field t x f => ∃ v, afieldV P t (ev tm x) f = some v ∧ K v s
  | .indexAddr t x i => ∃ v, aindexAddr P t (ev tm x) (ev tm i) = some v ∧ K v s
  | .index t x i => ∃ v, aindexV P t (ev tm x) (ev tm i) = some v ∧ K v s
  | .extract x i => ∃ v, aextract (ev tm x) i = some v ∧ K v s
  | .makeMap _ none => ∃ id, s id = none ∧ K (.map (some id)) (s.set id (.map []))
  | .lookup t x i ok => ∃ v, ALook P t s (ev tm x) (ev tm i) ok v ∧ K v s
  | .mapUpdate t m k x => ∃ s', AUpd P t s (ev tm m) (ev tm k) (ev tm x) s' ∧ K undef s'
  | .call c => match c.callee with
    | .builtin b => ABuiltin P b c.argTypes.toList (c.args.toList.map (ev tm)) s K
    | .value f => match ev tm f with
      | .func (.func g) first captured => ∃ Q, ACallE P g (first.toList ++ c.args.toList.map (ev tm) ++ captured.toList) s Q ∧ ∀ v s', Q v s' → K v s'
      | _ => False
    | .invoke .. => False
  | _ => False

section
variable {P : Program} {W0 w : World} {ρ : Ren} {s : AHeap} {n : Nat} {tm : Env} {a : Act}

theorem upon_v {o : Oper} {next : Act → World → Prop} {Q : Exit → Act → World → Prop} {sm : Sem Value} {v' : Value} {w' : World} (h : execOp a.eval o = (do pure (.value (← sm)))) (hr : sm.run P w = .ok v' w') (hn : next (a.put o.dst v') w') : o.wp P a w next Q := by
  unfold Oper.wp
  rw [h, Sem.run_bind, hr]
  exact hn
theorem upon_u {o : Oper} {next : Act → World → Prop} {Q : Exit → Act → World → Prop} {sm : Sem Unit} {w' : World} (h : execOp a.eval o = (do sm; pure .skip)) (hr : sm.run P w = .ok () w') (hn : next (a.put o.dst undef) w') : o.wp P a w next Q := by
  unfold Oper.wp
  rw [h, Sem.run_bind, hr]
  exact hn

theorem parts_rel {ps : List (Nat × Operand)} (he : EnvR ρ n tm a.tmps) (hp : (ps.map (·.2)).all goodX = true) : PartsR ρ (ps.map fun p => (p.1, ev tm p.2)) (ps.map fun p => (p.1, a.eval p.2)) := by
  induction ps with
  | nil => exact .nil
  | cons p ps ih => simp only [List.map_cons, List.all_cons, Bool.and_eq_true] at hp; exact .cons (he.val hp.1) (ih hp.2)

theorem opt_rel {x : Option Operand} (he : EnvR ρ n tm a.tmps) (hx : x.all goodX = true) : OR (VR ρ) (x.map (ev tm)) (x.map a.eval) := by
  cases x with
  | none => exact .none
  | some y => exact .some (he.val (by simpa using hx))

theorem atoms_rel {l : List Operand} (he : EnvR ρ n tm a.tmps) (hl : l.all goodX = true) (ha : l.all (fun x => isAt (ev tm x)) = true) : All2 (VA ρ) (l.map (ev tm)) (l.map a.eval) := by
  induction l with
  | nil => exact .nil
  | cons x l ih =>
    simp only [List.all_cons, Bool.and_eq_true] at hl ha
    refine .cons ((he.val hl.1).toA ?_ ?_) (ih hl.2 ha.2)
    · cases h : ev tm x <;> simp_all [isAt, Value.oneCell']
    · intro f b c h; simp [h, isAt] at ha

set_option maxHeartbeats 4000000 in
theorem AOp.sound {o : Oper} {K : Value → AHeap → Prop} {next : Act → World → Prop} {Q : Exit → Act → World → Prop} (h : AOp P o tm s K) (hg : o.op.operands.all goodX = true) (he : EnvR ρ n tm a.tmps) (hS : Sim W0 ρ s w)
    (hn : ∀ ρ' v v' s' w', RLe ρ ρ' → VR ρ' v v' → Sim W0 ρ' s' w' → K v s' → next (a.put o.dst v') w') : o.wp P a w next Q := by
  obtain ⟨dst, op, type, pos, after, guard⟩ := o
  cases op <;> simp only [AOp] at h <;> simp only [Op.operands] at hg
  case move x =>
    have hx := he.val (x := x) (by simpa using hg)
    exact hn ρ _ _ s w (RLe.refl _) hx hS h
  case assign x =>
    have hx := he.val (x := x) (by simpa using hg)
    exact hn ρ _ _ s w (RLe.refl _) hx hS h
  case pick c x y =>
    simp only [List.all_toArray, List.all_cons, List.all_nil, Bool.and_true, Bool.and_eq_true] at hg
    obtain ⟨b, hb, hk⟩ := h
    have hc := he.val hg.1
    rw [hb] at hc
    have hc' := hc.bool
    unfold Oper.wp
    have hrun : (execOp a.eval ⟨dst, .pick c x y, type, pos, after, guard⟩).run P w = .ok (.value (if b = true then a.eval x else a.eval y)) w := by simp [execOp, hc', asBool]
    rw [hrun]
    refine hn ρ _ _ s w (RLe.refl _) ?_ hS hk
    cases b
    · exact he.val hg.2.2
    · exact he.val hg.2.1
  case alloc e =>
    obtain ⟨id, td, ht, hid, hpl, hk⟩ := h
    obtain ⟨hle, hS'⟩ := hS.made (id := id) hid (c := td.zero.cells.toList) (arr := td.zero.cells) (el := e) (sz := 1) (by rw [List.take_of_length_le (by simp)]; exact (plB.self ρ hpl).cells) (by simp)
    exact upon_v (sm := Instr.alloc e true (.tuple #[])) rfl (by simp [Instr.alloc, td_zero ht, newVar, newRow]) (hn _ _ _ _ _ hle (.atom (.ptr (setR_same _ _ _))) hS' hk)
  case box e x =>
    obtain ⟨id, hid, hnt, hk⟩ := h
    have hx := he.val (x := x) (by simpa using hg)
    have hb := (hx.toB fun b e => by rw [e] at hnt; cases hnt).cells
    have hlen := hb.length
    simp only [Array.length_toList] at hlen
    obtain ⟨hle, hS'⟩ := hS.made (id := id) hid (c := (ev tm x).cells.toList) (arr := (a.eval x).cells) (el := e) (sz := 1) (by rw [List.take_of_length_le (by simp; omega)]; exact hb) (by simp; omega)
    exact upon_v (sm := Instr.box e (a.eval x)) rfl (by simp [Instr.box, newVar, newRow]) (hn _ _ _ _ _ hle (.atom (.ptr (setR_same _ _ _))) hS' hk)
  case build t parts =>
    obtain ⟨v, hv, hk⟩ := h
    have hp := parts_rel (ps := parts.toList) he (by simpa using hg)
    obtain ⟨v', e1, e2⟩ := build_sound (P := P) (w := w) (parts := (parts.toList.map fun p => (p.1, ev tm p.2)).toArray) (parts' := parts.map fun p => (p.1, a.eval p.2)) (by simpa using hp) (by simpa using hv)
    exact upon_v (sm := Instr.build t (parts.map fun p => (p.1, a.eval p.2))) rfl e1 (hn _ _ _ _ _ (RLe.refl _) e2 hS hk)
  case buildSlice t len parts =>
    obtain ⟨id, v, s', hv, hk⟩ := h
    have hp := parts_rel (ps := parts.toList) he (by simpa using hg)
    obtain ⟨v', w', ρ', e1, e2, e3, e4⟩ := buildSlice_sound (P := P) hS (parts := (parts.toList.map fun p => (p.1, ev tm p.2)).toArray) (parts' := parts.map fun p => (p.1, a.eval p.2)) (by simpa using hp) (by simpa using hv)
    exact upon_v (sm := Instr.buildSlice t len (parts.map fun p => (p.1, a.eval p.2))) rfl e1 (hn _ _ _ _ _ e2 e3 e4 hk)
  case load t x =>
    obtain ⟨v, hv, hk⟩ := h
    have hx := he.val (x := x) (by simpa using hg)
    obtain ⟨v', e1, e2⟩ := load_sound (P := P) hS hx hv
    exact upon_v (sm := Instr.loadAt t (a.eval x)) rfl e1 (hn _ _ _ _ _ (RLe.refl _) (.v e2) hS hk)
  case store t x y =>
    simp only [List.all_toArray, List.all_cons, List.all_nil, Bool.and_true, Bool.and_eq_true] at hg
    obtain ⟨s', hv, hk⟩ := h
    obtain ⟨w', e1, e2⟩ := store_sound (P := P) hS (he.val hg.1) (he.val hg.2) hv
    exact upon_u (sm := Instr.storeAt t (a.eval x) (a.eval y)) rfl e1 (hn ρ undef undef s' w' (RLe.refl _) (undef_VR ρ) e2 hk)
  case nilCheck x =>
    have hx := he.val (x := x) (by simpa using hg)
    split at h
    · rename_i ad heq
      rw [heq] at hx
      obtain ⟨l, hsp, hl, hv⟩ := hx.ptr
      have hrun : (execOp a.eval ⟨dst, .nilCheck x, type, pos, after, guard⟩).run P w = .ok (.value (a.eval x)) w := by simp [execOp, hv]
      unfold Oper.wp
      rw [hrun]
      exact hn ρ _ _ s w (RLe.refl _) hx hS h
    · rename_i f fs cs heq
      rw [heq] at hx
      obtain ⟨fs', cs', hv, _, _⟩ := hx.func
      have hrun : (execOp a.eval ⟨dst, .nilCheck x, type, pos, after, guard⟩).run P w = .ok (.value (a.eval x)) w := by simp [execOp, hv]
      unfold Oper.wp
      rw [hrun]
      exact hn ρ _ _ s w (RLe.refl _) hx hS h
    · exact h.elim
  case binOp op t x y yt =>
    simp only [List.all_toArray, List.all_cons, List.all_nil, Bool.and_true, Bool.and_eq_true] at hg
    obtain ⟨v, hv, hk⟩ := h
    obtain ⟨v', e1, e2⟩ := abin_sound (P := P) (w := w) (he.val hg.1) (he.val hg.2) hv
    exact upon_v (sm := do eqGuard op t x y (a.eval x) (a.eval y); Go.binOp op t (a.eval x) (a.eval y)) rfl e1 (hn _ _ _ _ _ (RLe.refl _) e2 hS hk)
  case unOp op t x =>
    obtain ⟨v, hv, hk⟩ := h
    obtain ⟨v', e1, e2⟩ := aun_sound (P := P) (w := w) (he.val (x := x) (by simpa using hg)) hv
    exact upon_v (sm := Op.unary op (a.eval x)) rfl e1 (hn _ _ _ _ _ (RLe.refl _) e2 hS hk)
  case convert src dst x =>
    obtain ⟨v, hv, hk⟩ := h
    obtain ⟨v', e1, e2⟩ := conv_sound (P := P) hS (he.val (x := x) (by simpa using hg)) hv
    exact upon_v (sm := Go.convert src dst (a.eval x)) rfl e1 (hn _ _ _ _ _ (RLe.refl _) e2 hS hk)
  case makeFunc fn first captured =>
    cases fn <;> simp only [] at h
    case func f =>
      obtain ⟨h1, h2, hk⟩ := h
      have hg' : first.toList.all goodX = true ∧ captured.toList.all goodX = true := by simpa using hg
      refine upon_v (sm := Instr.makeFunc (.func f) (first.map a.eval) (captured.map a.eval)) rfl rfl (hn _ _ _ _ _ (RLe.refl _) (.v (.v (.fn ?_ ?_))) hS hk)
      · simpa using atoms_rel he hg'.1 h1
      · simpa using atoms_rel he hg'.2 h2
    all_goals exact h.elim
  case makeSlice t l c =>
    simp only [List.all_toArray, List.all_cons, List.all_nil, Bool.and_true, Bool.and_eq_true] at hg
    obtain ⟨id, v, s', hv, hk⟩ := h
    obtain ⟨v', w', ρ', e1, e2, e3, e4⟩ := makeSlice_sound (P := P) hS (he.val hg.1) (he.val hg.2) hv
    exact upon_v (sm := Instr.makeSlice t (a.eval l) (a.eval c)) rfl e1 (hn _ _ _ _ _ e2 e3 e4 hk)
  case slice t x lo hi mx =>
    have hg' : goodX x = true ∧ lo.all goodX = true ∧ hi.all goodX = true ∧ mx.all goodX = true := by
      cases lo <;> cases hi <;> cases mx <;> simp_all
    obtain ⟨v, hv, hk⟩ := h
    obtain ⟨v', e1, e2⟩ := slice_sound (P := P) hS (he.val hg'.1) (opt_rel he hg'.2.1) (opt_rel he hg'.2.2.1) (opt_rel he hg'.2.2.2) hv
    exact upon_v (sm := Instr.sliceAt t (a.eval x) (lo.map a.eval) (hi.map a.eval) (mx.map a.eval)) rfl e1 (hn _ _ _ _ _ (RLe.refl _) e2 hS hk)
  case fieldAddr t x f =>
    obtain ⟨v, hv, hk⟩ := h
    obtain ⟨v', e1, e2⟩ := field_sound (P := P) (w := w) (he.val (x := x) (by simpa using hg)) hv
    exact upon_v (sm := Instr.fieldAt t (a.eval x) f) rfl e1 (hn _ _ _ _ _ (RLe.refl _) e2 hS hk)
  case field t x f =>
    obtain ⟨v, hv, hk⟩ := h
    obtain ⟨v', e1, e2⟩ := fieldV_sound (P := P) (w := w) (he.val (x := x) (by simpa using hg)) hv
    exact upon_v (sm := Instr.field t (a.eval x) f) rfl e1 (hn _ _ _ _ _ (RLe.refl _) e2 hS hk)
  case indexAddr t x i =>
    simp only [List.all_toArray, List.all_cons, List.all_nil, Bool.and_true, Bool.and_eq_true] at hg
    obtain ⟨v, hv, hk⟩ := h
    obtain ⟨v', e1, e2⟩ := indexAddr_sound (P := P) (w := w) (he.val hg.1) (he.val hg.2) hv
    exact upon_v (sm := Instr.indexAt t (a.eval x) (a.eval i)) rfl e1 (hn _ _ _ _ _ (RLe.refl _) e2 hS hk)
  case index t x i =>
    simp only [List.all_toArray, List.all_cons, List.all_nil, Bool.and_true, Bool.and_eq_true] at hg
    obtain ⟨v, hv, hk⟩ := h
    obtain ⟨v', e1, e2⟩ := indexV_sound (P := P) (w := w) (he.val hg.1) (he.val hg.2) hv
    exact upon_v (sm := Instr.index t (a.eval x) (a.eval i)) rfl e1 (hn _ _ _ _ _ (RLe.refl _) e2 hS hk)
  case extract x i =>
    obtain ⟨v, hv, hk⟩ := h
    obtain ⟨v', e1, e2⟩ := extract_sound (P := P) (w := w) (he.val (x := x) (by simpa using hg)) hv
    exact upon_v (sm := Instr.extract (a.eval x) i) rfl e1 (hn _ _ _ _ _ (RLe.refl _) e2 hS hk)
  case makeMap t r =>
    cases r <;> simp only [] at h
    case none =>
      obtain ⟨id, hid, hk⟩ := h
      obtain ⟨v', w', ρ', e1, e2, e3, e4⟩ := makeMap_sound (P := P) (t := t) hS hid
      exact upon_v (sm := Instr.makeMap t none) rfl e1 (hn _ _ _ _ _ e2 e3 e4 hk)
    all_goals exact h.elim
  case lookup t x i ok =>
    simp only [List.all_toArray, List.all_cons, List.all_nil, Bool.and_true, Bool.and_eq_true] at hg
    obtain ⟨v, hv, hk⟩ := h
    obtain ⟨v', e1, e2⟩ := lookup_sound (P := P) hS (he.val hg.1) (he.val hg.2) hv
    exact upon_v (sm := Instr.lookup t (a.eval x) (a.eval i) ok) rfl e1 (hn _ _ _ _ _ (RLe.refl _) e2 hS hk)
  case mapUpdate t m k x =>
    simp only [List.all_toArray, List.all_cons, List.all_nil, Bool.and_true, Bool.and_eq_true] at hg
    obtain ⟨s', hv, hk⟩ := h
    obtain ⟨w', e1, e2⟩ := update_sound (P := P) hS (he.val hg.1) (he.val hg.2.1) (he.val hg.2.2) hv
    exact upon_u (sm := Instr.mapUpdate t (a.eval m) (a.eval k) (a.eval x)) rfl e1 (hn ρ undef undef s' w' (RLe.refl _) (undef_VR ρ) e2 hk)
  case call c =>
    obtain ⟨callee, args, ats⟩ := c
    cases callee with
    | builtin b =>
      have hg' : args.toList.all goodX = true := by simpa [Call.operands] using hg
      have hargs := he.evs hg'
      simp only [ABuiltin] at h
      split at h
      · rename_i t tx v x hts hl
        obtain ⟨id, r, s', hv, hk⟩ := h
        rw [hl] at hargs
        obtain ⟨v', x', hl', hv2, hx2⟩ : ∃ v' x', args.toList.map a.eval = [v', x'] ∧ VR ρ v v' ∧ VR ρ x x' := by
          generalize args.toList.map a.eval = l' at hargs
          cases hargs with | cons h1 r => cases r with | cons h2 r => cases r; exact ⟨_, _, rfl, h1, h2⟩
        obtain ⟨r', w', ρ', e1, e2, e3, e4⟩ := append_sound (P := P) (ty := type) hS hv2 hx2 hv
        have hts' : ats = #[t, tx] := by apply Array.ext'; simpa using hts
        have hav : args.map a.eval = #[v', x'] := by apply Array.ext'; simpa using hl'
        refine upon_v (sm := Builtin.append_ ats type (args.map a.eval)) rfl (by rw [hts', hav]; exact e1) (hn _ _ _ _ _ e2 e3 e4 hk)
      · rename_i t x hts hl
        obtain ⟨v, hv, hk⟩ := h
        rw [hl] at hargs
        obtain ⟨x', hl', hx2⟩ : ∃ x', args.toList.map a.eval = [x'] ∧ VR ρ x x' := by
          generalize args.toList.map a.eval = l' at hargs
          cases hargs with | cons h1 r => cases r; exact ⟨_, rfl, h1⟩
        have hav : args.map a.eval = #[x'] := by apply Array.ext'; simpa using hl'
        have hats : ats = #[t] := by apply Array.ext'; simpa using hts
        obtain ⟨v', e1, e2⟩ := len_sound (P := P) (ts := ats) (ty := type) hS (t := t) (by rw [hats]; rfl) hx2 hv
        exact upon_v (sm := Builtin.len_ ats type (args.map a.eval)) rfl (by rw [hav]; exact e1) (hn _ _ _ _ _ (RLe.refl _) e2 hS hk)
      · rename_i t x hts hl
        obtain ⟨s', hv, hk⟩ := h
        rw [hl] at hargs
        obtain ⟨x', hl', hx2⟩ : ∃ x', args.toList.map a.eval = [x'] ∧ VR ρ x x' := by
          generalize args.toList.map a.eval = l' at hargs
          cases hargs with | cons h1 r => cases r; exact ⟨_, rfl, h1⟩
        have hav : args.map a.eval = #[x'] := by apply Array.ext'; simpa using hl'
        have hats : ats = #[t] := by apply Array.ext'; simpa using hts
        obtain ⟨w', e1, e2⟩ := clear_sound (P := P) (ty := type) hS hx2 hv
        exact upon_v (sm := Builtin.clear_ ats type (args.map a.eval)) rfl (by rw [hav, hats]; exact e1) (hn _ _ _ _ _ (RLe.refl _) (undef_VR ρ) e2 hk)
      · rename_i t x hts hl
        obtain ⟨v, hv, hk⟩ := h
        rw [hl] at hargs
        obtain ⟨x', hl', hx2⟩ : ∃ x', args.toList.map a.eval = [x'] ∧ VR ρ x x' := by
          generalize args.toList.map a.eval = l' at hargs
          cases hargs with | cons h1 r => cases r; exact ⟨_, rfl, h1⟩
        have hav : args.map a.eval = #[x'] := by apply Array.ext'; simpa using hl'
        have hats : ats = #[t] := by apply Array.ext'; simpa using hts
        obtain ⟨v', e1, e2⟩ := cap_sound (P := P) (w := w) (ty := type) hx2 hv
        exact upon_v (sm := Builtin.cap_ ats type (args.map a.eval)) rfl (by rw [hav, hats]; exact e1) (hn _ _ _ _ _ (RLe.refl _) e2 hS hk)
      · obtain ⟨v, hv, hk⟩ := h
        obtain ⟨e1, e2⟩ := amm_sound (P := P) (w := w) (ts := ats) (ty := type) hargs hv
        exact upon_v (sm := Builtin.min_ ats type (args.map a.eval)) rfl (by rw [show args.map a.eval = (args.toList.map a.eval).toArray by apply Array.ext'; simp]; exact e1) (hn _ _ _ _ _ (RLe.refl _) (.atom (plA.self ρ e2)) hS hk)
      · obtain ⟨v, hv, hk⟩ := h
        obtain ⟨e1, e2⟩ := amm_sound (P := P) (w := w) (ts := ats) (ty := type) hargs hv
        exact upon_v (sm := Builtin.max_ ats type (args.map a.eval)) rfl (by rw [show args.map a.eval = (args.toList.map a.eval).toArray by apply Array.ext'; simp]; exact e1) (hn _ _ _ _ _ (RLe.refl _) (.atom (plA.self ρ e2)) hS hk)
      · exact h.elim
    | value f =>
      simp only [] at h
      split at h
      · rename_i g first captured heq
        obtain ⟨Q, ⟨⟨fn, hf, hb, hnm⟩, hcall⟩, hk⟩ := h
        have hg' : goodX f = true ∧ args.toList.all goodX = true := by simpa [Call.operands] using hg
        have hfv := he.val hg'.1
        rw [heq] at hfv
        obtain ⟨fs', cs', hfe, hfs, hcs⟩ := hfv.func
        have hargs := he.evs hg'.2
        have hall : All2 (VR ρ) (first.toList ++ args.toList.map (ev tm) ++ captured.toList) (fs'.toList ++ args.toList.map a.eval ++ cs'.toList) :=
          ((hfs.mono fun _ _ h => .atom h).append hargs).append (hcs.mono fun _ _ h => .atom h)
        have hc := hcall W0 ρ w _ hall hS
        have hexec : (execOp a.eval ⟨dst, .call ⟨.value f, args, ats⟩, type, pos, after, guard⟩).run P w = .ok (.enter g (fs'.toList ++ args.toList.map a.eval ++ cs'.toList).toArray) w := by
          have hnm' : ¬ fn.name = "runtime.NumGoroutine" := by simpa using hnm
          have hbn : fn.body.isNone = false := by cases hbb : fn.body <;> simp_all
          have hA : (fs'.toList ++ args.toList.map a.eval ++ cs'.toList).toArray = (fs' ++ args.map a.eval) ++ cs' := by apply Array.ext'; simp
          rw [hA]
          simp only [execOp, resolve, hfe, Deferred.ofValue, pure_bind, invoke, callFunc, Sem.run_bind, run_program, Result.andThen_ok, hf]
          simp [hnm', hbn]
        unfold Oper.wp
        rw [hexec]
        refine Calls.mono hc fun e w' hh => ?_
        obtain ⟨v, s', ρ', v', hq, rfl, hvr, hle, hS'⟩ := hh
        exact hn _ _ _ _ _ hle hvr hS' (hk v s' hq)
      · exact h.elim
    | invoke r m => exact h.elim
  all_goals exact h.elim

end
end Go.Proofs.Ytdbnpghckgmaoaa.Ab

/- Regions, code, calls. -/
namespace Go.Proofs.Ytdbnpghckgmaoaa.Ab
set_option linter.unusedVariables false
set_option linter.unusedSimpArgs false
set_option linter.unusedSectionVars false
open Go.RowKit
section
variable {P : Program} {W0 w : World} {ρ : Ren} {s : AHeap} {n : Nat} {tm : Env} {a : Act}

/-! ### regions -/
def yl (ops : Array Oper) (tm : Env) (j : Nat) : Option Bool :=
  match (ops[j]?).bind (·.dst) with
  | some d => match tm d with
    | .bool b => some b
    | _ => none
  | none => none

theorem VR.notBool {x y : Value} (h : VR ρ x y) (hx : ∀ b, x ≠ .bool b) : ∀ b, y ≠ .bool b := by
  cases h with
  | v h => cases h with
    | v h => cases h with
      | a h => cases h <;> first | exact absurd rfl (hx _) | (intro b e; cases e)
      | fn => intro b e; cases e
    | agg => intro b e; cases e
  | tup => intro b e; cases e

theorem yielded_eq {ops : Array Oper} (he : EnvR ρ n tm a.tmps) (hd : ops.toList.all (goodO n) = true) (j : Nat) : yielded ops a.tmps j = yl ops tm j := by
  unfold yielded yl
  cases hj : (ops[j]?).bind (·.dst) with
  | none => rfl
  | some d =>
    have hdn : d < n := by
      cases ho : ops[j]? with
      | none => rw [ho] at hj; cases hj
      | some o =>
        rw [ho] at hj
        have hm : o ∈ ops.toList := by simpa using Array.mem_of_getElem? ho
        have := List.all_eq_true.1 hd o hm
        simp only [goodO, Bool.and_eq_true] at this
        have h1 := this.1
        simp only [Option.bind_some] at hj
        rw [hj] at h1
        exact of_decide_eq_true h1
    obtain ⟨v', e1, e2⟩ := he.2.1 d hdn
    simp only [Option.bind_some, e1]
    cases hv : tm d with
    | bool b => rw [hv] at e2; rw [e2.bool]
    | _ => 
      have := e2.notBool (by intro b; rw [hv]; simp)
      cases v' <;> first | rfl | exact absurd rfl (this _)

def AOps (P : Program) (ops : Array Oper) : List Oper → Env → AHeap → (Env → AHeap → Prop) → Prop
  | [], tm, s, K => K tm s
  | o :: r, tm, s, K => match o.guard with
    | none => AOp P o tm s fun v s' => AOps P ops r (put tm o.dst v) s' K
    | some (j, want) => if yl ops tm j = some want then AOp P o tm s fun v s' => AOps P ops r (put tm o.dst v) s' K else AOps P ops r (put tm o.dst undef) s K

theorem AOps.sound {ops : Array Oper} {Q : Exit → Act → World → Prop} (hd : ops.toList.all (goodO n) = true) : ∀ (l : List Oper) {tm : Env} {s : AHeap} {K : Env → AHeap → Prop} {ρ : Ren} {a : Act} {w : World},
    (∀ o ∈ l, goodO n o = true) → AOps P ops l tm s K → EnvR ρ n tm a.tmps → a.defers = [] → Sim W0 ρ s w →
    (∀ ρ' tm' s' a' w', RLe ρ ρ' → EnvR ρ' n tm' a'.tmps → a'.defers = [] → Sim W0 ρ' s' w' → K tm' s' → Q .normal a' w') → wpList P ops Q l a w
  | [], tm, s, K, ρ, a, w, _, h, he, hdf, hS, hQ => hQ ρ tm s a w (RLe.refl _) he hdf hS h
  | o :: r, tm, s, K, ρ, a, w, hg, h, he, hdf, hS, hQ => by
    have hgo := hg o (by simp)
    simp only [goodO, Bool.and_eq_true] at hgo
    have hput : ∀ dst v, (a.put dst v).defers = [] := fun dst v => by cases dst <;> exact hdf
    have step : AOp P o tm s (fun v s' => AOps P ops r (put tm o.dst v) s' K) → o.wp P a w (wpList P ops Q r) Q := fun h =>
      AOp.sound h hgo.2 he hS fun ρ' v v' s' w' hle hv hS' hk =>
        AOps.sound hd r (fun o ho => hg o (by simp [ho])) hk ((he.mono hle).put hgo.1 hv) (hput _ _) hS' fun ρ'' tm' s'' a' w'' hle' => hQ ρ'' tm' s'' a' w'' (hle.trans hle')
    have skip : AOps P ops r (put tm o.dst undef) s K → wpList P ops Q r (a.put o.dst undef) w := fun h =>
      AOps.sound hd r (fun o ho => hg o (by simp [ho])) h (he.put hgo.1 (undef_VR ρ)) (hput _ _) hS hQ
    simp only [AOps] at h
    unfold wpList
    cases hgd : o.guard with
    | none =>
      rw [hgd] at h
      rw [if_pos (by simp [Region.wanted, hgd])]
      exact .inl (step h)
    | some jw =>
      obtain ⟨j, want⟩ := jw
      rw [hgd] at h
      simp only [] at h
      have hw : Region.wanted o (yielded ops a.tmps) = (yl ops tm j == some want) := by simp only [Region.wanted, hgd]; rw [yielded_eq he hd]
      rw [hw]
      by_cases hy : yl ops tm j = some want
      · rw [if_pos hy] at h
        rw [if_pos (by simp [hy])]
        exact .inl (step h)
      · rw [if_neg hy] at h
        rw [if_neg (by simpa using hy)]
        exact skip h

/-! ### code -/
inductive AExit where
  | normal
  | exit (id : Nat)
  | ret
def AExit.to : AExit → Exit
  | .normal => .normal
  | .exit id => .exit id
  | .ret => .ret

def APost (P : Program) (W0 : World) (n : Nat) (Q : AExit → Env → AHeap → Prop) (ρ : Ren) : Exit → Act → World → Prop := fun e a' w' =>
  ∃ x tm' s' ρ', e = AExit.to x ∧ Q x tm' s' ∧ RLe ρ ρ' ∧ EnvR ρ' n tm' a'.tmps ∧ a'.defers = [] ∧ Sim W0 ρ' s' w'

def AWp (P : Program) (n : Nat) (c : Code) (Q : AExit → Env → AHeap → Prop) (tm : Env) (s : AHeap) : Prop :=
  goodC n c = true → ∀ W0 ρ a w, EnvR ρ n tm a.tmps → a.defers = [] → Sim W0 ρ s w → c.wp P (APost P W0 n Q ρ) a w
end

section
variable {P : Program} {n : Nat} {Q : AExit → Env → AHeap → Prop} {tm : Env} {s : AHeap}

theorem AWp.mono {c : Code} {Q' : AExit → Env → AHeap → Prop} (h : AWp P n c Q tm s) (hq : ∀ x tm s, Q x tm s → Q' x tm s) : AWp P n c Q' tm s := fun hg W0 ρ a w he hd hS =>
  wp_mono (h hg W0 ρ a w he hd hS) fun e a' w' ⟨x, tm', s', ρ', e1, e2, e3⟩ => ⟨x, tm', s', ρ', e1, hq _ _ _ e2, e3⟩

theorem AWp.skip (h : Q .normal tm s) : AWp P n .skip Q tm s := fun _ W0 ρ a w he hd hS => wp_skip ⟨.normal, tm, s, ρ, rfl, h, RLe.refl _, he, hd, hS⟩
theorem AWp.exit {id : Nat} (h : Q (.exit id) tm s) : AWp P n (.exit id) Q tm s := fun _ W0 ρ a w he hd hS => wp_exit ⟨.exit id, tm, s, ρ, rfl, h, RLe.refl _, he, hd, hS⟩
theorem AWp.ret (h : Q .ret tm s) : AWp P n .ret Q tm s := fun _ W0 ρ a w he hd hS => wp_ret ⟨.ret, tm, s, ρ, rfl, h, RLe.refl _, he, hd, hS⟩

def thenQ (P : Program) (n : Nat) (y : Code) (Q : AExit → Env → AHeap → Prop) : AExit → Env → AHeap → Prop
  | .normal, tm, s => AWp P n y Q tm s
  | x, tm, s => Q x tm s
theorem AWp.seq {x y : Code} (h : AWp P n x (thenQ P n y Q) tm s) : AWp P n (.seq x y) Q tm s := fun hg W0 ρ a w he hd hS => by
  simp only [goodC, Bool.and_eq_true] at hg
  refine wp_seq (wp_mono (h hg.1 W0 ρ a w he hd hS) ?_)
  rintro e a' w' ⟨z, tm', s', ρ', rfl, hq, hle, he', hd', hS'⟩
  cases z with
  | normal =>
    refine wp_mono (hq hg.2 W0 ρ' a' w' he' hd' hS') ?_
    rintro e a'' w'' ⟨z, tm'', s'', ρ'', rfl, hq2, hle2, r⟩
    exact ⟨z, tm'', s'', ρ'', rfl, hq2, hle.trans hle2, r⟩
  | exit id => exact ⟨.exit id, tm', s', ρ', rfl, hq, hle, he', hd', hS'⟩
  | ret => exact ⟨.ret, tm', s', ρ', rfl, hq, hle, he', hd', hS'⟩

theorem AWp.cond {c : Operand} {x y : Code} {b : Bool} (hc : ev tm c = .bool b) (ht : b = true → AWp P n x Q tm s) (hf : b = false → AWp P n y Q tm s) : AWp P n (.cond c x y) Q tm s := fun hg W0 ρ a w he hd hS => by
  simp only [goodC, Bool.and_eq_true] at hg
  have hv := he.val hg.1.1
  rw [hc] at hv
  cases b with
  | true => exact wp_cond_true hv.bool (ht rfl hg.1.2 W0 ρ a w he hd hS)
  | false => exact wp_cond_false hv.bool (hf rfl hg.2 W0 ρ a w he hd hS)

def blockQ (id : Nat) (Q : AExit → Env → AHeap → Prop) : AExit → Env → AHeap → Prop
  | .exit id', tm, s => if id' = id then Q .normal tm s else Q (.exit id') tm s
  | x, tm, s => Q x tm s
theorem AWp.block {id : Nat} {c : Code} (h : AWp P n c (blockQ id Q) tm s) : AWp P n (.block id c) Q tm s := fun hg W0 ρ a w he hd hS => by
  refine wp_block (wp_mono (h hg W0 ρ a w he hd hS) ?_)
  rintro e a' w' ⟨z, tm', s', ρ', rfl, hq, hle, he', hd', hS'⟩
  cases z with
  | normal => exact ⟨.normal, tm', s', ρ', rfl, hq, hle, he', hd', hS'⟩
  | ret => exact ⟨.ret, tm', s', ρ', rfl, hq, hle, he', hd', hS'⟩
  | exit id' =>
    simp only [AExit.to, Exit.inBlock]
    simp only [blockQ] at hq
    split
    · rename_i hid; rw [if_pos hid] at hq; exact ⟨.normal, tm', s', ρ', rfl, hq, hle, he', hd', hS'⟩
    · rename_i hid; rw [if_neg hid] at hq; exact ⟨.exit id', tm', s', ρ', rfl, hq, hle, he', hd', hS'⟩

def roundQ (I : Nat → Env → AHeap → Prop) (k : Nat) (Q : AExit → Env → AHeap → Prop) : AExit → Env → AHeap → Prop
  | .normal, tm, s => ∃ m, m < k ∧ I m tm s
  | x, tm, s => Q x tm s
/-- A loop: 'I k': what holds at a round's head with at most k rounds to go. -/
theorem AWp.loop {c : Code} (I : Nat → Env → AHeap → Prop) (k : Nat) (h0 : I k tm s) (hr : ∀ k tm s, I k tm s → AWp P n c (roundQ I k Q) tm s) : AWp P n (.loop c) Q tm s := fun hg W0 ρ a w he hd hS => by
  have key : ∀ k tm s ρ1 a w, RLe ρ ρ1 → EnvR ρ1 n tm a.tmps → a.defers = [] → Sim W0 ρ1 s w → I k tm s → ∀ (b : Frame) (kk : List Item) (cs : List Frame),
      ∃ e a' w', APost P W0 n Q ρ e a' w' ∧ Arrives P (lone (b.at a (.code c :: .inLoop c :: kk)) cs w) b kk cs e a' w' := by
    intro k
    induction k using Nat.strongRecOn with
    | _ k ih =>
      intro tm s ρ1 a w hle he hd hS hI b kk cs
      have hround := hr k tm s hI hg W0 ρ1 a w he hd hS b (.inLoop c :: kk) cs
      obtain ⟨e, a1, w1, ⟨z, tm1, s1, ρ2, rfl, hq, hle1, he1, hd1, hS1⟩, harr⟩ := hround
      cases z with
      | normal =>
        obtain ⟨m, hm, hI'⟩ := hq
        obtain ⟨e2, a2, w2, hq2, harr2⟩ := ih m hm tm1 s1 ρ2 a1 w1 (hle.trans hle1) he1 hd1 hS1 hI' b kk cs
        exact ⟨e2, a2, w2, hq2, .of_steps (Steps.trans harr (.one step_inLoop)) harr2⟩
      | exit id => exact ⟨_, a1, w1, ⟨.exit id, tm1, s1, ρ2, rfl, hq, hle.trans hle1, he1, hd1, hS1⟩, .pass (x := .inLoop c) rfl (fun _ _ => .inl (by simp [AExit.to])) harr⟩
      | ret => exact ⟨_, a1, w1, ⟨.ret, tm1, s1, ρ2, rfl, hq, hle.trans hle1, he1, hd1, hS1⟩, .pass (x := .inLoop c) rfl (fun _ _ => .inl (by simp [AExit.to])) harr⟩
  intro b kk cs
  obtain ⟨e, a', w', hq, harr⟩ := key k tm s ρ a w (RLe.refl _) he hd hS h0 b kk cs
  exact ⟨e, a', w', hq, .of_steps (.one step_loop) harr⟩

theorem AWp.region {id : Nat} {l : List Oper} (h : AOps P l.toArray l tm s fun tm' s' => Q .normal tm' s') : AWp P n (.region id l.toArray false) Q tm s := fun hg W0 ρ a w he hd hS => by
  have hg' : l.toArray.toList.all (goodO n) = true := hg
  refine wp_region_lit (AOps.sound hg' l (fun o ho => List.all_eq_true.1 hg' o (by simpa using ho)) h he hd hS ?_)
  intro ρ' tm' s' a' w' hle he' hd' hS' hk
  exact ⟨.normal, tm', s', ρ', rfl, hk, hle, he', hd', hS'⟩

/-! ### entering and leaving a function -/
def ares (P : Program) (tm : Env) (s : AHeap) : List ResultVar → Option (List Value)
  | [] => some []
  | .tmp t :: r => (ares P tm s r).map (tm t :: ·)
  | .cell a t :: r => match aload P t s (tm a), ares P tm s r with
    | some v, some l => some (v :: l)
    | _, _ => none
def resV : List Value → Value
  | [v] => v
  | l => .tuple l.toArray

def nargs (args : List Value) : Env := fun t => args.getD t undef

/-- What a call leaves: the memory that is told, and nothing else of its own. -/
structure Keeps (s s1 s' : AHeap) (v : Value) : Prop where
  sub : ∀ id b, s' id = some b → s1 id = some b
  dom : ∀ id, (s id).isSome = true → (s' id).isSome = true
  cl : ∀ id b, s' id = some b → s id = some b ∨ b.nm fun i => (s' i).isSome = true
  val : nmR (fun i => (s' i).isSome = true) v

theorem nmB.imp {D E : Nat → Prop} (h : ∀ i, D i → E i) {x : Value} (hx : nmB D x) : nmB E x := by
  cases x <;> simp only [nmB] at * <;> first | exact nm1.imp h hx | exact fun x m => (hx x m).imp h

theorem VB.nm {ρ : Ren} {x y : Value} (h : VB ρ x y) : nmB (fun i => (ρ i).isSome = true) x := by
  cases h with
  | v h =>
    have := h.nm
    cases h with
    | a h => cases h <;> simpa [nmB] using this
    | fn => simpa [nmB] using this
  | agg h => exact All2.nm (ρ := ρ) (fun _ _ h => V1.nm h) h

theorem Rep.nmOf {b0 ρ w l b} (h : Rep b0 ρ w l b) : b.nm fun i => (ρ i).isSome = true := by
  cases b with
  | cells rw sz c =>
    intro x hx
    obtain ⟨i, hi, rfl⟩ := List.getElem_of_mem hx
    obtain ⟨v', _, hv⟩ := h.2.1 i _ (List.getElem?_eq_getElem hi)
    exact hv.nm
  | map es =>
    obtain ⟨_, ents, clk, _, h2⟩ := h
    intro x hx
    obtain ⟨i, hi, rfl⟩ := List.getElem_of_mem hx
    obtain ⟨m, _, hm⟩ := h2.get (List.getElem?_eq_getElem hi)
    exact ⟨hm.1.nm, hm.2.nm⟩
  | dead => trivial

theorem ABlk.nm_imp {D E : Nat → Prop} (h : ∀ i, D i → E i) {b : ABlk} (hb : b.nm D) : b.nm E := by
  cases b with
  | cells rw sz c => exact fun x hx => (hb x hx).imp h
  | map es => exact fun x hx => ⟨(hb x hx).1.imp h, (hb x hx).2.imp h⟩
  | dead => trivial

theorem All2.with_left {α β : Type} {R : α → β → Prop} {p : α → Prop} : ∀ {l : List α} {l' : List β}, All2 R l l' → (∀ x ∈ l, p x) → All2 (fun a b => R a b ∧ p a) l l'
  | _, _, .nil, _ => .nil
  | _, _, .cons h r, hp => .cons ⟨h, hp _ (List.mem_cons_self ..)⟩ (r.with_left fun x hx => hp x (List.mem_cons_of_mem _ hx))

theorem Rep.cut {b0 ρ w l b} {D : Nat → Prop} (h : Rep b0 ρ w l b) (hb : b.nm D) : Rep b0 (cutR ρ D) w l b := by
  cases b with
  | cells rw sz c =>
    refine ⟨h.1, fun i v hv => ?_, h.2.2⟩
    obtain ⟨v', e, r⟩ := h.2.1 i v hv
    exact ⟨v', e, r.cut (hb v (List.mem_of_getElem? hv))⟩
  | map es =>
    obtain ⟨h1, ents, clk, h2, h3⟩ := h
    exact ⟨h1, ents, clk, h2, (h3.with_left (p := fun x => nmB D x.1 ∧ nmB D x.2) fun x hx => hb x hx).mono fun _ _ x => ⟨x.1.1.cut x.2.1, x.1.2.cut x.2.2⟩⟩
  | dead => trivial

/-! ### other names at the end -/
def mpA (π : Nat → Nat) : Value → Value
  | .pointer (some a) => .pointer (some { a with block := π a.block })
  | .slice (some a) n c => .slice (some { a with block := π a.block }) n c
  | .map (some r) => .map (some (π r))
  | v => v
def mp1 (π : Nat → Nat) : Value → Value
  | .func f fs cs => .func f (fs.map (mpA π)) (cs.map (mpA π))
  | v => mpA π v
def mpB (π : Nat → Nat) : Value → Value
  | .agg cs => .agg (cs.map (mp1 π))
  | v => mp1 π v
def mpR (π : Nat → Nat) : Value → Value
  | .tuple cs => .tuple (cs.map (mpB π))
  | v => mpB π v
def ABlk.mp (π : Nat → Nat) : ABlk → ABlk
  | .cells rw sz c => .cells rw sz (c.map (mp1 π))
  | .map es => .map (es.map fun e => (mpB π e.1, mpB π e.2))
  | .dead => .dead
theorem mpA_id : mpA (fun i => i) = fun x => x := by
  funext x; unfold mpA; split <;> rfl
theorem mp1_id : mp1 (fun i => i) = fun x => x := by
  funext x; unfold mp1; split
  · rw [mpA_id, Array.map_id', Array.map_id']
  · rw [mpA_id]
theorem mpB_id : mpB (fun i => i) = fun x => x := by
  funext x; unfold mpB; split
  · rw [mp1_id, Array.map_id']
  · rw [mp1_id]
theorem mpR_id (x : Value) : mpR (fun i => i) x = x := by
  unfold mpR; split
  · rw [mpB_id, Array.map_id']
  · rw [mpB_id]
theorem ABlk.mp_id (b : ABlk) : b.mp (fun i => i) = b := by
  cases b with
  | cells rw sz c => simp only [ABlk.mp, mp1_id, List.map_id']
  | map es => simp only [ABlk.mp, mpB_id]; rw [show (fun e : Value × Value => (e.1, e.2)) = fun e => e from rfl, List.map_id']
  | dead => rfl
theorem ABlk.mp_own (π : Nat → Nat) (b : ABlk) : (b.mp π).own = b.own := by cases b <;> rfl
theorem ABlk.mp_live (π : Nat → Nat) (b : ABlk) : (b.mp π).live = b.live := by
  cases b with
  | cells rw sz c => cases c <;> rfl
  | map es => rfl
  | dead => rfl
theorem All2.unmap {α β γ : Type} {R : β → γ → Prop} {f : α → β} : ∀ {l : List α} {l' : List γ}, All2 R (l.map f) l' → All2 (fun x y => R (f x) y) l l'
  | [], _, h => by cases h; exact .nil
  | a :: l, _, h => by cases h with | cons x r => exact .cons x r.unmap
theorem V1.notF {ρ : Ren} {x y : Value} (h : V1 ρ x y) (hx : ∀ f fs cs, x ≠ .func f fs cs) : VA ρ x y := by
  cases h with
  | a h => exact h
  | fn => exact absurd rfl (hx _ _ _)
theorem VB.notG {ρ : Ren} {x y : Value} (h : VB ρ x y) (hx : ∀ cs, x ≠ .agg cs) : V1 ρ x y := by
  cases h with
  | v h => exact h
  | agg => exact absurd rfl (hx _)
theorem VR.notT {ρ : Ren} {x y : Value} (h : VR ρ x y) (hx : ∀ cs, x ≠ .tuple cs) : VB ρ x y := by
  cases h with
  | v h => exact h
  | tup => exact absurd rfl (hx _)
theorem mpA_kind (π : Nat → Nat) (x : Value) : mpA π x = x ∨ ((∀ f fs cs, mpA π x ≠ .func f fs cs) ∧ (∀ cs, mpA π x ≠ .agg cs) ∧ (∀ cs, mpA π x ≠ .tuple cs)) := by
  unfold mpA; split <;> first | exact .inl rfl | (refine .inr ⟨?_, ?_, ?_⟩ <;> intros <;> simp)
section unmp
variable {ρ : Ren} {π : Nat → Nat} {x y : Value}
theorem VA.unmp (h : VA ρ (mpA π x) y) : VA (fun i => ρ (π i)) x y := by
  cases x with
  | pointer a =>
    cases a with
    | none => cases h; exact .nilp
    | some a => obtain ⟨B, o, sp⟩ := a; cases h with | ptr h => exact .ptr h
  | slice a n c =>
    cases a with
    | none => cases h; exact .nils
    | some a => obtain ⟨B, o, sp⟩ := a; cases h with | sl h a b c d e => exact .sl h a b c d e
  | map r =>
    cases r with
    | none => cases h; exact .nilm
    | some r => cases h with | map h => exact .map h
  | _ => cases h <;> constructor
theorem V1.unmp (h : V1 ρ (mp1 π x) y) : V1 (fun i => ρ (π i)) x y := by
  cases x with
  | func f fs cs =>
    cases h with
    | a h => cases h
    | fn h1 h2 =>
      rw [Array.toList_map] at h1 h2
      exact .fn (h1.unmap.mono fun _ _ h => h.unmp) (h2.unmap.mono fun _ _ h => h.unmp)
  | _ =>
    refine .a (VA.unmp (V1.notF h ?_))
    intro f fs cs e
    rcases mpA_kind π _ with k | k
    · rw [k] at e; cases e
    · exact k.1 _ _ _ e
theorem VB.unmp (h : VB ρ (mpB π x) y) : VB (fun i => ρ (π i)) x y := by
  cases x with
  | agg cs =>
    cases h with
    | v h => cases h with | a h => cases h
    | agg h => rw [Array.toList_map] at h; exact .agg (h.unmap.mono fun _ _ h => h.unmp)
  | func f fs cs => exact .v (V1.unmp (VB.notG h (by intro cs e; simp only [mpB, mp1] at e; cases e)))
  | _ =>
    refine .v (V1.unmp (VB.notG h ?_))
    intro cs e
    simp only [mpB, mp1] at e
    rcases mpA_kind π _ with k | k
    · rw [k] at e; cases e
    · exact k.2.1 _ e
theorem VR.unmp (h : VR ρ (mpR π x) y) : VR (fun i => ρ (π i)) x y := by
  cases x with
  | tuple cs =>
    cases h with
    | v h => cases h with | v h => cases h with | a h => cases h
    | tup h => rw [Array.toList_map] at h; exact .tup (h.unmap.mono fun _ _ h => h.unmp)
  | func f fs cs => exact .v (VB.unmp (VR.notT h (by intro cs e; simp only [mpR, mpB, mp1] at e; cases e)))
  | agg cs => exact .v (VB.unmp (VR.notT h (by intro cs e; simp only [mpR, mpB] at e; cases e)))
  | _ =>
    refine .v (VB.unmp (VR.notT h ?_))
    intro cs e
    simp only [mpR, mpB, mp1] at e
    rcases mpA_kind π _ with k | k
    · rw [k] at e; cases e
    · exact k.2.2 _ e
end unmp

theorem Rep.unmp {b0 ρ w l b} {π : Nat → Nat} (h : Rep b0 ρ w l (ABlk.mp π b)) : Rep b0 (fun i => ρ (π i)) w l b := by
  cases b with
  | cells rw sz c =>
    refine ⟨h.1, fun i v hv => ?_, fun hr => ?_⟩
    · obtain ⟨v', e, r⟩ := h.2.1 i (mp1 π v) (by rw [List.getElem?_map, hv]; rfl)
      exact ⟨v', e, r.unmp⟩
    · have := h.2.2 hr; rw [List.length_map] at this; exact this
  | map es =>
    obtain ⟨h1, ents, clk, h2, h3⟩ := h
    exact ⟨h1, ents, clk, h2, h3.unmap.mono fun _ _ x => ⟨x.1.unmp, x.2.unmp⟩⟩
  | dead => trivial

/-- What is kept, with other names for the new blocks. -/
structure KeepsR (π : Nat → Nat) (s s1 s' : AHeap) (v : Value) : Prop where
  old : ∀ id, (s id).isSome = true → (s' id).isSome = true ∧ π id = id
  inj : ∀ x y, (s' x).isSome = true → (s' y).isSome = true → π x = π y → x = y
  sub : ∀ id b, s' id = some b → (s id = some b ∧ s1 id = some b) ∨ (s1 (π id) = some (b.mp π) ∧ b.nm fun i => (s' i).isSome = true)
  fin : (∃ N, ∀ id, N ≤ id → s id = none) → (∃ N, ∀ id, N ≤ id → s1 id = none) → ∃ N, ∀ id, N ≤ id → s' id = none
  val : nmR (fun i => (s' i).isSome = true) v

theorem Keeps.ren {s s1 s' : AHeap} {v : Value} (h : Keeps s s1 s' v) : KeepsR (fun i => i) s s1 s' v := by
  refine ⟨fun id hi => ⟨h.dom id hi, rfl⟩, fun _ _ _ _ e => e, fun id b hb => ?_, fun _ hf => ?_, h.val⟩
  · rcases h.cl id b hb with h0 | h0
    · exact .inl ⟨h0, h.sub id b hb⟩
    · exact .inr ⟨by rw [ABlk.mp_id]; exact h.sub id b hb, h0⟩
  · obtain ⟨N, hN⟩ := hf
    refine ⟨N, fun id hid => ?_⟩
    cases hs : s' id with
    | none => rfl
    | some b => have := h.sub id b hs; rw [hN id hid] at this; cases this

theorem Sim.leave {W0 w w1 : World} {ρ ρ1 : Ren} {s s1 s' : AHeap} {v v' : Value} {π : Nat → Nat} (hS : Sim W0 ρ s w) (hS1 : Sim W0 ρ1 s1 w1) (hle : RLe ρ ρ1) (hk : KeepsR π s s1 s' v) (hv : VR ρ1 (mpR π v) v') :
    RLe ρ (cutR (fun i => ρ1 (π i)) fun i => (s' i).isSome = true) ∧ VR (cutR (fun i => ρ1 (π i)) fun i => (s' i).isSome = true) v v' ∧ Sim W0 (cutR (fun i => ρ1 (π i)) fun i => (s' i).isSome = true) s' w1 := by
  have hdom : ∀ id l, ρ id = some l → (s id).isSome = true := hS.dom
  refine ⟨fun id l h => cutR_in ?_ (hk.old id (hdom id l h)).1, hv.unmp.cut hk.val, hS1.below, ?_, ?_, ?_, hk.fin hS.fin hS1.fin⟩
  · show ρ1 (π id) = some l
    rw [(hk.old id (hdom id l h)).2]; exact hle id l h
  · intro id b hb
    have hi : (s' id).isSome = true := by rw [hb]; rfl
    rcases hk.sub id b hb with ⟨h0, h1⟩ | ⟨h1, h2⟩
    · obtain ⟨l, hl, hr⟩ := hS1.rep id b h1
      obtain ⟨l0, hl0, hr0⟩ := hS.rep id b h0
      have hs : (s id).isSome = true := by rw [h0]; rfl
      refine ⟨l, cutR_in (by show ρ1 (π id) = some l; rw [(hk.old id hs).2]; exact hl) hi, ?_⟩
      have hr1 := Rep.cut (D := fun i => (s i).isSome = true) hr (ABlk.nm_imp (fun i hi => by
        obtain ⟨l, hl⟩ := Option.isSome_iff_exists.1 hi
        exact hdom i l hl) hr0.nmOf)
      refine hr1.mono fun i li hli => ?_
      unfold cutR at hli
      split at hli
      · rename_i hd
        refine cutR_in ?_ (hk.old i hd).1
        show ρ1 (π i) = some li
        rw [(hk.old i hd).2]; exact hli
      · cases hli
    · obtain ⟨l, hl, hr⟩ := hS1.rep _ _ h1
      exact ⟨l, cutR_in hl hi, hr.unmp.cut h2⟩
  · intro id l hl
    unfold cutR at hl
    split at hl
    · assumption
    · cases hl
  · intro x y bx bY lx ly hne hx hy ho hlv hlx hly
    have hx1 : (s' x).isSome = true := by rw [hx]; rfl
    have hy1 : (s' y).isSome = true := by rw [hy]; rfl
    have at1 : ∀ id b, s' id = some b → ∃ b', s1 (π id) = some b' ∧ b'.own = b.own ∧ b'.live = b.live := fun id b hb => by
      rcases hk.sub id b hb with ⟨h0, h1⟩ | ⟨h1, h2⟩
      · exact ⟨b, by rw [(hk.old id (by rw [h0]; rfl)).2]; exact h1, rfl, rfl⟩
      · exact ⟨_, h1, ABlk.mp_own _ _, ABlk.mp_live _ _⟩
    obtain ⟨bx', e1, e2, _⟩ := at1 x bx hx
    obtain ⟨by', f1, _, f3⟩ := at1 y bY hy
    exact hS1.apart (π x) (π y) bx' by' lx ly (fun e => hne (hk.inj x y hx1 hy1 e)) e1 f1 (by rw [e2]; exact ho) (by rw [f3]; exact hlv) (cutR_le (fun i => ρ1 (π i)) _ x lx hlx) (cutR_le (fun i => ρ1 (π i)) _ y ly hly)

theorem ares_run {P : Program} {W0 w : World} {ρ : Ren} {s : AHeap} {n : Nat} {tm : Env} {a : Act} (he : EnvR ρ n tm a.tmps) (hS : Sim W0 ρ s w) : ∀ (rs : List ResultVar) {l : List Value}, ares P tm s rs = some l →
    ∃ l', ((rs.mapM (m := Sem) fun | .tmp t => pure (a.tmps.getD t undef) | .cell x t => do loadVar t (← asAddr (a.tmps.getD x undef))).run P w = .ok l' w) ∧ All2 (VR ρ) l l'
  | [], l, h => by obtain rfl := Option.some.inj h; exact ⟨[], by simp, .nil⟩
  | .tmp t :: r, l, h => by
    simp only [ares] at h
    cases hr : ares P tm s r with
    | none => rw [hr] at h; cases h
    | some l0 =>
    rw [hr] at h
    obtain rfl := Option.some.inj h
    obtain ⟨l', e1, e2⟩ := ares_run he hS r hr
    refine ⟨a.tmps.getD t undef :: l', ?_, .cons (he.val (x := .tmp t) rfl) e2⟩
    simp only [List.mapM_cons, Sem.run_bind, Sem.run_pure, Result.andThen_ok, e1]
  | .cell x t :: r, l, h => by
    simp only [ares] at h
    split at h
    case h_2 => cases h
    rename_i v l0 hv hr
    obtain rfl := Option.some.inj h
    obtain ⟨l', e1, e2⟩ := ares_run he hS r hr
    have hx := he.val (x := .tmp x) rfl
    obtain ⟨v', e3, e4⟩ := load_sound (P := P) hS hx hv
    refine ⟨v' :: l', ?_, .cons (.v e4) e2⟩
    have e5 : ((do loadVar t (← asAddr (a.tmps.getD x undef)) : Sem Value)).run P w = .ok v' w := by
      have e6 : a.eval (.tmp x) = a.tmps.getD x undef := rfl
      rw [e6] at e3 hx
      have : ∃ ad, a.tmps.getD x undef = .pointer (some ad) := by
        unfold aload at hv
        split at hv
        case h_2 => cases hv
        rename_i ad _ heq
        have hx' : VR ρ (tm x) (a.tmps.getD x undef) := hx
        rw [heq] at hx'
        obtain ⟨l, _, _, hh⟩ := hx'.ptr
        exact ⟨_, hh⟩
      obtain ⟨ad, had⟩ := this
      rw [had] at e3 ⊢
      simpa [Instr.loadAt, Instr.sureAddr, asAddr] using e3
    rw [List.mapM_cons]
    simp only [Sem.run_bind, e5, Result.andThen_ok, e1, Sem.run_pure]

def goodRes (l : List Value) : Bool := l.length == 1 || l.all notTup
theorem resV_rel {ρ : Ren} {l l' : List Value} (h : All2 (VR ρ) l l') (hg : goodRes l = true) : VR ρ (resV l) (resV l') := by
  cases h with
  | nil => exact .tup .nil
  | cons a r =>
    cases r with
    | nil => exact a
    | cons b r =>
      have hall : ∀ x ∈ _ :: _ :: _, notTup x = true := List.all_eq_true.1 (by simpa [goodRes] using hg)
      refine .tup ?_
      have : All2 (VR ρ) _ _ := All2.cons a (.cons b r)
      exact (this.with_left hall).mono fun x y h => h.1.toB fun cs e => by subst e; cases h.2

theorem results_run {P : Program} {w : World} (fn : Func) (tmps : Array Value) {l' : List Value}
    (h : (fn.results.toList.mapM (m := Sem) fun | .tmp t => pure (tmps.getD t undef) | .cell x t => do loadVar t (← asAddr (tmps.getD x undef))).run P w = .ok l' w) : (results fn tmps).run P w = .ok (resV l') w := by
  unfold results
  rw [Sem.run_bind, Array.mapM_eq_mapM_toList]
  simp only [Sem.run_map]
  erw [h]
  simp only [Result.andThen_ok, Sem.run_pure]
  congr 1
  match l' with
  | [] => rfl
  | [v] => rfl
  | a :: b :: r => simp [resV]

theorem ACall.intro {P : Program} {f : FuncId} {fn : Func} {c : Code} {args : List Value} {s s' : AHeap} {v : Value} (hf : P.funcs[f]? = some fn) (hb : fn.body = some c) (hg : goodC fn.ntmps c = true) (hnm : (fn.name == "runtime.NumGoroutine") = false)
    (hlen : args.length ≤ fn.ntmps)
    (h : ∀ N, (∀ id, N ≤ id → s id = none) → AWp P fn.ntmps c (fun x tm s1 => (∀ id, x ≠ .exit id) ∧ ∃ l π, ares P tm s1 fn.results.toList = some l ∧ goodRes l = true ∧ resV l = mpR π v ∧ KeepsR π s s1 s' v) (nargs args) s) :
    ACall P f args s v s' := by
  refine ⟨⟨fn, hf, by rw [hb]; rfl, hnm⟩, fun W0 ρ w args' ha hS => ?_⟩
  obtain ⟨N, hN⟩ := hS.fin
  have hl := ha.length
  have he : EnvR ρ fn.ntmps (nargs args) (args'.toArray ++ Array.replicate (fn.ntmps - args'.toArray.size) undef) := by
    refine ⟨by simp; omega, fun t ht => ?_, fun t ht => ?_⟩
    · by_cases hta : t < args.length
      · obtain ⟨v', e1, e2⟩ := ha.get (List.getElem?_eq_getElem hta)
        refine ⟨v', ?_, ?_⟩
        · rw [Array.getElem?_append_left (by simp; omega)]; simpa using e1
        · simpa [nargs, List.getD, hta] using e2
      · refine ⟨undef, ?_, ?_⟩
        · rw [Array.getElem?_append_right (by simp; omega)]; simp only [List.size_toArray]; rw [Array.getElem?_replicate, if_pos (by omega)]
        · have : nargs args t = undef := by simp [nargs, List.getD, List.getElem?_eq_none (show args.length ≤ t by omega)]
          rw [this]; exact undef_VR ρ
    · simp [nargs, List.getD, List.getElem?_eq_none (show args.length ≤ t by omega)]
  refine calls_of_wp hf hb (wp_mono (h N hN hg W0 ρ { tmps := _, defers := [] } w he rfl hS) ?_)
  rintro e a' w' ⟨x, tm', s1, ρ1, rfl, ⟨hx, l, π, hl1, hl2, hrv, hk⟩, hle, he', hd', hS1⟩
  obtain ⟨l', e1, e2⟩ := ares_run (P := P) he' hS1 _ hl1
  have hr := results_run fn a'.tmps e1
  have hv := resV_rel e2 hl2
  rw [hrv] at hv
  obtain ⟨f1, f2, f3⟩ := hS.leave hS1 hle hk hv
  cases x with
  | normal => exact ⟨hd', _, hr, _, _, rfl, f2, f1, f3⟩
  | ret => exact ⟨hd', _, hr, _, _, rfl, f2, f1, f3⟩
  | exit id => exact absurd rfl (hx id)
theorem ACallE.intro {P : Program} {f : FuncId} {fn : Func} {c : Code} {args : List Value} {s : AHeap} {Q : Value → AHeap → Prop} (hf : P.funcs[f]? = some fn) (hb : fn.body = some c) (hg : goodC fn.ntmps c = true) (hnm : (fn.name == "runtime.NumGoroutine") = false)
    (hlen : args.length ≤ fn.ntmps)
    (h : ∀ N, (∀ id, N ≤ id → s id = none) → AWp P fn.ntmps c (fun x tm s1 => (∀ id, x ≠ .exit id) ∧ ∃ l s', ares P tm s1 fn.results.toList = some l ∧ goodRes l = true ∧ Q (resV l) s' ∧ Keeps s s1 s' (resV l)) (nargs args) s) :
    ACallE P f args s Q := by
  refine ⟨⟨fn, hf, by rw [hb]; rfl, hnm⟩, fun W0 ρ w args' ha hS => ?_⟩
  obtain ⟨N, hN⟩ := hS.fin
  have hl := ha.length
  have he : EnvR ρ fn.ntmps (nargs args) (args'.toArray ++ Array.replicate (fn.ntmps - args'.toArray.size) undef) := by
    refine ⟨by simp; omega, fun t ht => ?_, fun t ht => ?_⟩
    · by_cases hta : t < args.length
      · obtain ⟨v', e1, e2⟩ := ha.get (List.getElem?_eq_getElem hta)
        refine ⟨v', ?_, ?_⟩
        · rw [Array.getElem?_append_left (by simp; omega)]; simpa using e1
        · simpa [nargs, List.getD, hta] using e2
      · refine ⟨undef, ?_, ?_⟩
        · rw [Array.getElem?_append_right (by simp; omega)]; simp only [List.size_toArray]; rw [Array.getElem?_replicate, if_pos (by omega)]
        · have : nargs args t = undef := by simp [nargs, List.getD, List.getElem?_eq_none (show args.length ≤ t by omega)]
          rw [this]; exact undef_VR ρ
    · simp [nargs, List.getD, List.getElem?_eq_none (show args.length ≤ t by omega)]
  refine calls_of_wp hf hb (wp_mono (h N hN hg W0 ρ { tmps := _, defers := [] } w he rfl hS) ?_)
  rintro e a' w' ⟨x, tm', s1, ρ1, rfl, ⟨hx, l, s', hl1, hl2, hq, hk⟩, hle, he', hd', hS1⟩
  obtain ⟨l', e1, e2⟩ := ares_run (P := P) he' hS1 _ hl1
  have hr := results_run fn a'.tmps e1
  have hv := resV_rel e2 hl2
  obtain ⟨f1, f2, f3⟩ := hS.leave hS1 hle hk.ren (by rw [mpR_id]; exact hv)
  cases x with
  | normal => exact ⟨hd', _, hr, _, s', _, _, hq, rfl, f2, f1, f3⟩
  | ret => exact ⟨hd', _, hr, _, s', _, _, hq, rfl, f2, f1, f3⟩
  | exit id => exact absurd rfl (hx id)
end
end Go.Proofs.Ytdbnpghckgmaoaa.Ab

/- Regions that draw their order. -/
namespace Go.Proofs.Ytdbnpghckgmaoaa.Ab
set_option linter.unusedVariables false
set_option linter.unusedSimpArgs false
set_option linter.unusedSectionVars false
open Go.RowKit

/-! ### the static side -/
def cC (C : List (List Nat)) (i : Nat) : List Nat := C.getD i []
def opNames (ops : Array Oper) (o : Oper) : List Nat :=
  o.dst.toList ++ (o.op.operands.toList.filterMap fun | .tmp t => some t | _ => none) ++
  (match o.guard with | some (g, _) => ((ops[g]?).bind (·.dst)).toList | none => [])
def drawOk (ops : Array Oper) (C : List (List Nat)) : Bool :=
  ops.toList.zipIdx.all fun (o, i) =>
    (o.after.toList.all fun e => !Region.binds .any e || decide (e.on < i)) &&
    ((cC C i).all fun k => decide (k < i) && o.after.toList.any fun e => Region.binds .any e && (e.on == k || (cC C e.on).contains k)) &&
    ((opNames ops o).all fun t => ops.toList.zipIdx.all fun (p, k) => p.dst != some t || k == i || (decide (k < i) && (cC C i).contains k) || (decide (i < k) && (cC C k).contains i))

def unordB (C : List (List Nat)) (i j : Nat) : Bool := i != j && !(cC C i).contains j && !(cC C j).contains i
/-- The names that other operations, of no order to the i-th, write. -/
def others (C : List (List Nat)) (W : List (Nat × List Nat)) (i : Nat) : List Nat := W.flatMap fun p => if unordB C i p.1 then p.2 else []
def own (W : List (Nat × List Nat)) (i : Nat) : List Nat := W.flatMap fun p => if p.1 = i then p.2 else []

def updH (s : AHeap) : List (Nat × ABlk) → AHeap
  | [] => s
  | (i, b) :: r => updH (s.set i b) r
def AgreeOff (U : List Nat) (t s : AHeap) : Prop := ∀ id, id ∉ U → t id = s id

theorem updH_out {d : List (Nat × ABlk)} : ∀ {s : AHeap} {id : Nat}, id ∉ d.map (·.1) → updH s d id = s id := by
  induction d with
  | nil => intro s id _; rfl
  | cons x d ih => intro s id h; simp only [List.map_cons, List.mem_cons, not_or] at h; rw [updH, ih h.2, AHeap.set_other _ _ h.1]
theorem updH_in {d : List (Nat × ABlk)} : ∀ {s t : AHeap} {id : Nat}, id ∈ d.map (·.1) → updH s d id = updH t d id := by
  induction d with
  | nil => intro s t id h; cases h
  | cons x d ih =>
    intro s t id h
    rw [updH, updH]
    by_cases hd : id ∈ d.map (·.1)
    · exact ih hd
    · rw [updH_out hd, updH_out hd]
      simp only [List.map_cons, List.mem_cons] at h
      obtain rfl := h.resolve_right hd
      rw [AHeap.set_same, AHeap.set_same]

def AOpsD (P : Program) (ops : Array Oper) (C : List (List Nat)) (W : List (Nat × List Nat)) : Nat → List Oper → Env → AHeap → (Env → AHeap → Prop) → Prop
  | _, [], tm, s, K => K tm s
  | i, o :: r, tm, s, K =>
    (match o.guard with | none => True | some (j, want) => yl ops tm j = some want) ∧ (∃ v d, (∀ id ∈ d.map (·.1), id ∈ own W i) ∧
      (∀ t, AgreeOff (others C W i) t s → AOp P o tm t fun v' t' => v' = v ∧ t' = updH t d) ∧ AOpsD P ops C W (i + 1) r (put tm o.dst v) (updH s d) K)
    ∨ (match o.guard with | none => False | some (j, want) => yl ops tm j ≠ some want) ∧ AOpsD P ops C W (i + 1) r (put tm o.dst undef) s K

section
variable {P : Program} {ops : Array Oper} {C : List (List Nat)} {W : List (Nat × List Nat)} {tm : Env} {s : AHeap} {K : Env → AHeap → Prop} {i : Nat} {o : Oper} {r : List Oper}

theorem AOpsD.nil (h : K tm s) : AOpsD P ops C W i [] tm s K := h
/-- An operation that writes nothing that was there. -/
theorem AOpsD.quiet (v : Value) (hg : (match o.guard with | none => True | some (j, want) => yl ops tm j = some want)) (h : ∀ t, AgreeOff (others C W i) t s → AOp P o tm t fun v' t' => v' = v ∧ t' = t)
    (hr : AOpsD P ops C W (i + 1) r (put tm o.dst v) s K) : AOpsD P ops C W i (o :: r) tm s K := .inl ⟨hg, v, [], by simp, h, hr⟩
theorem AOpsD.write (v : Value) (d : List (Nat × ABlk)) (hg : (match o.guard with | none => True | some (j, want) => yl ops tm j = some want)) (hd : ∀ id ∈ d.map (·.1), id ∈ own W i)
    (h : ∀ t, AgreeOff (others C W i) t s → AOp P o tm t fun v' t' => v' = v ∧ t' = updH t d)
    (hr : AOpsD P ops C W (i + 1) r (put tm o.dst v) (updH s d) K) : AOpsD P ops C W i (o :: r) tm s K := .inl ⟨hg, v, d, hd, h, hr⟩
theorem AOpsD.pass (hg : (match o.guard with | none => False | some (j, want) => yl ops tm j ≠ some want)) (hr : AOpsD P ops C W (i + 1) r (put tm o.dst undef) s K) : AOpsD P ops C W i (o :: r) tm s K := .inr ⟨hg, hr⟩
end

theorem AOp.congr {P : Program} {o : Oper} {tm tm' : Env} {s : AHeap} {K : Value → AHeap → Prop} (h : ∀ x ∈ o.op.operands, ev tm x = ev tm' x) (hh : AOp P o tm s K) : AOp P o tm' s K := by
  obtain ⟨dst, op, type, pos, after, guard⟩ := o
  have pairs : ∀ ps : List (Nat × Operand), (∀ x ∈ ps.map (·.2), ev tm x = ev tm' x) → (ps.map fun p => (p.1, ev tm p.2)) = ps.map fun p => (p.1, ev tm' p.2) := fun ps hp =>
    List.map_congr_left fun p hm => by rw [hp p.2 (List.mem_map.2 ⟨p, hm, rfl⟩)]
  have lists : ∀ ps : List Operand, (∀ x ∈ ps, ev tm x = ev tm' x) → ps.map (ev tm) = ps.map (ev tm') := fun ps hp => List.map_congr_left hp
  have arrs : ∀ ps : Array Operand, (∀ x ∈ ps, ev tm x = ev tm' x) → ps.map (ev tm) = ps.map (ev tm') := fun ps hp => Array.map_congr_left hp
  have ats : ∀ ps : List Operand, (∀ x ∈ ps, ev tm x = ev tm' x) → ps.all (fun x => isAt (ev tm x)) = ps.all (fun x => isAt (ev tm' x)) := fun ps hp => by
    induction ps with
    | nil => rfl
    | cons a l ih => rw [List.all_cons, List.all_cons, hp a (by simp), ih fun x hx => hp x (by simp [hx])]
  cases op <;> simp only [Op.operands] at h <;> simp only [AOp] at hh ⊢
  case build t ps => rw [← pairs _ (fun x hx => h x (by simpa using hx))]; exact hh
  case buildSlice t n ps => rw [← pairs _ (fun x hx => h x (by simpa using hx))]; exact hh
  case makeFunc fn first captured =>
    cases fn <;> simp only [] at hh ⊢
    case func f =>
      rw [← ats first.toList (fun x hx => h x (by simp at hx; simp [hx])), ← ats captured.toList (fun x hx => h x (by simp at hx; simp [hx])), ← arrs first (fun x hx => h x (by simp [hx])), ← arrs captured (fun x hx => h x (by simp [hx]))]
      exact hh
    all_goals exact hh
  case makeMap t r => cases r <;> exact hh
  case slice t x lo hi mx =>
    have h1 : ev tm x = ev tm' x := h x (by cases lo <;> cases hi <;> cases mx <;> simp)
    have h2 : lo.map (ev tm) = lo.map (ev tm') := by cases lo with | none => rfl | some y => exact congrArg some (h y (by cases hi <;> cases mx <;> simp))
    have h3 : hi.map (ev tm) = hi.map (ev tm') := by cases hi with | none => rfl | some y => exact congrArg some (h y (by cases lo <;> cases mx <;> simp))
    have h4 : mx.map (ev tm) = mx.map (ev tm') := by cases mx with | none => rfl | some y => exact congrArg some (h y (by cases lo <;> cases hi <;> simp))
    rw [← h1, ← h2, ← h3, ← h4]; exact hh
  case call c =>
    obtain ⟨callee, args, tys⟩ := c
    cases callee with
    | builtin b =>
      simp only [Call.operands] at h
      rw [← lists args.toList (fun x hx => h x (by simp at hx; simp [hx]))]
      exact hh
    | value f =>
      simp only [Call.operands] at h
      simp only [] at hh ⊢
      rw [← lists args.toList (fun x hx => h x (by simp at hx; simp [hx])), ← h f (by simp)]
      exact hh
    | invoke r m => exact hh
  all_goals first
    | exact hh
    | (simp only [List.mem_toArray, List.mem_cons, List.not_mem_nil, or_false, forall_eq_or_imp, forall_eq] at h
       first
       | (rw [← h]; exact hh)
       | (rw [← h.1, ← h.2]; exact hh)
       | (rw [← h.1, ← h.2.1, ← h.2.2]; exact hh)
       | (simpa [h] using hh))

/-! ### folds over the operations that are done -/
section
variable (ops : Array Oper) (L : Nat → Bool) (V : Nat → Value) (Dl : Nat → List (Nat × ABlk)) (tm0 : Env) (s0 : AHeap)
def dstAt (i : Nat) : Option Tmp := (ops[i]?).bind (·.dst)
def fT : Nat → Env
  | 0 => tm0
  | k + 1 => if L k = true then put (fT k) (dstAt ops k) (V k) else fT k
def fS : Nat → AHeap
  | 0 => s0
  | k + 1 => if L k = true then updH (fS k) (Dl k) else fS k
end

section
variable {ops : Array Oper} {L L' : Nat → Bool} {V V' : Nat → Value} {Dl Dl' : Nat → List (Nat × ABlk)} {tm0 : Env} {s0 : AHeap}
theorem fT_congr : ∀ {k : Nat}, (∀ j, j < k → L j = L' j ∧ V j = V' j) → fT ops L V tm0 k = fT ops L' V' tm0 k
  | 0, _ => rfl
  | k + 1, h => by simp only [fT]; rw [fT_congr fun j hj => h j (by omega), (h k (by omega)).1, (h k (by omega)).2]
theorem fS_congr : ∀ {k : Nat}, (∀ j, j < k → L j = L' j ∧ Dl j = Dl' j) → fS L Dl s0 k = fS L' Dl' s0 k
  | 0, _ => rfl
  | k + 1, h => by simp only [fS]; rw [fS_congr fun j hj => h j (by omega), (h k (by omega)).1, (h k (by omega)).2]
theorem put_other {tm : Env} {d : Option Tmp} {v : Value} {t : Nat} (h : d ≠ some t) : put tm d v t = tm t := by
  cases d with
  | none => rfl
  | some d => have : t ≠ d := fun e => h (by rw [e]); simp [put, this]
theorem put_same {tm : Env} {v : Value} {t : Nat} : put tm (some t) v t = v := by simp [put]

theorem fT_slot {m i t : Nat} (hi : i ≤ m) (h : ∀ k, k < m → dstAt ops k = some t → (L k = true ↔ k < i)) : fT ops L V tm0 m t = fT ops (fun _ => true) V tm0 i t := by
  have key : ∀ k, k ≤ m → fT ops L V tm0 k t = fT ops (fun _ => true) V tm0 (min k i) t := by
    intro k
    induction k with
    | zero => intro _; simp [fT]
    | succ k ih =>
      intro hk
      have ih' := ih (by omega)
      simp only [fT]
      by_cases hd : dstAt ops k = some t
      · have hh := h k (by omega) hd
        by_cases hki : k < i
        · rw [if_pos (hh.2 hki), show min (k + 1) i = min k i + 1 by omega, show min k i = k by omega]
          simp only [fT, if_true]
          rw [hd, put_same, put_same]
        · rw [if_neg (fun e => hki (hh.1 e)), ih', show min (k + 1) i = min k i by omega]
      · have e1 : (if L k = true then put (fT ops L V tm0 k) (dstAt ops k) (V k) else fT ops L V tm0 k) t = fT ops L V tm0 k t := by
          split
          · exact put_other hd
          · rfl
        rw [e1, ih']
        by_cases hki : k < i
        · rw [show min (k + 1) i = min k i + 1 by omega, show min k i = k by omega]
          simp only [fT, if_true]
          rw [put_other hd]
        · rw [show min (k + 1) i = min k i by omega]
  have := key m (Nat.le_refl _)
  rwa [show min m i = i by omega] at this

theorem fS_slot {m i id : Nat} (hi : i ≤ m) (h : ∀ k, k < m → id ∈ (Dl k).map (·.1) → (L k = true ↔ k < i)) : fS L Dl s0 m id = fS (fun _ => true) Dl s0 i id := by
  have key : ∀ k, k ≤ m → fS L Dl s0 k id = fS (fun _ => true) Dl s0 (min k i) id := by
    intro k
    induction k with
    | zero => intro _; simp [fS]
    | succ k ih =>
      intro hk
      have ih' := ih (by omega)
      simp only [fS]
      by_cases hd : id ∈ (Dl k).map (·.1)
      · have hh := h k (by omega) hd
        by_cases hki : k < i
        · rw [if_pos (hh.2 hki), show min (k + 1) i = min k i + 1 by omega, show min k i = k by omega]
          simp only [fS, if_true]
          exact updH_in hd
        · rw [if_neg (fun e => hki (hh.1 e)), ih', show min (k + 1) i = min k i by omega]
      · have e1 : (if L k = true then updH (fS L Dl s0 k) (Dl k) else fS L Dl s0 k) id = fS L Dl s0 k id := by
          split
          · exact updH_out hd
          · rfl
        rw [e1, ih']
        by_cases hki : k < i
        · rw [show min (k + 1) i = min k i + 1 by omega, show min k i = k by omega]
          simp only [fS, if_true]
          rw [updH_out hd]
        · rw [show min (k + 1) i = min k i by omega]
  have := key m (Nat.le_refl _)
  rwa [show min m i = i by omega] at this

theorem fT_last {m i t : Nat} (hi : i < m) (hL : L i = true) (hd : dstAt ops i = some t) (h : ∀ k, k < m → i < k → dstAt ops k = some t → L k = false) : fT ops L V tm0 m t = V i := by
  have key : ∀ k, i < k → k ≤ m → fT ops L V tm0 k t = V i := by
    intro k
    induction k with
    | zero => intro h; omega
    | succ k ih =>
      intro hik hk
      simp only [fT]
      by_cases e : k = i
      · subst e; rw [if_pos hL, hd, put_same]
      · have := ih (by omega) (by omega)
        by_cases hdk : dstAt ops k = some t
        · rw [if_neg (by rw [h k (by omega) (by omega) hdk]; simp)]; exact this
        · split
          · rw [put_other hdk]; exact this
          · exact this
  exact key m hi (Nat.le_refl _)

theorem fS_last {m i id : Nat} (hi : i < m) (hL : L i = true) (hd : id ∈ (Dl i).map (·.1)) (h : ∀ k, k < m → i < k → id ∈ (Dl k).map (·.1) → L k = false) (s : AHeap) : fS L Dl s0 m id = updH s (Dl i) id := by
  have key : ∀ k, i < k → k ≤ m → fS L Dl s0 k id = updH s (Dl i) id := by
    intro k
    induction k with
    | zero => intro h; omega
    | succ k ih =>
      intro hik hk
      simp only [fS]
      by_cases e : k = i
      · subst e; rw [if_pos hL]; exact updH_in hd
      · have := ih (by omega) (by omega)
        by_cases hdk : id ∈ (Dl k).map (·.1)
        · rw [if_neg (by rw [h k (by omega) (by omega) hdk]; simp)]; exact this
        · split
          · rw [updH_out hdk]; exact this
          · exact this
  exact key m hi (Nat.le_refl _)

theorem fT_set {m i : Nat} (hi : i < m) (hL : L i = false) (hL' : L' i = true) (hne : ∀ k, k ≠ i → L' k = L k) (h : ∀ k t, k < m → i < k → dstAt ops i = some t → dstAt ops k = some t → L k = false) :
    fT ops L' V tm0 m = put (fT ops L V tm0 m) (dstAt ops i) (V i) := by
  funext t
  by_cases hd : dstAt ops i = some t
  · rw [fT_last hi hL' hd (fun k hk hik hdk => by rw [hne k (by omega)]; exact h k t hk hik hd hdk), hd, put_same]
  · rw [put_other hd]
    have key : ∀ k, k ≤ m → fT ops L' V tm0 k t = fT ops L V tm0 k t := by
      intro k
      induction k with
      | zero => intro _; rfl
      | succ k ih =>
        intro hk
        simp only [fT]
        by_cases e : k = i
        · subst e; rw [if_pos hL', if_neg (by rw [hL]; simp), put_other hd]; exact ih (by omega)
        · rw [hne k e]
          by_cases hdk : dstAt ops k = some t
          · split
            · rw [hdk, put_same, put_same]
            · exact ih (by omega)
          · split
            · rw [put_other hdk, put_other hdk]; exact ih (by omega)
            · exact ih (by omega)
    exact key m (Nat.le_refl _)

theorem fS_set {m i : Nat} (hi : i < m) (hL : L i = false) (hL' : L' i = true) (hne : ∀ k, k ≠ i → L' k = L k) (h : ∀ k id, k < m → i < k → id ∈ (Dl i).map (·.1) → id ∈ (Dl k).map (·.1) → L k = false) :
    fS L' Dl s0 m = updH (fS L Dl s0 m) (Dl i) := by
  funext id
  by_cases hd : id ∈ (Dl i).map (·.1)
  · exact fS_last hi hL' hd (fun k hk hik hdk => by rw [hne k (by omega)]; exact h k id hk hik hd hdk) _
  · rw [updH_out hd]
    have key : ∀ k, k ≤ m → fS L' Dl s0 k id = fS L Dl s0 k id := by
      intro k
      induction k with
      | zero => intro _; rfl
      | succ k ih =>
        intro hk
        simp only [fS]
        by_cases e : k = i
        · subst e; rw [if_pos hL', if_neg (by rw [hL]; simp), updH_out hd]; exact ih (by omega)
        · rw [hne k e]
          by_cases hdk : id ∈ (Dl k).map (·.1)
          · split
            · exact updH_in hdk
            · exact ih (by omega)
          · split
            · rw [updH_out hdk, updH_out hdk]; exact ih (by omega)
            · exact ih (by omega)
    exact key m (Nat.le_refl _)
end

/-! ### what the text's order tells of each operation -/
def StepFact (P : Program) (ops : Array Oper) (C : List (List Nat)) (W : List (Nat × List Nat)) (V : Nat → Value) (Dl : Nat → List (Nat × ABlk)) (tm0 : Env) (s0 : AHeap) (k : Nat) : Prop :=
  ∀ o, ops[k]? = some o →
    ((match o.guard with | none => True | some (j, want) => yl ops (fT ops (fun _ => true) V tm0 k) j = some want) ∧ (∀ id ∈ (Dl k).map (·.1), id ∈ own W k) ∧
      ∀ t, AgreeOff (others C W k) t (fS (fun _ => true) Dl s0 k) → AOp P o (fT ops (fun _ => true) V tm0 k) t fun v' t' => v' = V k ∧ t' = updH t (Dl k)) ∨
    ((match o.guard with | none => False | some (j, want) => yl ops (fT ops (fun _ => true) V tm0 k) j ≠ some want) ∧ V k = undef ∧ Dl k = [])

theorem AOpsD.facts {P : Program} {ops : Array Oper} {C : List (List Nat)} {W : List (Nat × List Nat)} {tm0 : Env} {s0 : AHeap} {K : Env → AHeap → Prop} (h : AOpsD P ops C W 0 ops.toList tm0 s0 K) :
    ∃ V Dl, (∀ k, k < ops.size → StepFact P ops C W V Dl tm0 s0 k) ∧ K (fT ops (fun _ => true) V tm0 ops.size) (fS (fun _ => true) Dl s0 ops.size) := by
  have key : ∀ i, i ≤ ops.size → ∃ V Dl, (∀ k, k < i → StepFact P ops C W V Dl tm0 s0 k) ∧ AOpsD P ops C W i (ops.toList.drop i) (fT ops (fun _ => true) V tm0 i) (fS (fun _ => true) Dl s0 i) K := by
    intro i
    induction i with
    | zero => intro _; exact ⟨fun _ => undef, fun _ => [], fun k hk => by omega, h⟩
    | succ i ih =>
      intro hi
      obtain ⟨V, Dl, hf, hr⟩ := ih (by omega)
      have hlt : i < ops.toList.length := by simpa using (show i < ops.size by omega)
      rw [List.drop_eq_getElem_cons hlt] at hr
      have ho : ops[i]? = some ops.toList[i] := by simp [show i < ops.size by omega]
      have hda : dstAt ops i = ops.toList[i].dst := by unfold dstAt; rw [ho]; rfl
      have keep : ∀ (v : Value) (d : List (Nat × ABlk)) (V' : Nat → Value) (Dl' : Nat → List (Nat × ABlk)), V' = (fun k => if k = i then v else V k) → Dl' = (fun k => if k = i then d else Dl k) →
          (∀ k, k ≤ i → fT ops (fun _ => true) V' tm0 k = fT ops (fun _ => true) V tm0 k ∧ fS (fun _ => true) Dl' s0 k = fS (fun _ => true) Dl s0 k) ∧ (∀ k, k < i → StepFact P ops C W V' Dl' tm0 s0 k) := by
        intro v d V' Dl' hV hD
        have hk : ∀ k, k ≤ i → fT ops (fun _ => true) V' tm0 k = fT ops (fun _ => true) V tm0 k ∧ fS (fun _ => true) Dl' s0 k = fS (fun _ => true) Dl s0 k := fun k hk =>
          ⟨fT_congr fun j hj => ⟨rfl, by rw [hV]; simp [show j ≠ i by omega]⟩, fS_congr fun j hj => ⟨rfl, by rw [hD]; simp [show j ≠ i by omega]⟩⟩
        refine ⟨hk, fun k hki => ?_⟩
        intro o ho
        have h1 := hf k hki o ho
        have e1 : V' k = V k := by rw [hV]; simp [show k ≠ i by omega]
        have e2 : Dl' k = Dl k := by rw [hD]; simp [show k ≠ i by omega]
        rw [(hk k (by omega)).1, (hk k (by omega)).2, e1, e2]
        exact h1
      simp only [AOpsD] at hr
      rcases hr with ⟨hg, v, d, hd, hrob, hrest⟩ | ⟨hg, hrest⟩
      · obtain ⟨k1, k2⟩ := keep v d _ _ rfl rfl
        refine ⟨fun k => if k = i then v else V k, fun k => if k = i then d else Dl k, fun k hk => ?_, ?_⟩
        · by_cases e : k = i
          · subst e
            intro o ho'
            rw [ho] at ho'
            obtain rfl := Option.some.inj ho'
            refine .inl ⟨?_, ?_, ?_⟩
            · rw [(k1 k (Nat.le_refl _)).1]; exact hg
            · simpa using hd
            · rw [(k1 k (Nat.le_refl _)).1, (k1 k (Nat.le_refl _)).2]; simpa using hrob
          · exact k2 k (by omega)
        · simp only [fT, fS, if_true]
          rw [(k1 i (Nat.le_refl _)).1, (k1 i (Nat.le_refl _)).2, hda]
          exact hrest
      · obtain ⟨k1, k2⟩ := keep undef [] _ _ rfl rfl
        refine ⟨fun k => if k = i then undef else V k, fun k => if k = i then [] else Dl k, fun k hk => ?_, ?_⟩
        · by_cases e : k = i
          · subst e
            intro o ho'
            rw [ho] at ho'
            obtain rfl := Option.some.inj ho'
            refine .inr ⟨?_, by simp, by simp⟩
            rw [(k1 k (Nat.le_refl _)).1]; exact hg
          · exact k2 k (by omega)
        · simp only [fT, fS, if_true]
          rw [(k1 i (Nat.le_refl _)).1, (k1 i (Nat.le_refl _)).2, hda]
          exact hrest
  obtain ⟨V, Dl, hf, hr⟩ := key ops.size (Nat.le_refl _)
  rw [List.drop_of_length_le (by simp)] at hr
  exact ⟨V, Dl, hf, hr⟩

theorem drawOk_spec {ops : Array Oper} {C : List (List Nat)} (h : drawOk ops C = true) {i : Nat} {o : Oper} (ho : ops[i]? = some o) :
    (∀ e ∈ o.after, Region.binds .any e = true → e.on < i) ∧ (∀ k ∈ cC C i, k < i ∧ ∃ e ∈ o.after, Region.binds .any e = true ∧ (e.on = k ∨ k ∈ cC C e.on)) ∧
    (∀ t ∈ opNames ops o, ∀ k p, ops[k]? = some p → p.dst = some t → k = i ∨ (k < i ∧ k ∈ cC C i) ∨ (i < k ∧ i ∈ cC C k)) := by
  have hmem : ∀ {k : Nat} {p : Oper}, ops[k]? = some p → (p, k) ∈ ops.toList.zipIdx := fun {k p} hk => by
    rw [List.mem_zipIdx_iff_getElem?]; simpa using hk
  have h1 := List.all_eq_true.1 h _ (hmem ho)
  simp only [Bool.and_eq_true, List.all_eq_true] at h1
  obtain ⟨⟨ha, hb⟩, hc⟩ := h1
  refine ⟨fun e he hbd => ?_, fun k hk => ?_, fun t ht k p hp hd => ?_⟩
  · have := ha e (by simpa using he)
    simpa [hbd] using this
  · have := hb k hk
    simp only [Bool.and_eq_true, decide_eq_true_eq, List.any_eq_true, Bool.or_eq_true, beq_iff_eq, List.contains_iff_mem] at this
    obtain ⟨h1, e, he, hbd, hor⟩ := this
    exact ⟨h1, e, by simpa using he, hbd, hor⟩
  · have := hc t ht (p, k) (hmem hp)
    simp only [Bool.or_eq_true, bne_iff_ne, ne_eq, beq_iff_eq, Bool.and_eq_true, decide_eq_true_eq, List.contains_iff_mem] at this
    rcases this with ((h1 | h1) | h1) | h1
    · exact absurd hd h1
    · exact .inl h1
    · exact .inr (.inl h1)
    · exact .inr (.inr h1)

theorem mem_others {C : List (List Nat)} {W : List (Nat × List Nat)} {i k id : Nat} (hu : unordB C i k = true) (h : id ∈ own W k) : id ∈ others C W i := by
  simp only [own, List.mem_flatMap] at h
  obtain ⟨p, hp, hid⟩ := h
  split at hid
  · rename_i e
    simp only [others, List.mem_flatMap]
    exact ⟨p, hp, by rw [e, if_pos hu]; exact hid⟩
  · cases hid

theorem unordB_of {C : List (List Nat)} {i k : Nat} (h : unordB C i k = false) : i = k ∨ k ∈ cC C i ∨ i ∈ cC C k := by
  simp only [unordB, Bool.and_eq_false_iff, bne_eq_false_iff_eq, Bool.not_eq_false', List.contains_iff_mem] at h
  rcases h with (h | h) | h
  · exact .inl h
  · exact .inr (.inl h)
  · exact .inr (.inr h)

def apartW (C : List (List Nat)) (W : List (Nat × List Nat)) : Prop := ∀ p ∈ W, ∀ q ∈ W, unordB C p.1 q.1 = true → ∀ id ∈ p.2, id ∉ q.2

theorem apartW_own {C : List (List Nat)} {W : List (Nat × List Nat)} (h : apartW C W) {i k id : Nat} (hu : unordB C i k = true) (hi : id ∈ own W i) : id ∉ own W k := by
  intro hk
  simp only [own, List.mem_flatMap] at hi hk
  obtain ⟨p, hp, hip⟩ := hi
  obtain ⟨q, hq, hiq⟩ := hk
  split at hip
  · rename_i ep
    split at hiq
    · rename_i eq
      exact h p hp q hq (by rw [ep, eq]; exact hu) id hip hiq
    · cases hiq
  · cases hip

section
variable {P : Program} {n : Nat} {Q : AExit → Env → AHeap → Prop} {tm : Env} {s : AHeap}
theorem AWp.draw {id : Nat} {l : List Oper} (C : List (List Nat)) (W : List (Nat × List Nat)) (hm : P.follows .mixedOrders = true) (hC : drawOk l.toArray C = true) (hW : apartW C W)
    (h : AOpsD P l.toArray C W 0 l tm s fun tm' s' => Q .normal tm' s') : AWp P n (.region id l.toArray true) Q tm s := fun hg W0 ρ a w he hd hS => by
  obtain ⟨ops, hops⟩ : ∃ ops : Array Oper, ops = l.toArray := ⟨_, rfl⟩
  have hl : ops.toList = l := by rw [hops]
  rw [← hops] at hC h ⊢
  rw [← hl] at h
  have hg' : ops.toList.all (goodO n) = true := by rw [hops]; exact hg
  obtain ⟨V, Dl, hf, hK⟩ := h.facts
  obtain ⟨m, hmm⟩ : ∃ m, m = ops.size := ⟨_, rfl⟩
  rw [← hmm] at hf hK
  refine wp_region_any hm ?_
  have key : ∀ (fuel : Nat) (listed : Array Bool) (ρ1 : Ren) (a : Act) (w : World), listed.size = m → ((List.range m).filter fun k => !(listed.getD k false)).length ≤ fuel →
      RLe ρ ρ1 → EnvR ρ1 n (fT ops (fun k => listed.getD k false) V tm m) a.tmps → a.defers = [] → Sim W0 ρ1 (fS (fun k => listed.getD k false) Dl s m) w →
      (∀ j, j < m → listed.getD j false = true → ∀ k ∈ cC C j, listed.getD k false = true) → wpAny P .any ops (APost P W0 n Q ρ) fuel listed a w := by
    intro fuel
    induction fuel with
    | zero =>
      intro listed ρ1 a w hsz hcnt hle he hd hS hdc
      have hall : ∀ k, k < m → listed.getD k false = true := by
        intro k hk
        have h0 : (List.range m).filter (fun k => !(listed.getD k false)) = [] := List.length_eq_zero_iff.1 (Nat.le_zero.1 hcnt)
        have := List.filter_eq_nil_iff.1 h0 k (by simpa using hk)
        simpa using this
      refine ⟨?_, .normal, _, _, ρ1, rfl, hK, hle, ?_, hd, ?_⟩
      · cases hr : Region.ready .any ops listed with
        | nil => rfl
        | cons x xs =>
          have hx : x ∈ Region.ready .any ops listed := by rw [hr]; simp
          obtain ⟨h0, o, ho, _⟩ := mem_ready.1 hx
          have hxm : x < m := by rw [hmm]; exact (Array.getElem?_eq_some_iff.1 ho).1
          have := hall x hxm
          simp [show x < listed.size by omega] at this h0
          rw [h0] at this; cases this
      · rw [fT_congr (L' := fun k => listed.getD k false) (V' := V) fun j hj => ⟨(hall j hj).symm, rfl⟩]; exact he
      · rw [fS_congr (L' := fun k => listed.getD k false) (Dl' := Dl) fun j hj => ⟨(hall j hj).symm, rfl⟩]; exact hS
    | succ fuel ih =>
      intro listed ρ1 a w hsz hcnt hle he hd hS hdc
      refine ⟨fun hr => ?_, fun i hi => ?_⟩
      · have hall : ∀ k, k < m → listed.getD k false = true := by
          intro k
          induction k using Nat.strongRecOn with
          | _ k ihk =>
            intro hk
            cases hb : listed.getD k false with
            | true => rfl
            | false =>
              have hko : k < ops.size := by omega
              have : k ∈ Region.ready .any ops listed := mem_ready.2 ⟨by simp [show k < listed.size by omega] at hb ⊢; exact hb, ops[k], by simp [hko], fun e he hbd => by
                have := (drawOk_spec hC (show ops[k]? = some ops[k] by simp [hko])).1 e he hbd
                exact ihk e.on this (by omega)⟩
              rw [hr] at this; cases this
        refine ⟨.normal, _, _, ρ1, rfl, hK, hle, ?_, hd, ?_⟩
        · rw [fT_congr (L' := fun k => listed.getD k false) (V' := V) fun j hj => ⟨(hall j hj).symm, rfl⟩]; exact he
        · rw [fS_congr (L' := fun k => listed.getD k false) (Dl' := Dl) fun j hj => ⟨(hall j hj).symm, rfl⟩]; exact hS
      · obtain ⟨h0, o, ho, hedges⟩ := mem_ready.1 hi
        have him : i < m := by rw [hmm]; exact (Array.getElem?_eq_some_iff.1 ho).1
        have hLi : listed.getD i false = false := by simp [show i < listed.size by omega] at h0 ⊢; exact h0
        obtain ⟨d1, d2, d3⟩ := drawOk_spec hC ho
        have hpre : ∀ k ∈ cC C i, listed.getD k false = true := fun k hk => by
          obtain ⟨_, e, hem, hbd, hor⟩ := d2 k hk
          have he' := hedges e hem hbd
          rcases hor with rfl | hin
          · exact he'
          · exact hdc e.on (by have := d1 e hem hbd; omega) he' k hin
        have hpost : ∀ k, k < m → i ∈ cC C k → listed.getD k false = false := fun k hk hin => by
          cases hb : listed.getD k false with
          | false => rfl
          | true => have := hdc k hk hb i hin; rw [hLi] at this; cases this
        have hdst : ∀ {k t}, dstAt ops k = some t → ∃ p, ops[k]? = some p ∧ p.dst = some t := fun {k t} h => by
          unfold dstAt at h
          cases hp : ops[k]? with
          | none => rw [hp] at h; cases h
          | some p => rw [hp] at h; exact ⟨p, rfl, h⟩
        have hslot : ∀ t ∈ opNames ops o, ∀ k, k < m → dstAt ops k = some t → (listed.getD k false = true ↔ k < i) := fun t ht k hk hd => by
          obtain ⟨p, hp, hpd⟩ := hdst hd
          rcases d3 t ht k p hp hpd with rfl | ⟨h1, h2⟩ | ⟨h1, h2⟩
          · rw [hLi]; simp
          · rw [hpre k h2]; simp [h1]
          · rw [hpost k hk h2]; simp; omega
        have hsl : ∀ t ∈ opNames ops o, fT ops (fun k => listed.getD k false) V tm m t = fT ops (fun _ => true) V tm i t := fun t ht => fT_slot (by omega) (hslot t ht)
        have hev : ∀ x ∈ o.op.operands, ev (fT ops (fun _ => true) V tm i) x = ev (fT ops (fun k => listed.getD k false) V tm m) x := fun x hx => by
          cases x with
          | tmp t => exact (hsl t (by
              simp only [opNames, List.mem_append, List.mem_filterMap]
              exact .inl (.inr ⟨.tmp t, by simpa using hx, rfl⟩))).symm
          | _ => rfl
        have hyl : ∀ j want, o.guard = some (j, want) → yl ops (fT ops (fun k => listed.getD k false) V tm m) j = yl ops (fT ops (fun _ => true) V tm i) j := fun j want hgd => by
          unfold yl
          cases hj : (ops[j]?).bind (·.dst) with
          | none => rfl
          | some t =>
            have := hsl t (by simp only [opNames, List.mem_append, hgd, hj]; exact .inr (by simp))
            simp only [this]
        have hord : ∀ k id, k < m → id ∈ (Dl k).map (·.1) → id ∉ others C W i → k = i ∨ k ∈ cC C i ∨ i ∈ cC C k := fun k id hk hid hno => by
          have hok : id ∈ own W k := by
            rcases hf k hk ops[k] (by simp [show k < ops.size by omega]) with ⟨_, h2, _⟩ | ⟨_, _, h2⟩
            · exact h2 id hid
            · rw [h2] at hid; cases hid
          cases hu : unordB C i k with
          | true => exact absurd (mem_others hu hok) hno
          | false => rcases unordB_of hu with h | h | h
                     · exact .inl h.symm
                     · exact .inr (.inl h)
                     · exact .inr (.inr h)
        have hagree : AgreeOff (others C W i) (fS (fun k => listed.getD k false) Dl s m) (fS (fun _ => true) Dl s i) := fun id hid => fS_slot (by omega) fun k hk hdk => by
          rcases hord k id hk hdk hid with rfl | h1 | h1
          · rw [hLi]; simp
          · rw [hpre k h1]; simp; exact (d2 k h1).1
          · rw [hpost k hk h1]; simp
            have hko : k < ops.size := by omega
            exact Nat.le_of_lt ((drawOk_spec hC (show ops[k]? = some ops[k] by simp [hko])).2.1 i h1).1
        have hok := List.all_eq_true.1 hg' o (by simpa using Array.mem_of_getElem? ho)
        simp only [goodO, Bool.and_eq_true] at hok
        have hL' : ∀ k, (listed.setIfInBounds i true).getD k false = if k = i then true else listed.getD k false := fun k => by
          by_cases e : k = i
          · subst e; simp [show k < listed.size by omega]
          · rw [if_neg e, getD_set_ne false (Ne.symm e)]
        have hfT : fT ops (fun k => (listed.setIfInBounds i true).getD k false) V tm m = put (fT ops (fun k => listed.getD k false) V tm m) o.dst (V i) := by
          have hda : dstAt ops i = o.dst := by unfold dstAt; rw [ho]; rfl
          rw [← hda]
          refine fT_set him hLi (by rw [hL']; simp) (fun k hk => by rw [hL', if_neg hk]) ?_
          intro k t hk hik hdi hdk
          have ht : t ∈ opNames ops o := by rw [hda] at hdi; simp [opNames, hdi]
          cases hb : listed.getD k false with
          | false => rfl
          | true => have := (hslot t ht k hk hdk).1 hb; omega
        have hfS : fS (fun k => (listed.setIfInBounds i true).getD k false) Dl s m = updH (fS (fun k => listed.getD k false) Dl s m) (Dl i) := by
          refine fS_set him hLi (by rw [hL']; simp) (fun k hk => by rw [hL', if_neg hk]) ?_
          intro k id hk hik hdi hdk
          have hown : ∀ {k}, k < m → id ∈ (Dl k).map (·.1) → id ∈ own W k := fun {k} hk hid => by
            rcases hf k hk ops[k] (by simp [show k < ops.size by omega]) with ⟨_, h2, _⟩ | ⟨_, _, h2⟩
            · exact h2 id hid
            · rw [h2] at hid; cases hid
          cases hu : unordB C i k with
          | true => exact absurd (hown hk hdk) (apartW_own hW hu (hown him hdi))
          | false =>
            rcases unordB_of hu with h | h | h
            · omega
            · have := (d2 k h).1; omega
            · exact hpost k hk h
        have hcnt' : ((List.range m).filter fun k => !((listed.setIfInBounds i true).getD k false)).length ≤ fuel := by
          have h1 : ((List.range m).filter fun k => !((listed.setIfInBounds i true).getD k false)).length < ((List.range m).filter fun k => !(listed.getD k false)).length := by
            have e : (List.range m).filter (fun k => !((listed.setIfInBounds i true).getD k false)) = ((List.range m).filter fun k => !(listed.getD k false)).filter (fun k => k != i) := by
              rw [List.filter_filter]
              refine List.filter_congr fun k _ => ?_
              rw [hL']
              by_cases e : k = i <;> simp [e]
            rw [e]
            refine List.length_filter_lt_length_iff_exists.2 ⟨i, ?_, by simp⟩
            rw [List.mem_filter]
            exact ⟨by simpa using him, by simp [hLi]⟩
          omega
        have hdc' : ∀ j, j < m → (listed.setIfInBounds i true).getD j false = true → ∀ k ∈ cC C j, (listed.setIfInBounds i true).getD k false = true := fun j hj hLj k hk => by
          rw [hL'] at hLj ⊢
          by_cases ek : k = i
          · rw [if_pos ek]
          · rw [if_neg ek]
            by_cases ej : j = i
            · subst ej; exact hpre k hk
            · rw [if_neg ej] at hLj; exact hdc j hj hLj k hk
        have hput : ∀ dst v, (a.put dst v).defers = [] := fun dst v => by cases dst <;> exact hd
        have next : ∀ ρ2 v', RLe ρ1 ρ2 → VR ρ2 (V i) v' → ∀ w', Sim W0 ρ2 (updH (fS (fun k => listed.getD k false) Dl s m) (Dl i)) w' →
            wpAny P .any ops (APost P W0 n Q ρ) fuel (listed.setIfInBounds i true) (a.put o.dst v') w' := fun ρ2 v' hle2 hv w' hS' =>
          ih _ ρ2 _ _ (by simpa using hsz) hcnt' (hle.trans hle2) (by rw [hfT]; exact (he.mono hle2).put hok.1 hv) (hput _ _) (by rw [hfS]; exact hS') hdc'
        unfold wpOp
        rw [ho]
        simp only []
        rcases hf i him o ho with ⟨g1, _, g3⟩ | ⟨g1, g2, g3⟩
        · rw [if_pos (by
            cases hgd : o.guard with
            | none => simp [Region.wanted, hgd]
            | some jw =>
              obtain ⟨j, want⟩ := jw
              simp only [Region.wanted, hgd]
              rw [yielded_eq he hg', hyl j want hgd]
              rw [hgd] at g1
              simpa using g1)]
          refine .inl (AOp.sound ((g3 _ hagree).congr hev) hok.2 he hS ?_)
          intro ρ2 v0 v' s' w' hle2 hv hS' hk
          obtain ⟨rfl, rfl⟩ := hk
          exact next ρ2 v' hle2 hv w' hS'
        · rw [if_neg (by
            cases hgd : o.guard with
            | none => rw [hgd] at g1; exact g1.elim
            | some jw =>
              obtain ⟨j, want⟩ := jw
              simp only [Region.wanted, hgd]
              rw [yielded_eq he hg', hyl j want hgd]
              rw [hgd] at g1
              simpa using g1)]
          exact next ρ1 undef (RLe.refl _) (by rw [g2]; exact undef_VR _) w (by rw [g3]; exact hS)
  refine key ops.size _ ρ a _ (by simp [hmm]) ?_ (RLe.refl _) ?_ hd ?_ ?_
  · exact Nat.le_trans (List.length_filter_le _ _) (by simp [hmm])
  · have : fT ops (fun k => (Array.replicate ops.size false).getD k false) V tm m = tm := by
      have : ∀ k, fT ops (fun k => (Array.replicate ops.size false).getD k false) V tm k = tm := by
        intro k
        induction k with
        | zero => rfl
        | succ k ih => simp only [fT]; rw [if_neg (by simp [Array.getElem?_replicate]; split <;> simp), ih]
      exact this m
    rw [this]; exact he
  · have : fS (fun k => (Array.replicate ops.size false).getD k false) Dl s m = s := by
      have : ∀ k, fS (fun k => (Array.replicate ops.size false).getD k false) Dl s k = s := by
        intro k
        induction k with
        | zero => rfl
        | succ k ih => simp only [fS]; rw [if_neg (by simp [Array.getElem?_replicate]; split <;> simp), ih]
      exact this m
    rw [this]; exact hS.drew
  · intro j _ hj
    simp [Array.getElem?_replicate] at hj
    split at hj <;> simp at hj
end
end Go.Proofs.Ytdbnpghckgmaoaa.Ab

/- The rules by which a region is walked over the abstract memory. -/
namespace Go.Proofs.Ytdbnpghckgmaoaa.Ab
set_option linter.unusedVariables false
set_option linter.unusedSimpArgs false
set_option linter.unusedSectionVars false
open Go.RowKit

class HasTD (P : Program) (t : TypeId) (td : outParam TD) : Prop where
  is : tdOf P t = some td

inductive Ev : Env → Operand → Value → Prop
  | const {tm v} : Ev tm (.const v) v
  | func {tm f} : Ev tm (.func f) (.func (.func f) #[] #[])
  | hit {tm t v} : Ev (put tm (some t) v) (.tmp t) v
  | miss {tm t d u v} (h : t ≠ d) (r : Ev tm (.tmp t) v) : Ev (put tm (some d) u) (.tmp t) v
  | non {tm t u v} (r : Ev tm (.tmp t) v) : Ev (put tm none u) (.tmp t) v
  | arg {l t v} (h : l[t]? = some v) : Ev (nargs l) (.tmp t) v
  | var {tm : Env} {t v} (h : tm t = v) : Ev tm (.tmp t) v
theorem Ev.eq {tm x v} (h : Ev tm x v) : ev tm x = v := by
  induction h with
  | const => rfl
  | func => rfl
  | hit => exact put_same
  | miss h r ih => simp only [ev] at ih ⊢; rw [put_other (by simpa using Ne.symm h)]; exact ih
  | non r ih => exact ih
  | arg h => simp [ev, nargs, List.getD, h]
  | var h => exact h
theorem Ev.missB {tm t d u v} (h : Nat.beq t d = false) (r : Ev tm (.tmp t) v) : Ev (put tm (some d) u) (.tmp t) v := .miss (Nat.ne_of_beq_eq_false h) r
/-- Several operands. -/
inductive Evs : Env → List Operand → List Value → Prop
  | nil {tm} : Evs tm [] []
  | cons {tm x v l m} (h : Ev tm x v) (r : Evs tm l m) : Evs tm (x :: l) (v :: m)
theorem Evs.eq {tm l m} (h : Evs tm l m) : l.map (ev tm) = m := by
  induction h with
  | nil => rfl
  | cons h r ih => rw [List.map_cons, h.eq, ih]
inductive EvO : Env → Option Operand → Option Value → Prop
  | none {tm} : EvO tm none none
  | some {tm x v} (h : Ev tm x v) : EvO tm (some x) (some v)
theorem EvO.eq {tm l m} (h : EvO tm l m) : l.map (ev tm) = m := by
  cases h with
  | none => rfl
  | some h => rw [Option.map_some, h.eq]
inductive EvP : Env → List (Nat × Operand) → List (Nat × Value) → Prop
  | nil {tm} : EvP tm [] []
  | cons {tm i x v l m} (h : Ev tm x v) (r : EvP tm l m) : EvP tm ((i, x) :: l) ((i, v) :: m)
theorem EvP.eq {tm l m} (h : EvP tm l m) : (l.map fun p => (p.1, ev tm p.2)) = m := by
  induction h with
  | nil => rfl
  | cons h r ih => rw [List.map_cons, h.eq, ih]

/-- A block is told. -/
def At (s : AHeap) (id : Nat) (b : ABlk) : Prop := s id = some b
theorem At.hit {s : AHeap} {id b} : At (s.set id b) id b := AHeap.set_same _ _ _
theorem At.miss {s : AHeap} {id id' b b'} (h : id ≠ id') (r : At s id b) : At (s.set id' b') id b := by unfold At; rw [AHeap.set_other _ _ h]; exact r
theorem At.var {s : AHeap} {id b} (h : s id = some b) : At s id b := h
/-- A name is free. -/
def Free (s : AHeap) (id : Nat) : Prop := s id = none
theorem Free.miss {s : AHeap} {id id' b'} (h : id ≠ id') (r : Free s id) : Free (s.set id' b') id := by unfold Free; rw [AHeap.set_other _ _ h]; exact r
theorem Free.from {s : AHeap} {N id : Nat} (h : ∀ i, N ≤ i → s i = none) (hi : N ≤ id) : Free s id := h id hi

/-- The cells of a slice or a string that is appended. -/
def Src (s : AHeap) (sz : Nat) (v : Value) (m : Nat) (xs : List Value) : Prop := srcCells s sz v = some (m, xs)
theorem Src.nil {s : AHeap} {sz n c : Nat} : Src s sz (.slice none n c) 0 [] := rfl
theorem Src.none {s : AHeap} {sz c : Nat} {a : Addr} : Src s sz (.slice (some a) 0 c) 0 [] := rfl
theorem Src.sl {s : AHeap} {id off sz n c : Nat} {sp : Option Nat} {rw : Bool} {cs xs : List Value} (h : At s id (.cells rw sz cs)) (hn : n ≠ 0) (hb : off + n * sz ≤ cs.length) (hx : (cs.drop off).take (n * sz) = xs) : Src s sz (.slice (some ⟨id, off, sp⟩) n c) n xs := by
  unfold Src At at *; subst hx; simp [srcCells, hn, h, hb]
theorem Src.str {s : AHeap} {sz : Nat} {b : ByteArray} : Src s sz (.string b) b.size (b.data.toList.map fun x => .int .u8 x.toNat) := rfl
/-- A list that grows: nil, or all of a block of its own. -/
inductive LAt (s : AHeap) (es : Nat) : Value → Option Nat → Nat → List Value → Prop
  | nil : LAt s es (.slice none 0 0) none 0 []
  | blk {o : Nat} {sp : Option Nat} {n : Nat} {xs : List Value} (h : At s o (.cells true es xs)) (hl : xs.length = n * es) : LAt s es (.slice (some ⟨o, 0, sp⟩) n n) (some o) n xs
/-- The memory behind an append: the new block, and all the others but for the old one. -/
structure Grew (s s' : AHeap) (on : Option Nat) (N : Nat) (b : ABlk) : Prop where
  hit : At s' N b
  off : ∀ i, on ≠ some i → i ≠ N → s' i = s i
  free : s N = none
theorem Grew.keep {s s' : AHeap} {on : Option Nat} {N : Nat} {b : ABlk} (h : Grew s s' on N b) {i : Nat} {c : ABlk} (hi : on ≠ some i) (hc : s i = some c) : s' i = some c := by
  rw [h.off i hi (fun e => by subst e; rw [h.free] at hc; cases hc)]; exact hc
theorem srcAll {s : AHeap} {o es n : Nat} {sp : Option Nat} {xs : List Value} (h : At s o (.cells true es xs)) (hl : xs.length = n * es) : Src s es (.slice (some ⟨o, 0, sp⟩) n n) n xs := by
  by_cases hn : n = 0
  · subst hn; rw [Nat.zero_mul] at hl; rw [List.length_eq_zero_iff.1 hl]; exact Src.none
  · exact Src.sl h hn (by omega) (by rw [List.drop_zero, ← hl, List.take_length])
theorem At.agree {U : List Nat} {t s : AHeap} {id : Nat} {b : ABlk} (ha : AgreeOff U t s) (hn : id ∉ U) (h : At s id b) : At t id b := by unfold At at *; rw [ha id hn]; exact h
theorem Free.agree {U : List Nat} {t s : AHeap} {id : Nat} (ha : AgreeOff U t s) (hn : id ∉ U) (h : Free s id) : Free t id := by unfold Free at *; rw [ha id hn]; exact h

/-- Both ways of a test. -/
def GK (b want : Bool) (run skip : Prop) : Prop := (b = want → run) ∧ (b = !want → skip)
section
variable {p q : Prop} {b w : Bool}
theorem gTT (h : p) : GK true true p q := ⟨fun _ => h, fun e => by cases e⟩
theorem gFF (h : p) : GK false false p q := ⟨fun _ => h, fun e => by cases e⟩
theorem gTF (h : q) : GK false true p q := ⟨fun e => (by cases e), fun _ => h⟩
theorem gFT (h : q) : GK true false p q := ⟨fun e => (by cases e), fun _ => h⟩
theorem gY (hw : b = w) (h : p) : GK b w p q := ⟨fun _ => h, fun e => by subst hw; cases b <;> cases e⟩
theorem gNT (hw : b = false) (h : q) : GK b true p q := ⟨fun e => (by subst hw; cases e), fun _ => h⟩
theorem gNF (hw : b = true) (h : q) : GK b false p q := ⟨fun e => (by subst hw; cases e), fun _ => h⟩
theorem gD {φ : Prop} {inst : Decidable φ} (ht : decide φ = true → φ → GK true w p q) (hf : decide φ = false → ¬ φ → GK false w p q) : GK (decide φ) w p q := by
  by_cases h : φ
  · rw [decide_eq_true h]; exact ht (decide_eq_true h) h
  · rw [decide_eq_false h]; exact hf (decide_eq_false h) h
theorem gDN {φ : Prop} {inst : Decidable φ} (ht : decide φ = true → φ → GK false w p q) (hf : decide φ = false → ¬ φ → GK true w p q) : GK (!decide φ) w p q := by
  by_cases h : φ
  · rw [decide_eq_true h]; exact ht (decide_eq_true h) h
  · rw [decide_eq_false h]; exact hf (decide_eq_false h) h
end
theorem asm {p : Prop} (h : p) : p := h
/-- A side condition, by its kind: in reach; within bounds; what lies there. -/
def Rg (p : Prop) : Prop := p
theorem Rg.mk {p : Prop} (h : p) : Rg p := h
def Lt (a b : Nat) : Prop := a < b
theorem Lt.mk {a b : Nat} (h : a < b) : Lt a b := h
def Get (c : List Value) (i : Nat) (v : Value) : Prop := c[i]? = some v
theorem Get.mk {c : List Value} {i : Nat} {v : Value} (h : c[i]? = some v) : Get c i v := h
def GetA (c : List Value) (i n : Nat) (l : List Value) : Prop := i + n ≤ c.length ∧ (c.drop i).take n = l
theorem GetA.mk {c : List Value} {i n : Nat} {l : List Value} (h1 : i + n ≤ c.length) (h2 : (c.drop i).take n = l) : GetA c i n l := ⟨h1, h2⟩
def IK (off es : Nat) (i : Int) (F : Nat → Prop) : Prop := F (off + i.toNat * es)
theorem ik01 {i : Int} {F : Nat → Prop} (h : F i.toNat) : IK 0 1 i F := by unfold IK; rw [Nat.zero_add, Nat.mul_one]; exact h
theorem ik0 {es : Nat} {i : Int} {F : Nat → Prop} (h : F (i.toNat * es)) : IK 0 es i F := by unfold IK; rw [Nat.zero_add]; exact h
theorem ikG {off es : Nat} {i : Int} {F : Nat → Prop} (h : F (off + i.toNat * es)) : IK off es i F := h
def PK (tm : Env) (x : Operand) (K : Value → AHeap → Prop) (s : AHeap) : Prop := K (ev tm x) s
theorem pk {tm : Env} {x : Operand} {K : Value → AHeap → Prop} {s : AHeap} {v : Value} (hx : Ev tm x v) (h : K v s) : PK tm x K s := by unfold PK; rw [hx.eq]; exact h

/-! what kind of goal it is -/
namespace K
section
variable {P : Program} {ops : Array Oper} {C : List (List Nat)} {W : List (Nat × List Nat)} {tm : Env} {s : AHeap} {K : Value → AHeap → Prop} {KK : Env → AHeap → Prop} {i n : Nat} {d : Option Tmp} {t xt ty : TypeId} {p : String} {af : Array Edge} {gd : Option (Nat × Bool)} {x y : Operand} {v : Value}
theorem ev (h : Ev tm x v) : Ev tm x v := h
theorem aop {o : Oper} (h : AOp P o tm s K) : AOp P o tm s K := h
theorem aops {l : List Oper} (h : AOps P ops l tm s KK) : AOps P ops l tm s KK := h
theorem aopsD {l : List Oper} (h : AOpsD P ops C W i l tm s KK) : AOpsD P ops C W i l tm s KK := h
theorem awp {c : Code} {Q : AExit → Env → AHeap → Prop} (h : AWp P n c Q tm s) : AWp P n c Q tm s := h
theorem at_ {b : ABlk} (h : At s i b) : At s i b := h
theorem gk {b w : Bool} {p q : Prop} (h : GK b w p q) : GK b w p q := h
theorem load (h : AOp P ⟨d, .load xt x, t, p, af, gd⟩ tm s K) : AOp P ⟨d, .load xt x, t, p, af, gd⟩ tm s K := h
theorem store (h : AOp P ⟨d, .store xt x y, t, p, af, gd⟩ tm s K) : AOp P ⟨d, .store xt x y, t, p, af, gd⟩ tm s K := h
theorem bin {op : BinOp} (h : AOp P ⟨d, .binOp op xt x y ty, t, p, af, gd⟩ tm s K) : AOp P ⟨d, .binOp op xt x y ty, t, p, af, gd⟩ tm s K := h
theorem call {c : Call} (h : AOp P ⟨d, .call c, t, p, af, gd⟩ tm s K) : AOp P ⟨d, .call c, t, p, af, gd⟩ tm s K := h
theorem acall {f : FuncId} {l : List Value} {s' : AHeap} (h : ACall P f l s v s') : ACall P f l s v s' := h
theorem box (h : AOp P ⟨d, .box xt x, t, p, af, gd⟩ tm s K) : AOp P ⟨d, .box xt x, t, p, af, gd⟩ tm s K := h
theorem alloc (h : AOp P ⟨d, .alloc xt, t, p, af, gd⟩ tm s K) : AOp P ⟨d, .alloc xt, t, p, af, gd⟩ tm s K := h
end
end K

namespace D
section
variable {P : Program} {ops : Array Oper} {C : List (List Nat)} {W : List (Nat × List Nat)} {tm : Env} {s : AHeap} {K : Env → AHeap → Prop} {i : Nat} {o : Op} {r : List Oper} {d : Option Tmp} {t : TypeId} {p : String} {af : Array Edge}
theorem nil (h : K tm s) : AOpsD P ops C W i [] tm s K := h
theorem q {v : Value} (h : ∀ t', AgreeOff (others C W i) t' s → AOp P ⟨d, o, t, p, af, none⟩ tm t' fun v' t'' => v' = v ∧ t'' = t') (hr : AOpsD P ops C W (i + 1) r (put tm d v) s K) : AOpsD P ops C W i (⟨d, o, t, p, af, none⟩ :: r) tm s K :=
  AOpsD.quiet v trivial h hr
theorem w1 {v : Value} {id : Nat} {b : ABlk} (hd : id ∈ own W i) (h : ∀ t', AgreeOff (others C W i) t' s → AOp P ⟨d, o, t, p, af, none⟩ tm t' fun v' t'' => v' = v ∧ t'' = t'.set id b) (hr : AOpsD P ops C W (i + 1) r (put tm d v) (s.set id b) K) : AOpsD P ops C W i (⟨d, o, t, p, af, none⟩ :: r) tm s K :=
  AOpsD.write v [(id, b)] trivial (by simpa using hd) h hr
theorem w2 {v : Value} {id id' : Nat} {b b' : ABlk} (hd : id ∈ own W i ∧ id' ∈ own W i) (h : ∀ t', AgreeOff (others C W i) t' s → AOp P ⟨d, o, t, p, af, none⟩ tm t' fun v' t'' => v' = v ∧ t'' = (t'.set id b).set id' b') (hr : AOpsD P ops C W (i + 1) r (put tm d v) ((s.set id b).set id' b') K) : AOpsD P ops C W i (⟨d, o, t, p, af, none⟩ :: r) tm s K :=
  AOpsD.write v [(id, b), (id', b')] trivial (by simpa using hd) h hr
theorem q0 {v : Value} (hw : own W i = []) (h : ∀ t', AgreeOff (others C W i) t' s → AOp P ⟨d, o, t, p, af, none⟩ tm t' fun v' t'' => v' = v ∧ t'' = t') (hr : AOpsD P ops C W (i + 1) r (put tm d v) s K) : AOpsD P ops C W i (⟨d, o, t, p, af, none⟩ :: r) tm s K :=
  q h hr
theorem w1n {v : Value} {id : Nat} {b : ABlk} (hw : own W i = [id]) (h : ∀ t', AgreeOff (others C W i) t' s → AOp P ⟨d, o, t, p, af, none⟩ tm t' fun v' t'' => v' = v ∧ t'' = t'.set id b) (hr : AOpsD P ops C W (i + 1) r (put tm d v) (s.set id b) K) : AOpsD P ops C W i (⟨d, o, t, p, af, none⟩ :: r) tm s K :=
  w1 (by rw [hw]; exact List.mem_singleton.2 rfl) h hr
theorem w2n {v : Value} {id id' : Nat} {b b' : ABlk} (hw : own W i = [id, id']) (h : ∀ t', AgreeOff (others C W i) t' s → AOp P ⟨d, o, t, p, af, none⟩ tm t' fun v' t'' => v' = v ∧ t'' = (t'.set id b).set id' b') (hr : AOpsD P ops C W (i + 1) r (put tm d v) ((s.set id b).set id' b') K) : AOpsD P ops C W i (⟨d, o, t, p, af, none⟩ :: r) tm s K :=
  w2 (by rw [hw]; simp) h hr
theorem yes {j : Nat} {want : Bool} {e : Tmp} (hd : (ops[j]?).bind (·.dst) = some e) (hb : Ev tm (.tmp e) (.bool want)) (h : AOpsD P ops C W i (⟨d, o, t, p, af, none⟩ :: r) tm s K) : AOpsD P ops C W i (⟨d, o, t, p, af, some (j, want)⟩ :: r) tm s K := by
  have hy : yl ops tm j = some want := by unfold yl; rw [hd]; have := hb.eq; simp only [ev] at this; simp only [this]
  simp only [AOpsD] at h ⊢
  rcases h with ⟨_, h⟩ | ⟨h, _⟩
  · exact .inl ⟨hy, h⟩
  · exact h.elim
theorem no {j : Nat} {want b : Bool} {e : Tmp} (hd : (ops[j]?).bind (·.dst) = some e) (hb : Ev tm (.tmp e) (.bool b)) (hne : b ≠ want) (h : AOpsD P ops C W (i + 1) r (put tm d undef) s K) : AOpsD P ops C W i (⟨d, o, t, p, af, some (j, want)⟩ :: r) tm s K := by
  have hy : yl ops tm j = some b := by unfold yl; rw [hd]; have := hb.eq; simp only [ev] at this; simp only [this]
  exact .inr ⟨by show yl ops tm j ≠ some want; rw [hy]; simpa using hne, h⟩
theorem yesB {j : Nat} {want b : Bool} {e : Tmp} (hd : (ops[j]?).bind (·.dst) = some e) (hb : Ev tm (.tmp e) (.bool b)) (hw : b = want) (h : AOpsD P ops C W i (⟨d, o, t, p, af, none⟩ :: r) tm s K) : AOpsD P ops C W i (⟨d, o, t, p, af, some (j, want)⟩ :: r) tm s K := by
  subst hw; exact yes hd hb h
theorem noT {j : Nat} {b : Bool} {e : Tmp} (hd : (ops[j]?).bind (·.dst) = some e) (hb : Ev tm (.tmp e) (.bool b)) (hw : b = false) (h : AOpsD P ops C W (i + 1) r (put tm d undef) s K) : AOpsD P ops C W i (⟨d, o, t, p, af, some (j, true)⟩ :: r) tm s K := no hd hb (by simp [hw]) h
theorem noF {j : Nat} {b : Bool} {e : Tmp} (hd : (ops[j]?).bind (·.dst) = some e) (hb : Ev tm (.tmp e) (.bool b)) (hw : b = true) (h : AOpsD P ops C W (i + 1) r (put tm d undef) s K) : AOpsD P ops C W i (⟨d, o, t, p, af, some (j, false)⟩ :: r) tm s K := no hd hb (by simp [hw]) h
theorem noTF {j : Nat} {e : Tmp} (hd : (ops[j]?).bind (·.dst) = some e) (hb : Ev tm (.tmp e) (.bool false)) (h : AOpsD P ops C W (i + 1) r (put tm d undef) s K) : AOpsD P ops C W i (⟨d, o, t, p, af, some (j, true)⟩ :: r) tm s K := no hd hb (by simp) h
theorem noFT {j : Nat} {e : Tmp} (hd : (ops[j]?).bind (·.dst) = some e) (hb : Ev tm (.tmp e) (.bool true)) (h : AOpsD P ops C W (i + 1) r (put tm d undef) s K) : AOpsD P ops C W i (⟨d, o, t, p, af, some (j, false)⟩ :: r) tm s K := no hd hb (by simp) h
theorem guardD {j : Nat} {want : Bool} {φ : Prop} {inst : Decidable φ} {e : Tmp} (hd : (ops[j]?).bind (·.dst) = some e) (hb : Ev tm (.tmp e) (.bool (decide φ)))
    (ht : decide φ = true → φ → AOpsD P ops C W i (⟨d, o, t, p, af, some (j, want)⟩ :: r) tm s K) (hf : decide φ = false → ¬ φ → AOpsD P ops C W i (⟨d, o, t, p, af, some (j, want)⟩ :: r) tm s K) : AOpsD P ops C W i (⟨d, o, t, p, af, some (j, want)⟩ :: r) tm s K := by
  by_cases h : φ
  · exact ht (decide_eq_true h) h
  · exact hf (decide_eq_false h) h
theorem guardG {j : Nat} {want b : Bool} {e : Tmp} (hd : (ops[j]?).bind (·.dst) = some e) (hb : Ev tm (.tmp e) (.bool b))
    (h : GK b want (AOpsD P ops C W i (⟨d, o, t, p, af, none⟩ :: r) tm s K) (AOpsD P ops C W (i + 1) r (put tm d undef) s K)) : AOpsD P ops C W i (⟨d, o, t, p, af, some (j, want)⟩ :: r) tm s K := by
  by_cases e : b = want
  · exact yesB hd hb e (h.1 e)
  · exact no hd hb e (h.2 (by cases b <;> cases want <;> simp_all))
end
end D

namespace S
section
variable {P : Program} {ops : Array Oper} {r : List Oper} {tm : Env} {s : AHeap} {K : Env → AHeap → Prop} {d : Option Tmp} {t : TypeId} {p : String} {af : Array Edge}

theorem nil (h : K tm s) : AOps P ops [] tm s K := h
theorem op {o : Op} (h : AOp P ⟨d, o, t, p, af, none⟩ tm s fun v s' => AOps P ops r (put tm d v) s' K) : AOps P ops (⟨d, o, t, p, af, none⟩ :: r) tm s K := h
theorem guard {op : Op} {j : Nat} {want : Bool} {b : Bool} {e : Tmp} (hd : (ops[j]?).bind (·.dst) = some e) (hb : Ev tm (.tmp e) (.bool b))
    (ht : b = want → AOps P ops (⟨d, op, t, p, af, none⟩ :: r) tm s K) (hf : b = !want → AOps P ops r (put tm d undef) s K) : AOps P ops (⟨d, op, t, p, af, some (j, want)⟩ :: r) tm s K := by
  have hy : yl ops tm j = some b := by unfold yl; rw [hd]; have := hb.eq; simp only [ev] at this; simp only [this]
  simp only [AOps, hy]
  by_cases h : b = want
  · rw [if_pos (by rw [h])]; exact ht h
  · rw [if_neg (by simpa using h)]; exact hf (by cases b <;> cases want <;> simp_all)
theorem guardTT {op : Op} {j : Nat} {e : Tmp} (hd : (ops[j]?).bind (·.dst) = some e) (hb : Ev tm (.tmp e) (.bool true)) (h : AOps P ops (⟨d, op, t, p, af, none⟩ :: r) tm s K) : AOps P ops (⟨d, op, t, p, af, some (j, true)⟩ :: r) tm s K :=
  guard hd hb (fun _ => h) (fun e => by cases e)
theorem guardFF {op : Op} {j : Nat} {e : Tmp} (hd : (ops[j]?).bind (·.dst) = some e) (hb : Ev tm (.tmp e) (.bool false)) (h : AOps P ops (⟨d, op, t, p, af, none⟩ :: r) tm s K) : AOps P ops (⟨d, op, t, p, af, some (j, false)⟩ :: r) tm s K :=
  guard hd hb (fun _ => h) (fun e => by cases e)
theorem guardTF {op : Op} {j : Nat} {e : Tmp} (hd : (ops[j]?).bind (·.dst) = some e) (hb : Ev tm (.tmp e) (.bool false)) (h : AOps P ops r (put tm d undef) s K) : AOps P ops (⟨d, op, t, p, af, some (j, true)⟩ :: r) tm s K :=
  guard hd hb (fun e => by cases e) (fun _ => h)
theorem guardFT {op : Op} {j : Nat} {e : Tmp} (hd : (ops[j]?).bind (·.dst) = some e) (hb : Ev tm (.tmp e) (.bool true)) (h : AOps P ops r (put tm d undef) s K) : AOps P ops (⟨d, op, t, p, af, some (j, false)⟩ :: r) tm s K :=
  guard hd hb (fun e => by cases e) (fun _ => h)
/-- A guard that is known by a hypothesis. -/
theorem guardY {op : Op} {j : Nat} {want b : Bool} {e : Tmp} (hd : (ops[j]?).bind (·.dst) = some e) (hb : Ev tm (.tmp e) (.bool b)) (hw : b = want) (h : AOps P ops (⟨d, op, t, p, af, none⟩ :: r) tm s K) : AOps P ops (⟨d, op, t, p, af, some (j, want)⟩ :: r) tm s K :=
  guard hd hb (fun _ => h) (fun e => by subst hw; cases b <;> cases e)
theorem guardNT {op : Op} {j : Nat} {b : Bool} {e : Tmp} (hd : (ops[j]?).bind (·.dst) = some e) (hb : Ev tm (.tmp e) (.bool b)) (hw : b = false) (h : AOps P ops r (put tm d undef) s K) : AOps P ops (⟨d, op, t, p, af, some (j, true)⟩ :: r) tm s K :=
  guard hd hb (fun e => by subst hw; cases e) (fun _ => h)
theorem guardNF {op : Op} {j : Nat} {b : Bool} {e : Tmp} (hd : (ops[j]?).bind (·.dst) = some e) (hb : Ev tm (.tmp e) (.bool b)) (hw : b = true) (h : AOps P ops r (put tm d undef) s K) : AOps P ops (⟨d, op, t, p, af, some (j, false)⟩ :: r) tm s K :=
  guard hd hb (fun e => by subst hw; cases e) (fun _ => h)
/-- A guard that is not known: both ways. -/
theorem guardD {op : Op} {j : Nat} {want : Bool} {φ : Prop} {inst : Decidable φ} {e : Tmp} (hd : (ops[j]?).bind (·.dst) = some e) (hb : Ev tm (.tmp e) (.bool (decide φ)))
    (ht : decide φ = true → φ → AOps P ops (⟨d, op, t, p, af, some (j, want)⟩ :: r) tm s K) (hf : decide φ = false → ¬ φ → AOps P ops (⟨d, op, t, p, af, some (j, want)⟩ :: r) tm s K) : AOps P ops (⟨d, op, t, p, af, some (j, want)⟩ :: r) tm s K := by
  by_cases h : φ
  · exact ht (decide_eq_true h) h
  · exact hf (decide_eq_false h) h
theorem guardB {op : Op} {j : Nat} {want b : Bool} {e : Tmp} (hd : (ops[j]?).bind (·.dst) = some e) (hb : Ev tm (.tmp e) (.bool b))
    (ht : b = true → AOps P ops (⟨d, op, t, p, af, some (j, want)⟩ :: r) tm s K) (hf : b = false → AOps P ops (⟨d, op, t, p, af, some (j, want)⟩ :: r) tm s K) : AOps P ops (⟨d, op, t, p, af, some (j, want)⟩ :: r) tm s K := by
  cases h : b
  · exact hf h
  · exact ht h
theorem guardG {op : Op} {j : Nat} {want b : Bool} {e : Tmp} (hd : (ops[j]?).bind (·.dst) = some e) (hb : Ev tm (.tmp e) (.bool b))
    (h : GK b want (AOps P ops (⟨d, op, t, p, af, none⟩ :: r) tm s K) (AOps P ops r (put tm d undef) s K)) : AOps P ops (⟨d, op, t, p, af, some (j, want)⟩ :: r) tm s K :=
  guard hd hb h.1 h.2
end
end S

namespace O
section
variable {P : Program} {tm : Env} {s : AHeap} {K : Value → AHeap → Prop} {d : Option Tmp} {t : TypeId} {p : String} {af : Array Edge} {gd : Option (Nat × Bool)}

theorem move {x : Operand} {v : Value} (hx : Ev tm x v) (h : K v s) : AOp P ⟨d, .move x, t, p, af, gd⟩ tm s K := by
  rw [← hx.eq] at h; exact h
theorem assign {x : Operand} {v : Value} (hx : Ev tm x v) (h : K v s) : AOp P ⟨d, .assign x, t, p, af, gd⟩ tm s K := by
  rw [← hx.eq] at h; exact h
theorem pick {c x y : Operand} {b : Bool} {vx vy : Value} (hc : Ev tm c (.bool b)) (hx : Ev tm x vx) (hy : Ev tm y vy) (h : K (if b = true then vx else vy) s) : AOp P ⟨d, .pick c x y, t, p, af, gd⟩ tm s K := by
  refine ⟨b, hc.eq, ?_⟩
  rw [hx.eq, hy.eq]; exact h
theorem pickT {c x y : Operand} {b : Bool} {vx : Value} (hc : Ev tm c (.bool b)) (hb : b = true) (hx : Ev tm x vx) (h : K vx s) : AOp P ⟨d, .pick c x y, t, p, af, gd⟩ tm s K := by
  subst hb
  refine ⟨true, hc.eq, ?_⟩
  rw [if_pos rfl, hx.eq]; exact h
theorem pickF {c x y : Operand} {b : Bool} {vy : Value} (hc : Ev tm c (.bool b)) (hb : b = false) (hy : Ev tm y vy) (h : K vy s) : AOp P ⟨d, .pick c x y, t, p, af, gd⟩ tm s K := by
  subst hb
  refine ⟨false, hc.eq, ?_⟩
  rw [if_neg (by simp), hy.eq]; exact h
theorem bin {op : BinOp} {x y : Operand} {ty : TypeId} {xt : TypeId} {vx vy v : Value} (hx : Ev tm x vx) (hy : Ev tm y vy) (hv : ABin P op xt x y vx vy v) (h : K v s) :
    AOp P ⟨d, .binOp op xt x y ty, t, p, af, gd⟩ tm s K := ⟨v, by rw [hx.eq, hy.eq]; exact hv, h⟩
theorem int {op : BinOp} {x y : Operand} {ty : TypeId} {xt : TypeId} {k k' : IntKind} {a b : Int} {v : Value} (hx : Ev tm x (.int k a)) (hy : Ev tm y (.int k' b)) (hv : aint op k a k' b = some v) (h : K v s) :
    AOp P ⟨d, .binOp op xt x y ty, t, p, af, gd⟩ tm s K := bin hx hy (.inl hv) h
theorem add {x y : Operand} {ty : TypeId} {xt : TypeId} {a b : Int} (hx : Ev tm x (.int .i64 a)) (hy : Ev tm y (.int .i64 b)) (hr : -9223372036854775808 ≤ a + b ∧ a + b ≤ 9223372036854775807) (h : K (.int .i64 (a + b)) s) :
    AOp P ⟨d, .binOp .add xt x y ty, t, p, af, gd⟩ tm s K := int hx hy (by simp only [aint, if_true, IntWalk.i64_in _ hr]) h
theorem sub {x y : Operand} {ty : TypeId} {xt : TypeId} {a b : Int} (hx : Ev tm x (.int .i64 a)) (hy : Ev tm y (.int .i64 b)) (hr : -9223372036854775808 ≤ a - b ∧ a - b ≤ 9223372036854775807) (h : K (.int .i64 (a - b)) s) :
    AOp P ⟨d, .binOp .sub xt x y ty, t, p, af, gd⟩ tm s K := int hx hy (by simp only [aint, if_true, IntWalk.i64_in _ hr]) h
theorem mul {x y : Operand} {ty : TypeId} {xt : TypeId} {a b : Int} (hx : Ev tm x (.int .i64 a)) (hy : Ev tm y (.int .i64 b)) (hr : -9223372036854775808 ≤ a * b ∧ a * b ≤ 9223372036854775807) (h : K (.int .i64 (a * b)) s) :
    AOp P ⟨d, .binOp .mul xt x y ty, t, p, af, gd⟩ tm s K := int hx hy (by simp only [aint, if_true, IntWalk.i64_in _ hr]) h
theorem not {x : Operand} {xt : TypeId} {b : Bool} (hx : Ev tm x (.bool b)) (h : K (.bool (!b)) s) : AOp P ⟨d, .unOp .not xt x, t, p, af, gd⟩ tm s K :=
  ⟨_, by rw [hx.eq]; rfl, h⟩
theorem ptrEq {x y : Operand} {ty xt e : TypeId} {sz by_ : Nat} {z : Value} [h1 : HasTD P xt ⟨.ptr e, sz, by_, z⟩] {a : Option Addr} (hx : Ev tm x (.pointer a)) (hy : Ev tm y (.pointer none)) (h : K (.bool a.isNone) s) :
    AOp P ⟨d, .binOp .eql xt x y ty, t, p, af, gd⟩ tm s K := bin hx hy (.inl (by simp only [abin, h1.is])) h
theorem ptrNe {x y : Operand} {ty xt e : TypeId} {sz by_ : Nat} {z : Value} [h1 : HasTD P xt ⟨.ptr e, sz, by_, z⟩] {a : Option Addr} (hx : Ev tm x (.pointer a)) (hy : Ev tm y (.pointer none)) (h : K (.bool a.isSome) s) :
    AOp P ⟨d, .binOp .neq xt x y ty, t, p, af, gd⟩ tm s K := bin hx hy (.inl (by simp only [abin, h1.is])) h
theorem ptrEqS {x y : Operand} {ty xt e : TypeId} {sz by_ : Nat} {z : Value} [h1 : HasTD P xt ⟨.ptr e, sz, by_, z⟩] {a : Addr} (hx : Ev tm x (.pointer (some a))) (hy : Ev tm y (.pointer none)) (h : K (.bool false) s) :
    AOp P ⟨d, .binOp .eql xt x y ty, t, p, af, gd⟩ tm s K := ptrEq hx hy h
theorem ptrNeS {x y : Operand} {ty xt e : TypeId} {sz by_ : Nat} {z : Value} [h1 : HasTD P xt ⟨.ptr e, sz, by_, z⟩] {a : Addr} (hx : Ev tm x (.pointer (some a))) (hy : Ev tm y (.pointer none)) (h : K (.bool true) s) :
    AOp P ⟨d, .binOp .neq xt x y ty, t, p, af, gd⟩ tm s K := ptrNe hx hy h
theorem ptrEqN {x y : Operand} {ty xt e : TypeId} {sz by_ : Nat} {z : Value} [h1 : HasTD P xt ⟨.ptr e, sz, by_, z⟩] (hx : Ev tm x (.pointer none)) (hy : Ev tm y (.pointer none)) (h : K (.bool true) s) :
    AOp P ⟨d, .binOp .eql xt x y ty, t, p, af, gd⟩ tm s K := ptrEq hx hy h
theorem ptrNeN {x y : Operand} {ty xt e : TypeId} {sz by_ : Nat} {z : Value} [h1 : HasTD P xt ⟨.ptr e, sz, by_, z⟩] (hx : Ev tm x (.pointer none)) (hy : Ev tm y (.pointer none)) (h : K (.bool false) s) :
    AOp P ⟨d, .binOp .neq xt x y ty, t, p, af, gd⟩ tm s K := ptrNe hx hy h
theorem slcEq {x y : Operand} {ty xt e : TypeId} {sz by_ : Nat} {z : Value} [h1 : HasTD P xt ⟨.slice e, sz, by_, z⟩] {a : Option Addr} {n c : Nat} (hx : Ev tm x (.slice a n c)) (hy : Ev tm y (.slice none 0 0)) (h : K (.bool a.isNone) s) :
    AOp P ⟨d, .binOp .eql xt x y ty, t, p, af, gd⟩ tm s K := bin hx hy (.inl (by simp only [abin, h1.is])) h
theorem slcNe {x y : Operand} {ty xt e : TypeId} {sz by_ : Nat} {z : Value} [h1 : HasTD P xt ⟨.slice e, sz, by_, z⟩] {a : Option Addr} {n c : Nat} (hx : Ev tm x (.slice a n c)) (hy : Ev tm y (.slice none 0 0)) (h : K (.bool a.isSome) s) :
    AOp P ⟨d, .binOp .neq xt x y ty, t, p, af, gd⟩ tm s K := bin hx hy (.inl (by simp only [abin, h1.is])) h
theorem boolEq {x y : Operand} {ty xt : TypeId} {sz by_ : Nat} {z : Value} [h1 : HasTD P xt ⟨.bool, sz, by_, z⟩] {a b : Bool} (hx : Ev tm x (.bool a)) (hy : Ev tm y (.bool b)) (h : K (.bool (a == b)) s) :
    AOp P ⟨d, .binOp .eql xt x y ty, t, p, af, gd⟩ tm s K := bin hx hy (.inl (by simp only [abin, h1.is])) h
theorem boolNe {x y : Operand} {ty xt : TypeId} {sz by_ : Nat} {z : Value} [h1 : HasTD P xt ⟨.bool, sz, by_, z⟩] {a b : Bool} (hx : Ev tm x (.bool a)) (hy : Ev tm y (.bool b)) (h : K (.bool (!(a == b))) s) :
    AOp P ⟨d, .binOp .neq xt x y ty, t, p, af, gd⟩ tm s K := bin hx hy (.inl (by simp only [abin, h1.is])) h
theorem strEq {x y : Operand} {ty xt : TypeId} {a b : ByteArray} (hx : Ev tm x (.string a)) (hy : Ev tm y (.string b)) (h : K (.bool (decide (a.data.toList = b.data.toList))) s) :
    AOp P ⟨d, .binOp .eql xt x y ty, t, p, af, gd⟩ tm s K := bin hx hy (.inl rfl) h
theorem strNe {x y : Operand} {ty xt : TypeId} {a b : ByteArray} (hx : Ev tm x (.string a)) (hy : Ev tm y (.string b)) (h : K (.bool (!decide (a.data.toList = b.data.toList))) s) :
    AOp P ⟨d, .binOp .neq xt x y ty, t, p, af, gd⟩ tm s K := bin hx hy (.inl rfl) h
theorem pickS {c x y : Operand} {b : Bool} {v : Value} (hc : Ev tm c (.bool b)) (hx : Ev tm x v) (hy : Ev tm y v) (h : K v s) : AOp P ⟨d, .pick c x y, t, p, af, gd⟩ tm s K :=
  pick hc hx hy (by cases b <;> exact h)
theorem un {op : UnOp} {x : Operand} {xt : TypeId} {v v' : Value} (hx : Ev tm x v) (hv : aun op v = some v') (h : K v' s) : AOp P ⟨d, .unOp op xt x, t, p, af, gd⟩ tm s K :=
  ⟨_, by rw [hx.eq]; exact hv, h⟩
theorem conv {x : Operand} {src dst : TypeId} {v v' : Value} (hx : Ev tm x v) (hv : aconv P src dst s v = some v') (h : K v' s) : AOp P ⟨d, .convert src dst x, t, p, af, gd⟩ tm s K :=
  ⟨_, by rw [hx.eq]; exact hv, h⟩
theorem convInt {x : Operand} {src dst : TypeId} {k k0 k1 : IntKind} {sz by_ : Nat} {z : Value} {sz' by' : Nat} {z' : Value} {a : Int} [h1 : HasTD P src ⟨.int k0, sz, by_, z⟩] [h2 : HasTD P dst ⟨.int k1, sz', by', z'⟩] (hx : Ev tm x (.int k a))
    (h : K (.int k1 (k1.wrap a)) s) : AOp P ⟨d, .convert src dst x, t, p, af, gd⟩ tm s K :=
  ⟨_, by rw [hx.eq]; simp only [aconv, h1.is, h2.is], h⟩
theorem extract {x : Operand} {i : Nat} {l : List Value} {v : Value} (hx : Ev tm x (.tuple l.toArray)) (hv : l[i]? = some v) (h : K v s) : AOp P ⟨d, .extract x i, t, p, af, gd⟩ tm s K :=
  ⟨v, by rw [hx.eq]; exact hv, h⟩
theorem nilCheck {x : Operand} {a : Addr} (hx : Ev tm x (.pointer (some a))) (h : K (.pointer (some a)) s) : AOp P ⟨d, .nilCheck x, t, p, af, gd⟩ tm s K := by
  simp only [AOp, hx.eq]; exact h
theorem nilCheckF {x : Operand} {f : FuncId} {fs cs : Array Value} (hx : Ev tm x (.func (.func f) fs cs)) (h : K (.func (.func f) fs cs) s) : AOp P ⟨d, .nilCheck x, t, p, af, gd⟩ tm s K := by
  simp only [AOp, hx.eq]; exact h
theorem fieldAddr {x : Operand} {xt : TypeId} {f id off : Nat} {fs : List (Nat × TypeId)} {sz by_ : Nat} {z : Value} [h1 : HasTD P xt ⟨.struct fs, sz, by_, z⟩] {o : Nat} {ft : TypeId} {tf : TD} (hx : Ev tm x (.pointer (some ⟨id, off, none⟩)))
    (hf : fs[f]? = some (o, ft)) (h2 : HasTD P ft tf) (hz : tf.size ≠ 0) (h : K (.pointer (some ⟨id, off + o, none⟩)) s) : AOp P ⟨d, .fieldAddr xt x f, t, p, af, gd⟩ tm s K :=
  ⟨_, by rw [hx.eq]; simp only [afield, h1.is, hf, h2.is, if_pos hz], h⟩
theorem load {x : Operand} {xt : TypeId} {td : TD} [h1 : HasTD P xt td] {id off sz : Nat} {rw : Bool} {c : List Value} {v : Value} (hx : Ev tm x (.pointer (some ⟨id, off, none⟩))) (hs : At s id (.cells rw sz c)) (ha : td.agg = false)
    (hv : c[off]? = some v) (h : K v s) : AOp P ⟨d, .load xt x, t, p, af, gd⟩ tm s K :=
  ⟨v, by rw [hx.eq]; unfold At at hs; simp [aload, h1.is, hs, ha, hv], h⟩
theorem loadAgg {x : Operand} {xt : TypeId} {td : TD} [h1 : HasTD P xt td] {id off sz : Nat} {rw : Bool} {c l : List Value} (hx : Ev tm x (.pointer (some ⟨id, off, none⟩))) (hs : At s id (.cells rw sz c)) (ha : td.agg = true)
    (hn : off + td.size ≤ c.length) (hl : (c.drop off).take td.size = l) (h : K (.agg l.toArray) s) : AOp P ⟨d, .load xt x, t, p, af, gd⟩ tm s K :=
  ⟨.agg l.toArray, by rw [hx.eq]; unfold At at hs; simp [aload, h1.is, hs, ha, hn, hl], h⟩
theorem store {x y : Operand} {xt : TypeId} {td : TD} [h1 : HasTD P xt td] {id off sz : Nat} {c : List Value} {v : Value} (hx : Ev tm x (.pointer (some ⟨id, off, none⟩))) (hy : Ev tm y v) (hs : At s id (.cells true sz c)) (hv : v.cells = #[v]) (hz : td.size = 1)
    (hn : notTup v = true) (ho : off < c.length) (h : K undef (s.set id (.cells true sz (c.set off v)))) : AOp P ⟨d, .store xt x y, t, p, af, gd⟩ tm s K :=
  ⟨_, by rw [hx.eq, hy.eq]; unfold At at hs; simp only [astore, h1.is, hs]; rw [if_pos ⟨by rw [hv, hz]; rfl, by rw [hz]; omega, hn⟩], by rw [hv]; exact h⟩
theorem storeAgg {x y : Operand} {xt : TypeId} {td : TD} [h1 : HasTD P xt td] {id off sz : Nat} {c l : List Value} (hx : Ev tm x (.pointer (some ⟨id, off, none⟩))) (hy : Ev tm y (.agg l.toArray)) (hs : At s id (.cells true sz c)) (hz : l.length = td.size)
    (ho : off + td.size ≤ c.length) (h : K undef (s.set id (.cells true sz (splice c off l)))) : AOp P ⟨d, .store xt x y, t, p, af, gd⟩ tm s K :=
  ⟨_, by rw [hx.eq, hy.eq]; unfold At at hs; simp only [astore, h1.is, hs]; rw [if_pos ⟨by simpa [Value.cells] using hz, ho, rfl⟩]; rfl, h⟩
theorem index {x y : Operand} {xt e : TypeId} {sz by_ : Nat} {z : Value} {ke : TK} {es eb : Nat} {ez : Value} [h1 : HasTD P xt ⟨.slice e, sz, by_, z⟩] [h2 : HasTD P e ⟨ke, es, eb, ez⟩] {id off : Nat} {sp : Option Nat} {n c : Nat} {k : IntKind} {i : Int} (hx : Ev tm x (.slice (some ⟨id, off, sp⟩) n c)) (hy : Ev tm y (.int k i)) (hi : 0 ≤ i ∧ i < n)
    (h : K (.pointer (some ⟨id, off + i.toNat * es, none⟩)) s) : AOp P ⟨d, .indexAddr xt x y, t, p, af, gd⟩ tm s K :=
  ⟨_, by rw [hx.eq, hy.eq]; simp only [aindexAddr, h1.is, h2.is, if_pos hi], h⟩
theorem index01 {x y : Operand} {xt e : TypeId} {sz by_ : Nat} {z : Value} {ke : TK} {eb : Nat} {ez : Value} [h1 : HasTD P xt ⟨.slice e, sz, by_, z⟩] [h2 : HasTD P e ⟨ke, 1, eb, ez⟩] {id : Nat} {sp : Option Nat} {n c : Nat} {k : IntKind} {i : Int} (hx : Ev tm x (.slice (some ⟨id, 0, sp⟩) n c)) (hy : Ev tm y (.int k i)) (hi : 0 ≤ i ∧ i < n)
    (h : K (.pointer (some ⟨id, i.toNat, none⟩)) s) : AOp P ⟨d, .indexAddr xt x y, t, p, af, gd⟩ tm s K :=
  index hx hy hi (by rw [Nat.zero_add, Nat.mul_one]; exact h)
theorem index0 {x y : Operand} {xt e : TypeId} {sz by_ : Nat} {z : Value} {ke : TK} {es eb : Nat} {ez : Value} [h1 : HasTD P xt ⟨.slice e, sz, by_, z⟩] [h2 : HasTD P e ⟨ke, es, eb, ez⟩] {id : Nat} {sp : Option Nat} {n c : Nat} {k : IntKind} {i : Int} (hx : Ev tm x (.slice (some ⟨id, 0, sp⟩) n c)) (hy : Ev tm y (.int k i)) (hi : 0 ≤ i ∧ i < n)
    (h : K (.pointer (some ⟨id, i.toNat * es, none⟩)) s) : AOp P ⟨d, .indexAddr xt x y, t, p, af, gd⟩ tm s K :=
  index hx hy hi (by rw [Nat.zero_add]; exact h)
theorem indexArr {x y : Operand} {xt e : TypeId} {m : Nat} {sz by_ : Nat} {z : Value} {ke : TK} {es eb : Nat} {ez : Value} [h1 : HasTD P xt ⟨.array m e, sz, by_, z⟩] [h2 : HasTD P e ⟨ke, es, eb, ez⟩] {id off : Nat} {k : IntKind} {i : Int} (hx : Ev tm x (.pointer (some ⟨id, off, none⟩))) (hy : Ev tm y (.int k i)) (hi : 0 ≤ i ∧ i < m)
    (h : K (.pointer (some ⟨id, off + i.toNat * es, none⟩)) s) : AOp P ⟨d, .indexAddr xt x y, t, p, af, gd⟩ tm s K :=
  ⟨_, by rw [hx.eq, hy.eq]; simp only [aindexAddr, h1.is, h2.is, if_pos hi], h⟩
theorem fieldV {x : Operand} {xt : TypeId} {f : Nat} {v v' : Value} (hx : Ev tm x v) (hv : afieldV P xt v f = some v') (h : K v' s) : AOp P ⟨d, .field xt x f, t, p, af, gd⟩ tm s K := ⟨v', by rw [hx.eq]; exact hv, h⟩
theorem indexV {x y : Operand} {xt : TypeId} {v vy v' : Value} (hx : Ev tm x v) (hy : Ev tm y vy) (hv : aindexV P xt v vy = some v') (h : K v' s) : AOp P ⟨d, .index xt x y, t, p, af, gd⟩ tm s K := ⟨v', by rw [hx.eq, hy.eq]; exact hv, h⟩
theorem slice {x : Operand} {xt : TypeId} {lo hi mx : Option Operand} {v v' : Value} {vl vh vm : Option Value} (hx : Ev tm x v) (h1 : EvO tm lo vl) (h2 : EvO tm hi vh) (h3 : EvO tm mx vm) (hv : aslice P xt s v vl vh vm = some v') (h : K v' s) :
    AOp P ⟨d, .slice xt x lo hi mx, t, p, af, gd⟩ tm s K := ⟨v', by rw [hx.eq, h1.eq, h2.eq, h3.eq]; exact hv, h⟩
theorem box (id : Nat) {x : Operand} {e : TypeId} {v : Value} (hx : Ev tm x v) (hid : Free s id) (hn : notTup v = true) (h : K (.pointer (some ⟨id, 0, none⟩)) (s.set id (.cells true 1 v.cells.toList))) :
    AOp P ⟨d, .box e x, t, p, af, gd⟩ tm s K := ⟨id, hid, by rw [hx.eq]; exact hn, by rw [hx.eq]; exact h⟩
theorem alloc (id : Nat) {e : TypeId} {td : TD} [h1 : HasTD P e td] (hid : Free s id) (hp : plB td.zero = true) (h : K (.pointer (some ⟨id, 0, none⟩)) (s.set id (.cells true 1 td.zero.cells.toList))) :
    AOp P ⟨d, .alloc e, t, p, af, gd⟩ tm s K := ⟨id, td, h1.is, hid, hp, h⟩
theorem build {xt : TypeId} {parts : Array (Nat × Operand)} {l : List (Nat × Value)} {v : Value} (hp : EvP tm parts.toList l) (hv : abuild P xt l = some v) (h : K v s) : AOp P ⟨d, .build xt parts, t, p, af, gd⟩ tm s K :=
  ⟨v, by rw [hp.eq]; exact hv, h⟩
theorem buildSlice (id : Nat) {xt : TypeId} {n : Nat} {parts : Array (Nat × Operand)} {l : List (Nat × Value)} {e : TypeId} {sz by_ : Nat} {z : Value} {te : TD} [h1 : HasTD P xt ⟨.slice e, sz, by_, z⟩] [h2 : HasTD P e te] {c : List Value} (hp : EvP tm parts.toList l) (hid : Free s id)
    (hz : te.zero.cells.size = te.size ∧ n * te.size ≤ 16777216 ∧ plB te.zero = true) (hc : afill (fun i => some (i * te.size, te.size)) (zrep n te.zero.cells.toList) l = some c)
    (h : K (.slice (some ⟨id, 0, none⟩) n n) (s.set id (.cells true te.size c))) : AOp P ⟨d, .buildSlice xt n parts, t, p, af, gd⟩ tm s K :=
  ⟨id, _, _, by rw [hp.eq]; simp only [abuildSlice, h1.is, h2.is]; rw [if_pos ⟨hz.1, hz.2.1, hz.2.2, hid⟩, hc], h⟩
theorem build1 (id : Nat) {xt e : TypeId} {sz by_ eb : Nat} {z z1 v : Value} {ke : TK} {x : Operand} [h1 : HasTD P xt ⟨.slice e, sz, by_, z⟩] [h2 : HasTD P e ⟨ke, 1, eb, z1⟩] (hx : Ev tm x v) (hv : v.cells.toList = [v] ∧ notTup v = true) (hz : z1.cells.size = 1 ∧ plB z1 = true) (hid : Free s id)
    (h : K (.slice (some ⟨id, 0, none⟩) 1 1) (s.set id (.cells true 1 [v]))) : AOp P ⟨d, .buildSlice xt 1 #[(0, x)], t, p, af, gd⟩ tm s K := by
  refine buildSlice id (te := ⟨ke, 1, eb, z1⟩) (l := [(0, v)]) (c := [v]) ?_ hid ⟨hz.1, by show 1 * 1 ≤ _; omega, hz.2⟩ ?_ h
  · exact EvP.cons hx EvP.nil
  · obtain ⟨a, ha⟩ : ∃ a, z1.cells.toList = [a] := by
      have : z1.cells.toList.length = 1 := by simpa using hz.1
      match e : z1.cells.toList, this with
      | [a], _ => exact ⟨a, rfl⟩
    show afill _ (zrep 1 z1.cells.toList) [(0, v)] = _
    rw [ha]
    have hs : v.cells.size = 1 := by rw [← Array.length_toList, hv.1]; rfl
    simp [afill, zrep, splice, hv.1, hv.2, hs]
theorem build0 (id : Nat) {xt e : TypeId} {sz by_ : Nat} {z : Value} {te : TD} [h1 : HasTD P xt ⟨.slice e, sz, by_, z⟩] [h2 : HasTD P e te] (hz : te.zero.cells.size = te.size ∧ plB te.zero = true) (hid : Free s id)
    (h : K (.slice (some ⟨id, 0, none⟩) 0 0) (s.set id (.cells true te.size []))) : AOp P ⟨d, .buildSlice xt 0 #[], t, p, af, gd⟩ tm s K := by
  refine buildSlice id (te := te) (l := []) (c := []) EvP.nil hid ⟨hz.1, by omega, hz.2⟩ ?_ h
  simp [afill, zrep]
theorem len {x : Operand} {xt e : TypeId} {sz by_ : Nat} {z : Value} [h1 : HasTD P xt ⟨.slice e, sz, by_, z⟩] {a : Option Addr} {n c : Nat} (hx : Ev tm x (.slice a n c)) (h : K (.int .i64 n) s) :
    AOp P ⟨d, .call ⟨.builtin .len, #[x], #[xt]⟩, t, p, af, gd⟩ tm s K := ⟨_, by rw [hx.eq]; simp only [alen, h1.is], h⟩
theorem lenStr {x : Operand} {xt : TypeId} {sz by_ : Nat} {z : Value} [h1 : HasTD P xt ⟨.str, sz, by_, z⟩] {b : ByteArray} (hx : Ev tm x (.string b)) (h : K (.int .i64 b.size) s) :
    AOp P ⟨d, .call ⟨.builtin .len, #[x], #[xt]⟩, t, p, af, gd⟩ tm s K := ⟨_, by rw [hx.eq]; simp only [alen, h1.is], h⟩
theorem append (id : Nat) {x y : Operand} {t1 t2 : TypeId} {vx vy v : Value} {s' : AHeap} (hx : Ev tm x vx) (hy : Ev tm y vy) (hv : aappend P t1 t2 s vx vy id = some (v, s')) (h : K v s') :
    AOp P ⟨d, .call ⟨.builtin .append, #[x, y], #[t1, t2]⟩, t, p, af, gd⟩ tm s K := ⟨id, v, s', by rw [hx.eq, hy.eq]; exact hv, h⟩
theorem min2 {x y : Operand} {ts : Array TypeId} {k k' : IntKind} {a b : Int} (hx : Ev tm x (.int k a)) (hy : Ev tm y (.int k' b)) (h : K (.int k (if b < a then b else a)) s) :
    AOp P ⟨d, .call ⟨.builtin .min, #[x, y], ts⟩, t, p, af, gd⟩ tm s K := by
  refine ⟨_, ?_, h⟩
  show amm false [ev tm x, ev tm y] = _
  rw [hx.eq, hy.eq]; rfl
theorem max2 {x y : Operand} {ts : Array TypeId} {k k' : IntKind} {a b : Int} (hx : Ev tm x (.int k a)) (hy : Ev tm y (.int k' b)) (h : K (.int k (if b > a then b else a)) s) :
    AOp P ⟨d, .call ⟨.builtin .max, #[x, y], ts⟩, t, p, af, gd⟩ tm s K := by
  refine ⟨_, ?_, h⟩
  show amm true [ev tm x, ev tm y] = _
  rw [hx.eq, hy.eq]; rfl
theorem call {f : Operand} {g : FuncId} {first captured : Array Value} {args : Array Operand} {ts : Array TypeId} {l : List Value} {v : Value} {s' : AHeap} (hf : Ev tm f (.func (.func g) first captured)) (ha : Evs tm args.toList l)
    (hc : ACall P g (first.toList ++ l ++ captured.toList) s v s') (h : K v s') : AOp P ⟨d, .call ⟨.value f, args, ts⟩, t, p, af, gd⟩ tm s K := by
  simp only [AOp, hf.eq, ha.eq]; exact ⟨_, hc.toE, fun v' s1 e => by obtain ⟨rfl, rfl⟩ := e; exact h⟩
theorem callE {f : Operand} {g : FuncId} {first captured : Array Value} {args : Array Operand} {ts : Array TypeId} {l : List Value} {Q : Value → AHeap → Prop} (hf : Ev tm f (.func (.func g) first captured)) (ha : Evs tm args.toList l)
    (hc : ACallE P g (first.toList ++ l ++ captured.toList) s Q) (h : ∀ v s', Q v s' → K v s') : AOp P ⟨d, .call ⟨.value f, args, ts⟩, t, p, af, gd⟩ tm s K := by
  simp only [AOp, hf.eq, ha.eq]; exact ⟨Q, hc, h⟩
theorem callFE {g : FuncId} {args : Array Operand} {ts : Array TypeId} {l : List Value} {Q : Value → AHeap → Prop} (ha : Evs tm args.toList l)
    (hc : ACallE P g l s Q) (h : ∀ v s', Q v s' → K v s') : AOp P ⟨d, .call ⟨.value (.func g), args, ts⟩, t, p, af, gd⟩ tm s K :=
  callE .func ha (by simpa using hc) h
theorem callF {g : FuncId} {args : Array Operand} {ts : Array TypeId} {l : List Value} {v : Value} {s' : AHeap} (ha : Evs tm args.toList l)
    (hc : ACall P g l s v s') (h : K v s') : AOp P ⟨d, .call ⟨.value (.func g), args, ts⟩, t, p, af, gd⟩ tm s K :=
  call .func ha (by simpa using hc) h
theorem makeFunc {f : FuncId} {first captured : Array Operand} {l1 l2 : List Value} (h1 : Evs tm first.toList l1) (h2 : Evs tm captured.toList l2) (a1 : l1.all isAt = true) (a2 : l2.all isAt = true)
    (h : K (.func (.func f) l1.toArray l2.toArray) s) : AOp P ⟨d, .makeFunc (.func f) first captured, t, p, af, gd⟩ tm s K := by
  have e1 : first.map (ev tm) = l1.toArray := by apply Array.ext'; simpa using h1.eq
  have e2 : captured.map (ev tm) = l2.toArray := by apply Array.ext'; simpa using h2.eq
  refine ⟨?_, ?_, ?_⟩
  · rw [← h1.eq, List.all_map] at a1; exact a1
  · rw [← h2.eq, List.all_map] at a2; exact a2
  · rw [e1, e2]; exact h
theorem makeSlice (id : Nat) {x y : Operand} {xt : TypeId} {vx vy v : Value} {s' : AHeap} (hx : Ev tm x vx) (hy : Ev tm y vy) (hv : amakeSlice P xt s vx vy id = some (v, s')) (h : K v s') :
    AOp P ⟨d, .makeSlice xt x y, t, p, af, gd⟩ tm s K := ⟨id, v, s', by rw [hx.eq, hy.eq]; exact hv, h⟩

/-! the same rules, with their side conditions by kind -/
theorem pickG {c x y : Operand} {b : Bool} (hc : Ev tm c (.bool b)) (h : GK b true (PK tm x K s) (PK tm y K s)) : AOp P ⟨d, .pick c x y, t, p, af, gd⟩ tm s K := by
  cases b
  · refine ⟨false, hc.eq, ?_⟩; rw [if_neg (by simp)]; exact h.2 rfl
  · refine ⟨true, hc.eq, ?_⟩; rw [if_pos rfl]; exact h.1 rfl
theorem addG {x y : Operand} {ty : TypeId} {xt : TypeId} {sz by_ : Nat} {z : Value} [_h1 : HasTD P xt ⟨.int .i64, sz, by_, z⟩] {a b : Int} (hx : Ev tm x (.int .i64 a)) (hy : Ev tm y (.int .i64 b)) (hr : Rg (-9223372036854775808 ≤ a + b ∧ a + b ≤ 9223372036854775807)) (h : K (.int .i64 (a + b)) s) :
    AOp P ⟨d, .binOp .add xt x y ty, t, p, af, gd⟩ tm s K := add hx hy hr h
theorem subG {x y : Operand} {ty : TypeId} {xt : TypeId} {sz by_ : Nat} {z : Value} [_h1 : HasTD P xt ⟨.int .i64, sz, by_, z⟩] {a b : Int} (hx : Ev tm x (.int .i64 a)) (hy : Ev tm y (.int .i64 b)) (hr : Rg (-9223372036854775808 ≤ a - b ∧ a - b ≤ 9223372036854775807)) (h : K (.int .i64 (a - b)) s) :
    AOp P ⟨d, .binOp .sub xt x y ty, t, p, af, gd⟩ tm s K := sub hx hy hr h
theorem mulG {x y : Operand} {ty : TypeId} {xt : TypeId} {sz by_ : Nat} {z : Value} [_h1 : HasTD P xt ⟨.int .i64, sz, by_, z⟩] {a b : Int} (hx : Ev tm x (.int .i64 a)) (hy : Ev tm y (.int .i64 b)) (hr : Rg (-9223372036854775808 ≤ a * b ∧ a * b ≤ 9223372036854775807)) (h : K (.int .i64 (a * b)) s) :
    AOp P ⟨d, .binOp .mul xt x y ty, t, p, af, gd⟩ tm s K := mul hx hy hr h
theorem intG {op : BinOp} {x y : Operand} {ty : TypeId} {xt : TypeId} {kk : IntKind} {sz by_ : Nat} {z : Value} [_h1 : HasTD P xt ⟨.int kk, sz, by_, z⟩] {k k' : IntKind} {a b : Int} {v : Value} (hx : Ev tm x (.int k a)) (hy : Ev tm y (.int k' b)) (hv : aint op k a k' b = some v) (h : K v s) :
    AOp P ⟨d, .binOp op xt x y ty, t, p, af, gd⟩ tm s K := int hx hy hv h
theorem loadAggG {x : Operand} {xt : TypeId} {td : TD} [h1 : HasTD P xt td] {id off sz : Nat} {rw : Bool} {c l : List Value} (ha : td.agg = true) (hx : Ev tm x (.pointer (some ⟨id, off, none⟩))) (hs : At s id (.cells rw sz c))
    (hl : GetA c off td.size l) (h : K (.agg l.toArray) s) : AOp P ⟨d, .load xt x, t, p, af, gd⟩ tm s K := loadAgg hx hs ha hl.1 hl.2 h
theorem loadG {x : Operand} {xt : TypeId} {td : TD} [h1 : HasTD P xt td] {id off sz : Nat} {rw : Bool} {c : List Value} {v : Value} (ha : td.agg = false) (hx : Ev tm x (.pointer (some ⟨id, off, none⟩))) (hs : At s id (.cells rw sz c))
    (hv : Get c off v) (h : K v s) : AOp P ⟨d, .load xt x, t, p, af, gd⟩ tm s K := load hx hs ha hv h
theorem storeG {x y : Operand} {xt : TypeId} {td : TD} [h1 : HasTD P xt td] {id off sz : Nat} {c : List Value} {v : Value} (hz : td.size = 1) (hx : Ev tm x (.pointer (some ⟨id, off, none⟩))) (hy : Ev tm y v) (hs : At s id (.cells true sz c)) (hv : v.cells = #[v])
    (hn : notTup v = true) (ho : Lt off c.length) (h : K undef (s.set id (.cells true sz (c.set off v)))) : AOp P ⟨d, .store xt x y, t, p, af, gd⟩ tm s K := store hx hy hs hv hz hn ho h
theorem indexG {x y : Operand} {xt e : TypeId} {sz by_ : Nat} {z : Value} {ke : TK} {es eb : Nat} {ez : Value} [h1 : HasTD P xt ⟨.slice e, sz, by_, z⟩] [h2 : HasTD P e ⟨ke, es, eb, ez⟩] {id off : Nat} {sp : Option Nat} {n c : Nat} {k : IntKind} {i : Int} (hx : Ev tm x (.slice (some ⟨id, off, sp⟩) n c)) (hy : Ev tm y (.int k i)) (hi : Rg (0 ≤ i ∧ i < n))
    (h : IK off es i fun o => K (.pointer (some ⟨id, o, none⟩)) s) : AOp P ⟨d, .indexAddr xt x y, t, p, af, gd⟩ tm s K := index hx hy hi h
theorem indexArrG {x y : Operand} {xt e : TypeId} {m : Nat} {sz by_ : Nat} {z : Value} {ke : TK} {es eb : Nat} {ez : Value} [h1 : HasTD P xt ⟨.array m e, sz, by_, z⟩] [h2 : HasTD P e ⟨ke, es, eb, ez⟩] {id off : Nat} {k : IntKind} {i : Int} (hx : Ev tm x (.pointer (some ⟨id, off, none⟩))) (hy : Ev tm y (.int k i)) (hi : Rg (0 ≤ i ∧ i < m))
    (h : IK off es i fun o => K (.pointer (some ⟨id, o, none⟩)) s) : AOp P ⟨d, .indexAddr xt x y, t, p, af, gd⟩ tm s K := indexArr hx hy hi h

/-! append, by what is known of the room -/
theorem appendNil (id : Nat) {x y : Operand} {t1 t2 e : TypeId} {s1 b1 : Nat} {z1 : Value} {ke : TK} {es eb : Nat} {ez : Value} {k2 : TK} {s2 b2 : Nat} {z2 : Value} [h1 : HasTD P t1 ⟨.slice e, s1, b1, z1⟩] [he : HasTD P e ⟨ke, es, eb, ez⟩] [h2 : HasTD P t2 ⟨k2, s2, b2, z2⟩]
    {n0 c0 m : Nat} {vy : Value} {xs : List Value} (hx : Ev tm x (.slice none n0 c0)) (hy : Ev tm y vy) (hs : Src s es vy m xs) (hk : srcOk k2 = true) (hm : m ≠ 0) (hl : xs.length = m * es) (hz : ez.cells.size = es ∧ eb ≠ 0) (hb : m * eb ≤ 140737488355328) (hid : Free s id)
    (h : K (.slice (some ⟨id, 0, none⟩) m m) (s.set id (.cells true es xs))) : AOp P ⟨d, .call ⟨.builtin .append, #[x, y], #[t1, t2]⟩, t, p, af, gd⟩ tm s K :=
  append id hx hy (by unfold Src at hs; unfold Free at hid; simp only [aappend, h1.is, he.is, h2.is, hs, hk, if_true, if_neg hm]; rw [if_pos ⟨hz.1, hz.2, hb, hl, hid⟩]) h
theorem appendMove (id : Nat) {x y : Operand} {t1 t2 e : TypeId} {s1 b1 : Nat} {z1 : Value} {ke : TK} {es eb : Nat} {ez : Value} {k2 : TK} {s2 b2 : Nat} {z2 : Value} [h1 : HasTD P t1 ⟨.slice e, s1, b1, z1⟩] [he : HasTD P e ⟨ke, es, eb, ez⟩] [h2 : HasTD P t2 ⟨k2, s2, b2, z2⟩]
    {a off n c m : Nat} {vy : Value} {cs xs old : List Value} (hx : Ev tm x (.slice (some ⟨a, off, none⟩) n c)) (hy : Ev tm y vy) (hs : Src s es vy m xs) (ha : At s a (.cells true es cs)) (hk : srcOk k2 = true) (hm : m ≠ 0) (hr : ¬ n + m ≤ c) (hl : xs.length = m * es) (hz : ez.cells.size = es ∧ eb ≠ 0) (hb : (n + m) * eb ≤ 140737488355328) (hid : Free s id)
    (ho : off + n * es ≤ cs.length) (hold : (cs.drop off).take (n * es) = old)
    (h : K (.slice (some ⟨id, 0, none⟩) (n + m) (n + m)) ((s.set a .dead).set id (.cells true es (old ++ xs)))) : AOp P ⟨d, .call ⟨.builtin .append, #[x, y], #[t1, t2]⟩, t, p, af, gd⟩ tm s K := by
  subst hold
  exact append id hx hy (by unfold Src at hs; unfold Free at hid; unfold At at ha; simp only [aappend, h1.is, he.is, h2.is, hs, hk, if_true, if_neg hm, if_neg hr]; rw [if_pos ⟨hz.1, hz.2, hb, hl, hid⟩]; simp [ha, ho]) h
theorem appendRoom {x y : Operand} {t1 t2 e : TypeId} {s1 b1 : Nat} {z1 : Value} {ke : TK} {es eb : Nat} {ez : Value} {k2 : TK} {s2 b2 : Nat} {z2 : Value} [h1 : HasTD P t1 ⟨.slice e, s1, b1, z1⟩] [he : HasTD P e ⟨ke, es, eb, ez⟩] [h2 : HasTD P t2 ⟨k2, s2, b2, z2⟩]
    {a off n c m : Nat} {sp : Option Nat} {vy : Value} {cs xs : List Value} (hx : Ev tm x (.slice (some ⟨a, off, sp⟩) n c)) (hy : Ev tm y vy) (hs : Src s es vy m xs) (ha : At s a (.cells true es cs)) (hk : srcOk k2 = true) (hm : m ≠ 0) (hr : n + m ≤ c) (hl : xs.length = m * es)
    (ho : off + (n + m) * es ≤ cs.length)
    (h : K (.slice (some ⟨a, off, sp⟩) (n + m) c) (s.set a (.cells true es (splice cs (off + n * es) xs)))) : AOp P ⟨d, .call ⟨.builtin .append, #[x, y], #[t1, t2]⟩, t, p, af, gd⟩ tm s K :=
  append 0 hx hy (by unfold Src at hs; unfold At at ha; simp only [aappend, h1.is, he.is, h2.is, hs, hk, if_true, if_neg hm, if_pos hr, ha]; rw [if_pos ⟨trivial, ho, hl⟩]) h
theorem appendFull (id : Nat) {x y : Operand} {t1 t2 e : TypeId} {s1 b1 : Nat} {z1 : Value} {ke : TK} {es eb : Nat} {ez : Value} {k2 : TK} {s2 b2 : Nat} {z2 : Value} [h1 : HasTD P t1 ⟨.slice e, s1, b1, z1⟩] [he : HasTD P e ⟨ke, es, eb, ez⟩] [h2 : HasTD P t2 ⟨k2, s2, b2, z2⟩]
    {a off n c m q : Nat} {vy : Value} {xs old : List Value} (hx : Ev tm x (.slice (some ⟨a, off, some q⟩) n c)) (hy : Ev tm y vy) (hs : Src s es vy m xs) (ho : Src s es (.slice (some ⟨a, off, some q⟩) n c) n old) (hk : srcOk k2 = true) (hm : m ≠ 0) (hr : ¬ n + m ≤ c) (hl : xs.length = m * es) (hl2 : old.length = n * es) (hz : ez.cells.size = es ∧ eb ≠ 0) (hb : (n + m) * eb ≤ 140737488355328) (hid : Free s id)
    (h : K (.slice (some ⟨id, 0, none⟩) (n + m) (n + m)) (s.set id (.cells true es (old ++ xs)))) : AOp P ⟨d, .call ⟨.builtin .append, #[x, y], #[t1, t2]⟩, t, p, af, gd⟩ tm s K :=
  append id hx hy (by unfold Src at hs ho; unfold Free at hid; simp only [aappend, h1.is, he.is, h2.is, hs, hk, if_true, if_neg hm, if_neg hr]; rw [if_pos ⟨hz.1, hz.2, hb, hl, hid⟩]; simp [ho, hl2]) h
theorem appendNone {x y : Operand} {t1 t2 e : TypeId} {s1 b1 : Nat} {z1 : Value} {te : TD} {k2 : TK} {s2 b2 : Nat} {z2 : Value} [h1 : HasTD P t1 ⟨.slice e, s1, b1, z1⟩] [he : HasTD P e te] [h2 : HasTD P t2 ⟨k2, s2, b2, z2⟩]
    {a : Addr} {n c : Nat} {vy : Value} {xs : List Value} (hx : Ev tm x (.slice (some a) n c)) (hy : Ev tm y vy) (hs : Src s te.size vy 0 xs) (hk : srcOk k2 = true)
    (h : K (.slice (some a) n c) s) : AOp P ⟨d, .call ⟨.builtin .append, #[x, y], #[t1, t2]⟩, t, p, af, gd⟩ tm s K :=
  append 0 hx hy (by unfold Src at hs; simp only [aappend, h1.is, he.is, h2.is, hs, hk, if_true]) h
theorem appendNoneN {x y : Operand} {t1 t2 e : TypeId} {s1 b1 : Nat} {z1 : Value} {te : TD} {k2 : TK} {s2 b2 : Nat} {z2 : Value} [h1 : HasTD P t1 ⟨.slice e, s1, b1, z1⟩] [he : HasTD P e te] [h2 : HasTD P t2 ⟨k2, s2, b2, z2⟩]
    {n c : Nat} {vy : Value} {xs : List Value} (hx : Ev tm x (.slice none n c)) (hy : Ev tm y vy) (hs : Src s te.size vy 0 xs) (hk : srcOk k2 = true)
    (h : K (.slice none 0 0) s) : AOp P ⟨d, .call ⟨.builtin .append, #[x, y], #[t1, t2]⟩, t, p, af, gd⟩ tm s K :=
  append 0 hx hy (by unfold Src at hs; simp only [aappend, h1.is, he.is, h2.is, hs, hk, if_true]) h
theorem appendL (N : Nat) {x y : Operand} {t1 t2 e : TypeId} {s1 b1 : Nat} {z1 : Value} {ke : TK} {es eb : Nat} {ez : Value} {k2 : TK} {s2 b2 : Nat} {z2 : Value} [h1 : HasTD P t1 ⟨.slice e, s1, b1, z1⟩] [he : HasTD P e ⟨ke, es, eb, ez⟩] [h2 : HasTD P t2 ⟨k2, s2, b2, z2⟩]
    {v vy : Value} {on : Option Nat} {n m : Nat} {xs ys : List Value} (hx : Ev tm x v) (hL : LAt s es v on n xs) (hy : Ev tm y vy) (hs : Src s es vy m ys) (hk : srcOk k2 = true) (hm : m ≠ 0) (hl : ys.length = m * es) (hz : ez.cells.size = es ∧ eb ≠ 0) (hb : (n + m) * eb ≤ 140737488355328) (hfree : Free s N)
    (h : ∀ s', Grew s s' on N (.cells true es (xs ++ ys)) → K (.slice (some ⟨N, 0, none⟩) (n + m) (n + m)) s') : AOp P ⟨d, .call ⟨.builtin .append, #[x, y], #[t1, t2]⟩, t, p, af, gd⟩ tm s K := by
  cases hL with
  | nil =>
    have h' := h (s.set N (.cells true es ([] ++ ys))) ⟨At.hit, fun i _ hi => AHeap.set_other _ _ hi, hfree⟩
    rw [Nat.zero_add] at h' hb
    exact appendNil N hx hy hs hk hm hl hz hb hfree h'
  | @blk o sp _ _ ha hlx =>
    cases sp with
    | none =>
      refine appendMove N hx hy hs ha hk hm (by omega) hl hz hb hfree (by omega) (by rw [List.drop_zero, ← hlx, List.take_length]) (h _ ⟨At.hit, fun i hi hc => by rw [AHeap.set_other _ _ hc, AHeap.set_other _ _ (fun e => hi (by rw [e]))], hfree⟩)
    | some q =>
      exact appendFull N hx hy hs (srcAll ha hlx) hk hm (by omega) hl hlx hz hb hfree (h _ ⟨At.hit, fun i _ hc => AHeap.set_other _ _ hc, hfree⟩)
end
end O

section
variable {P : Program} {n : Nat} {Q : AExit → Env → AHeap → Prop} {tm : Env} {s : AHeap}
theorem AWp.seqR {id : Nat} {l : List Oper} {y : Code} (h : AOps P l.toArray l tm s fun tm s => AWp P n y Q tm s) : AWp P n (.seq (.region id l.toArray false) y) Q tm s := AWp.seq (AWp.region h)
/-- A cut behind 'x': what is known there. -/
theorem AWp.cut (M : Env → AHeap → Prop) {x y : Code} (h : AWp P n x (fun e tm s => e = .normal ∧ M tm s) tm s) (h2 : ∀ tm s, M tm s → AWp P n y Q tm s) : AWp P n (.seq x y) Q tm s :=
  AWp.seq (h.mono fun e tm s h => by obtain ⟨rfl, h⟩ := h; exact h2 tm s h)
theorem AWp.condT {c : Operand} {x y : Code} {b : Bool} (hc : Ev tm c (.bool b)) (ht : b = true → AWp P n x Q tm s) (hf : b = false → AWp P n y Q tm s) : AWp P n (.cond c x y) Q tm s := AWp.cond hc.eq ht hf
end

/-! ### ways through code -/
namespace X
section
variable {P : Program} {n k id id' : Nat} {Q : AExit → Env → AHeap → Prop} {tm : Env} {s : AHeap} {y : Code} {I : Nat → Env → AHeap → Prop}
theorem stopA {id : Nat} {l : Array Oper} {d : Bool} {y z : Code} (h : AWp P n (.seq (.seq (.region id l d) y) z) Q tm s) : AWp P n (.seq (.seq (.region id l d) y) z) Q tm s := h
theorem stopB {id : Nat} {l : Array Oper} {d : Bool} {z : Code} (h : AWp P n (.seq (.region id l d) z) Q tm s) : AWp P n (.seq (.region id l d) z) Q tm s := h
theorem thenN (h : AWp P n y Q tm s) : thenQ P n y Q .normal tm s := h
theorem thenE (h : Q (.exit id) tm s) : thenQ P n y Q (.exit id) tm s := h
theorem thenR (h : Q .ret tm s) : thenQ P n y Q .ret tm s := h
theorem blockN (h : Q .normal tm s) : blockQ id Q .normal tm s := h
theorem blockR (h : Q .ret tm s) : blockQ id Q .ret tm s := h
theorem blockE (h : Q .normal tm s) : blockQ id Q (.exit id) tm s := by simp only [blockQ, if_true]; exact h
theorem blockO (hne : id' ≠ id) (h : Q (.exit id') tm s) : blockQ id Q (.exit id') tm s := by simp only [blockQ, if_neg hne]; exact h
theorem roundE (h : Q (.exit id) tm s) : roundQ I k Q (.exit id) tm s := h
theorem roundR (h : Q .ret tm s) : roundQ I k Q .ret tm s := h
theorem roundN (m : Nat) (hm : m < k) (h : I m tm s) : roundQ I k Q .normal tm s := ⟨m, hm, h⟩
theorem condT {c : Operand} {x : Code} (hc : Ev tm c (.bool true)) (h : AWp P n x Q tm s) : AWp P n (.cond c x y) Q tm s := AWp.condT hc (fun _ => h) (fun e => by cases e)
theorem condF {c : Operand} {x : Code} (hc : Ev tm c (.bool false)) (h : AWp P n y Q tm s) : AWp P n (.cond c x y) Q tm s := AWp.condT hc (fun e => by cases e) (fun _ => h)
theorem condY {c : Operand} {x : Code} {b : Bool} (hc : Ev tm c (.bool b)) (hb : b = true) (h : AWp P n x Q tm s) : AWp P n (.cond c x y) Q tm s := by subst hb; exact condT hc h
theorem condN {c : Operand} {x : Code} {b : Bool} (hc : Ev tm c (.bool b)) (hb : b = false) (h : AWp P n y Q tm s) : AWp P n (.cond c x y) Q tm s := by subst hb; exact condF hc h
theorem condD {c : Operand} {x : Code} {φ : Prop} {inst : Decidable φ} (hc : Ev tm c (.bool (decide φ))) (ht : decide φ = true → φ → AWp P n x Q tm s) (hf : decide φ = false → ¬ φ → AWp P n y Q tm s) : AWp P n (.cond c x y) Q tm s :=
  AWp.condT hc (fun h => ht h (of_decide_eq_true h)) (fun h => hf h (of_decide_eq_false h))
theorem condG {c : Operand} {x : Code} {b : Bool} (hc : Ev tm c (.bool b)) (h : GK b true (AWp P n x Q tm s) (AWp P n y Q tm s)) : AWp P n (.cond c x y) Q tm s :=
  AWp.condT hc h.1 h.2
theorem condB {c : Operand} {x : Code} {b : Bool} (hc : Ev tm c (.bool b)) (ht : b = true → AWp P n x Q tm s) (hf : b = false → AWp P n y Q tm s) : AWp P n (.cond c x y) Q tm s := AWp.condT hc ht hf
end
end X

/-! ### leaving a function -/
inductive EvR (P : Program) (tm : Env) (s : AHeap) : List ResultVar → List Value → Prop
  | nil : EvR P tm s [] []
  | tmp {t v r l} (h : Ev tm (.tmp t) v) (rest : EvR P tm s r l) : EvR P tm s (.tmp t :: r) (v :: l)
  | cell {a t v w r l} (h : Ev tm (.tmp a) w) (hv : aload P t s w = some v) (rest : EvR P tm s r l) : EvR P tm s (.cell a t :: r) (v :: l)
theorem EvR.eq {P : Program} {tm : Env} {s : AHeap} {rs l} (h : EvR P tm s rs l) : ares P tm s rs = some l := by
  induction h with
  | nil => rfl
  | tmp h rest ih => have := h.eq; simp only [ev] at this; simp [ares, ih, this]
  | cell h hv rest ih => have := h.eq; simp only [ev] at this; simp [ares, ih, this, hv]

/-- What is asked at a function's end. -/
def RetQ (P : Program) (rs : List ResultVar) (s s' : AHeap) (v : Value) : AExit → Env → AHeap → Prop := fun x tm s1 =>
  (∀ id, x ≠ .exit id) ∧ ∃ l π, ares P tm s1 rs = some l ∧ goodRes l = true ∧ resV l = mpR π v ∧ KeepsR π s s1 s' v
theorem RetQ.ret {P : Program} {rs : List ResultVar} {s s' s1 : AHeap} {v : Value} {tm : Env} {l : List Value} (he : EvR P tm s1 rs l) (hg : goodRes l = true) (hv : resV l = v) (hk : Keeps s s1 s' v) : RetQ P rs s s' v .ret tm s1 :=
  ⟨fun _ => by simp, l, _, he.eq, hg, by rw [mpR_id]; exact hv, hk.ren⟩
theorem RetQ.normal {P : Program} {rs : List ResultVar} {s s' s1 : AHeap} {v : Value} {tm : Env} {l : List Value} (he : EvR P tm s1 rs l) (hg : goodRes l = true) (hv : resV l = v) (hk : Keeps s s1 s' v) : RetQ P rs s s' v .normal tm s1 :=
  ⟨fun _ => by simp, l, _, he.eq, hg, by rw [mpR_id]; exact hv, hk.ren⟩
theorem RetQ.retR {P : Program} {rs : List ResultVar} {s s' s1 : AHeap} {v : Value} {tm : Env} {l : List Value} {x : AExit} (π : Nat → Nat) (he : EvR P tm s1 rs l) (hg : goodRes l = true) (hv : resV l = mpR π v) (hk : KeepsR π s s1 s' v) (hx : ∀ id, x ≠ .exit id) : RetQ P rs s s' v x tm s1 :=
  ⟨hx, l, _, he.eq, hg, hv, hk⟩
theorem ACall.make {P : Program} {f : FuncId} {fn : Func} {c : Code} {args : List Value} {s s' : AHeap} {v : Value} (hf : P.funcs[f]? = some fn) (hb : fn.body = some c) (hg : goodC fn.ntmps c = true) (hnm : (fn.name == "runtime.NumGoroutine") = false)
    (hlen : decide (args.length ≤ fn.ntmps) = true) (h : ∀ N, (∀ id, N ≤ id → s id = none) → AWp P fn.ntmps c (RetQ P fn.results.toList s s' v) (nargs args) s) : ACall P f args s v s' :=
  ACall.intro hf hb hg hnm (of_decide_eq_true hlen) h

/-- What a call leaves, one of several. -/
def RetE (P : Program) (rs : List ResultVar) (s : AHeap) (Q : Value → AHeap → Prop) : AExit → Env → AHeap → Prop := fun x tm s1 =>
  (∀ id, x ≠ .exit id) ∧ ∃ l s', ares P tm s1 rs = some l ∧ goodRes l = true ∧ Q (resV l) s' ∧ Keeps s s1 s' (resV l)
theorem RetE.ret {P : Program} {rs : List ResultVar} {s s' s1 : AHeap} {Q : Value → AHeap → Prop} {tm : Env} {l : List Value} (he : EvR P tm s1 rs l) (hg : goodRes l = true) (hq : Q (resV l) s') (hk : Keeps s s1 s' (resV l)) : RetE P rs s Q .ret tm s1 :=
  ⟨fun _ => by simp, l, s', he.eq, hg, hq, hk⟩
theorem RetE.normal {P : Program} {rs : List ResultVar} {s s' s1 : AHeap} {Q : Value → AHeap → Prop} {tm : Env} {l : List Value} (he : EvR P tm s1 rs l) (hg : goodRes l = true) (hq : Q (resV l) s') (hk : Keeps s s1 s' (resV l)) : RetE P rs s Q .normal tm s1 :=
  ⟨fun _ => by simp, l, s', he.eq, hg, hq, hk⟩
theorem ACallE.make {P : Program} {f : FuncId} {fn : Func} {c : Code} {args : List Value} {s : AHeap} {Q : Value → AHeap → Prop} (hf : P.funcs[f]? = some fn) (hb : fn.body = some c) (hg : goodC fn.ntmps c = true) (hnm : (fn.name == "runtime.NumGoroutine") = false)
    (hlen : decide (args.length ≤ fn.ntmps) = true) (h : ∀ N, (∀ id, N ≤ id → s id = none) → AWp P fn.ntmps c (RetE P fn.results.toList s Q) (nargs args) s) : ACallE P f args s Q :=
  ACallE.intro hf hb hg hnm (of_decide_eq_true hlen) h

theorem Keeps.same {s s1 : AHeap} {v : Value} (h : ∀ id b, s id = some b → s1 id = some b) (hv : nmR (fun i => (s i).isSome = true) v) : Keeps s s1 s v :=
  ⟨h, fun _ h => h, fun _ _ h => .inl h, hv⟩
theorem Keeps.self {s : AHeap} {v : Value} (hv : nmR (fun i => (s i).isSome = true) v) : Keeps s s s v := Keeps.same (fun _ _ h => h) hv
theorem nmR.imp {D E : Nat → Prop} (h : ∀ i, D i → E i) {x : Value} (hx : nmR D x) : nmR E x := by
  cases x <;> simp only [nmR] at * <;> first | exact nmB.imp h hx | exact fun x m => nmB.imp h (hx x m)
/-- Another block at one name that was there. -/
theorem Keeps.one {s s1 : AHeap} {v : Value} {id : Nat} {b b0 : ABlk} (h0 : s id = some b0) (h1 : s1 id = some b) (h : ∀ i, i ≠ id → ∀ c, s i = some c → s1 i = some c) (hb : b.nm fun i => (s i).isSome = true)
    (hv : nmR (fun i => (s i).isSome = true) v) : Keeps s s1 (s.set id b) v := by
  have hd : ∀ i, (s i).isSome = true → ((s.set id b) i).isSome = true := fun i hi => by
    by_cases e : i = id
    · subst e; rw [AHeap.set_same]; rfl
    · rw [AHeap.set_other _ _ e]; exact hi
  refine ⟨fun i c hc => ?_, hd, fun i c hc => ?_, ?_⟩
  · by_cases e : i = id
    · subst e; rw [AHeap.set_same] at hc; rw [← hc]; exact h1
    · rw [AHeap.set_other _ _ e] at hc; exact h i e c hc
  · by_cases e : i = id
    · subst e; rw [AHeap.set_same] at hc; obtain rfl := Option.some.inj hc; exact .inr (ABlk.nm_imp hd hb)
    · rw [AHeap.set_other _ _ e] at hc; exact .inl hc
  · exact nmR.imp hd hv

theorem At.eq {s : AHeap} {id : Nat} {b : ABlk} (h : At s id b) : s id = some b := h
theorem Free.eq {s : AHeap} {id : Nat} (h : Free s id) : s id = none := h
/-- 's1' holds what 's' held, but for some names. -/
def Fr (s1 s : AHeap) (ids : List Nat) : Prop := ∀ i, i ∉ ids → ∀ c, s i = some c → s1 i = some c
theorem Fr.refl (s : AHeap) (ids : List Nat) : Fr s s ids := fun _ _ _ h => h
theorem Fr.set {s1 s : AHeap} {ids : List Nat} {id : Nat} {b : ABlk} (hid : id ∈ ids) (h : Fr s1 s ids) : Fr (s1.set id b) s ids := fun i hi c hc => by
  rw [AHeap.set_other _ _ (fun e => by subst e; exact hi hid)]; exact h i hi c hc
theorem Fr.new {s1 s : AHeap} {ids : List Nat} {id : Nat} {b : ABlk} (hid : Free s id) (h : Fr s1 s ids) : Fr (s1.set id b) s ids := fun i hi c hc => by
  rw [AHeap.set_other _ _ (fun e => by subst e; rw [hid.eq] at hc; cases hc)]; exact h i hi c hc

def AllAt (s1 s' : AHeap) : List (Nat × ABlk) → Prop
  | [] => True
  | p :: r => (At s1 p.1 p.2 ∧ p.2.nm fun i => (s' i).isSome = true) ∧ AllAt s1 s' r
theorem AllAt.mem {s1 s' : AHeap} : ∀ {d : List (Nat × ABlk)}, AllAt s1 s' d → ∀ p ∈ d, At s1 p.1 p.2 ∧ p.2.nm fun i => (s' i).isSome = true
  | q :: r, h, p, hp => by
    rcases List.mem_cons.1 hp with rfl | hp
    · exact h.1
    · exact h.2.mem p hp
theorem updH_get {d : List (Nat × ABlk)} : ∀ {s : AHeap} {id : Nat}, id ∈ d.map (·.1) → ∃ b, (id, b) ∈ d ∧ updH s d id = some b := by
  induction d with
  | nil => intro s id h; cases h
  | cons x d ih =>
    intro s id h
    rw [updH]
    by_cases hd : id ∈ d.map (·.1)
    · obtain ⟨b, h1, h2⟩ := ih (s := s.set x.1 x.2) hd
      exact ⟨b, List.mem_cons_of_mem _ h1, h2⟩
    · simp only [List.map_cons, List.mem_cons] at h
      obtain rfl := h.resolve_right hd
      exact ⟨x.2, List.mem_cons_self .., by rw [updH_out hd, AHeap.set_same]⟩
theorem updH_some {d : List (Nat × ABlk)} {s : AHeap} {i : Nat} (h : (s i).isSome = true ∨ i ∈ d.map (·.1)) : (updH s d i).isSome = true := by
  by_cases hd : i ∈ d.map (·.1)
  · obtain ⟨b, _, h2⟩ := updH_get (s := s) hd; rw [h2]; rfl
  · rw [updH_out hd]; exact h.resolve_right hd
/-- Blocks at some names, old or new. -/
theorem Keeps.upd {s s1 : AHeap} {v : Value} (d : List (Nat × ABlk)) (hf : Fr s1 s (d.map (·.1))) (ha : AllAt s1 (updH s d) d) (hv : nmR (fun i => (updH s d i).isSome = true) v) : Keeps s s1 (updH s d) v := by
  refine ⟨fun i c hc => ?_, fun i hi => updH_some (.inl hi), fun i c hc => ?_, hv⟩
  · by_cases hd : i ∈ d.map (·.1)
    · obtain ⟨b, h1, h2⟩ := updH_get (s := s) hd
      rw [h2] at hc; obtain rfl := Option.some.inj hc
      exact (ha.mem _ h1).1.eq
    · rw [updH_out hd] at hc; exact hf i hd c hc
  · by_cases hd : i ∈ d.map (·.1)
    · obtain ⟨b, h1, h2⟩ := updH_get (s := s) hd
      rw [h2] at hc; obtain rfl := Option.some.inj hc
      exact .inr (ha.mem _ h1).2
    · rw [updH_out hd] at hc; exact .inl hc
/-- New names for new blocks: (the name at the end, the walk's name, the block as it stands at the end). -/
def renL : List (Nat × Nat) → Nat → Nat
  | [], i => i
  | (a, b) :: r, i => if i = a then b else renL r i
def newH (s : AHeap) : List (Nat × Nat × ABlk) → AHeap
  | [] => s
  | (a, _, b) :: r => newH (s.set a b) r
theorem renL_out : ∀ {d : List (Nat × Nat)} {i : Nat}, i ∉ d.map (·.1) → renL d i = i
  | [], _, _ => rfl
  | (a, b) :: r, i, h => by
    simp only [List.map_cons, List.mem_cons, not_or] at h
    rw [renL, if_neg h.1, renL_out h.2]
theorem renL_mem : ∀ {d : List (Nat × Nat)} {i : Nat}, i ∈ d.map (·.1) → (i, renL d i) ∈ d
  | (a, b) :: r, i, h => by
    rw [renL]; split
    · rename_i e; subst e; exact List.mem_cons_self ..
    · rename_i e; simp only [List.map_cons, List.mem_cons] at h
      exact List.mem_cons_of_mem _ (renL_mem (h.resolve_left e))
theorem renL_at : ∀ {d : List (Nat × Nat)} {i b : Nat}, (d.map (·.1)).Nodup → (i, b) ∈ d → renL d i = b
  | (a, b) :: r, i, c, hn, h => by
    simp only [List.map_cons, List.nodup_cons] at hn
    rw [renL]
    rcases List.mem_cons.1 h with e | h2
    · obtain ⟨rfl, rfl⟩ := Prod.mk.inj e; rw [if_pos rfl]
    · rw [if_neg (fun e => hn.1 (by subst e; exact List.mem_map.2 ⟨(i, c), h2, rfl⟩))]; exact renL_at hn.2 h2
def AllR (π : Nat → Nat) (s s1 s' : AHeap) : List (Nat × Nat × ABlk) → Prop
  | [] => True
  | p :: r => (At s1 p.2.1 (p.2.2.mp π) ∧ (p.2.2.nm fun i => (s' i).isSome = true) ∧ (p.1 = p.2.1 ∨ (s p.1 = none ∧ s p.2.1 = none))) ∧ AllR π s s1 s' r
theorem AllR.mem {π : Nat → Nat} {s s1 s' : AHeap} : ∀ {d : List (Nat × Nat × ABlk)}, AllR π s s1 s' d → ∀ p ∈ d, At s1 p.2.1 (p.2.2.mp π) ∧ (p.2.2.nm fun i => (s' i).isSome = true) ∧ (p.1 = p.2.1 ∨ (s p.1 = none ∧ s p.2.1 = none))
  | q :: r, h, p, hp => by
    rcases List.mem_cons.1 hp with rfl | hp
    · exact h.1
    · exact h.2.mem p hp
theorem newH_out : ∀ {d : List (Nat × Nat × ABlk)} {s : AHeap} {i : Nat}, i ∉ d.map (·.1) → newH s d i = s i
  | [], _, _, _ => rfl
  | (a, c, b) :: r, s, i, h => by
    simp only [List.map_cons, List.mem_cons, not_or] at h
    rw [newH, newH_out h.2, AHeap.set_other _ _ h.1]
theorem newH_get : ∀ {d : List (Nat × Nat × ABlk)} {s : AHeap} {i : Nat}, i ∈ d.map (·.1) → ∃ c b, (i, c, b) ∈ d ∧ newH s d i = some b
  | (a, c, b) :: r, s, i, h => by
    rw [newH]
    by_cases hd : i ∈ r.map (·.1)
    · obtain ⟨c', b', h1, h2⟩ := newH_get (s := s.set a b) hd
      exact ⟨c', b', List.mem_cons_of_mem _ h1, h2⟩
    · simp only [List.map_cons, List.mem_cons] at h
      obtain rfl := h.resolve_right hd
      exact ⟨c, b, List.mem_cons_self .., by rw [newH_out hd, AHeap.set_same]⟩
theorem newH_some {d : List (Nat × Nat × ABlk)} {s : AHeap} {i : Nat} (h : (s i).isSome = true ∨ i ∈ d.map (·.1)) : (newH s d i).isSome = true := by
  by_cases hd : i ∈ d.map (·.1)
  · obtain ⟨c, b, _, h2⟩ := newH_get (s := s) hd; rw [h2]; rfl
  · rw [newH_out hd]; exact h.resolve_right hd
theorem newH_fin : ∀ (d : List (Nat × Nat × ABlk)) {s : AHeap}, (∃ N, ∀ id, N ≤ id → s id = none) → ∃ N, ∀ id, N ≤ id → newH s d id = none
  | [], _, h => h
  | (a, c, b) :: r, _, h => by rw [newH]; exact newH_fin r (fin_set h _ _)
def dn (d : List (Nat × Nat × ABlk)) : List (Nat × Nat) := d.map fun p => (p.1, p.2.1)
theorem dn_fst (d : List (Nat × Nat × ABlk)) : (dn d).map (·.1) = d.map (·.1) := by simp [dn]
theorem KeepsR.new {s s1 : AHeap} {v : Value} (d : List (Nat × Nat × ABlk)) (hn : (d.map (·.1)).Nodup) (hn2 : (d.map (·.2.1)).Nodup) (hf : Fr s1 s (d.map (·.1)))
    (ha : AllR (renL (dn d)) s s1 (newH s d) d) (hv : nmR (fun i => (newH s d i).isSome = true) v) : KeepsR (renL (dn d)) s s1 (newH s d) v := by
  have hat : ∀ i c b, (i, c, b) ∈ d → renL (dn d) i = c := fun i c b h => renL_at (by rw [dn_fst]; exact hn) (List.mem_map.2 ⟨(i, c, b), h, rfl⟩)
  have hout : ∀ i, i ∉ d.map (·.1) → renL (dn d) i = i := fun i h => renL_out (by rw [dn_fst]; exact h)
  have hmem : ∀ i, i ∈ d.map (·.1) → ∃ c b, (i, c, b) ∈ d := fun i h => by
    obtain ⟨⟨i', c, b⟩, h1, rfl⟩ := List.mem_map.1 h; exact ⟨c, b, h1⟩
  have hold : ∀ i, (s i).isSome = true → renL (dn d) i = i := fun i hi => by
    by_cases hd : i ∈ d.map (·.1)
    · obtain ⟨c, b, h1⟩ := hmem i hd
      rw [hat i c b h1]
      rcases (ha.mem _ h1).2.2 with h | h
      · exact h.symm
      · have := h.1; simp only at this; rw [this] at hi; cases hi
    · exact hout i hd
  have hin : ∀ i, (newH s d i).isSome = true → (s i).isSome = true ∨ i ∈ d.map (·.1) := fun i hi => by
    by_cases hd : i ∈ d.map (·.1)
    · exact .inr hd
    · rw [newH_out hd] at hi; exact .inl hi
  -- a new block's name in the walk was free
  have hfree : ∀ x, x ∈ d.map (·.1) → (s x).isSome = false → s (renL (dn d) x) = none := fun x hx hs => by
    obtain ⟨c, b, h1⟩ := hmem x hx
    rw [hat x c b h1]
    rcases (ha.mem _ h1).2.2 with h | h
    · simp only at h; subst h; cases e : s x with
      | none => rfl
      | some b => rw [e] at hs; cases hs
    · exact h.2
  refine ⟨fun id hi => ⟨newH_some (.inl hi), hold id hi⟩, fun x y hx hy e => ?_, fun id b hb => ?_, fun h _ => newH_fin d h, hv⟩
  · cases hxs : (s x).isSome with
    | true =>
      cases hys : (s y).isSome with
      | true => rw [hold x hxs, hold y hys] at e; exact e
      | false =>
        have := hfree y ((hin y hy).resolve_left (by rw [hys]; exact Bool.false_ne_true)) hys
        rw [← e, hold x hxs] at this; rw [this] at hxs; cases hxs
    | false =>
      have hxd := (hin x hx).resolve_left (by rw [hxs]; exact Bool.false_ne_true)
      cases hys : (s y).isSome with
      | true =>
        have := hfree x hxd hxs
        rw [e, hold y hys] at this; rw [this] at hys; cases hys
      | false =>
        have hyd := (hin y hy).resolve_left (by rw [hys]; exact Bool.false_ne_true)
        obtain ⟨c, b, h1⟩ := hmem x hxd
        obtain ⟨c', b', h2⟩ := hmem y hyd
        rw [hat x c b h1, hat y c' b' h2] at e
        subst e
        have : ∀ (l : List (Nat × Nat × ABlk)), (l.map (·.2.1)).Nodup → (x, c, b) ∈ l → (y, c, b') ∈ l → x = y := by
          intro l
          induction l with
          | nil => intro _ h; cases h
          | cons q r ih =>
            intro hnd k1 k2
            simp only [List.map_cons, List.nodup_cons] at hnd
            rcases List.mem_cons.1 k1 with k1 | k1
            · rcases List.mem_cons.1 k2 with k2 | k2
              · rw [← k1] at k2; exact (Prod.mk.inj k2).1.symm
              · exact absurd (List.mem_map.2 ⟨_, k2, by rw [← k1]⟩) hnd.1
            · rcases List.mem_cons.1 k2 with k2 | k2
              · exact absurd (List.mem_map.2 ⟨_, k1, by rw [← k2]⟩) hnd.1
              · exact ih hnd.2 k1 k2
        exact this d hn2 h1 h2
  · by_cases hd : id ∈ d.map (·.1)
    · obtain ⟨c, b', h1, h2⟩ := newH_get (s := s) hd
      rw [h2] at hb; obtain rfl := Option.some.inj hb
      refine .inr ⟨?_, (ha.mem _ h1).2.1⟩
      rw [hat id c b' h1]; exact (ha.mem _ h1).1.eq
    · rw [newH_out hd] at hb
      exact .inl ⟨hb, hf id hd b hb⟩
theorem plA.nm {D : Nat → Prop} {x : Value} (h : plA x = true) : nmA D x := by
  unfold plA at h; split at h <;> first | trivial | cases h
theorem pl1.nm {D : Nat → Prop} {x : Value} (h : pl1 x = true) : nm1 D x := by
  unfold pl1 at h; split at h
  · simp only [Bool.and_eq_true, List.all_eq_true] at h
    exact ⟨fun x hx => plA.nm (h.1 x hx), fun x hx => plA.nm (h.2 x hx)⟩
  · cases x <;> simp only [nm1] <;> first | exact plA.nm h | (cases h; done) | skip
theorem nm_scal {D : Nat → Prop} {rw : Bool} {sz : Nat} {c : List Value} (h : c.all pl1 = true) : (ABlk.cells rw sz c).nm D := fun x hx => pl1.nm (List.all_eq_true.1 h x hx)
theorem plA.mp {π : Nat → Nat} {x : Value} (h : plA x = true) : mpA π x = x := by
  unfold plA at h; split at h <;> first | rfl | cases h
theorem map_plA {π : Nat → Nat} {l : List Value} (h : l.all plA = true) : l.map (mpA π) = l := by
  induction l with
  | nil => rfl
  | cons a l ih => simp only [List.all_cons, Bool.and_eq_true] at h; rw [List.map_cons, ih h.2, h.1 |> plA.mp]
theorem pl1.mp {π : Nat → Nat} {x : Value} (h : pl1 x = true) : mp1 π x = x := by
  cases x with
  | func f fs cs =>
    simp only [pl1, Bool.and_eq_true] at h
    show Value.func f (fs.map (mpA π)) (cs.map (mpA π)) = _
    congr 1
    · apply Array.ext'; rw [Array.toList_map, map_plA h.1]
    · apply Array.ext'; rw [Array.toList_map, map_plA h.2]
  | _ => (simp only [pl1] at h; simp only [mp1]; exact plA.mp h)
theorem map_pl1 {π : Nat → Nat} {l : List Value} (h : l.all pl1 = true) : l.map (mp1 π) = l := by
  induction l with
  | nil => rfl
  | cons a l ih => simp only [List.all_cons, Bool.and_eq_true] at h; rw [List.map_cons, ih h.2, h.1 |> pl1.mp]
theorem mp_pl {π : Nat → Nat} {rw : Bool} {sz : Nat} {c : List Value} (h : c.all pl1 = true) : (ABlk.cells rw sz c).mp π = .cells rw sz c := by
  show ABlk.cells rw sz (c.map (mp1 π)) = _; rw [map_pl1 h]
/-- One new block of plain cells, under its name at the end. -/
theorem KeepsR.new1 {s s1 : AHeap} {v : Value} {o o1 sz : Nat} {rw : Bool} {c : List Value} (ho : s o = none) (ho1 : s o1 = none) (hf : Fr s1 s []) (ha : At s1 o1 (.cells rw sz c)) (hc : c.all pl1 = true) (hv : nmR (fun i => i = o) v) :
    KeepsR (renL (dn [(o, o1, .cells rw sz c)])) s s1 (s.set o (.cells rw sz c)) v := by
  refine KeepsR.new [(o, o1, .cells rw sz c)] (by simp) (by simp) (fun i _ b hb => hf i (by simp) b hb) ⟨⟨by rw [mp_pl hc]; exact ha, nm_scal hc, .inr ⟨ho, ho1⟩⟩, trivial⟩ (nmR.imp (fun i e => ?_) hv)
  subst e; exact newH_some (.inr (by simp))
theorem renL_hit {o o1 : Nat} {b : ABlk} {r : List (Nat × Nat × ABlk)} : renL (dn ((o, o1, b) :: r)) o = o1 := if_pos rfl
theorem renL_miss {o o1 i : Nat} {b : ABlk} {r : List (Nat × Nat × ABlk)} (h : i ≠ o) : renL (dn ((o, o1, b) :: r)) i = renL (dn r) i := if_neg h
theorem Grew.fr {s s' s0 : AHeap} {on : Option Nat} {N : Nat} {b : ABlk} {ids : List Nat} (g : Grew s s' on N b) (h : Fr s s0 ids) (ho : ∀ q, on = some q → s0 q = none ∨ q ∈ ids) : Fr s' s0 ids := fun i hi c hc =>
  g.keep (fun e => by
    rcases ho i e with e | e
    · rw [e] at hc; cases hc
    · exact hi e) (h i hi c hc)
def Top (M : Nat) (s : AHeap) : Prop := ∀ id, M ≤ id → s id = none
theorem Top.free {M : Nat} {s : AHeap} (h : Top M s) {i : Nat} (hi : M ≤ i) : Free s i := h i hi
theorem Top.none {M : Nat} {s : AHeap} (h : Top M s) {i : Nat} (hi : M ≤ i) : s i = none := h i hi
theorem Top.set {M i : Nat} {s : AHeap} {b : ABlk} (h : Top M s) (hi : i < M) : Top M (s.set i b) := fun id hid => by
  rw [AHeap.set_other _ _ (by omega)]; exact h id hid
theorem Top.mono {M M' : Nat} {s : AHeap} (h : Top M s) (hi : M ≤ M') : Top M' s := fun id hid => h id (by omega)
theorem Top.new {M : Nat} {s : AHeap} {b : ABlk} (h : Top M s) : Top (M + 1) (s.set M b) := fun id hid => by
  rw [AHeap.set_other _ _ (by omega)]; exact h id (by omega)
theorem Top.lt {M : Nat} {s : AHeap} (h : Top M s) {i : Nat} {b : ABlk} (hi : At s i b) : i < M := by
  refine Nat.lt_of_not_le fun e => ?_
  have := h i e; rw [hi.eq] at this; cases this
theorem Grew.topN {s s' : AHeap} {on : Option Nat} {N : Nat} {b : ABlk} (g : Grew s s' on N b) (h : Top N s) (ho : ∀ q, on = some q → q < N) : Top (N + 1) s' := fun id hid => by
  rw [g.off id (fun e => by have := ho id e; omega) (by omega)]; exact h id (by omega)
attribute [irreducible] PK GK IK Rg Lt Get GetA
end Go.Proofs.Ytdbnpghckgmaoaa.Ab

/- From a contract over the abstract memory to the statement's row: a law that comes back with true. -/
namespace Go.Proofs.Ytdbnpghckgmaoaa.Ab
set_option linter.unusedVariables false
set_option linter.unusedSimpArgs false
set_option linter.unusedSectionVars false
open Go.RowKit

/-- No names. -/
def noH : AHeap := fun _ => none
def noR : Ren := fun _ => none
theorem Sim.empty (W : World) : Sim W noR noH W := by
  refine ⟨Below.refl _ _, fun _ _ h => ?_, fun _ _ h => ?_, fun _ _ _ _ _ _ _ h => ?_, ⟨0, fun _ _ => rfl⟩⟩ <;> cases h
theorem ACall.law {P : Program} {f : FuncId} {args args' : List Value} {s s' : AHeap} {W : World} {ρ : Ren} (h : ACall P f args s (.bool true) s') (hS : Sim W ρ s W) (ha : All2 (VR ρ) args args') :
    Calls P f args'.toArray W fun e w' => e = .returned (.bool true) ∧ Below W.heap.size W w' := by
  refine (h.2 W ρ W args' ha hS).mono ?_
  rintro e w' ⟨ρ', v', rfl, hv, _, hS'⟩
  refine ⟨?_, hS'.below⟩
  cases hv with
  | v h => cases h with | v h => cases h with | a h => cases h; rfl
end Go.Proofs.Ytdbnpghckgmaoaa.Ab

/- Lists in memory that have room behind them, and what an append does to them, whatever the room. -/
namespace Go.Proofs.Ytdbnpghckgmaoaa.Ab
set_option linter.unusedVariables false
set_option linter.unusedSimpArgs false
set_option linter.unusedSectionVars false
open Go.RowKit

/-- A slice of n elements (of es cells each), the cells that it tells, in a block of its own. -/
inductive WAt (s : AHeap) (es : Nat) : Value → Option Nat → Nat → List Value → Prop
  | nil : WAt s es (.slice none 0 0) none 0 []
  | blk {o n c : Nat} {cs xs : List Value} (h : At s o (.cells true es cs)) (hn : n ≤ c) (hc : cs.length = c * es) (hx : cs.take (n * es) = xs) : WAt s es (.slice (some ⟨o, 0, none⟩) n c) (some o) n xs

theorem WAt.of_at {s s' : AHeap} {es : Nat} {v : Value} {on : Option Nat} {n : Nat} {xs : List Value} (h : WAt s es v on n xs) (hs : ∀ o, on = some o → s' o = s o) : WAt s' es v on n xs := by
  cases h with
  | nil => exact .nil
  | blk h a b c => exact .blk (by unfold At; rw [hs _ rfl]; exact h.eq) a b c
theorem WAt.len {s : AHeap} {es : Nat} {v : Value} {on : Option Nat} {n : Nat} {xs : List Value} (h : WAt s es v on n xs) : xs.length = n * es := by
  cases h with
  | nil => simp
  | @blk o n c cs xs h a b d =>
    rw [← d, List.length_take, b]
    have := Nat.mul_le_mul_right es a
    omega
theorem WAt.lt {s : AHeap} {es : Nat} {v : Value} {on : Option Nat} {n M : Nat} {xs : List Value} (h : WAt s es v on n xs) (hT : Top M s) : ∀ o, on = some o → o < M := by
  cases h with
  | nil => intro o e; cases e
  | blk h a b c => intro o e; obtain rfl := Option.some.inj e; exact hT.lt h
/-- The whole of a new block. -/
theorem WAt.new {s : AHeap} {es o n : Nat} {xs : List Value} (h : At s o (.cells true es xs)) (hl : xs.length = n * es) : WAt s es (.slice (some ⟨o, 0, none⟩) n n) (some o) n xs :=
  .blk h (Nat.le_refl _) hl (by rw [← hl, List.take_length])
theorem WAt.src {s : AHeap} {es : Nat} {v : Value} {on : Option Nat} {n : Nat} {xs : List Value} (h : WAt s es v on n xs) : Src s es v n xs := by
  cases h with
  | nil => exact Src.nil
  | @blk o n c cs xs h a b d =>
    by_cases hn : n = 0
    · subst hn; rw [Nat.zero_mul, List.take_zero] at d; subst d; exact Src.none
    · have := Nat.mul_le_mul_right es a
      exact Src.sl h hn (by omega) (by rw [List.drop_zero, d])

/-- What an append of m elements leaves: the slice, and the blocks that change. -/
def wapp (s : AHeap) (es m N : Nat) (xs ys : List Value) : Value → Value × List (Nat × ABlk)
  | .slice (some a) n c => match s a.block with
    | some (.cells _ _ cs) => if n + m ≤ c then (.slice (some a) (n + m) c, [(a.block, .cells true es (splice cs (n * es) ys))])
      else (.slice (some ⟨N, 0, none⟩) (n + m) (n + m), [(a.block, .dead), (N, .cells true es (xs ++ ys))])
    | _ => (.slice (some ⟨N, 0, none⟩) m m, [(N, .cells true es ys)])
  | _ => (.slice (some ⟨N, 0, none⟩) m m, [(N, .cells true es ys)])
theorem splice_take {cs ys : List Value} {k : Nat} (h : k + ys.length ≤ cs.length) : (splice cs k ys).take (k + ys.length) = cs.take k ++ ys := by
  induction ys generalizing cs k with
  | nil => simp [splice]
  | cons y ys ih =>
    rw [splice, List.length_cons, show k + (ys.length + 1) = (k + 1) + ys.length from by omega, ih (by rw [List.length_set]; simp only [List.length_cons] at h; omega)]
    have hk : k < cs.length := by simp only [List.length_cons] at h; omega
    rw [List.take_add_one, List.getElem?_set_self hk, List.take_set_of_le (Nat.le_refl _)]
    simp
theorem splice_all_pl {p : Value → Bool} {c l : List Value} {off : Nat} (hc : c.all p = true) (hl : l.all p = true) : (splice c off l).all p = true := by
  induction l generalizing c off with
  | nil => exact hc
  | cons v l ih =>
    simp only [List.all_cons, Bool.and_eq_true] at hl
    rw [splice]
    refine ih ?_ hl.2
    rw [List.all_eq_true] at hc ⊢
    intro x hx
    rcases List.mem_or_eq_of_mem_set hx with h | h
    · exact hc x h
    · rw [h]; exact hl.1
theorem updH_append (d : List (Nat × ABlk)) : ∀ (s : AHeap) (e : List (Nat × ABlk)), updH s (d ++ e) = updH (updH s d) e := by
  induction d with
  | nil => intro s e; rfl
  | cons p d ih => intro s e; obtain ⟨i, b⟩ := p; show updH (s.set i b) (d ++ e) = _; rw [ih]; rfl
theorem updH_snoc (d : List (Nat × ABlk)) (s : AHeap) (i : Nat) (b : ABlk) : updH s (d ++ [(i, b)]) = (updH s d).set i b := updH_append d s [(i, b)]
structure Wapp (P : Program) (t1 t2 : TypeId) (s : AHeap) (es m N : Nat) (xs ys : List Value) (v : Value) (on : Option Nat) (n : Nat) (v2 : Value) (d : List (Nat × ABlk)) : Prop where
  names : ∀ i ∈ d.map (·.1), on = some i ∨ i = N
  ats : ∀ s' : AHeap, ∀ p ∈ d, At (updH s' d) p.1 p.2
  pl : xs.all pl1 = true → ys.all pl1 = true → (∀ o cs, on = some o → At s o (.cells true es cs) → cs.all pl1 = true) → ∀ p ∈ d, (∃ cs, p.2 = .cells true es cs ∧ cs.all pl1 = true) ∨ p.2 = .dead
  at2 : ∀ s', (∀ i, on = some i → s' i = s i) → s' N = none → ∃ on2, WAt (updH s' d) es v2 on2 (n + m) (xs ++ ys) ∧ (on2 = on ∨ on2 = some N)
  op : ∀ {s' : AHeap} {tm : Env} {x y : Operand} {vy : Value} {dd : Option Tmp} {t : TypeId} {p : String} {af : Array Edge} {gd : Option (Nat × Bool)} {K : Value → AHeap → Prop}, (∀ i, on = some i → s' i = s i) → s' N = none →
    Ev tm x v → Ev tm y vy → Src s' es vy m ys → K v2 (updH s' d) → AOp P ⟨dd, .call ⟨.builtin .append, #[x, y], #[t1, t2]⟩, t, p, af, gd⟩ tm s' K
theorem WAt.app {P : Program} {t1 t2 e : TypeId} {s1 b1 : Nat} {z1 : Value} {ke : TK} {es eb : Nat} {ez : Value} {k2 : TK} {s2 b2 : Nat} {z2 : Value} [h1 : HasTD P t1 ⟨.slice e, s1, b1, z1⟩] [he : HasTD P e ⟨ke, es, eb, ez⟩] [h2 : HasTD P t2 ⟨k2, s2, b2, z2⟩]
    {s : AHeap} {v : Value} {on : Option Nat} {n m N : Nat} {xs ys : List Value} (h : WAt s es v on n xs) (hk : srcOk k2 = true) (hm : m ≠ 0) (hl : ys.length = m * es) (hz : ez.cells.size = es ∧ eb ≠ 0) (hb : (n + m) * eb ≤ 140737488355328) (hN : ∀ o, on = some o → o ≠ N) :
    ∃ v2 d, Wapp P t1 t2 s es m N xs ys v on n v2 d := by
  cases h with
  | nil =>
    refine ⟨.slice (some ⟨N, 0, none⟩) m m, [(N, .cells true es ys)], by simp, fun s' p hp => by rw [List.mem_singleton.1 hp]; exact At.hit, fun _ h _ p hp => by rw [List.mem_singleton.1 hp]; exact .inl ⟨_, rfl, h⟩, fun s' _ hf => ⟨some N, ?_, .inr rfl⟩, fun _ hf hx hy hs hK => ?_⟩
    · have : WAt (s'.set N (.cells true es ys)) es (.slice (some ⟨N, 0, none⟩) m m) (some N) m ys := WAt.new At.hit hl
      simpa [updH] using this
    · exact O.appendNil N hx hy hs hk hm hl hz (by rw [Nat.zero_add] at hb; exact hb) hf hK
  | @blk o n c cs xs ha hnc hc hx =>
    have hne := hN o rfl
    by_cases hr : n + m ≤ c
    · have hle := Nat.mul_le_mul_right es hr
      rw [Nat.add_mul] at hle
      refine ⟨.slice (some ⟨o, 0, none⟩) (n + m) c, [(o, .cells true es (splice cs (n * es) ys))], by simp, fun s' p hp => by rw [List.mem_singleton.1 hp]; exact At.hit, fun _ h hcs p hp => by rw [List.mem_singleton.1 hp]; exact .inl ⟨_, rfl, splice_all_pl (hcs o cs rfl ha) h⟩, fun s' hs' hf => ⟨some o, ?_, .inl rfl⟩, fun hs' hf hx hy hs hK => ?_⟩
      · refine WAt.blk (cs := splice cs (n * es) ys) (by show At (s'.set o _) o _; exact At.hit) hr (by rw [splice_length]; exact hc) ?_
        rw [← hx, Nat.add_mul, ← hl, splice_take (by omega)]
      · refine O.appendRoom hx hy hs (cs := cs) (by unfold At; rw [hs' o rfl]; exact ha.eq) hk hm hr hl (by rw [Nat.add_mul]; omega) ?_
        rw [Nat.zero_add]; exact hK
    · have hle := Nat.mul_le_mul_right es hnc
      refine ⟨.slice (some ⟨N, 0, none⟩) (n + m) (n + m), [(o, .dead), (N, .cells true es (xs ++ ys))], by simp, fun s' p hp => (by
        rcases List.mem_cons.1 hp with e | e
        · rw [e]; exact At.miss hne At.hit
        · rw [List.mem_singleton.1 e]; exact At.hit), fun h h' _ p hp => (by
        rcases List.mem_cons.1 hp with e | e
        · rw [e]; exact .inr rfl
        · rw [List.mem_singleton.1 e]; exact .inl ⟨_, rfl, by rw [List.all_append, h, h']; rfl⟩), fun s' hs' hf => ⟨some N, ?_, .inr rfl⟩, fun hs' hf hx' hy hs hK => ?_⟩
      · refine WAt.new (by show At ((s'.set o _).set N _) N _; exact At.hit) ?_
        rw [List.length_append, hl, ← hx, List.length_take, hc, Nat.add_mul, Nat.min_eq_left hle]
      · exact O.appendMove N hx' hy hs (cs := cs) (by unfold At; rw [hs' o rfl]; exact ha.eq) hk hm hr hl hz hb hf (by omega) (by rw [List.drop_zero]; exact hx) hK

theorem Keeps.fr {s s1 : AHeap} {v : Value} (h : Fr s1 s []) (hv : nmR (fun i => (s i).isSome = true) v) : Keeps s s1 s v := Keeps.same (fun i b hb => h i (by simp) b hb) hv
theorem plB.nm {D : Nat → Prop} {x : Value} (h : plB x = true) : nmB D x := by
  cases x with
  | agg cs => simp only [plB, List.all_eq_true] at h; exact fun x hx => pl1.nm (h x hx)
  | _ => (simp only [nmB]; exact pl1.nm h)
theorem plR.nm {D : Nat → Prop} {x : Value} (h : plR x = true) : nmR D x := by
  cases x with
  | tuple cs => simp only [plR, List.all_eq_true] at h; exact fun x hx => plB.nm (h x hx)
  | _ => (simp only [nmR]; exact plB.nm h)
/-- All of 's' is there yet, and what changed or is new speaks of names that are there. -/
structure Ext (s1 s : AHeap) : Prop where
  dom : ∀ id, (s id).isSome = true → (s1 id).isSome = true
  cl : ∀ id b, s1 id = some b → s id = some b ∨ b.nm fun i => (s1 i).isSome = true
theorem Ext.refl (s : AHeap) : Ext s s := ⟨fun _ h => h, fun _ _ h => .inl h⟩
theorem Ext.trans {a b c : AHeap} (h : Ext a b) (h2 : Ext b c) : Ext a c :=
  ⟨fun i hi => h.dom i (h2.dom i hi), fun i x hx => (h.cl i x hx).elim (fun e => (h2.cl i x e).imp id fun e => ABlk.nm_imp (fun k hk => h.dom k hk) e) .inr⟩
theorem Ext.set {s1 s : AHeap} {id : Nat} {b : ABlk} (h : Ext s1 s) (hb : b.nm fun i => (s1 i).isSome = true ∨ i = id) : Ext (s1.set id b) s := by
  have hd : ∀ i, (s1 i).isSome = true ∨ i = id → ((s1.set id b) i).isSome = true := fun i hi => by
    by_cases e : i = id
    · subst e; rw [AHeap.set_same]; rfl
    · rw [AHeap.set_other _ _ e]; exact hi.resolve_right e
  refine ⟨fun i hi => hd i (.inl (h.dom i hi)), fun i c hc => ?_⟩
  by_cases e : i = id
  · subst e; rw [AHeap.set_same] at hc; obtain rfl := Option.some.inj hc; exact .inr (ABlk.nm_imp hd hb)
  · rw [AHeap.set_other _ _ e] at hc; exact (h.cl i c hc).imp _root_.id fun e => ABlk.nm_imp (fun k hk => hd k (.inl hk)) e
theorem Ext.upd : ∀ (d : List (Nat × ABlk)) {s1 s : AHeap}, Ext s1 s → (∀ p ∈ d, p.2.nm fun i => (s1 i).isSome = true) → Ext (updH s1 d) s
  | [], _, _, h, _ => h
  | (id, b) :: d, s1, s, h, hd => by
    refine Ext.upd d (s1 := s1.set id b) (h.set (ABlk.nm_imp (fun _ => .inl) (hd _ (List.mem_cons_self ..)))) (fun p hp => ABlk.nm_imp (fun i hi => ?_) (hd p (List.mem_cons_of_mem _ hp)))
    by_cases e : i = id
    · subst e; rw [AHeap.set_same]; rfl
    · rw [AHeap.set_other _ _ e]; exact hi
theorem Keeps.ext {s s1 : AHeap} {v : Value} (h : Ext s1 s) (hv : nmR (fun i => (s1 i).isSome = true) v) : Keeps s s1 s1 v := ⟨fun _ _ h => h, h.dom, h.cl, hv⟩
/-! structs in memory, told whole -/
def plOf (P : Program) (t : TypeId) : Option (List (Nat × Nat)) := match tdOf P t with
  | some td => match td.k with
    | .struct fs => fldPlaces P fs
    | _ => none
  | none => none
class HasPl (P : Program) (t : TypeId) (pl : outParam (List (Nat × Nat))) : Prop where
  is : plOf P t = some pl
namespace O
section
variable {P : Program} {tm : Env} {s : AHeap} {K : Value → AHeap → Prop} {d : Option Tmp} {t : TypeId} {p : String} {af : Array Edge} {gd : Option (Nat × Bool)}
theorem boxA (id : Nat) {x : Operand} {e : TypeId} {l : List Value} (hx : Ev tm x (.agg l.toArray)) (hid : Free s id) (h : K (.pointer (some ⟨id, 0, none⟩)) (s.set id (.cells true 1 l))) :
    AOp P ⟨d, .box e x, t, p, af, gd⟩ tm s K := box id hx hid rfl h
theorem box1 (id : Nat) {x : Operand} {e : TypeId} {v : Value} (hx : Ev tm x v) (hid : Free s id) (hv : v.cells = #[v]) (hn : notTup v = true) (h : K (.pointer (some ⟨id, 0, none⟩)) (s.set id (.cells true 1 [v]))) :
    AOp P ⟨d, .box e x, t, p, af, gd⟩ tm s K := box id hx hid hn (by rw [hv]; exact h)
theorem allocA (id : Nat) {e : TypeId} {k : TK} {sz by_ : Nat} {l : List Value} [h1 : HasTD P e ⟨k, sz, by_, .agg l.toArray⟩] (hid : Free s id) (hp : l.all pl1 = true) (h : K (.pointer (some ⟨id, 0, none⟩)) (s.set id (.cells true 1 l))) :
    AOp P ⟨d, .alloc e, t, p, af, gd⟩ tm s K := alloc (td := ⟨k, sz, by_, .agg l.toArray⟩) id hid hp h
theorem alloc1 (id : Nat) {e : TypeId} {k : TK} {sz by_ : Nat} {z : Value} [h1 : HasTD P e ⟨k, sz, by_, z⟩] (hid : Free s id) (hp : plA z = true) (h : K (.pointer (some ⟨id, 0, none⟩)) (s.set id (.cells true 1 [z]))) :
    AOp P ⟨d, .alloc e, t, p, af, gd⟩ tm s K := by
  have hc : z.cells = #[z] := by unfold plA at hp; split at hp <;> first | rfl | cases hp
  have hb : plB z = true := by unfold plA at hp; split at hp <;> first | rfl | cases hp
  exact alloc (td := ⟨k, sz, by_, z⟩) id hid hb (by show K _ (s.set id (.cells true 1 z.cells.toList)); rw [hc]; exact h)
theorem loadAll {x : Operand} {xt : TypeId} {td : TD} [h1 : HasTD P xt td] {id sz : Nat} {rw : Bool} {c : List Value} (ha : td.agg = true) (hx : Ev tm x (.pointer (some ⟨id, 0, none⟩))) (hs : At s id (.cells rw sz c))
    (hl : c.length = td.size) (h : K (.agg c.toArray) s) : AOp P ⟨d, .load xt x, t, p, af, gd⟩ tm s K :=
  loadAgg hx hs ha (by rw [hl]; omega) (by rw [List.drop_zero, ← hl, List.take_length]) h
theorem splice_set {c l : List Value} {off : Nat} (h : off + l.length ≤ c.length) : splice c off l = c.take off ++ l ++ c.drop (off + l.length) := by
  induction l generalizing c off with
  | nil => simp [splice]
  | cons v l ih =>
    rw [splice, ih (by rw [List.length_set]; simp only [List.length_cons] at h; omega)]
    have hk : off < c.length := by simp only [List.length_cons] at h; omega
    rw [List.take_add_one, List.getElem?_set_self hk, List.take_set_of_le (Nat.le_refl _), List.drop_set_of_lt (by omega)]
    simp [Nat.add_assoc, Nat.add_comm 1]
theorem splice_all {c l : List Value} (h : l.length = c.length) : splice c 0 l = l := by
  rw [splice_set (by omega), List.take_zero, List.nil_append, Nat.zero_add, h, List.drop_length, List.append_nil]
theorem storeAll {x y : Operand} {xt : TypeId} {td : TD} [h1 : HasTD P xt td] {id sz : Nat} {c l : List Value} (hz : td.agg = true) (hx : Ev tm x (.pointer (some ⟨id, 0, none⟩))) (hy : Ev tm y (.agg l.toArray)) (hs : At s id (.cells true sz c)) (hl : l.length = td.size)
    (hc : c.length = td.size) (h : K undef (s.set id (.cells true sz l))) : AOp P ⟨d, .store xt x y, t, p, af, gd⟩ tm s K :=
  storeAgg hx hy hs hl (by omega) (by rw [splice_all (by omega)]; exact h)
/-- A store whose outcome is spelled out. -/
theorem storeAggN {x y : Operand} {xt : TypeId} {td : TD} [h1 : HasTD P xt td] {id off sz : Nat} {c l c' : List Value} (hz : td.agg = true) (hx : Ev tm x (.pointer (some ⟨id, off, none⟩))) (hy : Ev tm y (.agg l.toArray)) (hs : At s id (.cells true sz c)) (hl : l.length = td.size)
    (ho : Lt (off + td.size) (c.length + 1)) (hc : splice c off l = c') (h : K undef (s.set id (.cells true sz c'))) : AOp P ⟨d, .store xt x y, t, p, af, gd⟩ tm s K :=
  storeAgg hx hy hs hl (by unfold Lt at ho; omega) (by rw [hc]; exact h)
theorem storeN {x y : Operand} {xt : TypeId} {td : TD} [h1 : HasTD P xt td] {id off sz : Nat} {c c' : List Value} {v : Value} (hz : td.size = 1) (hx : Ev tm x (.pointer (some ⟨id, off, none⟩))) (hy : Ev tm y v) (hs : At s id (.cells true sz c)) (hv : v.cells = #[v])
    (hn : notTup v = true) (ho : Lt off c.length) (hc : c.set off v = c') (h : K undef (s.set id (.cells true sz c'))) : AOp P ⟨d, .store xt x y, t, p, af, gd⟩ tm s K := by
  subst hc; exact storeG hz hx hy hs hv hn ho h
theorem loadAggN {x : Operand} {xt : TypeId} {td : TD} [h1 : HasTD P xt td] {id off sz : Nat} {rw : Bool} {c l : List Value} (ha : td.agg = true) (hx : Ev tm x (.pointer (some ⟨id, off, none⟩))) (hs : At s id (.cells rw sz c))
    (ho : Lt (off + td.size) (c.length + 1)) (hl : (c.drop off).take td.size = l) (h : K (.agg l.toArray) s) : AOp P ⟨d, .load xt x, t, p, af, gd⟩ tm s K := loadAgg hx hs ha (by unfold Lt at ho; omega) hl h
theorem maxG {x y : Operand} {ts : Array TypeId} {k k' : IntKind} {a b : Int} (hx : Ev tm x (.int k a)) (hy : Ev tm y (.int k' b)) (h : GK (decide (b > a)) true (K (.int k b) s) (K (.int k a) s)) :
    AOp P ⟨d, .call ⟨.builtin .max, #[x, y], ts⟩, t, p, af, gd⟩ tm s K := max2 hx hy (by
  unfold GK at h
  by_cases e : b > a
  · rw [if_pos e]; exact h.1 (decide_eq_true e)
  · rw [if_neg e]; exact h.2 (decide_eq_false e))
theorem minG {x y : Operand} {ts : Array TypeId} {k k' : IntKind} {a b : Int} (hx : Ev tm x (.int k a)) (hy : Ev tm y (.int k' b)) (h : GK (decide (b < a)) true (K (.int k b) s) (K (.int k a) s)) :
    AOp P ⟨d, .call ⟨.builtin .min, #[x, y], ts⟩, t, p, af, gd⟩ tm s K := min2 hx hy (by
  unfold GK at h
  by_cases e : b < a
  · rw [if_pos e]; exact h.1 (decide_eq_true e)
  · rw [if_neg e]; exact h.2 (decide_eq_false e))
theorem remG {x y : Operand} {ty : TypeId} {xt : TypeId} {kk : IntKind} {sz by_ : Nat} {z : Value} [_h1 : HasTD P xt ⟨.int kk, sz, by_, z⟩] {k : IntKind} {a b : Int} (hx : Ev tm x (.int k a)) (hy : Ev tm y (.int k b)) (hb : Rg (b ≠ 0)) (h : K (.int k (a.tmod b)) s) :
    AOp P ⟨d, .binOp .rem xt x y ty, t, p, af, gd⟩ tm s K := int hx hy (by unfold Rg at hb; simp only [aint]; rw [if_pos ⟨trivial, hb⟩]) h
theorem remK {x y : Operand} {ty : TypeId} {xt : TypeId} {k : IntKind} {a b r : Int} (hr : a.tmod b = r) (hx : Ev tm x (.int k a)) (hy : Ev tm y (.int k b)) (hb : Rg (b ≠ 0)) (h : K (.int k r) s) :
    AOp P ⟨d, .binOp .rem xt x y ty, t, p, af, gd⟩ tm s K := int hx hy (by unfold Rg at hb; simp only [aint]; rw [if_pos ⟨trivial, hb⟩, hr]) h
/-! parts of slices -/
section
variable {xt e : TypeId} {sz by_ eb es : Nat} {z z1 : Value} {ke : TK} {x lo hi mx : Operand} {id off n c : Nat} {sp : Option Nat} {rw : Bool} {cs : List Value} {l h m : Int} {k1 k2 k3 : IntKind}
theorem sliceLH [h1 : HasTD P xt ⟨.slice e, sz, by_, z⟩] [h2 : HasTD P e ⟨ke, es, eb, z1⟩] (hx : Ev tm x (.slice (some ⟨id, off, sp⟩) n c)) (hs : At s id (.cells rw es cs)) (e1 : Ev tm lo (.int k1 l)) (e2 : Ev tm hi (.int k2 h)) (hr : Rg (0 ≤ l ∧ l ≤ h ∧ h ≤ c))
    (hk : K (.slice (some ⟨id, off + l.toNat * es, sp⟩) (h.toNat - l.toNat) (c - l.toNat)) s) : AOp P ⟨d, .slice xt x (some lo) (some hi) none, t, p, af, gd⟩ tm s K := by
  unfold Rg at hr; unfold At at hs
  refine slice hx (.some e1) (.some e2) .none ?_ hk
  simp only [aslice, h1.is, h2.is, hs, bnd, if_pos hr.1, if_pos (show 0 ≤ h by omega)]
  rw [if_pos ⟨trivial, by omega, by omega, by omega, rfl⟩]; rfl
theorem sliceL [h1 : HasTD P xt ⟨.slice e, sz, by_, z⟩] [h2 : HasTD P e ⟨ke, es, eb, z1⟩] (hx : Ev tm x (.slice (some ⟨id, off, sp⟩) n c)) (hs : At s id (.cells rw es cs)) (e1 : Ev tm lo (.int k1 l)) (hr : Rg (0 ≤ l ∧ l ≤ n ∧ n ≤ c))
    (hk : K (.slice (some ⟨id, off + l.toNat * es, sp⟩) (n - l.toNat) (c - l.toNat)) s) : AOp P ⟨d, .slice xt x (some lo) none none, t, p, af, gd⟩ tm s K := by
  unfold Rg at hr; unfold At at hs
  refine slice hx (.some e1) .none .none ?_ hk
  simp only [aslice, h1.is, h2.is, hs, bnd, if_pos hr.1]
  rw [if_pos ⟨trivial, by omega, by omega, by omega, rfl⟩]; rfl
theorem sliceH [h1 : HasTD P xt ⟨.slice e, sz, by_, z⟩] [h2 : HasTD P e ⟨ke, es, eb, z1⟩] (hx : Ev tm x (.slice (some ⟨id, off, sp⟩) n c)) (hs : At s id (.cells rw es cs)) (e2 : Ev tm hi (.int k2 h)) (hr : Rg (0 ≤ h ∧ h ≤ c))
    (hk : K (.slice (some ⟨id, off, sp⟩) h.toNat c) s) : AOp P ⟨d, .slice xt x none (some hi) none, t, p, af, gd⟩ tm s K := by
  unfold Rg at hr; unfold At at hs
  refine slice hx .none (.some e2) .none ?_ hk
  simp only [aslice, h1.is, h2.is, hs, bnd, if_pos hr.1]
  rw [if_pos ⟨trivial, by omega, by omega, by omega, rfl⟩, Nat.zero_mul, Nat.add_zero, Nat.sub_zero, Nat.sub_zero]; rfl
theorem sliceLHM [h1 : HasTD P xt ⟨.slice e, sz, by_, z⟩] [h2 : HasTD P e ⟨ke, es, eb, z1⟩] (hx : Ev tm x (.slice (some ⟨id, off, sp⟩) n c)) (hs : At s id (.cells rw es cs)) (e1 : Ev tm lo (.int k1 l)) (e2 : Ev tm hi (.int k2 h)) (e3 : Ev tm mx (.int k3 m)) (hr : Rg (0 ≤ l ∧ l ≤ h ∧ h ≤ m ∧ m ≤ c))
    (hk : K (.slice (some ⟨id, off + l.toNat * es, some 0⟩) (h.toNat - l.toNat) (m.toNat - l.toNat)) s) : AOp P ⟨d, .slice xt x (some lo) (some hi) (some mx), t, p, af, gd⟩ tm s K := by
  unfold Rg at hr; unfold At at hs
  refine slice hx (.some e1) (.some e2) (.some e3) ?_ hk
  simp only [aslice, h1.is, h2.is, hs, bnd, if_pos hr.1, if_pos (show 0 ≤ h by omega), if_pos (show 0 ≤ m by omega)]
  rw [if_pos ⟨trivial, by omega, by omega, by omega, rfl⟩]; rfl
theorem clear0 [h1 : HasTD P xt ⟨.slice e, sz, by_, z⟩] {a : Addr} (hx : Ev tm x (.slice (some a) 0 c)) (hk : K undef s) : AOp P ⟨d, .call ⟨.builtin .clear, #[x], #[xt]⟩, t, p, af, gd⟩ tm s K :=
  ⟨s, by rw [hx.eq]; simp only [aclear, h1.is, if_true], hk⟩
theorem clearG [h1 : HasTD P xt ⟨.slice e, sz, by_, z⟩] [h2 : HasTD P e ⟨ke, es, eb, z1⟩] (hx : Ev tm x (.slice (some ⟨id, off, sp⟩) n c)) (hs : At s id (.cells true es cs)) (hn : Rg (n ≠ 0)) (hb : Lt (off + n * es) (cs.length + 1)) (hz : z1.cells.size = es ∧ plB z1 = true)
    (hk : K undef (s.set id (.cells true es (splice cs off (zrep n z1.cells.toList))))) : AOp P ⟨d, .call ⟨.builtin .clear, #[x], #[xt]⟩, t, p, af, gd⟩ tm s K := by
  unfold Rg at hn; unfold Lt at hb; unfold At at hs
  refine ⟨_, ?_, hk⟩
  rw [hx.eq]
  simp only [aclear, h1.is, h2.is, hs, if_neg hn]
  rw [if_pos ⟨trivial, hz.1, by omega, hz.2⟩]
end
/-- Aggregates put together, spelled out. -/
theorem buildS {xt : TypeId} {parts : Array (Nat × Operand)} {l : List (Nat × Value)} {fs : List (Nat × TypeId)} {sz by_ : Nat} {z c0 c : List Value} {pl : List (Nat × Nat)} [h1 : HasTD P xt ⟨.struct fs, sz, by_, .agg z.toArray⟩] [h2 : HasPl P xt pl] (hp : EvP tm parts.toList l) (hz : z.all pl1 = true)
    (hc : afill (fun i => pl[i]?) z l = some c0) (hn : c0 = c) (h : K (.agg c.toArray) s) : AOp P ⟨d, .build xt parts, t, p, af, gd⟩ tm s K := by
  subst hn
  refine build hp (v := .agg c0.toArray) ?_ h
  have h3 := h2.is
  unfold plOf at h3
  rw [h1.is] at h3
  simp only at h3
  unfold abuild
  rw [h1.is]
  simp only [h3]
  rw [if_pos (by simpa [plB] using hz)]
  show (afill (fun i => pl[i]?) z l).map _ = _
  rw [hc]; rfl
theorem buildR {xt e : TypeId} {parts : Array (Nat × Operand)} {l : List (Nat × Value)} {n sz by_ : Nat} {z c0 c : List Value} {te : TD} [h1 : HasTD P xt ⟨.array n e, sz, by_, .agg z.toArray⟩] [h2 : HasTD P e te] (hp : EvP tm parts.toList l) (hz : z.all pl1 = true)
    (hc : afill (fun i => some (i * te.size, te.size)) z l = some c0) (hn : c0 = c) (h : K (.agg c.toArray) s) : AOp P ⟨d, .build xt parts, t, p, af, gd⟩ tm s K := by
  subst hn
  refine build hp (v := .agg c0.toArray) ?_ h
  unfold abuild
  rw [h1.is]
  simp only [h2.is]
  rw [if_pos (by simpa [plB] using hz)]
  show (afill (fun i => some (i * te.size, te.size)) z l).map _ = _
  rw [hc]; rfl
/-- A slice of one struct. -/
theorem build1A (id : Nat) {xt e : TypeId} {sz by_ eb es : Nat} {z z1 : Value} {l : List Value} {ke : TK} {x : Operand} [h1 : HasTD P xt ⟨.slice e, sz, by_, z⟩] [h2 : HasTD P e ⟨ke, es, eb, z1⟩] (hx : Ev tm x (.agg l.toArray)) (hl : l.length = es) (hz : z1.cells.size = es ∧ plB z1 = true) (hes : es ≤ 16777216) (hid : Free s id)
    (h : K (.slice (some ⟨id, 0, none⟩) 1 1) (s.set id (.cells true es l))) : AOp P ⟨d, .buildSlice xt 1 #[(0, x)], t, p, af, gd⟩ tm s K := by
  refine buildSlice id (te := ⟨ke, es, eb, z1⟩) (l := [(0, .agg l.toArray)]) (c := l) ?_ hid ⟨hz.1, by show 1 * es ≤ _; omega, hz.2⟩ ?_ h
  · exact EvP.cons hx EvP.nil
  · have hzl : (zrep 1 z1.cells.toList).length = es := by rw [zrep_length, Array.length_toList, hz.1, Nat.one_mul]
    simp only [afill]
    rw [if_pos ⟨by show (Value.agg l.toArray).cells.size = es; simpa [Value.cells] using hl, by rw [hzl]; omega, rfl⟩]
    congr 1
    show splice _ (0 * es) l = l
    rw [Nat.zero_mul]
    exact splice_all (by rw [hzl, hl])
end
end O

theorem EvR.cellA {P : Program} {tm : Env} {s : AHeap} {r : List ResultVar} {l : List Value} {a : Tmp} {t : TypeId} {id sz : Nat} {rw : Bool} {c : List Value} {td : TD} [h1 : HasTD P t td] (ha : td.agg = true) (h : Ev tm (.tmp a) (.pointer (some ⟨id, 0, none⟩)))
    (hs : At s id (.cells rw sz c)) (hl : c.length = td.size) (rest : EvR P tm s r l) : EvR P tm s (.cell a t :: r) (.agg c.toArray :: l) :=
  .cell h (by unfold At at hs; simp only [aload, h1.is, hs, ha, if_true]; rw [if_pos (by omega), List.drop_zero, ← hl, List.take_length]) rest
theorem EvR.cell1 {P : Program} {tm : Env} {s : AHeap} {r : List ResultVar} {l : List Value} {a : Tmp} {t : TypeId} {id sz : Nat} {rw : Bool} {v : Value} {c : List Value} {td : TD} [h1 : HasTD P t td] (ha : td.agg = false) (h : Ev tm (.tmp a) (.pointer (some ⟨id, 0, none⟩)))
    (hs : At s id (.cells rw sz (v :: c))) (rest : EvR P tm s r l) : EvR P tm s (.cell a t :: r) (v :: l) :=
  .cell h (by unfold At at hs; simp [aload, h1.is, hs, ha]) rest
theorem D.upd {P : Program} {ops : Array Oper} {C : List (List Nat)} {W : List (Nat × List Nat)} {tm : Env} {s : AHeap} {K : Env → AHeap → Prop} {i : Nat} {o : Op} {r : List Oper} {dd : Option Tmp} {t : TypeId} {p : String} {af : Array Edge} {v : Value}
    (d : List (Nat × ABlk)) (hw : ∀ id ∈ d.map (·.1), id ∈ own W i)
    (h : ∀ t', AgreeOff (others C W i) t' s → AOp P ⟨dd, o, t, p, af, none⟩ tm t' fun v' t'' => v' = v ∧ t'' = updH t' d) (hr : AOpsD P ops C W (i + 1) r (put tm dd v) (updH s d) K) : AOpsD P ops C W i (⟨dd, o, t, p, af, none⟩ :: r) tm s K :=
  AOpsD.write v d trivial hw h hr
/-- An operation that waits for all that write, or that they wait for. -/
theorem D.q0t {P : Program} {ops : Array Oper} {C : List (List Nat)} {W : List (Nat × List Nat)} {tm : Env} {s : AHeap} {K : Env → AHeap → Prop} {i : Nat} {o : Op} {r : List Oper} {d : Option Tmp} {t : TypeId} {p : String} {af : Array Edge} {v : Value}
    (hw : own W i = []) (hot : others C W i = []) (h : AOp P ⟨d, o, t, p, af, none⟩ tm s fun v' t'' => v' = v ∧ t'' = s) (hr : AOpsD P ops C W (i + 1) r (put tm d v) s K) : AOpsD P ops C W i (⟨d, o, t, p, af, none⟩ :: r) tm s K := by
  refine AOpsD.quiet v trivial (fun t' ha => ?_) hr
  have : t' = s := by funext i; exact ha i (by rw [hot]; simp)
  subst this; exact h
theorem D.w1t {P : Program} {ops : Array Oper} {C : List (List Nat)} {W : List (Nat × List Nat)} {tm : Env} {s : AHeap} {K : Env → AHeap → Prop} {i : Nat} {o : Op} {r : List Oper} {d : Option Tmp} {t : TypeId} {p : String} {af : Array Edge} {v : Value}
    {id : Nat} {b : ABlk} (hw : own W i = [id]) (hot : others C W i = []) (h : AOp P ⟨d, o, t, p, af, none⟩ tm s fun v' t'' => v' = v ∧ t'' = s.set id b) (hr : AOpsD P ops C W (i + 1) r (put tm d v) (s.set id b) K) : AOpsD P ops C W i (⟨d, o, t, p, af, none⟩ :: r) tm s K := by
  refine AOpsD.write v [(id, b)] trivial (by rw [hw]; simp) (fun t' ha => ?_) hr
  have : t' = s := by funext i; exact ha i (by rw [hot]; simp)
  subst this; exact h
theorem D.sett {P : Program} {ops : Array Oper} {C : List (List Nat)} {W : List (Nat × List Nat)} {tm : Env} {s : AHeap} {K : Env → AHeap → Prop} {i : Nat} {o : Op} {r : List Oper} {d : Option Tmp} {t : TypeId} {p : String} {af : Array Edge} {v : Value}
    {id : Nat} {b : ABlk} (hw : (own W i).contains id = true) (hot : others C W i = []) (h : AOp P ⟨d, o, t, p, af, none⟩ tm s fun v' t'' => v' = v ∧ t'' = s.set id b) (hr : AOpsD P ops C W (i + 1) r (put tm d v) (s.set id b) K) : AOpsD P ops C W i (⟨d, o, t, p, af, none⟩ :: r) tm s K := by
  refine AOpsD.write v [(id, b)] trivial (by simpa using hw) (fun t' ha => ?_) hr
  have : t' = s := by funext i; exact ha i (by rw [hot]; simp)
  subst this; exact h
/-- An append in a drawing region: what is known of the memory behind it. -/
theorem D.anyk {P : Program} {ops : Array Oper} {C : List (List Nat)} {W : List (Nat × List Nat)} {tm : Env} {s : AHeap} {K : Env → AHeap → Prop} {i : Nat} {o : Op} {r : List Oper} {dd : Option Tmp} {t : TypeId} {p : String} {af : Array Edge} {v : Value}
    (d : List (Nat × ABlk)) (M : AHeap → Prop) (hw : ∀ id ∈ d.map (·.1), id ∈ own W i) (hot : others C W i = [])
    (h : AOp P ⟨dd, o, t, p, af, none⟩ tm s fun v' t'' => v' = v ∧ t'' = updH s d) (hM : M (updH s d)) (hr : ∀ s3, M s3 → AOpsD P ops C W (i + 1) r (put tm dd v) s3 K) : AOpsD P ops C W i (⟨dd, o, t, p, af, none⟩ :: r) tm s K := by
  refine AOpsD.write v d trivial hw (fun t' ha => ?_) (hr _ hM)
  have : t' = s := by funext i; exact ha i (by rw [hot]; simp)
  subst this; exact h
theorem AllAt.of {s1 s' : AHeap} : ∀ {d : List (Nat × ABlk)}, (∀ p ∈ d, At s1 p.1 p.2 ∧ p.2.nm fun i => (s' i).isSome = true) → AllAt s1 s' d
  | [], _ => trivial
  | p :: d, h => ⟨h p (by simp), AllAt.of fun q hq => h q (by simp [hq])⟩
theorem pl_nm {d : List (Nat × ABlk)} {es : Nat} (h : ∀ p ∈ d, (∃ cs, p.2 = .cells true es cs ∧ cs.all pl1 = true) ∨ p.2 = .dead) : ∀ (D : Nat → Prop), ∀ p ∈ d, p.2.nm D := fun D p hp => by
  rcases h p hp with ⟨cs, e, hc⟩ | e
  · rw [e]; exact nm_scal hc
  · rw [e]; trivial
theorem pl_at {s : AHeap} {d : List (Nat × ABlk)} {es : Nat} (h : ∀ p ∈ d, (∃ cs, p.2 = .cells true es cs ∧ cs.all pl1 = true) ∨ p.2 = .dead) {o : Nat} {cs : List Value} (ha : At (updH s d) o (.cells true es cs)) (hs : At s o (.cells true es cs) → cs.all pl1 = true) : cs.all pl1 = true := by
  by_cases hd : o ∈ d.map (·.1)
  · obtain ⟨b, h1, h2⟩ := updH_get (s := s) hd
    have := ha.eq; rw [h2] at this
    obtain rfl := Option.some.inj this
    rcases h _ h1 with ⟨cs', e, hc⟩ | e
    · simp only at e; injection e with _ _ e; rw [e]; exact hc
    · cases e
  · unfold At at ha; rw [updH_out hd] at ha; exact hs ha
theorem WAt.nm {s : AHeap} {es : Nat} {v : Value} {on : Option Nat} {n : Nat} {xs : List Value} {D : Nat → Prop} (h : WAt s es v on n xs) (hD : ∀ o, on = some o → D o) : nm1 D v := by
  cases h with
  | nil => trivial
  | blk h a b c => exact hD _ rfl
theorem WAt.val {s : AHeap} {es : Nat} {v : Value} {on : Option Nat} {n : Nat} {xs : List Value} (h : WAt s es v on n xs) : v.cells = #[v] ∧ notTup v = true := by
  cases h <;> exact ⟨rfl, rfl⟩
theorem WAt.some {s : AHeap} {es : Nat} {v : Value} {on : Option Nat} {n : Nat} {xs : List Value} (h : WAt s es v on n xs) : ∀ o, on = Option.some o → (s o).isSome = true := by
  cases h with
  | nil => intro o e; cases e
  | blk h a b c => intro o e; obtain rfl := Option.some.inj e; rw [h.eq]; rfl
theorem At.upd {s : AHeap} {d : List (Nat × ABlk)} {i : Nat} {b : ABlk} (h : At s i b) (hi : i ∉ d.map (·.1)) : At (updH s d) i b := by unfold At at *; rw [updH_out hi]; exact h
theorem Fr.upd {s1 s : AHeap} {ids : List Nat} {d : List (Nat × ABlk)} (h : Fr s1 s ids) (hd : ∀ i ∈ d.map (·.1), i ∈ ids ∨ s i = none) : Fr (updH s1 d) s ids := fun i hi c hc => by
  rw [updH_out (fun hm => (hd i hm).elim hi (fun e => by rw [e] at hc; cases hc))]; exact h i hi c hc
theorem D.set2 {P : Program} {ops : Array Oper} {C : List (List Nat)} {W : List (Nat × List Nat)} {tm : Env} {s : AHeap} {K : Env → AHeap → Prop} {i : Nat} {o : Op} {r : List Oper} {d : Option Tmp} {t : TypeId} {p : String} {af : Array Edge} {v : Value}
    {id id' : Nat} {b b' : ABlk} (hw : (own W i).contains id = true ∧ (own W i).contains id' = true) (hot : others C W i = []) (h : AOp P ⟨d, o, t, p, af, none⟩ tm s fun v' t'' => v' = v ∧ t'' = (s.set id b).set id' b')
    (hr : AOpsD P ops C W (i + 1) r (put tm d v) ((s.set id b).set id' b') K) : AOpsD P ops C W i (⟨d, o, t, p, af, none⟩ :: r) tm s K := by
  refine AOpsD.write v [(id, b), (id', b')] trivial (by simpa using hw) (fun t' ha => ?_) hr
  have : t' = s := by funext i; exact ha i (by rw [hot]; simp)
  subst this; exact h
/-- New blocks, all under names from M on. -/
theorem grow {s sb : AHeap} {M M2 : Nat} {d : List (Nat × ABlk)} (hM : Top M s) (hF : Fr s sb []) (h2 : M ≤ M2) (hd : ∀ p ∈ d, M ≤ p.1 ∧ p.1 < M2 ∧ ∀ D, p.2.nm D) :
    Ext (updH s d) s ∧ Top M2 (updH s d) ∧ Fr (updH s d) sb [] ∧ ∀ i, i < M → updH s d i = s i := by
  have hout : ∀ i, (i < M ∨ M2 ≤ i) → i ∉ d.map (·.1) := fun i hi hm => by
    obtain ⟨p, hp, rfl⟩ := List.mem_map.1 hm
    have := hd p hp; omega
  refine ⟨(Ext.refl s).upd d fun p hp => (hd p hp).2.2 _, fun i hi => ?_, fun i hi c hc => ?_, fun i hi => updH_out (hout i (.inl hi))⟩
  · rw [updH_out (hout i (.inr hi))]; exact hM i (by omega)
  · have hs := hF i hi c hc
    have : i < M := Nat.lt_of_not_le fun e => by rw [hM i e] at hs; cases hs
    rw [updH_out (hout i (.inl this))]; exact hs
/-- The same, with a memory that is told by the names that change. -/
theorem D.anyt {P : Program} {ops : Array Oper} {C : List (List Nat)} {W : List (Nat × List Nat)} {tm : Env} {s : AHeap} {K : Env → AHeap → Prop} {i : Nat} {o : Op} {r : List Oper} {dd : Option Tmp} {t : TypeId} {p : String} {af : Array Edge} {v : Value}
    (d : List (Nat × ABlk)) (hw : ∀ id ∈ d.map (·.1), id ∈ own W i) (hot : others C W i = [])
    (h : AOp P ⟨dd, o, t, p, af, none⟩ tm s fun v' t'' => v' = v ∧ t'' = updH s d) (hr : AOpsD P ops C W (i + 1) r (put tm dd v) (updH s d) K) : AOpsD P ops C W i (⟨dd, o, t, p, af, none⟩ :: r) tm s K := by
  refine AOpsD.write v d trivial hw (fun t' ha => ?_) hr
  have : t' = s := by funext i; exact ha i (by rw [hot]; simp)
  subst this; exact h
end Go.Proofs.Ytdbnpghckgmaoaa.Ab

/- The rules of the walk under short names, their side conditions by kind. -/
namespace Go.Proofs.Ytdbnpghckgmaoaa.Ab
set_option linter.unusedVariables false
set_option linter.unusedSimpArgs false
set_option linter.unusedSectionVars false
open Go.RowKit
/-- To be spelled out. -/
def Nm (a b : List Value) : Prop := a = b
theorem Nm.mk {a b : List Value} (h : a = b) : Nm a b := h
namespace Qz
theorem tk {c : List Value} {n : Nat} (h : c.length = n) : (c.drop 0).take n = c := by rw [List.drop_zero, ← h, List.take_length]
theorem sp {c l : List Value} (h : l.length = c.length) : splice c 0 l = l := O.splice_all h
section
variable {P : Program} {tm : Env} {s : AHeap} {K : Value → AHeap → Prop} {d : Option Tmp} {t : TypeId} {p : String} {af : Array Edge} {gd : Option (Nat × Bool)}
theorem ld {x : Operand} {xt : TypeId} {td : TD} [h1 : HasTD P xt td] {id off sz : Nat} {rw : Bool} {c : List Value} {v : Value} (ha : td.agg = false) (hx : Ev tm x (.pointer (some ⟨id, off, none⟩))) (hs : At s id (.cells rw sz c))
    (hv : Get c off v) (h : K v s) : AOp P ⟨d, .load xt x, t, p, af, gd⟩ tm s K := O.loadG ha hx hs hv h
theorem lda {x : Operand} {xt : TypeId} {td : TD} [h1 : HasTD P xt td] {id off sz : Nat} {rw : Bool} {c l : List Value} (ha : td.agg = true) (hx : Ev tm x (.pointer (some ⟨id, off, none⟩))) (hs : At s id (.cells rw sz c))
    (ho : Lt (off + td.size) (c.length + 1)) (hl : Nm ((c.drop off).take td.size) l) (h : K (.agg l.toArray) s) : AOp P ⟨d, .load xt x, t, p, af, gd⟩ tm s K := O.loadAggN ha hx hs ho hl h
theorem st {x y : Operand} {xt : TypeId} {td : TD} [h1 : HasTD P xt td] {id off sz : Nat} {c c' : List Value} {v : Value} (ha : td.agg = false) (hz : td.size = 1) (hx : Ev tm x (.pointer (some ⟨id, off, none⟩))) (hy : Ev tm y v) (hs : At s id (.cells true sz c)) (hv : v.cells = #[v])
    (hn : notTup v = true) (ho : Lt off c.length) (hc : Nm (c.set off v) c') (h : K undef (s.set id (.cells true sz c'))) : AOp P ⟨d, .store xt x y, t, p, af, gd⟩ tm s K := O.storeN hz hx hy hs hv hn ho hc h
theorem sta {x y : Operand} {xt : TypeId} {td : TD} [h1 : HasTD P xt td] {id off sz : Nat} {c l c' : List Value} (ha : td.agg = true) (hx : Ev tm x (.pointer (some ⟨id, off, none⟩))) (hy : Ev tm y (.agg l.toArray)) (hs : At s id (.cells true sz c)) (hl : l.length = td.size)
    (ho : Lt (off + td.size) (c.length + 1)) (hc : Nm (splice c off l) c') (h : K undef (s.set id (.cells true sz c'))) : AOp P ⟨d, .store xt x y, t, p, af, gd⟩ tm s K := O.storeAggN ha hx hy hs hl ho hc h
theorem bs {xt : TypeId} {parts : Array (Nat × Operand)} {l : List (Nat × Value)} {fs : List (Nat × TypeId)} {sz by_ : Nat} {z c0 c : List Value} {pl : List (Nat × Nat)} [h1 : HasTD P xt ⟨.struct fs, sz, by_, .agg z.toArray⟩] [h2 : HasPl P xt pl] (hz : z.all pl1 = true) (hp : EvP tm parts.toList l)
    (hc : afill (fun i => pl[i]?) z l = some c0) (hn : Nm c0 c) (h : K (.agg c.toArray) s) : AOp P ⟨d, .build xt parts, t, p, af, gd⟩ tm s K := O.buildS hp hz hc hn h
theorem br {xt e : TypeId} {parts : Array (Nat × Operand)} {l : List (Nat × Value)} {n sz by_ : Nat} {z c0 c : List Value} {te : TD} [h1 : HasTD P xt ⟨.array n e, sz, by_, .agg z.toArray⟩] [h2 : HasTD P e te] (hz : z.all pl1 = true) (hp : EvP tm parts.toList l)
    (hc : afill (fun i => some (i * te.size, te.size)) z l = some c0) (hn : Nm c0 c) (h : K (.agg c.toArray) s) : AOp P ⟨d, .build xt parts, t, p, af, gd⟩ tm s K := O.buildR hp hz hc hn h
theorem ck {g : FuncId} {args : Array Operand} {ts : Array TypeId} {l : List Value} {v : Value} {s' : AHeap} (ha : Evs tm args.toList l)
    (hc : ACall P g l s v s') (h : K v s') : AOp P ⟨d, .call ⟨.value (.func g), args, ts⟩, t, p, af, gd⟩ tm s K := O.callF ha hc h
theorem xt {x : Operand} {i : Nat} {l : List Value} {v : Value} (hx : Ev tm x (.tuple l.toArray)) (hv : Get l i v) (h : K v s) : AOp P ⟨d, .extract x i, t, p, af, gd⟩ tm s K := O.extract hx (by unfold Get at hv; exact hv) h
/-- A box or a variable, under the first free name. -/
theorem bx {x : Operand} {e : TypeId} {l : List Value} {M : Nat} (hT : Top M s) (hx : Ev tm x (.agg l.toArray)) (h : K (.pointer (some ⟨M, 0, none⟩)) (s.set M (.cells true 1 l))) : AOp P ⟨d, .box e x, t, p, af, gd⟩ tm s K := O.boxA M hx (hT.free (Nat.le_refl _)) h
theorem bx1 {x : Operand} {e : TypeId} {v : Value} {M : Nat} (hT : Top M s) (hx : Ev tm x v) (hv : v.cells = #[v]) (hn : notTup v = true) (h : K (.pointer (some ⟨M, 0, none⟩)) (s.set M (.cells true 1 [v]))) : AOp P ⟨d, .box e x, t, p, af, gd⟩ tm s K := O.box1 M hx (hT.free (Nat.le_refl _)) hv hn h
theorem al {e : TypeId} {k : TK} {sz by_ M : Nat} {l : List Value} [h1 : HasTD P e ⟨k, sz, by_, .agg l.toArray⟩] (hp : l.all pl1 = true) (hT : Top M s) (h : K (.pointer (some ⟨M, 0, none⟩)) (s.set M (.cells true 1 l))) : AOp P ⟨d, .alloc e, t, p, af, gd⟩ tm s K := O.allocA M (hT.free (Nat.le_refl _)) hp h
theorem al1 {e : TypeId} {k : TK} {sz by_ M : Nat} {z : Value} [h1 : HasTD P e ⟨k, sz, by_, z⟩] (hp : plA z = true) (hT : Top M s) (h : K (.pointer (some ⟨M, 0, none⟩)) (s.set M (.cells true 1 [z]))) : AOp P ⟨d, .alloc e, t, p, af, gd⟩ tm s K := O.alloc1 M (hT.free (Nat.le_refl _)) hp h
/-- The same, under a name that is told. -/
theorem bxN (M : Nat) {x : Operand} {e : TypeId} {l : List Value} (hf : Free s M) (hx : Ev tm x (.agg l.toArray)) (h : K (.pointer (some ⟨M, 0, none⟩)) (s.set M (.cells true 1 l))) : AOp P ⟨d, .box e x, t, p, af, gd⟩ tm s K := O.boxA M hx hf h
end
end Qz
attribute [irreducible] Nm
end Go.Proofs.Ytdbnpghckgmaoaa.Ab

/- More rules: guards whose operation was skipped; truths told by what they decide. -/
namespace Go.Proofs.Ytdbnpghckgmaoaa.Ab
set_option linter.unusedVariables false
set_option linter.unusedSimpArgs false
set_option linter.unusedSectionVars false
open Go.RowKit
theorem yl_undef {ops : Array Oper} {tm : Env} {j : Nat} {e : Tmp} (hd : (ops[j]?).bind (·.dst) = some e) (hb : Ev tm (.tmp e) undef) : yl ops tm j = none := by
  have : tm e = undef := hb.eq
  unfold yl; rw [hd]
  show (match tm e with | .bool b => some b | _ => none) = none
  rw [this]; rfl
theorem S.guardU {P : Program} {ops : Array Oper} {r : List Oper} {tm : Env} {s : AHeap} {K : Env → AHeap → Prop} {d : Option Tmp} {t : TypeId} {p : String} {af : Array Edge} {op : Op} {j : Nat} {want : Bool} {e : Tmp}
    (hd : (ops[j]?).bind (·.dst) = some e) (hb : Ev tm (.tmp e) undef) (h : AOps P ops r (put tm d undef) s K) : AOps P ops (⟨d, op, t, p, af, some (j, want)⟩ :: r) tm s K := by
  unfold AOps
  simp only
  rw [yl_undef hd hb, if_neg (by simp)]; exact h
theorem D.guardU {P : Program} {ops : Array Oper} {C : List (List Nat)} {W : List (Nat × List Nat)} {i : Nat} {r : List Oper} {tm : Env} {s : AHeap} {K : Env → AHeap → Prop} {d : Option Tmp} {t : TypeId} {p : String} {af : Array Edge} {op : Op} {j : Nat} {want : Bool} {e : Tmp}
    (hd : (ops[j]?).bind (·.dst) = some e) (hb : Ev tm (.tmp e) undef) (h : AOpsD P ops C W (i + 1) r (put tm d undef) s K) : AOpsD P ops C W i (⟨d, op, t, p, af, some (j, want)⟩ :: r) tm s K :=
  .inr ⟨by show yl ops tm j ≠ some want; rw [yl_undef hd hb]; simp, h⟩
theorem bdec {P : Prop} {b : Bool} {i : Decidable P} (h : b = true ↔ P) : Value.bool b = Value.bool (@decide P i) := by
  congr 1; rw [Bool.eq_iff_iff, decide_eq_true_iff]; exact h
theorem mem {P : Program} {n : Nat} {c : Code} {Q : AExit → Env → AHeap → Prop} {tm : Env} {s : AHeap} (Mp : AHeap → Prop) (h : Mp s) (hr : ∀ s2, Mp s2 → AWp P n c Q tm s2) : AWp P n c Q tm s := hr s h
end Go.Proofs.Ytdbnpghckgmaoaa.Ab

/- Lists that grow by append: none yet, or all of a block of its own. -/
namespace Go.Proofs.Ytdbnpghckgmaoaa.Ab
set_option linter.unusedVariables false
set_option linter.unusedSimpArgs false
set_option linter.unusedSectionVars false
open Go.RowKit
theorem X.stopC {P : Program} {n id : Nat} {c z : Code} {Q : AExit → Env → AHeap → Prop} {tm : Env} {s : AHeap} (h : AWp P n (.seq (.block id c) z) Q tm s) : AWp P n (.seq (.block id c) z) Q tm s := h
/-- A conversion whose outcome is known. -/
theorem O.convW {P : Program} {tm : Env} {s : AHeap} {K : Value → AHeap → Prop} {d : Option Tmp} {t : TypeId} {p : String} {af : Array Edge} {gd : Option (Nat × Bool)} {x : Operand} {src dst : TypeId} {k k0 k1 : IntKind} {sz by_ : Nat} {z : Value} {sz' by' : Nat} {z' : Value} {a b : Int} [h1 : HasTD P src ⟨.int k0, sz, by_, z⟩] [h2 : HasTD P dst ⟨.int k1, sz', by', z'⟩]
    (hw : k1.wrap a = b) (hx : Ev tm x (.int k a)) (h : K (.int k1 b) s) : AOp P ⟨d, .convert src dst x, t, p, af, gd⟩ tm s K := by subst hw; exact O.convInt hx h
/-- A list of k elements (of es cells each): nil, or all of a block named from N on. -/
def Gr (s : AHeap) (es N : Nat) (v : Value) (on : Option Nat) (k : Nat) (xs : List Value) : Prop :=
  (v = .slice none 0 0 ∧ on = none ∧ k = 0 ∧ xs = []) ∨ ∃ q, on = some q ∧ v = .slice (some ⟨q, 0, none⟩) k k ∧ At s q (.cells true es xs) ∧ xs.length = k * es ∧ N ≤ q
namespace Gr
variable {s s' : AHeap} {es N k : Nat} {v : Value} {on : Option Nat} {xs : List Value}
theorem nil : Gr s es N (.slice none 0 0) none 0 [] := .inl ⟨rfl, rfl, rfl, rfl⟩
theorem new {q : Nat} (h : At s q (.cells true es xs)) (hl : xs.length = k * es) (hq : N ≤ q) : Gr s es N (.slice (some ⟨q, 0, none⟩) k k) (some q) k xs := .inr ⟨q, rfl, rfl, h, hl, hq⟩
theorem lat (h : Gr s es N v on k xs) : LAt s es v on k xs := by
  rcases h with ⟨rfl, rfl, rfl, rfl⟩ | ⟨q, rfl, rfl, h, hl, _⟩
  · exact .nil
  · exact .blk h hl
theorem of_at (h : Gr s es N v on k xs) (hs : ∀ q, on = some q → s' q = s q) : Gr s' es N v on k xs := by
  rcases h with ⟨rfl, rfl, rfl, rfl⟩ | ⟨q, rfl, rfl, h, hl, hq⟩
  · exact nil
  · exact new (by unfold At; rw [hs q rfl]; exact h.eq) hl hq
theorem lt {M : Nat} (h : Gr s es N v on k xs) (hT : Top M s) : ∀ q, on = some q → q < M := by
  rcases h with ⟨rfl, rfl, rfl, rfl⟩ | ⟨q, rfl, rfl, h, hl, hq⟩
  · intro q e; cases e
  · intro q' e; obtain rfl := Option.some.inj e; exact hT.lt h
theorem from_ (h : Gr s es N v on k xs) : ∀ q, on = some q → N ≤ q := by
  rcases h with ⟨rfl, rfl, rfl, rfl⟩ | ⟨q, rfl, rfl, h, hl, hq⟩
  · intro q e; cases e
  · intro q' e; obtain rfl := Option.some.inj e; exact hq
theorem set (h : Gr s es N v on k xs) {id : Nat} {b : ABlk} (hid : ∀ q, on = some q → q ≠ id) : Gr (s.set id b) es N v on k xs := h.of_at fun q e => AHeap.set_other _ _ (hid q e)
theorem own (h : Gr s es N v on k xs) (hk : k ≠ 0) : ∃ q, on = some q ∧ v = .slice (some ⟨q, 0, none⟩) k k ∧ At s q (.cells true es xs) ∧ xs.length = k * es ∧ N ≤ q := by
  rcases h with ⟨_, _, h, _⟩ | h
  · exact absurd h hk
  · exact h
theorem isl (h : Gr s es N v on k xs) : ∃ A, v = .slice A k k := by
  rcases h with ⟨rfl, rfl, rfl, rfl⟩ | ⟨q, rfl, rfl, h, hl, hq⟩
  · exact ⟨_, rfl⟩
  · exact ⟨_, rfl⟩
/-- Behind an append. -/
theorem app {M k' : Nat} {xs' : List Value} (g : Grew s s' on M (.cells true es xs')) (hl : xs'.length = k' * es) (hM : N ≤ M) : Gr s' es N (.slice (some ⟨M, 0, none⟩) k' k') (some M) k' xs' := new g.hit hl hM
/-- What else lies there behind an append. -/
theorem frN {s0 : AHeap} {M : Nat} {b : ABlk} (h : Gr s es N v on k xs) (g : Grew s s' on M b) (F : Fr s s0 []) (hT : Top N s0) : Fr s' s0 [] := g.fr F fun q e => .inl (hT.none (h.from_ q e))
theorem topN {M : Nat} {b : ABlk} (h : Gr s es N v on k xs) (g : Grew s s' on M b) (T : Top M s) : Top (M + 1) s' := g.topN T (h.lt T)
theorem off {M : Nat} {b c : ABlk} (g : Grew s s' on M b) {i : Nat} (hi : At s i c) (h1 : ∀ q, on = some q → q ≠ i) (h2 : i ≠ M) : At s' i c := At.var (by rw [g.off i (fun e => h1 i e rfl) h2]; exact hi.eq)
end Gr
end Go.Proofs.Ytdbnpghckgmaoaa.Ab

/- Rules for maps. -/
namespace Go.Proofs.Ytdbnpghckgmaoaa.Ab
set_option linter.unusedVariables false
set_option linter.unusedSimpArgs false
set_option linter.unusedSectionVars false
open Go.RowKit
namespace O
section
variable {P : Program} {tm : Env} {s : AHeap} {K : Value → AHeap → Prop} {d : Option Tmp} {t : TypeId} {p : String} {af : Array Edge} {gd : Option (Nat × Bool)}
theorem makeMap (M : Nat) {ty : TypeId} (hid : Free s M) (h : K (.map (some M)) (s.set M (.map []))) : AOp P ⟨d, .makeMap ty none, t, p, af, gd⟩ tm s K := ⟨M, hid.eq, h⟩
theorem lookup {x i : Operand} {ty kt et : TypeId} {sz by_ : Nat} {z : Value} {te : TD} [h1 : HasTD P ty ⟨.map kt et, sz, by_, z⟩] [h2 : HasTD P et te] {D : Value → Prop} {id : Nat} {es : List (Value × Value)} {k : Value} {r : Option (Nat × Value)}
    (hx : Ev tm x (.map (some id))) (hi : Ev tm i k) (hs : At s id (.map es)) (hz : plB te.zero = true) (hK : KeyT P kt D) (hd : D k) (he : ∀ e ∈ es, D e.1) (hf : MFind k es 0 r) (h : K (mres te.zero r) s) :
    AOp P ⟨d, .lookup ty x i false, t, p, af, gd⟩ tm s K :=
  ⟨_, ⟨_, te, kt, et, D, es, r, h1.is, rfl, h2.is, hz, hK, by rw [hi.eq]; exact hd, .inr ⟨id, hx.eq, hs.eq⟩, he, by rw [hi.eq]; exact hf, by rw [if_neg (by decide)]⟩, h⟩
theorem lookup2 {x i : Operand} {ty kt et : TypeId} {sz by_ : Nat} {z : Value} {te : TD} [h1 : HasTD P ty ⟨.map kt et, sz, by_, z⟩] [h2 : HasTD P et te] {D : Value → Prop} {id : Nat} {es : List (Value × Value)} {k : Value} {r : Option (Nat × Value)}
    (hx : Ev tm x (.map (some id))) (hi : Ev tm i k) (hs : At s id (.map es)) (hz : plB te.zero = true) (hK : KeyT P kt D) (hd : D k) (he : ∀ e ∈ es, D e.1) (hf : MFind k es 0 r) (h : K (.tuple #[mres te.zero r, .bool r.isSome]) s) :
    AOp P ⟨d, .lookup ty x i true, t, p, af, gd⟩ tm s K :=
  ⟨_, ⟨_, te, kt, et, D, es, r, h1.is, rfl, h2.is, hz, hK, by rw [hi.eq]; exact hd, .inr ⟨id, hx.eq, hs.eq⟩, he, by rw [hi.eq]; exact hf, by rw [if_pos rfl]⟩, h⟩
def mset (k x : Value) (es : List (Value × Value)) : Option (Nat × Value) → List (Value × Value)
  | some p => es.set p.1 (k, x)
  | none => es ++ [(k, x)]
theorem mapUpdate {m i x : Operand} {ty kt et : TypeId} {sz by_ : Nat} {z : Value} [h1 : HasTD P ty ⟨.map kt et, sz, by_, z⟩] {D : Value → Prop} {id : Nat} {es : List (Value × Value)} {k v : Value} {r : Option (Nat × Value)}
    (hm : Ev tm m (.map (some id))) (hi : Ev tm i k) (hx : Ev tm x v) (hs : At s id (.map es)) (hK : KeyT P kt D) (hd : D k) (he : ∀ e ∈ es, D e.1) (hf : MFind k es 0 r) (hn : notTup v = true) (h : K undef (s.set id (.map (mset k v es r)))) :
    AOp P ⟨d, .mapUpdate ty m i x, t, p, af, gd⟩ tm s K :=
  ⟨_, ⟨_, kt, et, D, id, es, r, h1.is, rfl, hK, by rw [hi.eq]; exact hd, hm.eq, hs.eq, he, by rw [hi.eq]; exact hf, by rw [hx.eq]; exact hn, rfl⟩, by rw [hi.eq, hx.eq]; cases r <;> exact h⟩
end
end O
end Go.Proofs.Ytdbnpghckgmaoaa.Ab
