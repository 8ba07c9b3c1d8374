/- texts of this claim, one behind the other: AbM. -/
import Derived.Test.YtoiplbackllgfaaM6
import Derived.MapKept

/- Maps: making, looking up, writing, over the abstract memory. -/
namespace Go.Proofs.Ytoiplbackllgfaa.Ab
set_option linter.unusedVariables false
set_option linter.unusedSimpArgs false
set_option linter.unusedSectionVars false
open Go.RowKit

/-- Where a key first lies, and its value. -/
def MFind (k : Value) : List (Value × Value) → Nat → Option (Nat × Value) → Prop
  | [], _, r => r = none
  | e :: es, i, r => (e.1 = k ∧ r = some (i, e.2)) ∨ (e.1 ≠ k ∧ MFind k es (i + 1) r)
def EFind (k : Value) : List MapEntry → Nat → Option (Nat × Value) → Prop
  | [], _, r => r = none
  | e :: es, i, r => (e.key = k ∧ r = some (i, e.val)) ∨ (e.key ≠ k ∧ EFind k es (i + 1) r)

/-- Keys that are told apart by their values. -/
structure KeyT (P : Program) (kt : TypeId) (d : Value → Prop) : Prop where
  pl : ∀ v, d v → plB v = true
  chk : ∀ v em (w : World), d v → (Instr.checkKey em 10000 kt v).run P w = .ok () w
  find : ∀ v l (w : World), d v → (∀ e ∈ l, d e.key) → ∃ r, EFind v l 0 r ∧ (Instr.findKey kt v l).run P w = .ok r w
  bits : ∀ v, d v → Instr.sameBits 10000 v v = true

theorem mfind_none {k : Value} : ∀ {es : List (Value × Value)} {i : Nat}, (∀ e ∈ es, e.1 ≠ k) → MFind k es i none
  | [], _, _ => rfl
  | e :: es, i, h => .inr ⟨h e List.mem_cons_self, mfind_none fun x hx => h x (List.mem_cons_of_mem _ hx)⟩
theorem mfind_some {k : Value} : ∀ {es : List (Value × Value)} {i j : Nat} {v : Value}, es[j]? = some (k, v) → (∀ q e, q < j → es[q]? = some e → e.1 ≠ k) → MFind k es i (some (i + j, v))
  | [], _, _, _, h, _ => by simp at h
  | e :: es, i, 0, v, h, _ => .inl ⟨by simp at h; rw [h], by simp at h; rw [h]; rfl⟩
  | e :: es, i, j + 1, v, h, hq => .inr ⟨hq 0 e (by omega) rfl, by
      have := mfind_some (i := i + 1) (j := j) (es := es) (by simpa using h) (fun q x hqj hx => hq (q + 1) x (by omega) (by simpa using hx))
      rwa [show i + 1 + j = i + (j + 1) from by omega] at this⟩

section
variable {P : Program} {W0 w : World} {ρ : Ren} {s : AHeap}

/-- The two findings are one. -/
theorem find_rel {d : Value → Prop} (hd : ∀ v, d v → plB v = true) {k : Value} : ∀ {es : List (Value × Value)} {l : List MapEntry} {i : Nat} {r r'}, All2 (fun (e : Value × Value) (m : MapEntry) => VB ρ e.1 m.key ∧ VB ρ e.2 m.val) es l → (∀ e ∈ es, d e.1) →
    MFind k es i r → EFind k l i r' → (r = none ∧ r' = none) ∨ ∃ j v v', r = some (j, v) ∧ r' = some (j, v') ∧ VB ρ v v' ∧ i ≤ j ∧ (es[j - i]?).map (·.1) = some k ∧ (l[j - i]?).map (·.key) = some k := by
  intro es
  induction es with
  | nil => intro l i r r' h _ h1 h2; cases h; exact .inl ⟨h1, h2⟩
  | cons e es ih =>
    intro l i r r' h hk h1 h2
    cases h with
    | cons ha hr =>
      rename_i m l
      have hm : m.key = e.1 := plB.eq ha.1 (hd _ (hk _ List.mem_cons_self))
      rcases h1 with ⟨a, rfl⟩ | ⟨a, h1⟩
      · rcases h2 with ⟨b, rfl⟩ | ⟨b, _⟩
        · exact .inr ⟨i, e.2, m.val, rfl, rfl, ha.2, Nat.le_refl _, by simp [a], by simp [b]⟩
        · exact absurd (hm.trans a) b
      · rcases h2 with ⟨b, _⟩ | ⟨_, h2⟩
        · exact absurd (hm.symm.trans b) a
        · rcases ih hr (fun x hx => hk x (List.mem_cons_of_mem _ hx)) h1 h2 with h | ⟨j, v, v', e1, e2, e3, e4, e5, e6⟩
          · exact .inl h
          · refine .inr ⟨j, v, v', e1, e2, e3, by omega, ?_, ?_⟩
            · rw [show j - i = (j - (i + 1)) + 1 from by omega, List.getElem?_cons_succ]; exact e5
            · rw [show j - i = (j - (i + 1)) + 1 from by omega, List.getElem?_cons_succ]; exact e6

theorem Below.setObj {B : Nat} {a w : World} (h : Below B a w) {r : Nat} (hr : B ≤ r) (o : Obj) : Below B a { w with heap := w.heap.setIfInBounds r o } :=
  ⟨h.os, h.tape, h.output, by simpa using h.size, fun k hk => by
    show (w.heap.setIfInBounds r o)[k]? = _
    rw [Array.getElem?_setIfInBounds_ne (by omega)]; exact h.block k hk⟩

/-- A map written anew. -/
theorem Sim.setMap (h : Sim W0 ρ s w) {id es es' l ents clk clk'} {ents' : Array MapEntry} (hs : s id = some (.map es)) (hl : ρ id = some l) (hb : w.heap[l.B]? = some (.map ents clk)) (h0 : W0.heap.size ≤ l.B)
    (h2 : All2 (fun (e : Value × Value) (m : MapEntry) => VB ρ e.1 m.key ∧ VB ρ e.2 m.val) es' ents'.toList) :
    Sim W0 ρ (s.set id (.map es')) { w with heap := w.heap.setIfInBounds l.B (.map ents' clk') } := by
  have hlt : l.B < w.heap.size := (Array.getElem?_eq_some_iff.1 hb).1
  refine ⟨Below.setObj h.below h0 _, ?_, ?_, ?_, fin_set h.fin _ _⟩
  · intro id' b hb'
    by_cases hid : id' = id
    · subst hid
      rw [AHeap.set_same] at hb'
      obtain rfl := Option.some.inj hb'
      exact ⟨l, hl, h0, ents', clk', by show (w.heap.setIfInBounds l.B _)[l.B]? = _; simp [hlt], h2⟩
    · rw [AHeap.set_other _ _ hid] at hb'
      obtain ⟨l', hl', hr'⟩ := h.rep id' b hb'
      refine ⟨l', hl', ?_⟩
      cases hlive : b.live with
      | false => exact hr'.of_idle hlive
      | true =>
        have hne := h.apart id id' _ b l l' (Ne.symm hid) hs hb' rfl hlive hl hl'
        exact hr'.same (by show (w.heap.setIfInBounds l.B _)[l'.B]? = _; rw [Array.getElem?_setIfInBounds_ne hne]) (by show _ ≤ (w.heap.setIfInBounds l.B _).size; simp)
  · intro id' l' hl'
    by_cases hid : id' = id
    · subst hid; rw [AHeap.set_same]; rfl
    · rw [AHeap.set_other _ _ hid]; exact h.dom id' l' hl'
  · intro a b x y p q hne hx hy ho hlv hp hq
    by_cases ha : a = id
    · subst ha
      rw [AHeap.set_other _ _ (Ne.symm hne)] at hy
      exact h.apart a b _ y p q hne hs hy rfl hlv hp hq
    · rw [AHeap.set_other _ _ ha] at hx
      by_cases hbb : b = id
      · subst hbb; exact h.apart a b x _ p q hne hx hs ho rfl hp hq
      · rw [AHeap.set_other _ _ hbb] at hy; exact h.apart a b x y p q hne hx hy ho hlv hp hq

theorem makeMap_sound (hS : Sim W0 ρ s w) {t id} (hid : s id = none) :
    ∃ v' w' ρ', (Instr.makeMap t none).run P w = .ok v' w' ∧ RLe ρ ρ' ∧ VR ρ' (.map (some id)) v' ∧ Sim W0 ρ' (s.set id (.map [])) w' := by
  have hl : Loc := ⟨w.heap.size, 0, 0, 0⟩
  obtain ⟨hle, hS'⟩ := (hS.grow (.map #[] 0)).name (id := id) (l := ⟨w.heap.size, 0, 0, 0⟩) (b := .map []) hid
    (fun ρ' _ => ⟨hS.below.size, #[], 0, (Go.MapKept.heap_alloc w _).1, .nil⟩)
    (fun id' b' l' hb hlv hl => Nat.ne_of_gt (hS.lt hb hl hlv))
  exact ⟨_, _, _, rfl, hle, .atom (.map (setR_same _ _ _)), hS'⟩

def mres (z : Value) : Option (Nat × Value) → Value
  | some p => p.2
  | none => z
def ALook (P : Program) (t : TypeId) (s : AHeap) (x k : Value) (ok : Bool) (v : Value) : Prop :=
  ∃ td te kt et d es r, tdOf P t = some td ∧ td.k = .map kt et ∧ tdOf P et = some te ∧ plB te.zero = true ∧ KeyT P kt d ∧ d k ∧
    ((x = .map none ∧ es = []) ∨ ∃ id, x = .map (some id) ∧ s id = some (.map es)) ∧ (∀ e ∈ es, d e.1) ∧ MFind k es 0 r ∧
    v = (if ok = true then .tuple #[(mres te.zero r), .bool r.isSome] else mres te.zero r)

theorem VR.toBpl {x y : Value} (h : VR ρ x y) (hp : plB x = true) : y = x :=
  plR.eq h (by cases x <;> first | simpa [plR] using hp | simp [plB, pl1, plA] at hp)

theorem lookup_sound (hS : Sim W0 ρ s w) {t x x' k k' ok v} (hx : VR ρ x x') (hk : VR ρ k k') (h : ALook P t s x k ok v) :
    ∃ v', (Instr.lookup t x' k' ok).run P w = .ok v' w ∧ VR ρ v v' := by
  obtain ⟨td, te, kt, et, d, es, r, ht, hkd, hte, hpz, K, hdk, hm, hes, hf, rfl⟩ := h
  obtain rfl := hk.toBpl (K.pl k hdk)
  have hu := td_map ht hkd
  have core : ∀ (ents : Array MapEntry), All2 (fun (e : Value × Value) (m : MapEntry) => VB ρ e.1 m.key ∧ VB ρ e.2 m.val) es ents.toList →
      ∃ v', ((do
        Instr.checkKey ents.isEmpty 10000 kt k'
        let (v, okk) ← match ← Instr.findKey kt k' ents.toList with
          | some (_, v) => pure (v, true)
          | none => pure (← zeroValue et, false)
        pure (if ok then .tuple #[v, .bool okk] else v)) : Sem Value).run P w = .ok v' w ∧ VR ρ (if ok = true then .tuple #[(mres te.zero r), .bool r.isSome] else mres te.zero r) v' := by
    intro ents h2
    have hkeys : ∀ e ∈ ents.toList, d e.key := by
      intro e he
      obtain ⟨i, hi⟩ := List.mem_iff_getElem?.1 he
      have hlen := h2.length
      have hi' : i < es.length := by rw [hlen]; exact (List.getElem?_eq_some_iff.1 hi).1
      obtain ⟨b, hb1, hb2⟩ := h2.get (List.getElem?_eq_getElem hi')
      rw [hi] at hb1
      obtain rfl := Option.some.inj hb1
      have := hes _ (List.getElem_mem hi')
      rw [plB.eq hb2.1 (K.pl _ this)]; exact this
    obtain ⟨r', hr', hrun⟩ := K.find k' ents.toList w hdk hkeys
    rw [Sem.run_bind, K.chk k' _ w hdk, Result.andThen_ok, Sem.run_bind, hrun, Result.andThen_ok]
    rcases find_rel (ρ := ρ) K.pl h2 hes hf hr' with ⟨rfl, rfl⟩ | ⟨j, v, v', rfl, rfl, hv, _⟩
    · refine ⟨if ok = true then .tuple #[te.zero, .bool false] else te.zero, ?_, ?_⟩
      · simp only [Sem.run_bind, td_zero hte, Result.andThen_ok, Sem.run_pure]
      · cases ok
        · exact .v (plB.self ρ hpz)
        · exact .tup (.cons (plB.self ρ hpz) (.cons (.v (.a (.bool _))) .nil))
    · refine ⟨if ok = true then .tuple #[v', .bool true] else v', ?_, ?_⟩
      · simp only [Sem.run_bind, Result.andThen_ok, Sem.run_pure]
      · cases ok
        · exact .v hv
        · exact .tup (.cons hv (.cons (.v (.a (.bool _))) .nil))
  unfold Instr.lookup
  rw [Sem.run_bind, run_underlying hu, Result.andThen_ok]
  rcases hm with ⟨rfl, rfl⟩ | ⟨id, rfl, hid⟩
  · obtain rfl := hx.nilm
    obtain ⟨v', e1, e2⟩ := core #[] .nil
    refine ⟨v', ?_, e2⟩
    simp only [Sem.run_bind, Result.andThen_ok, Sem.run_pure] at e1 ⊢
    exact e1
  · obtain ⟨l, hl, rfl⟩ := hx.map
    obtain ⟨l', hl', h0, ents, clk, hb, h2⟩ := hS.rep id _ hid
    obtain rfl : l = l' := by rw [hl] at hl'; exact Option.some.inj hl'
    obtain ⟨v', e1, e2⟩ := core ents h2
    refine ⟨v', ?_, e2⟩
    simp only [Sem.run_bind, Go.MapKept.run_getObj_map hb, Result.andThen_ok, Sem.run_pure] at e1 ⊢
    exact e1

def AUpd (P : Program) (t : TypeId) (s : AHeap) (m k x : Value) (s' : AHeap) : Prop :=
  ∃ td kt et d id es r, tdOf P t = some td ∧ td.k = .map kt et ∧ KeyT P kt d ∧ d k ∧ m = .map (some id) ∧ s id = some (.map es) ∧ (∀ e ∈ es, d e.1) ∧ MFind k es 0 r ∧ notTup x = true ∧
    s' = s.set id (.map (match r with | some p => es.set p.1 (k, x) | none => es ++ [(k, x)]))

theorem update_sound (hS : Sim W0 ρ s w) {t m m' k k' x x' s'} (hm : VR ρ m m') (hk : VR ρ k k') (hx : VR ρ x x') (h : AUpd P t s m k x s') :
    ∃ w', (Instr.mapUpdate t m' k' x').run P w = .ok () w' ∧ Sim W0 ρ s' w' := by
  obtain ⟨td, kt, et, d, id, es, r, ht, hkd, K, hdk, rfl, hid, hes, hf, hnt, rfl⟩ := h
  obtain rfl := hk.toBpl (K.pl k hdk)
  have hu := td_map ht hkd
  have hxb := hx.toB fun cs e => by rw [e] at hnt; cases hnt
  obtain ⟨l, hl, rfl⟩ := hm.map
  obtain ⟨l', hl', h0, ents, clk, hb, h2⟩ := hS.rep id _ hid
  obtain rfl : l = l' := by rw [hl] at hl'; exact Option.some.inj hl'
  have hkeys : ∀ e ∈ ents.toList, d e.key := by
    intro e he
    obtain ⟨i, hi⟩ := List.mem_iff_getElem?.1 he
    have hlen := h2.length
    have hi' : i < es.length := by rw [hlen]; exact (List.getElem?_eq_some_iff.1 hi).1
    obtain ⟨b, hb1, hb2⟩ := h2.get (List.getElem?_eq_getElem hi')
    rw [hi] at hb1
    obtain rfl := Option.some.inj hb1
    have := hes _ (List.getElem_mem hi')
    rw [plB.eq hb2.1 (K.pl _ this)]; exact this
  obtain ⟨r', hr', hrun⟩ := K.find k' ents.toList w hdk hkeys
  have hkk : VB ρ k' k' := plB.self ρ (K.pl _ hdk)
  unfold Instr.mapUpdate
  rw [Sem.run_bind, run_underlying hu, Result.andThen_ok]
  simp only [Sem.run_bind, Go.MapKept.run_getObj_map hb, Result.andThen_ok, K.chk k' _ w hdk, hrun]
  rcases find_rel (ρ := ρ) K.pl h2 hes hf hr' with ⟨rfl, rfl⟩ | ⟨j, v, v', rfl, rfl, hv, _, _, hkj⟩
  · refine ⟨_, Go.MapKept.run_setObj_map _ hb, hS.setMap hid hl hb h0 ?_⟩
    simpa using h2.append (.cons ⟨hkk, hxb⟩ .nil)
  · have hkj' : ((ents[j]?).map (·.key)).getD k' = k' := by
      rw [Nat.sub_zero, Array.getElem?_toList] at hkj
      rw [hkj]; rfl
    have hst : (Instr.keyThatStays (((ents[j]?).map (·.key)).getD k') k').run P w = .ok k' w := by
      rw [hkj']; unfold Instr.keyThatStays; rw [if_pos (K.bits _ hdk)]; rfl
    simp only [Sem.run_bind, hst, Result.andThen_ok]
    refine ⟨_, Go.MapKept.run_setObj_map _ hb, hS.setMap hid hl hb h0 ?_⟩
    have hset := h2.set j (a := (k', x)) (b := ⟨k', x', ((ents[j]?).map (·.born)).getD 0⟩) ⟨hkk, hxb⟩
    have : (ents.modify j fun e => { e with key := k', val := x' }).toList = ents.toList.set j ⟨k', x', ((ents[j]?).map (·.born)).getD 0⟩ := by
      apply List.ext_getElem?
      intro q
      rw [Array.getElem?_toList, Array.getElem?_modify, List.getElem?_set]
      by_cases hq : j = q
      · subst hq
        simp only [if_true]
        by_cases hlt : j < ents.size
        · simp [hlt]
        · simp [hlt]
      · simp [hq]
    rw [this]; exact hset
end

/-! ### kinds of keys -/
theorem keyT_int {P : Program} {kt : TypeId} {k : IntKind} (h : P.underlying kt = some (.int k)) : KeyT P kt (fun v => ∃ n, v = .int k n) where
  pl v hv := by obtain ⟨n, rfl⟩ := hv; rfl
  chk v em w hv := by obtain ⟨n, rfl⟩ := hv; exact Go.MapKept.run_checkKey h (by simp [Go.MapKept.IsKey]) em 9999
  bits v hv := by obtain ⟨n, rfl⟩ := hv; simp [Instr.sameBits]
  find v l w hv hl := by
    obtain ⟨n, rfl⟩ := hv
    have key : ∀ (l : List MapEntry) (i : Nat), (∀ e ∈ l, ∃ n, e.key = .int k n) → ∃ r, EFind (.int k n) l i r ∧ Instr.findNow (.int k) (.int k n) l i = some r := by
      intro l
      induction l with
      | nil => intro i _; exact ⟨none, rfl, rfl⟩
      | cons e l ih =>
        intro i hl
        obtain ⟨m, hm⟩ := hl e List.mem_cons_self
        by_cases hnm : n = m
        · exact ⟨some (i, e.val), .inl ⟨by rw [hm, hnm], rfl⟩, by simp [Instr.findNow, hm, Instr.sameNow, hnm]⟩
        · obtain ⟨r, h1, h2⟩ := ih (i + 1) fun x hx => hl x (List.mem_cons_of_mem _ hx)
          refine ⟨r, .inr ⟨fun e' => hnm ?_, h1⟩, by simp [Instr.findNow, hm, Instr.sameNow, beq_eq_false_iff_ne.2 hnm, h2]⟩
          rw [hm] at e'; injection e' with _ e'; exact e'.symm
    obtain ⟨r, h1, h2⟩ := key l 0 hl
    exact ⟨r, h1, Go.MapKept.run_findKey h h2⟩

theorem keyT_struct {P : Program} {kt : TypeId} {fs : Array Field} {d : Value → Prop} (h : P.underlying kt = some (.struct fs)) (hpl : ∀ v, d v → plB v = true) (hag : ∀ v, d v → ∃ cs, v = .agg cs)
    (hchk : ∀ v em (w : World), d v → (Instr.checkKey em 10000 kt v).run P w = .ok () w) (hbits : ∀ v, d v → Instr.sameBits 10000 v v = true)
    (heq : ∀ a b (w : World), d a → d b → ∃ r : Bool, (Op.equal kt a b).run P w = .ok r w ∧ (r = true ↔ a = b)) : KeyT P kt d where
  pl := hpl
  chk := hchk
  bits := hbits
  find v l w hv hl := by
    have key : ∀ (l : List MapEntry) (i : Nat), (∀ e ∈ l, d e.key) → ∃ r, EFind v l i r ∧ (Instr.findAsking kt v l i).run P w = .ok r w := by
      intro l
      induction l with
      | nil => intro i _; exact ⟨none, rfl, rfl⟩
      | cons e l ih =>
        intro i hl
        obtain ⟨b, hb, hb'⟩ := heq v e.key w hv (hl e List.mem_cons_self)
        cases b with
        | true => exact ⟨some (i, e.val), .inl ⟨(hb'.1 rfl).symm, rfl⟩, by simp [Instr.findAsking, hb]⟩
        | false =>
          obtain ⟨r, h1, h2⟩ := ih (i + 1) fun x hx => hl x (List.mem_cons_of_mem _ hx)
          exact ⟨r, .inr ⟨fun e' => Bool.noConfusion (hb'.2 e'.symm), h1⟩, by simp [Instr.findAsking, hb, h2]⟩
    unfold Instr.findKey
    rw [Sem.run_bind, run_underlying h, Result.andThen_ok]
    cases l with
    | nil => exact ⟨none, rfl, rfl⟩
    | cons e l =>
      obtain ⟨cs, rfl⟩ := hag v hv
      obtain ⟨cs', hcs⟩ := hag _ (hl e List.mem_cons_self)
      obtain ⟨r, h1, h2⟩ := key (e :: l) 0 hl
      refine ⟨r, h1, ?_⟩
      simp only [Instr.findNow, hcs, Instr.sameNow]
      exact h2
end Go.Proofs.Ytoiplbackllgfaa.Ab
