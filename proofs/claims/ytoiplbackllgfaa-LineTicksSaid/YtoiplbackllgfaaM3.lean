/- texts of this claim, one behind the other: Ab2. -/
import Derived.Test.YtoiplbackllgfaaM2
import Derived.Laws.IdiomCopy
import Derived.Laws.Unary

/- Single operations over the abstract memory, each with the proof that the machine does the same. -/
namespace Go.Proofs.Ytoiplbackllgfaa.Ab
set_option linter.unusedVariables false
set_option linter.unusedSimpArgs false
set_option linter.unusedSectionVars false
open Go.RowKit

/-! ### types -/
inductive TK where
  | int (k : IntKind) | bool | str | ptr (e : TypeId) | slice (e : TypeId) | struct (fs : List (Nat × TypeId)) | array (n : Nat) (e : TypeId)
  | map (k e : TypeId) | func | other
structure TD where
  k : TK
  size : Nat
  bytes : Nat
  zero : Value
def tkOf : TypeDesc → TK
  | .int k => .int k
  | .bool => .bool
  | .string => .str
  | .pointer e => .ptr e
  | .slice e => .slice e
  | .struct fs => .struct (fs.toList.map fun f => (f.offset, f.type))
  | .array n e => .array n e
  | .map k e => .map k e
  | .func .. => .func
  | _ => .other
def tdOf (P : Program) (t : TypeId) : Option TD :=
  match P.underlying t, P.info? t with
  | some d, some i => match i.zero with
    | some z => some ⟨tkOf d, i.size, i.bytes, z⟩
    | none => none
  | _, _ => none
def TD.agg (td : TD) : Bool :=
  match td.k with
  | .struct _ | .array _ _ => true
  | _ => false

section
variable {P : Program} {t : TypeId} {td : TD}
theorem td_parts (h : tdOf P t = some td) : ∃ d i, P.underlying t = some d ∧ P.info? t = some i ∧ i.zero = some td.zero ∧ td.k = tkOf d ∧ td.size = i.size ∧ td.bytes = i.bytes := by
  unfold tdOf at h
  split at h
  · rename_i d i hd hi
    split at h
    · rename_i z hz
      obtain rfl := Option.some.inj h
      exact ⟨d, i, hd, hi, hz, rfl, rfl, rfl⟩
    · cases h
  · cases h
variable (h : tdOf P t = some td) (w : World)
include h
theorem td_size : (sizeOf t).run P w = .ok td.size w := by
  obtain ⟨d, i, hd, hi, hz, hk, hs, hb⟩ := td_parts h
  simp [sizeOf, typeInfo, hi, hs]
theorem td_agg : (isAgg t).run P w = .ok td.agg w := by
  obtain ⟨d, i, hd, hi, hz, hk, hs, hb⟩ := td_parts h
  simp only [isAgg, Sem.run_bind, run_underlying hd, Result.andThen_ok, TD.agg, hk]
  cases d <;> simp [tkOf]
theorem td_zero : (zeroValue t).run P w = .ok td.zero w := by
  obtain ⟨d, i, hd, hi, hz, hk, hs, hb⟩ := td_parts h
  simp [zeroValue, typeInfo, hi, hz]
theorem td_info : ∃ i, (typeInfo t).run P w = .ok i w ∧ i.bytes = td.bytes ∧ i.size = td.size := by
  obtain ⟨d, i, hd, hi, hz, hk, hs, hb⟩ := td_parts h
  exact ⟨i, by simp [typeInfo, hi], hb.symm, hs.symm⟩
theorem td_slice {e : TypeId} (hk : td.k = .slice e) : P.underlying t = some (.slice e) := by
  obtain ⟨d, i, hd, hi, hz, hk', hs, hb⟩ := td_parts h
  rw [hk'] at hk; rw [hd]; cases d <;> simp_all [tkOf]
theorem td_array {n : Nat} {e : TypeId} (hk : td.k = .array n e) : P.underlying t = some (.array n e) := by
  obtain ⟨d, i, hd, hi, hz, hk', hs, hb⟩ := td_parts h
  rw [hk'] at hk; rw [hd]; cases d <;> simp_all [tkOf]
theorem td_map {k e : TypeId} (hk : td.k = .map k e) : P.underlying t = some (.map k e) := by
  obtain ⟨d, i, hd, hi, hz, hk', hs, hb⟩ := td_parts h
  rw [hk'] at hk; rw [hd]; cases d <;> simp_all [tkOf]
theorem td_int {k : IntKind} (hk : td.k = .int k) : P.underlying t = some (.int k) := by
  obtain ⟨d, i, hd, hi, hz, hk', hs, hb⟩ := td_parts h
  rw [hk'] at hk; rw [hd]; cases d <;> simp_all [tkOf]
theorem td_str (hk : td.k = .str) : P.underlying t = some .string := by
  obtain ⟨d, i, hd, hi, hz, hk', hs, hb⟩ := td_parts h
  rw [hk'] at hk; rw [hd]; cases d <;> simp_all [tkOf]
theorem td_bool (hk : td.k = .bool) : P.underlying t = some .bool := by
  obtain ⟨d, i, hd, hi, hz, hk', hs, hb⟩ := td_parts h
  rw [hk'] at hk; rw [hd]; cases d <;> simp_all [tkOf]
theorem td_ptr {e : TypeId} (hk : td.k = .ptr e) : P.underlying t = some (.pointer e) := by
  obtain ⟨d, i, hd, hi, hz, hk', hs, hb⟩ := td_parts h
  rw [hk'] at hk; rw [hd]; cases d <;> simp_all [tkOf]
theorem td_func (hk : td.k = .func) : ∃ a b c, P.underlying t = some (.func a b c) := by
  obtain ⟨d, i, hd, hi, hz, hk', hs, hb⟩ := td_parts h
  rw [hk'] at hk; rw [hd]; cases d <;> simp_all [tkOf]
theorem td_struct {fs : List (Nat × TypeId)} (hk : td.k = .struct fs) : ∃ gs : Array Field, P.underlying t = some (.struct gs) ∧ gs.toList.map (fun f => (f.offset, f.type)) = fs := by
  obtain ⟨d, i, hd, hi, hz, hk', hs, hb⟩ := td_parts h
  rw [hk'] at hk; rw [hd]; cases d <;> simp_all [tkOf]
end

theorem addr_add (b o n : Nat) : (⟨b, o, none⟩ : Addr).add n = ⟨b, o + n, none⟩ := Addr.add_lit b o n

/-! ### what a value's shape says of what stands for it -/
section inv
variable {ρ : Ren} {x y : Value}
theorem VR.toB (h : VR ρ x y) (hx : ∀ cs, x ≠ .tuple cs) : VB ρ x y := by
  cases h with
  | v h => exact h
  | tup => exact absurd rfl (hx _)
theorem VB.to1 (h : VB ρ x y) (hx : ∀ cs, x ≠ .agg cs) : V1 ρ x y := by
  cases h with
  | v h => exact h
  | agg => exact absurd rfl (hx _)
theorem VR.to1 (h : VR ρ x y) (hx : x.oneCell' = true) : V1 ρ x y :=
  (h.toB fun _ e => by subst e; cases hx).to1 fun _ e => by subst e; cases hx
theorem V1.toA (h : V1 ρ x y) (hx : ∀ f a b, x ≠ .func f a b) : VA ρ x y := by
  cases h with
  | a h => exact h
  | fn => exact absurd rfl (hx _ _ _)
theorem VR.toA (h : VR ρ x y) (hx : x.oneCell' = true) (hf : ∀ f a b, x ≠ .func f a b) : VA ρ x y := (h.to1 hx).toA hf
theorem VR.int {k n} (h : VR ρ (.int k n) y) : y = .int k n := by cases h.toA rfl (by simp); rfl
theorem VR.bool {b} (h : VR ρ (.bool b) y) : y = .bool b := by cases h.toA rfl (by simp); rfl
theorem VR.str {b} (h : VR ρ (.string b) y) : y = .string b := by cases h.toA rfl (by simp); rfl
theorem VR.nilp (h : VR ρ (.pointer none) y) : y = .pointer none := by cases h.toA rfl (by simp); rfl
theorem VR.ptr {a} (h : VR ρ (.pointer (some a)) y) : ∃ l, a.spot = none ∧ ρ a.block = some l ∧ y = .pointer (some ⟨l.B, l.o + a.off, none⟩) := by
  cases h.toA rfl (by simp) with
  | ptr h' => exact ⟨_, rfl, h', rfl⟩
theorem VR.nils {n c} (h : VR ρ (.slice none n c) y) : n = 0 ∧ c = 0 ∧ y = .slice none 0 0 := by cases h.toA rfl (by simp); exact ⟨rfl, rfl, rfl⟩
theorem VR.slice {a n c} (h : VR ρ (.slice (some a) n c) y) : ∃ l A cap, (c ≤ cap ∧ (a.spot = none ∨ cap = c)) ∧ ρ a.block = some l ∧ n ≤ cap ∧ a.off + cap * l.sz ≤ l.K ∧ (cap = 0 ∨ A = ⟨l.B, l.o + a.off, none⟩) ∧ y = .slice (some A) n cap := by
  cases h.toA rfl (by simp) with
  | sl h' a b c d e => exact ⟨_, _, _, ⟨d, e⟩, h', a, b, c, rfl⟩
theorem VR.agg {cs} (h : VR ρ (.agg cs) y) : ∃ cs', y = .agg cs' ∧ All2 (V1 ρ) cs.toList cs'.toList := by
  have hb := h.toB (by simp)
  cases hb with
  | v h => cases h with | a h => cases h
  | agg h' => exact ⟨_, rfl, h'⟩
theorem VR.tup' {cs} (h : VR ρ (.tuple cs) y) : ∃ cs', y = .tuple cs' ∧ All2 (VB ρ) cs.toList cs'.toList := by
  cases h with
  | v h => cases h with | v h => cases h with | a h => cases h
  | tup h => exact ⟨_, rfl, h⟩
theorem VR.func {f fs cs} (h : VR ρ (.func f fs cs) y) : ∃ fs' cs', y = .func f fs' cs' ∧ All2 (VA ρ) fs.toList fs'.toList ∧ All2 (VA ρ) cs.toList cs'.toList := by
  cases h.to1 rfl with
  | a h => cases h
  | fn h1 h2 => exact ⟨_, _, rfl, h1, h2⟩
theorem VR.nilf (h : VR ρ .nilFunc y) : y = .nilFunc := by
  cases h.to1 rfl with
  | a h => cases h; rfl
theorem VR.map {r} (h : VR ρ (.map (some r)) y) : ∃ l, ρ r = some l ∧ y = .map (some l.B) := by
  cases h.toA rfl (by simp) with
  | map h' => exact ⟨_, h', rfl⟩
theorem VR.nilm (h : VR ρ (.map none) y) : y = .map none := by cases h.toA rfl (by simp); rfl
theorem VR.one (h : V1 ρ x y) : VR ρ x y := .v (.v h)
theorem VR.atom (h : VA ρ x y) : VR ρ x y := .v (.v (.a h))
end inv

/-! ### load and store -/
def aload (P : Program) (t : TypeId) (s : AHeap) (v : Value) : Option Value :=
  match tdOf P t, v with
  | some td, .pointer (some a) => match s a.block with
    | some (.cells _ _ c) =>
      if td.agg then (if a.off + td.size ≤ c.length then some (.agg ((c.drop a.off).take td.size).toArray) else none) else c[a.off]?
    | _ => none
  | _, _ => none

section
variable {P : Program} {W0 w : World} {ρ : Ren} {s : AHeap}

theorem Sim.cellsAt (hS : Sim W0 ρ s w) {id rw sz c} (hs : s id = some (.cells rw sz c)) : ∃ l, ρ id = some l ∧ l.sz = sz ∧
    (∀ i v, c[i]? = some v → ∃ v', w.cell? ⟨l.B, l.o + i, none⟩ = some v' ∧ V1 ρ v v') :=
  let ⟨l, hl, hr⟩ := hS.rep id _ hs; ⟨l, hl, hr.1, hr.2.1⟩

/-- A row of cells, read. -/
theorem Sim.row (hS : Sim W0 ρ s w) {id rw sz c} (hs : s id = some (.cells rw sz c)) {off n : Nat} (hn : off + n ≤ c.length) : ∃ l, ρ id = some l ∧ l.sz = sz ∧
    ∃ cs' : List Value, All2 (V1 ρ) ((c.drop off).take n) cs' ∧ cs'.length = n ∧ (∀ (j : Nat) v, cs'[j]? = some v → w.cell? ((⟨l.B, l.o + off, none⟩ : Addr).add j) = some v) := by
  obtain ⟨l, hl, hz, hc⟩ := hS.cellsAt hs
  refine ⟨l, hl, hz, ?_⟩
  have hx : ∀ i, i < c.length → ∃ v', w.cell? ⟨l.B, l.o + i, none⟩ = some v' ∧ V1 ρ (c.getD i default) v' := fun i hi => by
    obtain ⟨v', a, b⟩ := hc i c[i] (by simp [hi])
    exact ⟨v', a, by simpa [List.getD, hi] using b⟩
  refine ⟨(List.range n).map fun j => (w.cell? ⟨l.B, l.o + (off + j), none⟩).getD default, ?_, by simp, ?_⟩
  · refine All2.of_get (by simp; omega) fun i a b ha hb => ?_
    have hi : i < n := by
      rcases Nat.lt_or_ge i n with h | h
      · exact h
      · rw [List.getElem?_eq_none (by simp; omega)] at hb; cases hb
    rw [List.getElem?_take_of_lt hi, List.getElem?_drop] at ha
    obtain ⟨v', e1, e2⟩ := hc _ _ ha
    simp [hi, e1] at hb
    subst hb; exact e2
  · intro j v hv
    have hj : j < n := by
      rcases Nat.lt_or_ge j n with h | h
      · exact h
      · rw [List.getElem?_eq_none (by simp; omega)] at hv; cases hv
    obtain ⟨v', e1, _⟩ := hx (off + j) (by omega)
    simp [hj, e1] at hv
    rw [addr_add, Nat.add_assoc, e1, hv]

theorem load_sound (hS : Sim W0 ρ s w) {t v v' x} (hv : VR ρ v v') (h : aload P t s v = some x) : ∃ x', (Instr.loadAt t v').run P w = .ok x' w ∧ VB ρ x x' := by
  unfold aload at h
  split at h
  case h_2 => cases h
  rename_i td a ht
  split at h
  case h_2 => cases h
  rename_i rw sz c hs
  obtain ⟨l, hsp, hl, rfl⟩ := hv.ptr
  have ha := td_agg ht w
  split at h
  · rename_i hagg
    split at h
    case isFalse => cases h
    rename_i hle
    obtain rfl := Option.some.inj h
    obtain ⟨l', hl', hz, cs', h2, hlen, hc⟩ := hS.row hs hle
    obtain rfl : l = l' := by rw [hl] at hl'; exact Option.some.inj hl'
    refine ⟨.agg cs'.toArray, ?_, .agg (by simpa using h2)⟩
    have hr := run_loadCells_list (P := P) w ⟨l.B, l.o + a.off, none⟩ cs' hc
    rw [hlen] at hr
    simp [Instr.loadAt, Instr.sureAddr, loadVar, ha, hagg, td_size ht w, hr]
  · rename_i hagg
    obtain ⟨l', hl', hz, hc⟩ := hS.cellsAt hs
    obtain rfl : l = l' := by rw [hl] at hl'; exact Option.some.inj hl'
    obtain ⟨v', e1, e2⟩ := hc _ _ h
    refine ⟨v', ?_, .v e2⟩
    simp [Instr.loadAt, Instr.sureAddr, loadVar, ha, hagg, e1]

def notTup : Value → Bool
  | .tuple _ => false
  | _ => true
/-- 'vs' laid over 'c' from 'off' on. -/
def splice (c : List Value) (off : Nat) : List Value → List Value
  | [] => c
  | v :: r => splice (c.set off v) (off + 1) r
theorem splice_length (c : List Value) (off : Nat) (vs : List Value) : (splice c off vs).length = c.length := by
  induction vs generalizing c off with
  | nil => rfl
  | cons v r ih => rw [splice, ih, List.length_set]

def astore (P : Program) (t : TypeId) (s : AHeap) (v x : Value) : Option AHeap :=
  match tdOf P t, v with
  | some td, .pointer (some a) => match s a.block with
    | some (.cells true sz c) =>
      if x.cells.size = td.size ∧ a.off + td.size ≤ c.length ∧ notTup x = true then some (s.set a.block (.cells true sz (splice c a.off x.cells.toList))) else none
    | _ => none
  | _, _ => none

theorem Sim.storeMany {id sz l} (hl : ρ id = some l) : ∀ (vs vs' : List Value) (c : List Value) (off : Nat) (s : AHeap) (w : World), Sim W0 ρ s w → s id = some (.cells true sz c) →
    All2 (V1 ρ) vs vs' → off + vs.length ≤ c.length →
    (∀ j, j < vs'.length → (w.cell? ⟨l.B, l.o + off + j, none⟩).isSome = true) ∧ (∀ j, j < vs'.length → w.frozen? ⟨l.B, l.o + off + j, none⟩ = false) ∧
    Sim W0 ρ (s.set id (.cells true sz (splice c off vs))) (w.setCells l.B (l.o + off) vs') := by
  intro vs
  induction vs with
  | nil =>
    intro vs' c off s w hS hs h2 hle
    cases h2
    refine ⟨by simp, by simp, ?_⟩
    have : s.set id (.cells true sz c) = s := by funext i; simp only [AHeap.set]; split <;> simp_all
    simpa [splice, World.setCells, this] using hS
  | cons v r ih =>
    intro vs' c off s w hS hs h2 hle
    cases h2 with
    | cons hv hr =>
    rename_i v' r'
    simp only [List.length_cons] at hle
    obtain ⟨e1, e2, e3⟩ := hS.store hs hl (i := off) (by omega) hv
    obtain ⟨f1, f2, f3⟩ := ih r' (c.set off v) (off + 1) _ _ e3 (AHeap.set_same _ _ _) hr (by simp; omega)
    refine ⟨?_, ?_, ?_⟩
    · intro j hj
      cases j with
      | zero => exact e1
      | succ j =>
        have := f1 j (by simpa using hj)
        rw [World.cell?_setCell_other (h := by simp; omega)] at this
        rwa [show l.o + (off + 1) + j = l.o + off + (j + 1) by omega] at this
    · intro j hj
      cases j with
      | zero => exact e2
      | succ j =>
        have := f2 j (by simpa using hj)
        rw [World.frozen?_setCell] at this
        rwa [show l.o + (off + 1) + j = l.o + off + (j + 1) by omega] at this
    · rw [AHeap.set_set] at f3
      exact f3

theorem store_sound (hS : Sim W0 ρ s w) {t v v' x x' s'} (hv : VR ρ v v') (hx : VR ρ x x') (h : astore P t s v x = some s') :
    ∃ w', (Instr.storeAt t v' x').run P w = .ok () w' ∧ Sim W0 ρ s' w' := by
  unfold astore at h
  split at h
  case h_2 => cases h
  rename_i td a ht
  split at h
  case h_2 => cases h
  rename_i sz c hs
  split at h
  case isFalse => cases h
  rename_i hc
  obtain ⟨hc1, hc2, hc3⟩ := hc
  obtain rfl := Option.some.inj h
  obtain ⟨l, hsp, hl, rfl⟩ := hv.ptr
  have hb := (hx.toB fun b e => by subst e; cases hc3).cells
  have hlen := hb.length
  simp only [Array.length_toList] at hlen
  obtain ⟨f1, f2, f3⟩ := Sim.storeMany hl _ _ c a.off s w hS hs hb (by simpa using by omega)
  refine ⟨_, ?_, f3⟩
  have h1 : ∀ y ∈ x'.cells.toList, y.oneCell' = true := fun y hy => by
    have h : ∀ {l l' : List Value}, All2 (V1 ρ) l l' → ∀ y ∈ l', y.oneCell' = true := by
      intro l l' h
      induction h with
      | nil => intro y hy; cases hy
      | cons a r ih => intro y hy; rcases List.mem_cons.1 hy with rfl | hy
                       · exact a.oneCell
                       · exact ih y hy
    exact h hb y hy
  have hst := run_storeCells_cells (P := P) l.B (l.o + a.off) x'.cells.toList 0 w (by simpa using f1) (by simpa using f2) h1
  simp only [Nat.add_zero] at hst
  simp [Instr.storeAt, Instr.sureAddr, storeVar, td_size ht w, ← hlen, hc1, hst]

/-! ### addresses -/
def afield (P : Program) (t : TypeId) (v : Value) (f : Nat) : Option Value :=
  match tdOf P t, v with
  | some td, .pointer (some a) => match td.k with
    | .struct fs => match fs[f]? with
      | some (o, ft) => match tdOf P ft with
        | some tf => if tf.size ≠ 0 then some (.pointer (some ⟨a.block, a.off + o, none⟩)) else none
        | none => none
      | none => none
    | _ => none
  | _, _ => none
theorem field_sound {t v v' f x} (hv : VR ρ v v') (h : afield P t v f = some x) : ∃ x', (Instr.fieldAt t v' f).run P w = .ok x' w ∧ VR ρ x x' := by
  unfold afield at h
  split at h
  case h_2 => cases h
  rename_i td a ht
  split at h
  case h_2 => cases h
  rename_i fs hk
  split at h
  case h_2 => cases h
  rename_i o ft hf
  split at h
  case h_2 => cases h
  rename_i tf htf
  split at h
  case isFalse => cases h
  rename_i hsz
  obtain rfl := Option.some.inj h
  obtain ⟨l, hsp, hl, rfl⟩ := hv.ptr
  obtain ⟨gs, hg, rfl⟩ := td_struct ht hk
  rw [List.getElem?_map] at hf
  cases hgf : gs.toList[f]? with
  | none => rw [hgf] at hf; cases hf
  | some g =>
  rw [hgf] at hf
  simp only [Option.map_some, Option.some.injEq, Prod.mk.injEq] at hf
  obtain ⟨rfl, rfl⟩ := hf
  have hgf' : gs[f]? = some g := by simpa using hgf
  refine ⟨.pointer (some ⟨l.B, l.o + (a.off + g.offset), none⟩), ?_, .atom (.ptr hl)⟩
  simp only [Instr.fieldAt, Sem.run_bind, run_underlying hg, Result.andThen_ok, hgf', Instr.sureAddr, Sem.run_pure]
  simp [fieldPlace, td_size htf w, hsz, addr_add, Nat.add_assoc]

def aindexAddr (P : Program) (t : TypeId) (v x : Value) : Option Value :=
  match tdOf P t, x with
  | some td, .int _ i => match td.k, v with
    | .slice e, .slice (some a) n _ => match tdOf P e with
      | some te => if 0 ≤ i ∧ i < n then some (.pointer (some ⟨a.block, a.off + i.toNat * te.size, none⟩)) else none
      | none => none
    | .array n e, .pointer (some a) => match tdOf P e with
      | some te => if 0 ≤ i ∧ i < n then some (.pointer (some ⟨a.block, a.off + i.toNat * te.size, none⟩)) else none
      | none => none
    | _, _ => none
  | _, _ => none
theorem indexAddr_sound {t v v' y y' x} (hv : VR ρ v v') (hy : VR ρ y y') (h : aindexAddr P t v y = some x) : ∃ x', (Instr.indexAt t v' y').run P w = .ok x' w ∧ VR ρ x x' := by
  unfold aindexAddr at h
  split at h
  case h_2 => cases h
  rename_i td k i ht
  obtain rfl := hy.int
  split at h
  · rename_i e a n c hk
    split at h
    case h_2 => cases h
    rename_i te hte
    split at h
    case isFalse => cases h
    rename_i hi
    obtain rfl := Option.some.inj h
    obtain ⟨l, A, cap, hsp, hl, hle, hK, hA, rfl⟩ := hv.slice
    have hA' : A = ⟨l.B, l.o + a.off, none⟩ := hA.resolve_left (by omega)
    subst hA'
    refine ⟨.pointer (some ⟨l.B, l.o + (a.off + i.toNat * te.size), none⟩), ?_, .atom (.ptr hl)⟩
    simp only [Instr.indexAt, asIntOf, Sem.run_bind, Sem.run_pure, Result.andThen_ok, run_underlying (td_slice ht hk)]
    simp [hi, td_size hte w, addr_add, Nat.add_assoc]
  · rename_i n e a hk
    split at h
    case h_2 => cases h
    rename_i te hte
    split at h
    case isFalse => cases h
    rename_i hi
    obtain rfl := Option.some.inj h
    obtain ⟨l, hsp, hl, rfl⟩ := hv.ptr
    refine ⟨.pointer (some ⟨l.B, l.o + (a.off + i.toNat * te.size), none⟩), ?_, .atom (.ptr hl)⟩
    simp only [Instr.indexAt, asIntOf, Sem.run_bind, Sem.run_pure, Result.andThen_ok, run_underlying (td_array ht hk), Instr.sureAddr]
    simp [hi, td_size hte w, addr_add, Nat.add_assoc]
  · cases h
end
end Go.Proofs.Ytoiplbackllgfaa.Ab
