/- texts of this claim, one behind the other: Ab4. -/
import Derived.Test.YtoiplbackllgfaaM4
import Derived.Laws.BytesString
import Derived.Laws.StructEq
import Derived.IntWalk
import Derived.Laws.MakeOwn

/- Slices of slices, make, aggregates, lengths, conversions, arithmetic. -/
namespace Go.Proofs.Ytoiplbackllgfaa.Ab
set_option linter.unusedVariables false
set_option linter.unusedSimpArgs false
set_option linter.unusedSectionVars false
open Go.RowKit

section
variable {P : Program} {W0 w : World} {ρ : Ren} {s : AHeap}

inductive OR (R : Value → Value → Prop) : Option Value → Option Value → Prop
  | none : OR R none none
  | some {x y} (h : R x y) : OR R (some x) (some y)

def bnd : Option Value → Nat → Option Nat
  | none, d => some d
  | some (.int _ i), _ => if 0 ≤ i then some i.toNat else none
  | some _, _ => none

theorem sliceBound_run {x y : Value} (h : VR ρ x y) {n d} (hb : bnd (some x) d = some n) {m : Nat} (hn : n ≤ m) (code : BoundsCode) :
    (Instr.sliceBound y m code).run P w = .ok n w := by
  unfold bnd at hb
  split at hb
  · rename_i heq; cases heq
  · rename_i k i heq
    obtain rfl := Option.some.inj heq
    split at hb
    case isFalse => cases hb
    rename_i hi
    obtain rfl := Option.some.inj hb
    obtain rfl := h.int
    have h2 : i ≤ (m : Int) := by omega
    simp [Instr.sliceBound, asIntOf, hi, h2]
  · cases hb

theorem sliceBounds_run {lo hi mx lo' hi' mx' : Option Value} (h1 : OR (VR ρ) lo lo') (h2 : OR (VR ρ) hi hi') (h3 : OR (VR ρ) mx mx') {n cap l h m : Nat}
    (e1 : bnd lo 0 = some l) (e2 : bnd hi n = some h) (e3 : bnd mx cap = some m) (hl : l ≤ h) (hh : h ≤ m) (hm : m ≤ cap) (hx : mx = none ∨ hi ≠ none) (b : Bool) :
    (Instr.sliceBounds b n cap lo' hi' mx').run P w = .ok (l, h, m) w := by
  unfold Instr.sliceBounds
  cases h3 with
  | none =>
    obtain rfl : cap = m := by simpa [bnd] using e3
    cases h2 with
    | none =>
      obtain rfl : n = h := by simpa [bnd] using e2
      cases h1 with
      | none => obtain rfl : 0 = l := by simpa [bnd] using e1
                simp
      | some r1 => simp [sliceBound_run r1 e1 hl]
    | some r2 =>
      cases h1 with
      | none => obtain rfl : 0 = l := by simpa [bnd] using e1
                simp [sliceBound_run r2 e2 hh]
      | some r1 => simp [sliceBound_run r1 e1 hl, sliceBound_run r2 e2 hh]
  | some r3 =>
    cases h2 with
    | none => rcases hx with h | h <;> simp at h
    | some r2 =>
      cases h1 with
      | none => obtain rfl : 0 = l := by simpa [bnd] using e1
                simp [sliceBound_run r2 e2 hh, sliceBound_run r3 e3 hm]
      | some r1 => simp [sliceBound_run r1 e1 hl, sliceBound_run r2 e2 hh, sliceBound_run r3 e3 hm]

def aslice (P : Program) (t : TypeId) (s : AHeap) (v : Value) (lo hi mx : Option Value) : Option Value :=
  match tdOf P t with
  | some td => match td.k, v with
    | .str, .string b => match bnd lo 0, bnd hi b.size, mx with
      | some l, some h, none => if l ≤ h ∧ h ≤ b.size then some (.string (b.extract l h)) else none
      | _, _, _ => none
    | .slice e, .slice none _ _ => match tdOf P e, bnd lo 0, bnd hi 0, bnd mx 0 with
      | some _, some l, some h, some m => if l = 0 ∧ h = 0 ∧ m = 0 ∧ (mx.isNone || hi.isSome) = true then some (.slice none 0 0) else none
      | _, _, _, _ => none
    | .slice e, .slice (some a) n c => match tdOf P e, s a.block with
      | some te, some (.cells _ sz _) => match bnd lo 0, bnd hi n, bnd mx c with
        | some l, some h, some m => if sz = te.size ∧ l ≤ h ∧ h ≤ m ∧ m ≤ c ∧ (mx.isNone || hi.isSome) = true then
            some (.slice (some ⟨a.block, a.off + l * sz, if mx.isSome then some 0 else a.spot⟩) (h - l) (m - l)) else none
        | _, _, _ => none
      | _, _ => none
    | _, _ => none
  | none => none

theorem slice_sound (hS : Sim W0 ρ s w) {t v v' x} {lo hi mx lo' hi' mx' : Option Value} (hv : VR ρ v v') (h1 : OR (VR ρ) lo lo') (h2 : OR (VR ρ) hi hi') (h3 : OR (VR ρ) mx mx')
    (h : aslice P t s v lo hi mx = some x) : ∃ x', (Instr.sliceAt t v' lo' hi' mx').run P w = .ok x' w ∧ VR ρ x x' := by
  unfold aslice at h
  split at h
  case h_2 => cases h
  rename_i td ht
  split at h
  · rename_i b hk
    split at h
    case h_2 => cases h
    rename_i l h' e1 e2
    split at h
    case isFalse => cases h
    rename_i hc
    obtain rfl := Option.some.inj h
    obtain rfl := hv.str
    cases h3
    have hb := sliceBounds_run (P := P) (w := w) h1 h2 (.none : OR (VR ρ) none none) (n := b.size) (cap := b.size) e1 e2 rfl hc.1 hc.2 (Nat.le_refl _) (.inl rfl) false
    exact ⟨_, by simp [Instr.sliceAt, Instr.slice, run_underlying (td_str ht hk), hb], .atom (.str _)⟩
  · rename_i e hk
    split at h
    case h_2 => cases h
    rename_i te l h' m hte e1 e2 e3
    split at h
    case isFalse => cases h
    rename_i hc
    obtain ⟨rfl, rfl, rfl, hx⟩ := hc
    obtain rfl := Option.some.inj h
    obtain ⟨rfl, rfl, rfl⟩ := hv.nils
    have hb := sliceBounds_run (P := P) (w := w) h1 h2 h3 (n := 0) (cap := 0) e1 e2 e3 (Nat.le_refl _) (Nat.le_refl _) (Nat.le_refl _)
      (by cases mx <;> cases hi <;> simp_all) true
    exact ⟨_, by simp [Instr.sliceAt, Instr.slice, run_underlying (td_slice ht hk), hb, td_size hte w], .atom .nils⟩
  · rename_i e a n c hk
    split at h
    case h_2 => cases h
    rename_i te rw sz cs hte hs
    split at h
    case h_2 => cases h
    rename_i l h' m e1 e2 e3
    split at h
    case isFalse => cases h
    rename_i hc
    obtain ⟨rfl, hlh, hhm, hmn, hx⟩ := hc
    obtain rfl := Option.some.inj h
    obtain ⟨lc, A, cap, hsp, hl, hle, hK, hA, rfl⟩ := hv.slice
    obtain ⟨lc', hl2, hlz, _⟩ := hS.cellsAt hs
    obtain rfl : lc = lc' := by rw [hl] at hl2; exact Option.some.inj hl2
    obtain ⟨m', e3', hm1, hm2, hm3⟩ : ∃ m', bnd mx cap = some m' ∧ m ≤ m' ∧ m' ≤ cap ∧ ((if mx.isSome then some 0 else a.spot) = none ∨ m' = m) := by
      cases mx with
      | none =>
        obtain rfl : c = m := by simpa [bnd] using e3
        refine ⟨cap, rfl, hsp.1, Nat.le_refl _, ?_⟩
        rcases hsp.2 with h | h
        · exact .inl (by simpa using h)
        · exact .inr h
      | some y => refine ⟨m, ?_, Nat.le_refl _, by omega, .inr rfl⟩
                  cases y <;> simp_all [bnd]
    have hb := sliceBounds_run (P := P) (w := w) h1 h2 h3 (n := n) (cap := cap) e1 e2 e3' hlh (by omega) hm2
      (by cases mx <;> cases hi <;> simp_all) true
    refine ⟨.slice (some (if m' = l then A else A.add (l * te.size))) (h' - l) (m' - l), ?_, ?_⟩
    · simp only [Instr.sliceAt, Sem.run_bind, run_underlying (td_slice ht hk), Result.andThen_ok, Instr.slice, hb, td_size hte w, Sem.run_pure, Option.map_some]
      split <;> rfl
    · refine .atom (.sl hl (by omega) ?_ ?_ (by omega) (hm3.imp id (by omega)))
      · rw [hlz] at hK ⊢
        have h5 := Nat.mul_le_mul_right te.size (show l + (m' - l) ≤ cap by omega)
        rw [Nat.add_mul] at h5
        show a.off + l * te.size + (m' - l) * te.size ≤ lc.K
        omega
      · by_cases hml : m' = l
        · exact .inl (by omega)
        · refine .inr ?_
          rw [if_neg hml, hA.resolve_left (by omega), addr_add, Nat.add_assoc]
  · cases h

/-! ### make -/
def zrep (n : Nat) (z : List Value) : List Value := (List.replicate n z).flatten
theorem zrep_length (n : Nat) (z : List Value) : (zrep n z).length = n * z.length := by simp [zrep]
theorem zrep_succ (n : Nat) (z : List Value) : zrep (n + 1) z = z ++ zrep n z := by simp [zrep, List.replicate_succ]

theorem range_zrep (z : Array Value) : ∀ n, ((Array.range (n * z.size)).map fun i => z[i % z.size]!).toList = zrep n z.toList := by
  intro n
  refine List.ext_getElem (by simp [zrep_length]) fun i h1 h2 => ?_
  have hz : 0 < z.size := by
    rcases Nat.eq_zero_or_pos z.size with h | h
    · simp [h] at h1
    · exact h
  have key : ∀ n i, i < n * z.size → (zrep n z.toList)[i]? = some (z[i % z.size]!) := by
    intro n
    induction n with
    | zero => intro i hi; omega
    | succ n ih =>
      intro i hi
      rw [zrep_succ]
      by_cases hlt : i < z.size
      · rw [List.getElem?_append_left (by simpa using hlt), Nat.mod_eq_of_lt hlt]
        simp [hlt]
      · rw [List.getElem?_append_right (by simpa using hlt)]
        rw [Array.length_toList, ih (i - z.size) (by rw [Nat.add_mul] at hi; omega), Nat.mod_eq_sub_mod (a := i) (by omega)]
  have := key n i (by simpa using h1)
  rw [List.getElem?_eq_getElem h2] at this
  simp only [Array.toList_map, Array.toList_range, List.getElem_map, List.getElem_range]
  exact (Option.some.inj this).symm

theorem zeroCells_zrep (z : Array Value) (n : Nat) : (Builtin.zeroCells z n).toList = zrep n z.toList := by
  unfold Builtin.zeroCells; exact range_zrep z n

def amakeSlice (P : Program) (t : TypeId) (s : AHeap) (len cap : Value) (id : Nat) : Option (Value × AHeap) :=
  match tdOf P t, len, cap with
  | some td, .int _ n, .int _ c => match td.k with
    | .slice e => match tdOf P e with
      | some te =>
        if te.zero.cells.size = te.size ∧ te.bytes ≠ 0 ∧ 0 ≤ n ∧ n ≤ c ∧ c * te.bytes ≤ 140737488355328 ∧ s id = none ∧ plB te.zero = true then
          some (.slice (some ⟨id, 0, none⟩) n.toNat n.toNat, s.set id (.cells true te.size (zrep n.toNat te.zero.cells.toList))) else none
      | none => none
    | _ => none
  | _, _, _ => none

theorem wrap64_small {x : Int} (h0 : 0 ≤ x) (h : x ≤ 140737488355328) : IntKind.i64.wrap x = x := IntWalk.i64_in _ (by omega)

theorem all2_zrep {z z' : List Value} (h : All2 (V1 ρ) z z') : ∀ n, All2 (V1 ρ) (zrep n z) (zrep n z') := by
  intro n
  induction n with
  | zero => exact .nil
  | succ n ih => rw [zrep_succ, zrep_succ]; exact h.append ih
theorem zrep_take (z : List Value) {n m : Nat} (h : n ≤ m) : (zrep m z).take (n * z.length) = zrep n z := by
  obtain ⟨k, rfl⟩ : ∃ k, m = n + k := ⟨m - n, by omega⟩
  unfold zrep
  rw [← List.replicate_append_replicate, List.flatten_append, List.take_left' (by simp)]

theorem makeSlice_sound (hS : Sim W0 ρ s w) {t v v' x x' id r s'} (hv : VR ρ v v') (hx : VR ρ x x') (h : amakeSlice P t s v x id = some (r, s')) :
    ∃ r' w' ρ', (Instr.makeSlice t v' x').run P w = .ok r' w' ∧ RLe ρ ρ' ∧ VR ρ' r r' ∧ Sim W0 ρ' s' w' := by
  unfold amakeSlice at h
  split at h
  case h_2 => cases h
  rename_i td k n k' c ht
  split at h
  case h_2 => cases h
  rename_i e hk
  split at h
  case h_2 => cases h
  rename_i te hte
  split at h
  case isFalse => cases h
  rename_i hc
  obtain ⟨hz, hb0, hn0, hnc, hb, hid, hpl⟩ := hc
  obtain ⟨rfl, rfl⟩ := Prod.mk.inj (Option.some.inj h)
  obtain rfl := hv.int
  obtain rfl := hx.int
  obtain ⟨de, ie, hde, hie, hze, hke, hse, hbe⟩ := td_parts hte
  have hb1 : (1 : Int) ≤ te.bytes := by omega
  have hcc : c ≤ c * te.bytes := by
    have := Int.mul_le_mul_of_nonneg_left hb1 (show 0 ≤ c by omega)
    omega
  have hlen : (zrep n.toNat te.zero.cells.toList).length = n.toNat * te.size := by rw [zrep_length, Array.length_toList, hz]
  obtain ⟨arr, harr, hlist⟩ : ∃ arr : Array Value, arr = madeCells te.zero.cells (c.toNat * ie.size) ∧ arr.toList = zrep c.toNat te.zero.cells.toList :=
    ⟨_, rfl, by rw [← hse, ← hz]; exact range_zrep _ _⟩
  have hsz : arr.size = c.toNat * te.size := by rw [← Array.length_toList, hlist, zrep_length, Array.length_toList, hz]
  have hzz : All2 (V1 ρ) te.zero.cells.toList te.zero.cells.toList := (plB.self ρ hpl).cells
  obtain ⟨hle, hS'⟩ := hS.made (id := id) hid (c := zrep n.toNat te.zero.cells.toList) (arr := arr) (el := e) (sz := te.size)
    (by rw [hlist, hlen, ← hz, ← Array.length_toList, zrep_take _ (by omega)]; exact all2_zrep hzz _)
    (by rw [hlen, hsz]; exact Nat.mul_le_mul_right _ (by omega))
  refine ⟨.slice (some ⟨w.heap.size, 0, none⟩) n.toNat c.toNat, _, _, ?_, hle, .atom (.sl (setR_same _ _ _) (by omega) ?_ (.inr rfl) (by omega) (.inl rfl)), hS'⟩
  · rw [harr]
    exact run_make w t e ie te.zero (td_slice ht hk) hie hze k k' n c hn0 hnc (by rw [← hbe, Int.mul_comm]; omega) (by omega)
  · show 0 + c.toNat * te.size ≤ arr.size
    omega

/-! ### parts of aggregates -/
def apart (P : Program) (t : TypeId) (cs : Array Value) (off : Nat) : Option Value :=
  match tdOf P t with
  | some td => if td.agg then some (.agg ((cs.toList.drop off).take td.size).toArray) else cs.toList[off]?
  | none => none
theorem part_sound {t off} {cs cs' : Array Value} {x : Value} (h2 : All2 (V1 ρ) cs.toList cs'.toList) (h : apart P t cs off = some x) : ∃ x', (part t cs' off).run P w = .ok x' w ∧ VB ρ x x' := by
  unfold apart at h
  split at h
  case h_2 => cases h
  rename_i td ht
  split at h
  · rename_i ha
    obtain rfl := Option.some.inj h
    refine ⟨.agg (cs'.extract off (off + td.size)), ?_, .agg ?_⟩
    · simp [part, td_agg ht w, ha, td_size ht w]
    · have : (cs'.extract off (off + td.size)).toList = (cs'.toList.drop off).take td.size := by
        rw [Array.toList_extract]; simp [List.extract_eq_take_drop]
      rw [this]
      simpa using (h2.drop off).take td.size
  · rename_i ha
    obtain ⟨v', e1, e2⟩ := h2.get h
    refine ⟨v', ?_, .v e2⟩
    have : cs'[off]? = some v' := by simpa using e1
    simp [part, td_agg ht w, ha, this]

def afieldV (P : Program) (t : TypeId) (v : Value) (f : Nat) : Option Value :=
  match tdOf P t, v with
  | some td, .agg cs => match td.k with
    | .struct fs => match fs[f]? with
      | some (o, ft) => apart P ft cs o
      | none => none
    | _ => none
  | _, _ => none
theorem fieldV_sound {t v v' f x} (hv : VR ρ v v') (h : afieldV P t v f = some x) : ∃ x', (Instr.field t v' f).run P w = .ok x' w ∧ VR ρ x x' := by
  unfold afieldV at h
  split at h
  case h_2 => cases h
  rename_i td cs ht
  split at h
  case h_2 => cases h
  rename_i fs hk
  split at h
  case h_2 => cases h
  rename_i o ft hf
  obtain ⟨cs', rfl, h2⟩ := hv.agg
  obtain ⟨gs, hg, rfl⟩ := td_struct ht hk
  rw [List.getElem?_map] at hf
  cases hgf : gs.toList[f]? with
  | none => rw [hgf] at hf; cases hf
  | some g =>
  rw [hgf] at hf
  simp only [Option.map_some, Option.some.injEq, Prod.mk.injEq] at hf
  obtain ⟨rfl, rfl⟩ := hf
  have hgf' : gs[f]? = some g := by simpa using hgf
  obtain ⟨x', e1, e2⟩ := part_sound (P := P) (w := w) h2 h
  exact ⟨x', by simp [Instr.field, run_underlying hg, hgf', asAgg, e1], .v e2⟩

def aindexV (P : Program) (t : TypeId) (v x : Value) : Option Value :=
  match tdOf P t, x with
  | some td, .int _ i => match td.k, v with
    | .array n e, .agg cs => match tdOf P e with
      | some te => if 0 ≤ i ∧ i < n then apart P e cs (i.toNat * te.size) else none
      | none => none
    | .str, .string b => if 0 ≤ i then (match b.data[i.toNat]? with
      | some c => some (.int .u8 c.toNat)
      | none => none) else none
    | _, _ => none
  | _, _ => none
theorem indexV_sound {t v v' y y' x} (hv : VR ρ v v') (hy : VR ρ y y') (h : aindexV P t v y = some x) : ∃ x', (Instr.index t v' y').run P w = .ok x' w ∧ VR ρ x x' := by
  unfold aindexV at h
  split at h
  case h_2 => cases h
  rename_i td k i ht
  obtain rfl := hy.int
  split at h
  · rename_i n e cs hk
    split at h
    case h_2 => cases h
    rename_i te hte
    split at h
    case isFalse => cases h
    rename_i hi
    obtain ⟨cs', rfl, h2⟩ := hv.agg
    obtain ⟨x', e1, e2⟩ := part_sound (P := P) (w := w) h2 h
    exact ⟨x', by simp [Instr.index, asIntOf, run_underlying (td_array ht hk), hi, td_size hte w, e1], .v e2⟩
  · rename_i b hk
    split at h
    case isFalse => cases h
    rename_i hi
    split at h
    case h_2 => cases h
    rename_i c hc
    obtain rfl := Option.some.inj h
    obtain rfl := hv.str
    have hc' : b[i.toNat]? = some c := by
      obtain ⟨h1, h2⟩ := Array.getElem?_eq_some_iff.1 hc
      exact getElem?_eq_some_iff.2 ⟨h1, h2⟩
    exact ⟨_, by simp [Instr.index, asIntOf, run_underlying (td_str ht hk), hi, hc'], .atom (.int _ _)⟩
  · cases h

def aextract (v : Value) (i : Nat) : Option Value :=
  match v with
  | .tuple vs => vs.toList[i]?
  | _ => none
theorem extract_sound {v v' i x} (hv : VR ρ v v') (h : aextract v i = some x) : ∃ x', (Instr.extract v' i).run P w = .ok x' w ∧ VR ρ x x' := by
  unfold aextract at h
  split at h
  case h_2 => cases h
  obtain ⟨cs', rfl, h2⟩ := hv.tup'
  obtain ⟨x', e1, e2⟩ := h2.get h
  have : cs'[i]? = some x' := by simpa using e1
  exact ⟨x', by simp [Instr.extract, this], .v e2⟩

/-! ### aggregates put together -/
def afill (place : Nat → Option (Nat × Nat)) : List Value → List (Nat × Value) → Option (List Value)
  | cs, [] => some cs
  | cs, (i, v) :: r => match place i with
    | some (off, size) => if v.cells.size = size ∧ off + size ≤ cs.length ∧ notTup v = true then afill place (splice cs off v.cells.toList) r else none
    | none => none

theorem foldl_splice (off : Nat) : ∀ (vs : List Value) (k : Nat) (cs : Array Value),
    ((vs.zipIdx k).foldl (fun (cs : Array Value) (x : Value × Nat) => cs.setIfInBounds (off + x.2) x.1) cs).toList = splice cs.toList (off + k) vs
  | [], _, _ => rfl
  | v :: r, k, cs => by
    rw [List.zipIdx_cons, List.foldl_cons, foldl_splice off r (k + 1), splice]
    simp [Nat.add_assoc]

theorem splice_rel {cs cs' vs vs' : List Value} (h : All2 (V1 ρ) cs cs') (hv : All2 (V1 ρ) vs vs') : ∀ off, All2 (V1 ρ) (splice cs off vs) (splice cs' off vs') := by
  induction hv generalizing cs cs' with
  | nil => intro off; exact h
  | cons a r ih => intro off; exact ih (h.set off a) (off + 1)

inductive PartsR (ρ : Ren) : List (Nat × Value) → List (Nat × Value) → Prop
  | nil : PartsR ρ [] []
  | cons {i v v' r r'} (h : VR ρ v v') (hr : PartsR ρ r r') : PartsR ρ ((i, v) :: r) ((i, v') :: r')

theorem fill_sound {place : Nat → Option (Nat × Nat)} {parts parts' : List (Nat × Value)} (hp : PartsR ρ parts parts') : ∀ {cs : List Value} {cs' : Array Value} {r : List Value}, All2 (V1 ρ) cs cs'.toList →
    afill place cs parts = some r → ∃ r' : Array Value, Instr.fill place cs' parts' = some r' ∧ All2 (V1 ρ) r r'.toList := by
  induction hp with
  | nil => intro cs cs' r h2 h; obtain rfl := Option.some.inj h; exact ⟨cs', rfl, h2⟩
  | @cons i v v' rr rr' hv hr ih =>
    intro cs cs' r h2 h
    simp only [afill] at h
    split at h
    case h_2 => cases h
    rename_i off size hpl
    split at h
    case isFalse => cases h
    rename_i hc
    obtain ⟨hc1, hc2, hc3⟩ := hc
    have hb := (hv.toB fun b e => by subst e; cases hc3).cells
    have hlen := hb.length
    simp only [Array.length_toList] at hlen
    have h2l := h2.length
    simp only [Array.length_toList] at h2l
    have key : (v'.cells.zipIdx.foldl (fun (cs : Array Value) (x : Value × Nat) => cs.setIfInBounds (off + x.2) x.1) cs').toList = splice cs'.toList off v'.cells.toList := by
      rw [← Array.foldl_toList, Array.toList_zipIdx]
      simpa using foldl_splice off v'.cells.toList 0 cs'
    obtain ⟨r', e1, e2⟩ := ih (cs' := v'.cells.zipIdx.foldl (fun (cs : Array Value) (x : Value × Nat) => cs.setIfInBounds (off + x.2) x.1) cs') (by rw [key]; exact splice_rel h2 hb off) h
    refine ⟨r', ?_, e2⟩
    simp only [Instr.fill, hpl]
    rw [if_neg (by simp; omega)]
    exact e1

def fldPlaces (P : Program) : List (Nat × TypeId) → Option (List (Nat × Nat))
  | [] => some []
  | (o, t) :: r => match tdOf P t, fldPlaces P r with
    | some td, some l => some ((o, td.size) :: l)
    | _, _ => none

def abuild (P : Program) (t : TypeId) (parts : List (Nat × Value)) : Option Value :=
  match tdOf P t with
  | some td => if plB td.zero = true then match td.k with
    | .struct fs => match fldPlaces P fs with
      | some pl => (afill (pl[·]?) td.zero.cells.toList parts).map fun l => .agg l.toArray
      | none => none
    | .array _ e => match tdOf P e with
      | some te => (afill (fun i => some (i * te.size, te.size)) td.zero.cells.toList parts).map fun l => .agg l.toArray
      | none => none
    | _ => none
    else none
  | none => none

theorem fldPlaces_run : ∀ (gs : List Field) {pl}, fldPlaces P (gs.map fun f => (f.offset, f.type)) = some pl →
    ∀ w : World, (gs.mapM (m := Sem) fun f => Prod.mk f.offset <$> sizeOf f.type).run P w = .ok pl w
  | [], pl, h, w => by obtain rfl := Option.some.inj h; simp
  | g :: gs, pl, h, w => by
    simp only [List.map_cons, fldPlaces] at h
    split at h
    case h_2 => cases h
    rename_i td l ht hl
    obtain rfl := Option.some.inj h
    simp [td_size ht, fldPlaces_run gs hl]

theorem build_sound {t} {parts parts' : Array (Nat × Value)} {x} (hp : PartsR ρ parts.toList parts'.toList) (h : abuild P t parts.toList = some x) :
    ∃ x', (Instr.build t parts').run P w = .ok x' w ∧ VR ρ x x' := by
  unfold abuild at h
  split at h
  case h_2 => cases h
  rename_i td ht
  split at h
  case isFalse => cases h
  rename_i hpl
  have hzz : All2 (V1 ρ) td.zero.cells.toList td.zero.cells.toList := (plB.self ρ hpl).cells
  split at h
  · rename_i fs hk
    split at h
    case h_2 => cases h
    rename_i pl hfp
    obtain ⟨gs, hg, rfl⟩ := td_struct ht hk
    cases hf : afill (pl[·]?) td.zero.cells.toList parts.toList with
    | none => rw [hf] at h; cases h
    | some l =>
    rw [hf] at h
    obtain rfl := Option.some.inj h
    obtain ⟨r', e1, e2⟩ := fill_sound hp hzz hf
    refine ⟨.agg r', ?_, .v (.agg (by simpa using e2))⟩
    have hm := fldPlaces_run gs.toList hfp w
    have hm' : (gs.mapM (m := Sem) fun f => Prod.mk f.offset <$> sizeOf f.type).run P w = .ok pl.toArray w := by
      rw [Array.mapM_eq_mapM_toList]; simp only [Sem.run_map, hm, Result.andThen_ok]
    simp [Instr.build, td_zero ht, run_underlying hg, hm', e1]
  · rename_i n e hk
    split at h
    case h_2 => cases h
    rename_i te hte
    cases hf : afill (fun i => some (i * te.size, te.size)) td.zero.cells.toList parts.toList with
    | none => rw [hf] at h; cases h
    | some l =>
    rw [hf] at h
    obtain rfl := Option.some.inj h
    obtain ⟨r', e1, e2⟩ := fill_sound hp hzz hf
    exact ⟨.agg r', by simp [Instr.build, td_zero ht, run_underlying (td_array ht hk), td_size hte, e1], .v (.agg (by simpa using e2))⟩
  · cases h

def abuildSlice (P : Program) (t : TypeId) (len : Nat) (parts : List (Nat × Value)) (s : AHeap) (id : Nat) : Option (Value × AHeap) :=
  match tdOf P t with
  | some td => match td.k with
    | .slice e => match tdOf P e with
      | some te => if te.zero.cells.size = te.size ∧ len * te.size ≤ 16777216 ∧ plB te.zero = true ∧ s id = none then
          match afill (fun i => some (i * te.size, te.size)) (zrep len te.zero.cells.toList) parts with
          | some l => some (.slice (some ⟨id, 0, none⟩) len len, s.set id (.cells true te.size l))
          | none => none
          else none
      | none => none
    | _ => none
  | none => none

theorem afill_length {place} : ∀ {parts : List (Nat × Value)} {cs r : List Value}, afill place cs parts = some r → r.length = cs.length
  | [], cs, r, h => by obtain rfl := Option.some.inj h; rfl
  | (i, v) :: p, cs, r, h => by
    simp only [afill] at h
    split at h
    case h_2 => cases h
    split at h
    case isFalse => cases h
    rw [afill_length h, splice_length]

theorem buildSlice_sound (hS : Sim W0 ρ s w) {t len} {parts parts' : Array (Nat × Value)} {x s' id} (hp : PartsR ρ parts.toList parts'.toList) (h : abuildSlice P t len parts.toList s id = some (x, s')) :
    ∃ x' w' ρ', (Instr.buildSlice t len parts').run P w = .ok x' w' ∧ RLe ρ ρ' ∧ VR ρ' x x' ∧ Sim W0 ρ' s' w' := by
  unfold abuildSlice at h
  split at h
  case h_2 => cases h
  rename_i td ht
  split at h
  case h_2 => cases h
  rename_i e hk
  split at h
  case h_2 => cases h
  rename_i te hte
  split at h
  case isFalse => cases h
  rename_i hc
  obtain ⟨hz, hlen, hpl, hid⟩ := hc
  split at h
  case h_2 => cases h
  rename_i l hf
  obtain ⟨rfl, rfl⟩ := Prod.mk.inj (Option.some.inj h)
  have hzz : All2 (V1 ρ) te.zero.cells.toList te.zero.cells.toList := (plB.self ρ hpl).cells
  obtain ⟨r', e1, e2⟩ := fill_sound (cs' := madeCells te.zero.cells (len * te.zero.cells.size)) hp (by unfold madeCells; rw [range_zrep]; exact all2_zrep hzz len) hf
  have hl : l.length = len * te.size := by rw [afill_length hf, zrep_length, Array.length_toList, hz]
  have hr : r'.size = len * te.size := by rw [← Array.length_toList, ← e2.length, hl]
  obtain ⟨hle, hS'⟩ := hS.made (id := id) hid (c := l) (arr := r') (el := e) (sz := te.size) (by rw [hl, ← hr, ← Array.length_toList, List.take_length]; exact e2) (by omega)
  refine ⟨.slice (some ⟨w.heap.size, 0, none⟩) len len, _, _, ?_, hle, .atom (.sl (setR_same _ _ _) (Nat.le_refl _) (by show 0 + len * te.size ≤ r'.size; omega) (.inr rfl) (Nat.le_refl _) (.inl rfl)), hS'⟩
  unfold madeCells at e1
  rw [hz] at e1
  have hgt : ¬ (len * te.size > 2 ^ 24) := by omega
  have hgt' : ¬ (16777216 < len * te.size) := by omega
  by_cases h0 : len * te.size = 0
  · rw [h0, Array.range_zero', Array.map_empty] at e1
    simp [Instr.buildSlice, run_underlying (td_slice ht hk), td_size hte, h0, newRow, Array.range_zero', e1]
  · simp [Instr.buildSlice, run_underlying (td_slice ht hk), td_size hte, h0, hgt', td_zero hte, newRow, hz, e1]
end
end Go.Proofs.Ytoiplbackllgfaa.Ab
