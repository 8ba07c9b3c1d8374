/- texts of this claim, one behind the other: Ab3. -/
import Derived.Test.YtoiplbackllgfaaM3
import Derived.Laws.Build
import Derived.Laws.AppendOwn

/- New blocks, append, slices, aggregates. -/
namespace Go.Proofs.Ytoiplbackllgfaa.Ab
set_option linter.unusedVariables false
set_option linter.unusedSimpArgs false
set_option linter.unusedSectionVars false
open Go.RowKit

section
variable {P : Program} {W0 w : World} {ρ : Ren} {s : AHeap}

theorem Sim.grow (hS : Sim W0 ρ s w) (o : Obj) : Sim W0 ρ s (w.alloc o) := by
  refine ⟨hS.below.alloc hS.below.size o, fun id b hb => ?_, hS.dom, hS.apart, hS.fin⟩
  obtain ⟨l, hl, hr⟩ := hS.rep id b hb
  refine ⟨l, hl, ?_⟩
  cases hlv : b.live with
  | false => exact hr.of_idle hlv
  | true => exact hr.same (Below.heap_alloc _ _ _ (hS.lt hb hl hlv)) (by simp)

theorem Sim.kill (hS : Sim W0 ρ s w) {id b} (hs : s id = some b) : Sim W0 ρ (s.set id .dead) w := by
  refine ⟨hS.below, fun id' b' hb => ?_, fun id' l hl => ?_, ?_, fin_set hS.fin _ _⟩
  · by_cases h : id' = id
    · subst h; rw [AHeap.set_same] at hb; obtain rfl := Option.some.inj hb
      obtain ⟨l, hl, _⟩ := hS.rep id' _ hs; exact ⟨l, hl, trivial⟩
    · rw [AHeap.set_other _ _ h] at hb; exact hS.rep id' b' hb
  · by_cases h : id' = id
    · subst h; rw [AHeap.set_same]; rfl
    · rw [AHeap.set_other _ _ h]; exact hS.dom id' l hl
  · intro x y bx bY lx ly hne hx hy ho hlv hlx hly
    by_cases h : x = id
    · subst h; rw [AHeap.set_same] at hx; obtain rfl := Option.some.inj hx; cases ho
    · by_cases h' : y = id
      · subst h'; rw [AHeap.set_same] at hy; obtain rfl := Option.some.inj hy; cases hlv
      · rw [AHeap.set_other _ _ h] at hx; rw [AHeap.set_other _ _ h'] at hy
        exact hS.apart x y bx bY lx ly hne hx hy ho hlv hlx hly

theorem heap_setCells (B : Nat) : ∀ (vs : List Value) (o : Nat) (w : World) (k : Nat), k ≠ B → (w.setCells B o vs).heap[k]? = w.heap[k]?
  | [], _, _, _, _ => rfl
  | v :: r, o, w, k, h => by rw [World.setCells, heap_setCells B r _ _ k h, Below.heap_setCell _ _ _ _ (by simpa using h)]
theorem size_setCells (B : Nat) : ∀ (vs : List Value) (o : Nat) (w : World), (w.setCells B o vs).heap.size = w.heap.size
  | [], _, _ => rfl
  | v :: r, o, w => by rw [World.setCells, size_setCells B r, World.size_setCell]
theorem below_setCells {W0 : World} {b B : Nat} (hB : b ≤ B) : ∀ (vs : List Value) (o : Nat) (w : World), Below b W0 w → Below b W0 (w.setCells B o vs)
  | [], _, _, h => h
  | v :: r, o, w, h => by rw [World.setCells]; exact below_setCells hB r _ _ (h.setCell (p := ⟨B, o, none⟩) hB v)

theorem Sim.aside (hS : Sim W0 ρ s w) {B : Nat} (hB : W0.heap.size ≤ B) (hap : ∀ id b l, s id = some b → b.live = true → ρ id = some l → l.B ≠ B) (o : Nat) (vs : List Value) :
    Sim W0 ρ s (w.setCells B o vs) := by
  refine ⟨below_setCells hB _ _ _ hS.below, fun id b hb => ?_, hS.dom, hS.apart, hS.fin⟩
  obtain ⟨l, hl, hr⟩ := hS.rep id b hb
  refine ⟨l, hl, ?_⟩
  cases hlv : b.live with
  | false => exact hr.of_idle hlv
  | true => exact hr.same (heap_setCells _ _ _ _ _ (hap id b l hb hlv hl)) (by rw [size_setCells]; exact Nat.le_refl _)

/-- A new block under a new name. -/
theorem Sim.made (hS : Sim W0 ρ s w) {id : Nat} (hs : s id = none) {c : List Value} {arr : Array Value} {el : TypeId} {sz : Nat} (h2 : All2 (V1 ρ) c (arr.toList.take c.length)) (hlen : c.length ≤ arr.size) :
    RLe ρ (setR ρ id ⟨w.heap.size, 0, arr.size, sz⟩) ∧ Sim W0 (setR ρ id ⟨w.heap.size, 0, arr.size, sz⟩) (s.set id (.cells true sz c)) (w.alloc (.cells arr el)) := by
  refine (hS.grow (.cells arr el)).name hs ?_ ?_
  · intro ρ' hle
    refine ⟨rfl, fun i v hv => ?_, fun _ => ⟨hS.below.size, by simp, hlen, fun i hi => ?_⟩⟩
    · obtain ⟨v', a, b⟩ := h2.get hv
      have hi : i < c.length := by
        rcases Nat.lt_or_ge i c.length with h | h
        · exact h
        · rw [List.getElem?_eq_none h] at hv; cases hv
      rw [List.getElem?_take_of_lt hi] at a
      exact ⟨v', by simp only [Nat.zero_add, World.cell?_alloc_new]; simpa using a, b.mono hle⟩
    · simp only [Nat.zero_add, World.cell?_alloc_new, World.frozen?_alloc_new, and_true]
      have : i < arr.size := hi
      simp [this]
  · intro id' b' l' hb hlv hl
    have := hS.lt hb hl hlv
    exact Nat.ne_of_gt this

/-! ### the cells of a slice or a string -/
def srcCells (s : AHeap) (sz : Nat) : Value → Option (Nat × List Value)
  | .slice none _ _ => some (0, [])
  | .slice (some a) n _ => if n = 0 then some (0, []) else match s a.block with
    | some (.cells _ sz' c) => if sz' = sz ∧ a.off + n * sz ≤ c.length then some (n, (c.drop a.off).take (n * sz)) else none
    | _ => none
  | .string b => some (b.size, b.data.toList.map fun x => .int .u8 x.toNat)
  | _ => none

theorem loadCells_zero (a : Addr) : (loadCells a 0).run P w = .ok #[] w := by simpa using run_loadCells_list (P := P) w a [] (by simp)

theorem src_sound (hS : Sim W0 ρ s w) {x x' : Value} (hx : VR ρ x x') {sz n xs} (h : srcCells s sz x = some (n, xs)) :
    (Builtin.lenOf x').run P w = .ok n w ∧ ∃ ys : List Value, (Builtin.firstCells sz n x').run P w = .ok ys.toArray w ∧ All2 (V1 ρ) xs ys := by
  unfold srcCells at h
  split at h
  · obtain ⟨rfl, rfl⟩ := Prod.mk.inj (Option.some.inj h)
    obtain ⟨_, _, rfl⟩ := hx.nils
    exact ⟨rfl, [], by simp [Builtin.firstCells], .nil⟩
  · rename_i a m c
    obtain ⟨l, A, cap, hsp, hl, hle, hK, hA, rfl⟩ := hx.slice
    split at h
    · rename_i hm
      obtain ⟨rfl, rfl⟩ := Prod.mk.inj (Option.some.inj h)
      subst hm
      exact ⟨rfl, [], by simp [Builtin.firstCells, loadCells_zero], .nil⟩
    · rename_i hm
      split at h
      case h_2 => cases h
      rename_i rw sz' c' hs
      split at h
      case isFalse => cases h
      rename_i hc
      obtain ⟨rfl, hc2⟩ := hc
      obtain ⟨rfl, rfl⟩ := Prod.mk.inj (Option.some.inj h)
      obtain ⟨l', hl', hz, cs', h2, hlen, hcl⟩ := hS.row hs hc2
      obtain rfl : l = l' := by rw [hl] at hl'; exact Option.some.inj hl'
      have hA' := hA.resolve_left (by omega)
      subst hA'
      exact ⟨rfl, cs', run_firstCells_some w sz' m _ _ _ cs' hlen hcl, h2⟩
  · obtain ⟨rfl, rfl⟩ := Prod.mk.inj (Option.some.inj h)
    obtain rfl := hx.str
    rename_i b
    refine ⟨rfl, (b.data.toList.map fun x => .int .u8 x.toNat), ?_, ?_⟩
    · have e : b.extract 0 b.size = b := by rw [ByteArray.extract_zero_size]
      simp only [Builtin.firstCells, e, Sem.run_pure]
      congr 1
      rw [← Array.toList_map]
    · have : ∀ l : List UInt8, All2 (V1 ρ) (l.map fun x => (.int .u8 x.toNat : Value)) (l.map fun x => .int .u8 x.toNat) := by
        intro l; induction l with
        | nil => exact .nil
        | cons a l ih => exact .cons (.a (.int _ _)) ih
      exact this _
  · cases h

/-! ### append -/
def srcOk : TK → Bool
  | .slice _ => true
  | .str => true
  | _ => false
def aappend (P : Program) (t tx : TypeId) (s : AHeap) (v x : Value) (id : Nat) : Option (Value × AHeap) :=
  match tdOf P t, tdOf P tx with
  | some td, some tdx => match td.k with
    | .slice e => match tdOf P e with
      | some te => match srcCells s te.size x with
        | some (m, xs) =>
          if srcOk tdx.k = true then
          if m = 0 then (match v with
            | .slice none _ _ => some (.slice none 0 0, s)
            | .slice (some a) n c => some (.slice (some a) n c, s)
            | _ => none)
          else match v with
            | .slice none _ _ => if te.zero.cells.size = te.size ∧ te.bytes ≠ 0 ∧ m * te.bytes ≤ 140737488355328 ∧ xs.length = m * te.size ∧ s id = none then
                some (.slice (some ⟨id, 0, none⟩) m m, s.set id (.cells true te.size xs)) else none
            | .slice (some a) n c =>
              if n + m ≤ c then (match s a.block with
                | some (.cells true sz cs) => if sz = te.size ∧ a.off + (n + m) * sz ≤ cs.length ∧ xs.length = m * te.size then
                    some (.slice (some a) (n + m) c, s.set a.block (.cells true sz (splice cs (a.off + n * sz) xs))) else none
                | _ => none)
              else if te.zero.cells.size = te.size ∧ te.bytes ≠ 0 ∧ (n + m) * te.bytes ≤ 140737488355328 ∧ xs.length = m * te.size ∧ s id = none then
                (if a.spot.isSome then (match srcCells s te.size (.slice (some a) n c) with
                  | some (_, old) => if old.length = n * te.size then some (.slice (some ⟨id, 0, none⟩) (n + m) (n + m), s.set id (.cells true te.size (old ++ xs))) else none
                  | none => none)
                else match s a.block with
                | some (.cells true sz cs) => if sz = te.size ∧ a.off + n * sz ≤ cs.length then
                    some (.slice (some ⟨id, 0, none⟩) (n + m) (n + m), (s.set a.block .dead).set id (.cells true sz ((cs.drop a.off).take (n * sz) ++ xs))) else none
                | _ => none)
              else none
            | _ => none
          else none
        | none => none
      | none => none
    | _ => none
  | _, _ => none

theorem All2.oneCell : ∀ {l l' : List Value}, All2 (V1 ρ) l l' → ∀ y ∈ l', y.oneCell' = true
  | _, _, .cons a r, y, hy => by
    rcases List.mem_cons.1 hy with rfl | hy
    · exact a.oneCell
    · exact All2.oneCell r y hy

/-- The machine's append where the slice has no room: a new block. -/
theorem run_append_new {t tx ty e : TypeId} {td te : TD} (ht : tdOf P t = some td) (hk : td.k = .slice e) (hte : tdOf P e = some te)
    (htx : (∃ e', P.underlying tx = some (.slice e')) ∨ P.underlying tx = some .string) {base : Option Addr} {n cap m : Nat} {x' : Value} {old new : List Value}
    (hz : te.zero.cells.size = te.size) (hb0 : te.bytes ≠ 0) (hb : (n + m) * te.bytes ≤ 140737488355328) (hcap : cap < n + m)
    (hl : (Builtin.lenOf x').run P w = .ok m w) (hnew : (Builtin.firstCells te.size m x').run P w.drew = .ok new.toArray w.drew)
    (hold : (Builtin.firstCells te.size n (.slice base n cap)).run P w.drew = .ok old.toArray w.drew)
    (hol : old.length = n * te.size) (hnl : new.length = m * te.size) :
    ∃ (newCap : Nat) (arr : Array Value), n + m ≤ newCap ∧ arr.size = newCap * te.size ∧ arr.toList.take ((n + m) * te.size) = old ++ new ∧
      (Builtin.append_ #[t, tx] ty #[.slice base n cap, x']).run P w = .ok (.slice (some ⟨w.heap.size, 0, none⟩) (n + m) newCap) (w.drew.alloc (.cells arr e)) := by
  obtain ⟨de, ie, hde, hie, hze, hke, hse, hbe⟩ := td_parts hte
  have hn : ¬ (n + m ≤ cap) := by omega
  have hz0 : ie.bytes ≠ 0 := by rw [← hbe]; exact hb0
  have h48' : ¬ (281474976710656 < Builtin.nextslicecap (n + m) cap * ie.bytes) := by
    have h1 := nextslicecap_le (need := n + m) (old := cap) (by omega)
    have h2 := Nat.mul_le_mul_right te.bytes h1
    rw [← hbe]
    rw [Nat.mul_assoc] at h2
    omega
  have hnm : n + m ≤ 140737488355328 := Nat.le_trans (Nat.le_mul_of_pos_right _ (Nat.pos_of_ne_zero hb0)) hb
  have h63' : ¬ (9223372036854775807 < ((n : Int) + (m : Int))) := by omega
  have hr : n + m ≤ grownCap w (n + m) cap e := Nat.le_add_right _ _
  refine ⟨grownCap w (n + m) cap e, (old ++ new).toArray ++ Builtin.zeroCells te.zero.cells (grownCap w (n + m) cap e - (n + m)), hr, ?_, ?_, ?_⟩
  · rw [Array.size_append, size_zeroCells, hz]
    simp only [List.size_toArray, List.length_append, hol, hnl]
    rw [Nat.sub_mul, Nat.add_mul]
    have := Nat.mul_le_mul_right te.size hr
    rw [Nat.add_mul] at this
    omega
  · have : (old ++ new).length = (n + m) * te.size := by simp [hol, hnl, Nat.add_mul]
    rw [Array.toList_append, List.take_left' (by simpa using this)]
  · rw [hse] at hnew hold
    rcases htx with ⟨e', hu⟩ | hu
    · simp [Builtin.append_, run_underlying (td_slice ht hk), run_underlying hu, sizeOf, typeInfo, zeroValue, hie, hze, hl, hn, h63', h48', hz0, Question.forced, hnew, hold, newRow, grownCap]
      congr 2
      apply Array.ext'
      simp [List.append_assoc]
    · simp [Builtin.append_, run_underlying (td_slice ht hk), run_underlying hu, sizeOf, typeInfo, zeroValue, hie, hze, hl, hn, h63', h48', hz0, Question.forced, hnew, hold, newRow, grownCap]
      congr 2
      apply Array.ext'
      simp [List.append_assoc]

/-- The machine's append where there is room. -/
theorem run_append_here {t tx ty e : TypeId} {td te : TD} (ht : tdOf P t = some td) (hk : td.k = .slice e) (hte : tdOf P e = some te)
    (htx : (∃ e', P.underlying tx = some (.slice e')) ∨ P.underlying tx = some .string) {B o : Nat} {n cap m : Nat} {x' : Value} {new : List Value}
    (hcap : n + m ≤ cap) (hl : (Builtin.lenOf x').run P w = .ok m w) (hnew : (Builtin.firstCells te.size m x').run P w = .ok new.toArray w)
    (h1 : ∀ j, j < new.length → (w.cell? ⟨B, o + n * te.size + j, none⟩).isSome = true) (h2 : ∀ j, j < new.length → w.frozen? ⟨B, o + n * te.size + j, none⟩ = false) (h3 : ∀ y ∈ new, y.oneCell' = true) :
    (Builtin.append_ #[t, tx] ty #[.slice (some ⟨B, o, none⟩) n cap, x']).run P w = .ok (.slice (some ⟨B, o, none⟩) (n + m) cap) (w.setCells B (o + n * te.size) new) := by
  obtain ⟨de, ie, hde, hie, hze, hke, hse, hbe⟩ := td_parts hte
  have hst := run_storeCells_cells (P := P) B (o + n * te.size) new 0 w (by simpa using h1) (by simpa using h2) h3
  rw [Nat.add_zero] at hst
  rw [hse] at hnew hst ⊢
  rcases htx with ⟨e', hu⟩ | hu
  · simp [Builtin.append_, run_underlying (td_slice ht hk), run_underlying hu, sizeOf, typeInfo, hie, hl, hcap, hnew, Addr.add_lit, hst]
  · simp [Builtin.append_, run_underlying (td_slice ht hk), run_underlying hu, sizeOf, typeInfo, hie, hl, hcap, hnew, Addr.add_lit, hst]

theorem run_append_nothing {t tx ty e : TypeId} {td te : TD} (ht : tdOf P t = some td) (hk : td.k = .slice e) (hte : tdOf P e = some te)
    (htx : (∃ e', P.underlying tx = some (.slice e')) ∨ P.underlying tx = some .string) {base : Option Addr} {n cap : Nat} {x' : Value}
    (hcap : n ≤ cap) (hl : (Builtin.lenOf x').run P w = .ok 0 w) (hnew : (Builtin.firstCells te.size 0 x').run P w = .ok #[] w) :
    (Builtin.append_ #[t, tx] ty #[.slice base n cap, x']).run P w = .ok (.slice base n cap) w := by
  obtain ⟨de, ie, hde, hie, hze, hke, hse, hbe⟩ := td_parts hte
  rw [hse] at hnew
  cases base <;> rcases htx with ⟨e', hu⟩ | hu <;>
    simp [Builtin.append_, run_underlying (td_slice ht hk), run_underlying hu, sizeOf, typeInfo, hie, hl, hcap, hnew, storeCells]

theorem append_sound (hS : Sim W0 ρ s w) {t tx ty v v' x x' id r s'} (hv : VR ρ v v') (hx : VR ρ x x') (h : aappend P t tx s v x id = some (r, s')) :
    ∃ r' w' ρ', (Builtin.append_ #[t, tx] ty #[v', x']).run P w = .ok r' w' ∧ RLe ρ ρ' ∧ VR ρ' r r' ∧ Sim W0 ρ' s' w' := by
  unfold aappend at h
  split at h
  case h_2 => cases h
  rename_i td tdx ht htx
  split at h
  case h_2 => cases h
  rename_i e hk
  split at h
  case h_2 => cases h
  rename_i te hte
  split at h
  case h_2 => cases h
  rename_i m xs hsrc
  split at h
  case isFalse => cases h
  rename_i hok
  have hux : (∃ e', P.underlying tx = some (.slice e')) ∨ P.underlying tx = some .string := by
    cases hkx : tdx.k <;> rw [hkx] at hok <;> first | exact .inl ⟨_, td_slice htx hkx⟩ | exact .inr (td_str htx hkx) | cases hok
  obtain ⟨hl, ys, hys, h2⟩ := src_sound (P := P) hS hx hsrc
  split at h
  · rename_i hm
    subst hm
    have hxs : xs = [] := by
      unfold srcCells at hsrc
      split at hsrc
      · simpa using hsrc.symm
      · split at hsrc
        · simpa using hsrc.symm
        · rename_i hne
          split at hsrc
          case h_2 => cases hsrc
          split at hsrc
          case isFalse => cases hsrc
          simp at hsrc; exact absurd hsrc.1 hne
      · simp at hsrc; obtain ⟨h0, rfl⟩ := hsrc; subst h0; rfl
      · cases hsrc
    subst hxs
    cases h2
    split at h
    · obtain ⟨rfl, rfl⟩ := Prod.mk.inj (Option.some.inj h)
      obtain ⟨rfl, rfl, rfl⟩ := hv.nils
      exact ⟨_, w, ρ, run_append_nothing (ty := ty) ht hk hte hux (Nat.le_refl 0) hl hys, RLe.refl _, hv, hS⟩
    · obtain ⟨rfl, rfl⟩ := Prod.mk.inj (Option.some.inj h)
      obtain ⟨l, A, cap, hsp, hl', hle, hK, hA, rfl⟩ := hv.slice
      exact ⟨_, w, ρ, run_append_nothing (ty := ty) ht hk hte hux hle hl hys, RLe.refl _, hv, hS⟩
    · cases h
  · rename_i hm
    split at h
    · -- a nil slice
      split at h
      case isFalse => cases h
      rename_i hc
      obtain ⟨hz, hb0, hb, hxl, hid⟩ := hc
      obtain ⟨rfl, rfl⟩ := Prod.mk.inj (Option.some.inj h)
      obtain ⟨rfl, rfl, rfl⟩ := hv.nils
      obtain ⟨_, ys', hys', h2'⟩ := src_sound (P := P) hS.drew hx hsrc
      obtain ⟨nc, arr, hnc, hsz, htk, hrun⟩ := run_append_new (w := w) (ty := ty) (base := none) (n := 0) (cap := 0) ht hk hte hux (old := []) (new := ys') hz hb0 (by simpa using hb) (by omega) hl hys'
        (by simp [Builtin.firstCells]) (by simp) (by rw [← h2'.length, hxl])
      simp only [Nat.zero_add, List.nil_append] at hrun hnc htk
      obtain ⟨hle, hS'⟩ := hS.drew.made (id := id) hid (c := xs) (arr := arr) (el := e) (sz := te.size) (by rw [hxl, htk]; exact h2')
        (by rw [hxl, hsz]; exact Nat.mul_le_mul_right _ hnc)
      refine ⟨_, _, _, hrun, hle, ?_, hS'⟩
      exact .atom (.sl (setR_same _ _ _) hnc (by simp [hsz]) (.inr rfl) hnc (.inl rfl))
    · rename_i a n c
      obtain ⟨l, A, cap, hsp, hl', hle, hK, hA, rfl⟩ := hv.slice
      split at h
      · -- room that is known
        rename_i hroom
        split at h
        case h_2 => cases h
        rename_i sz cs hs
        split at h
        case isFalse => cases h
        rename_i hc
        obtain ⟨hsz, hcl, hxl⟩ := hc
        subst hsz
        obtain ⟨rfl, rfl⟩ := Prod.mk.inj (Option.some.inj h)
        have hA' := hA.resolve_left (by omega)
        subst hA'
        have hyl : ys.length = m * te.size := by rw [← h2.length, hxl]
        rw [Nat.add_mul] at hcl
        obtain ⟨f1, f2, f3⟩ := Sim.storeMany hl' _ _ cs (a.off + n * te.size) s w hS hs h2 (by rw [hxl]; omega)
        have hrun := run_append_here (w := w) (ty := ty) (B := l.B) (o := l.o + a.off) (n := n) (cap := cap) (m := m) (x' := x') (new := ys) ht hk hte hux (by omega) hl hys
          (fun j hj => by have := f1 j hj; rwa [← Nat.add_assoc] at this) (fun j hj => by have := f2 j hj; rwa [← Nat.add_assoc] at this) (All2.oneCell h2)
        rw [show l.o + a.off + n * te.size = l.o + (a.off + n * te.size) by omega] at hrun
        exact ⟨_, _, ρ, hrun, RLe.refl _, .atom (.sl hl' (by omega) hK (.inr rfl) hsp.1 hsp.2), f3⟩
      rename_i hnoroom
      split at h
      case isFalse => cases h
      rename_i hc
      obtain ⟨hz, hb0, hb, hxl, hid⟩ := hc
      split at h
      · -- a capacity that is known: a new block
        rename_i hspot
        split at h
        case h_2 => cases h
        rename_i n0 old hold
        split at h
        case isFalse => cases h
        rename_i hol
        obtain ⟨rfl, rfl⟩ := Prod.mk.inj (Option.some.inj h)
        have hcap : cap = c := hsp.2.resolve_left (by intro e; rw [e] at hspot; cases hspot)
        subst hcap
        obtain ⟨_, ys', hys', h2'⟩ := src_sound (P := P) hS.drew hx hsrc
        obtain ⟨hlo, old', hold', h2o⟩ := src_sound (P := P) hS.drew hv hold
        have hn0 : n = n0 := by
          have : (Builtin.lenOf (.slice (some A) n cap)).run P w.drew = .ok n w.drew := rfl
          rw [this] at hlo; cases hlo; rfl
        subst hn0
        obtain ⟨nc, arr, hnc, hsz, htk, hrun⟩ := run_append_new (w := w) (ty := ty) (base := some A) (n := n) (cap := cap) ht hk hte hux (old := old') (new := ys') hz hb0 hb (by omega) hl hys' hold' (by rw [← h2o.length, hol]) (by rw [← h2'.length, hxl])
        have hcl2 : (old ++ xs).length = (n + m) * te.size := by simp [hxl, hol, Nat.add_mul]
        obtain ⟨hle', hS'⟩ := hS.drew.made (id := id) hid (c := old ++ xs) (arr := arr) (el := e) (sz := te.size)
          (by rw [hcl2, htk]; exact h2o.append h2') (by rw [hcl2, hsz]; exact Nat.mul_le_mul_right _ hnc)
        refine ⟨_, _, _, hrun, hle', .atom (.sl (setR_same _ _ _) hnc ?_ (.inr rfl) hnc (.inl rfl)), hS'⟩
        show 0 + nc * te.size ≤ arr.size
        omega
      split at h
      case h_2 => cases h
      rename_i sz cs hs
      split at h
      case isFalse => cases h
      rename_i hc
      obtain ⟨hsz, hcl⟩ := hc
      subst hsz
      obtain ⟨rfl, rfl⟩ := Prod.mk.inj (Option.some.inj h)
      obtain ⟨l2, hl2, hr⟩ := hS.rep _ _ hs
      obtain rfl : l = l2 := by rw [hl'] at hl2; exact Option.some.inj hl2
      obtain ⟨hlsz, hcell, hown⟩ := hr
      obtain ⟨hB0, hBlt, hlK, hall⟩ := hown rfl
      have hidne : id ≠ a.block := fun e => by subst e; rw [hid] at hs; cases hs
      have hkill := hS.kill hs
      have hid' : (s.set a.block .dead) id = none := by rw [AHeap.set_other _ _ hidne]; exact hid
      by_cases hroom : n + m ≤ cap
      · -- in place
        have hA' := hA.resolve_left (by omega)
        subst hA'
        have hyl : ys.length = m * te.size := by rw [← h2.length, hxl]
        have hKK : a.off + (n * te.size + m * te.size) ≤ l.K := by
          have := Nat.mul_le_mul_right te.size hroom
          rw [Nat.add_mul] at this
          rw [hlsz] at hK
          omega
        have hrun := run_append_here (w := w) (ty := ty) (B := l.B) (o := l.o + a.off) (n := n) (cap := cap) (m := m) (x' := x') (new := ys) ht hk hte hux hroom hl hys
          (fun j hj => by have := (hall (a.off + n * te.size + j) (by omega)).1; rwa [show l.o + (a.off + n * te.size + j) = l.o + a.off + n * te.size + j by omega] at this)
          (fun j hj => by have := (hall (a.off + n * te.size + j) (by omega)).2; rwa [show l.o + (a.off + n * te.size + j) = l.o + a.off + n * te.size + j by omega] at this)
          (All2.oneCell h2)
        have hap : ∀ id' b' l', (s.set a.block .dead) id' = some b' → b'.live = true → ρ id' = some l' → l'.B ≠ l.B := by
          intro id' b' l' hb' hlv hl'' hcon
          by_cases he : id' = a.block
          · subst he; rw [AHeap.set_same] at hb'; obtain rfl := Option.some.inj hb'; cases hlv
          · rw [AHeap.set_other _ _ he] at hb'
            exact hS.apart _ _ _ _ _ _ (Ne.symm he) hs hb' rfl hlv hl' hl'' hcon.symm
        have hS2 := hkill.aside hB0 hap (l.o + a.off + n * te.size) ys
        have hsome : ∀ j, j < ys.length → (w.cell? ⟨l.B, l.o + a.off + n * te.size + j, none⟩).isSome = true :=
          fun j hj => by have := (hall (a.off + n * te.size + j) (by omega)).1; rwa [show l.o + (a.off + n * te.size + j) = l.o + a.off + n * te.size + j by omega] at this
        obtain ⟨hle', hS3⟩ := hS2.name (id := id) (l := ⟨l.B, l.o + a.off, l.K - a.off, te.size⟩) (b := .cells true te.size ((cs.drop a.off).take (n * te.size) ++ xs)) hid' (by
          intro ρ' hρ
          refine ⟨rfl, ?_, fun _ => ⟨hB0, by rw [size_setCells]; exact hBlt, ?_, ?_⟩⟩
          · intro i u hu
            have hl0 : ((cs.drop a.off).take (n * te.size)).length = n * te.size := by simp; omega
            by_cases hi : i < n * te.size
            · rw [List.getElem?_append_left (by omega), List.getElem?_take_of_lt hi, List.getElem?_drop] at hu
              obtain ⟨u', e1, e2⟩ := hcell _ _ hu
              refine ⟨u', ?_, e2.mono hρ⟩
              rw [World.cell?_setCells_out _ _ _ _ _ (fun j hj => .inl (by simp; omega))]
              rwa [show l.o + a.off + i = l.o + (a.off + i) by omega]
            · rw [List.getElem?_append_right (by omega), hl0] at hu
              obtain ⟨u', e1, e2⟩ := h2.get hu
              have hj : i - n * te.size < ys.length := by
                rcases Nat.lt_or_ge (i - n * te.size) ys.length with h | h
                · exact h
                · rw [List.getElem?_eq_none h] at e1; cases e1
              refine ⟨u', ?_, e2.mono hρ⟩
              have := World.cell?_setCells_in l.B ys (l.o + a.off + n * te.size) w hsome (i - n * te.size) hj
              rw [show l.o + a.off + n * te.size + (i - n * te.size) = l.o + a.off + i by omega] at this
              rw [this, ← e1, List.getElem?_eq_getElem hj]
          · simp only [List.length_append, hxl]
            have : ((cs.drop a.off).take (n * te.size)).length = n * te.size := by simp; omega
            rw [this]; show _ ≤ l.K - a.off; omega
          · intro i hi
            rw [World.frozen?_setCells]
            have hi' : i < l.K - a.off := hi
            have hh := hall (a.off + i) (by omega)
            rw [show l.o + (a.off + i) = l.o + a.off + i by omega] at hh
            refine ⟨?_, hh.2⟩
            by_cases hin : n * te.size ≤ i ∧ i < n * te.size + ys.length
            · have := World.cell?_setCells_in l.B ys (l.o + a.off + n * te.size) w hsome (i - n * te.size) (by omega)
              rw [show l.o + a.off + n * te.size + (i - n * te.size) = l.o + a.off + i by omega] at this
              rw [this]; rfl
            · rw [World.cell?_setCells_out _ _ _ _ _ (fun _ _ => by
                by_cases hlo : i < n * te.size
                · exact .inl (by show l.o + a.off + i < _; omega)
                · exact .inr (by show _ ≤ l.o + a.off + i; omega))]
              exact hh.1)
          (fun id' b' l' hb' hlv hl'' => Ne.symm (hap id' b' l' hb' hlv hl''))
        refine ⟨_, _, _, hrun, hle', .atom (.sl (setR_same _ _ _) hroom ?_ (.inr rfl) hroom (.inl rfl)), hS3⟩
        show 0 + cap * te.size ≤ l.K - a.off
        rw [hlsz] at hK
        omega
      · -- a new block
        obtain ⟨_, ys', hys', h2'⟩ := src_sound (P := P) hS.drew hx hsrc
        obtain ⟨l3, hl3, _, old, hold2, holen, hoc⟩ := hS.drew.row hs hcl
        obtain rfl : l = l3 := by rw [hl'] at hl3; exact Option.some.inj hl3
        have hfo : (Builtin.firstCells te.size n (.slice (some A) n cap)).run P w.drew = .ok old.toArray w.drew := by
          by_cases hn0 : n = 0
          · subst hn0
            have : old = [] := by simpa using holen
            subst this
            simp [Builtin.firstCells, loadCells_zero]
          · have hA' := hA.resolve_left (by omega)
            subst hA'
            exact run_firstCells_some w.drew te.size n _ _ _ old holen hoc
        obtain ⟨nc, arr, hnc, hsz, htk, hrun⟩ := run_append_new (w := w) (ty := ty) (base := some A) (n := n) (cap := cap) ht hk hte hux (old := old) (new := ys') hz hb0 hb (by omega) hl hys' hfo holen (by rw [← h2'.length, hxl])
        have hcl2 : ((cs.drop a.off).take (n * te.size) ++ xs).length = (n + m) * te.size := by simp [hxl, Nat.add_mul]; omega
        obtain ⟨hle', hS'⟩ := hkill.drew.made (id := id) hid' (c := (cs.drop a.off).take (n * te.size) ++ xs) (arr := arr) (el := e) (sz := te.size)
          (by rw [hcl2, htk]; exact hold2.append h2') (by rw [hcl2, hsz]; exact Nat.mul_le_mul_right _ hnc)
        refine ⟨_, _, _, hrun, hle', .atom (.sl (setR_same _ _ _) hnc ?_ (.inr rfl) hnc (.inl rfl)), hS'⟩
        show 0 + nc * te.size ≤ arr.size
        omega
    · cases h
end
end Go.Proofs.Ytoiplbackllgfaa.Ab
