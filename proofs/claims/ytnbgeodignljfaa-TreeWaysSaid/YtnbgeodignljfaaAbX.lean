/- More operations: clear, cap, append of zeros, maps. -/
import Derived.Test.YtnbgeodignljfaaAb5
namespace Go.Proofs.Ytnbgeodignljfaa.Ab
set_option linter.unusedVariables false
set_option linter.unusedSimpArgs false
set_option linter.unusedSectionVars false
open Go.RowKit

section
variable {P : Program} {W0 w : World} {ρ : Ren} {s : AHeap}

/-! ### clear -/
def aclear (P : Program) (t : TypeId) (s : AHeap) (x : Value) : Option AHeap :=
  match tdOf P t, x with
  | some td, .slice none _ _ => match td.k with
    | .slice _ => some s
    | _ => none
  | some td, .slice (some a) n _ => match td.k with
    | .slice e => if n = 0 then some s else match tdOf P e, s a.block with
      | some te, some (.cells true sz c) => if sz = te.size ∧ te.zero.cells.size = te.size ∧ a.off + n * sz ≤ c.length ∧ plB te.zero = true then
          some (s.set a.block (.cells true sz (splice c a.off (zrep n te.zero.cells.toList)))) else none
      | _, _ => none
    | _ => none
  | _, _ => none

theorem clear_sound (hS : Sim W0 ρ s w) {t ty x x' s'} (hx : VR ρ x x') (h : aclear P t s x = some s') :
    ∃ w', (Builtin.clear_ #[t] ty #[x']).run P w = .ok (.tuple #[]) w' ∧ Sim W0 ρ s' w' := by
  unfold aclear at h
  split at h
  · rename_i td n c ht
    split at h
    case h_2 => cases h
    rename_i e hk
    obtain rfl := Option.some.inj h
    obtain ⟨rfl, rfl, rfl⟩ := hx.nils
    exact ⟨w, by simp [Builtin.clear_, run_underlying (td_slice ht hk)], hS⟩
  · rename_i td a n c ht
    split at h
    case h_2 => cases h
    rename_i e hk
    obtain ⟨l, A, cap, hsp, hl, hle, hK, hA, rfl⟩ := hx.slice
    split at h
    · rename_i hn
      subst hn
      obtain rfl := Option.some.inj h
      exact ⟨w, by simp [Builtin.clear_, run_underlying (td_slice ht hk)], hS⟩
    · rename_i hn
      split at h
      case h_2 => cases h
      rename_i te sz cs hte hs
      split at h
      case isFalse => cases h
      rename_i hc
      obtain ⟨hsz, hz, hcl, hpl⟩ := hc
      obtain rfl := Option.some.inj h
      have hA' := hA.resolve_left (by omega)
      subst hA'
      have hzz : All2 (V1 ρ) te.zero.cells.toList te.zero.cells.toList := (plB.self ρ hpl).cells
      have h2 := all2_zrep hzz n
      obtain ⟨f1, f2, f3⟩ := Sim.storeMany hl _ _ cs a.off s w hS hs h2 (by rw [zrep_length, Array.length_toList, hz, ← hsz]; exact hcl)
      have hst := run_storeCells_cells (P := P) l.B (l.o + a.off) (zrep n te.zero.cells.toList) 0 w (by simpa using f1) (by simpa using f2) (All2.oneCell h2)
      rw [Nat.add_zero] at hst
      refine ⟨_, ?_, f3⟩
      have hzc : (Builtin.zeroCells te.zero.cells n).toList = zrep n te.zero.cells.toList := zeroCells_zrep _ _
      obtain ⟨m, rfl⟩ : ∃ m, n = m + 1 := ⟨n - 1, by omega⟩
      simp [Builtin.clear_, run_underlying (td_slice ht hk), td_zero hte, hzc]
      rw [show Sem.run P (storeCells { block := l.B, off := l.o + a.off } (zrep (m + 1) te.zero.cells.toList)) w = _ from by simpa using hst]; rfl
  · cases h

/-! ### cap -/
def acap (P : Program) (t : TypeId) (x : Value) : Option Value :=
  match tdOf P t, x with
  | some td, .slice none _ _ => match td.k with
    | .slice _ => some (.int .i64 0)
    | _ => none
  | some td, .slice (some a) _ c => match td.k with
    | .slice _ => if a.spot.isSome then some (.int .i64 c) else none
    | _ => none
  | _, _ => none
theorem cap_sound {t ty x x' v} (hx : VR ρ x x') (h : acap P t x = some v) : ∃ v', (Builtin.cap_ #[t] ty #[x']).run P w = .ok v' w ∧ VR ρ v v' := by
  unfold acap at h
  split at h
  · rename_i td n c ht
    split at h
    case h_2 => cases h
    rename_i e hk
    obtain rfl := Option.some.inj h
    obtain ⟨rfl, rfl, rfl⟩ := hx.nils
    exact ⟨_, by simp [Builtin.cap_, run_underlying (td_slice ht hk), goInt], .atom (.int _ _)⟩
  · rename_i td a n c ht
    split at h
    case h_2 => cases h
    rename_i e hk
    split at h
    case isFalse => cases h
    rename_i hsp
    obtain rfl := Option.some.inj h
    obtain ⟨l, A, cap, hsp', hl, hle, hK, hA, rfl⟩ := hx.slice
    have : cap = c := hsp'.2.resolve_left (fun e => by rw [e] at hsp; cases hsp)
    subst this
    exact ⟨_, by simp [Builtin.cap_, run_underlying (td_slice ht hk), goInt], .atom (.int _ _)⟩
  · cases h
end
end Go.Proofs.Ytnbgeodignljfaa.Ab
