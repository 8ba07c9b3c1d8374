-- written by a widened copy of the print, a program of this session; Lean checks it.
import Derived.Test.YtedpjakmlniodaaProg
import Derived.Lib.SliceRun
import Derived.Below
import Derived.Deep.Draws
import Derived.Deep.AppendLies
import Derived.Maps.AppendAt
import Derived.OwnWalk
import Derived.Laws.BytesArg
import Derived.Laws.MakeOwn
import Derived.Laws.OwnMore
import Derived.Deep.OwnRows
import Derived.Tactics
import Derived.Lib.ConvBytes
import Derived.Laws.Slices
import Derived.WalkKit
import Derived.KernelRfl
import Derived.RowKit3
import Derived.Deep.LoopGhost
import Derived.Deep.QuietTactic
import Derived.BigQuiet
import Derived.WideLaws
import Derived.Deep.DeepCutAuto
import Derived.Deep.CutBlock
import Derived.Deep.RegionHeld3
import Derived.Laws.Rows
import Derived.Lib.AppendStr
import Derived.ArgAppend
import Derived.Laws.IdiomCopy
import Derived.OrdersHeld
import Derived.Laws.BitsLemmas
import Derived.RowKit
import Derived.Test.YtedpjakmlniodaaCopyLib
import Derived.Test.YtedpjakmlniodaaWWords
import Derived.Test.YtedpjakmlniodaaWLast
import Derived.Test.YtedpjakmlniodaaWTab
import Derived.Test.YtedpjakmlniodaaWFour
import Derived.Test.YtedpjakmlniodaaWQPut
import Derived.Test.YtedpjakmlniodaaWApart
import Derived.Test.YtedpjakmlniodaaWArr
import Derived.Test.YtedpjakmlniodaaWZeros
import Derived.Test.YtedpjakmlniodaaWFoot
import Derived.Test.YtedpjakmlniodaaWKept
import Derived.Test.YtedpjakmlniodaaWShare
import Derived.Test.YtedpjakmlniodaaWN
import Derived.Test.YtedpjakmlniodaaWFootNe
import Derived.Test.YtedpjakmlniodaaWAt
import Derived.Test.YtedpjakmlniodaaWEqStruct
import Derived.Test.YtedpjakmlniodaaWRepsOne
import Derived.Test.YtedpjakmlniodaaWInv
import Derived.Test.YtedpjakmlniodaaWInvWords
import Derived.Test.YtedpjakmlniodaaWGuard
import Derived.Test.YtedpjakmlniodaaWNEv
import Derived.Test.YtedpjakmlniodaaWMore
namespace Go.Proofs.Ytedpjakmlniodaa.PBendBursts
open Go.RowKit Go.Proofs.YtedpjakmlniodaaW.PrintWords Go.Proofs.YtedpjakmlniodaaW.PrintLast Go.Proofs.YtedpjakmlniodaaW.PrintMore
attribute [local go_sem] max2_int min2_int max_two min_two max_three min_three max_four min_four   -- for this text's walks alone
set_option linter.unusedVariables false
set_option linter.unusedSimpArgs false



def errW : Option Int → Value
  | none => .nilIface
  | some c => .iface 0 (.int .i64 c)
theorem errW_none : errW none = .nilIface := rfl
theorem errW_some (c : Int) : errW (some c) = .iface 0 (.int .i64 c) := rfl

theorem cut_full {P : Program} (t e : TypeId) (kl kh km : IntKind) {i : TypeInfo} (ht : P.underlying t = some (.slice e)) (hi : P.info? e = some i) (size : Nat) (hsz : i.size = size) (A : Option Addr) (n c : Nat) (j : Int) (h0 : 0 ≤ j) (hm : j ≤ n) (hc : n ≤ c) (c1 : Nat) (hc1 : c1 = n - j.toNat) :
    ∀ W : World, (Instr.slice t (.slice A n c) (some (.int kl j)) (some (.int kh n)) (some (.int km n))).run P W = .ok (.slice (if n = j.toNat then A else A.map (·.add (j.toNat * size))) (n - j.toNat) c1) W := by
  intro W
  subst hc1
  have hel : P.elem t = e := by simp [Program.elem, ht]
  have hu : P.underlying t = some (.slice (P.elem t)) := by rw [hel]; exact ht
  rw [run_slice_lhm W t A n c hu kl kh km j n n h0 hm (Int.le_refl _) (by omega), hel]
  simp [sizeOf, typeInfo, hi, hsz, sliced, Result.andThen]
theorem nil_row {α : Type} {d : Kd α} {w : World} {n : Nat} {xs : List α} (h : Kd.C d w none n xs) (hn : n = xs.length) : xs = [] := by
  subst hn
  cases xs with
  | nil => rfl
  | cons x xs => obtain ⟨ad, c, e, _⟩ := ReadsRow.get_ h x 0 (by omega) (by simp only [List.length_cons]; omega); cases e
theorem info4 : (Try.prog.info? 4).map (fun i => (i.zero, i.size, i.bytes)) = some (some (.bool false), 1, 1) := by kernel_rfl
theorem info5 : (Try.prog.info? 5).map (fun i => (i.zero, i.size, i.bytes)) = some (some (.int .u8 0), 1, 1) := by kernel_rfl
-- the values' own types

end Go.Proofs.Ytedpjakmlniodaa.PBendBursts
