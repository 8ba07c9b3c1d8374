-- written by a widened copy of the print, a program of this session; Lean checks it.
import Derived.Test.YtdjbpnpfgabdjaaRows
import Derived.Test.YtdjbpnpfgabdjaaPHandOverx5
import Derived.Test.YtdjbpnpfgabdjaaPureHandOver
import Derived.Test.YtdjbpnpfgabdjaaOpenLib
import Derived.WalkKit
import Derived.ProofKit
import Derived.OpenShut
import Derived.ShutString
import Derived.ChangeOld
import Derived.Below
import Derived.SizedLaws
namespace Go.Proofs.Ytdjbpnpfgabdjaa.handOver
open Go.ChangeShapes Go.WideShapes Go.ChangeAt Go.RowKit Go.Proofs.YtdjbpnpfgabdjaaW.PrintWords Go.Proofs.Ytdjbpnpfgabdjaa.OpenLib Go.Proofs.Ytdjbpnpfgabdjaa.PHandOver
open Go.ChangeMaps (open_string shut_string)
set_option linter.unusedVariables false
theorem own : ownKnob Try.prog.godebug = none := by kernel_rfl
theorem laidOut : laidOutB Try.prog = true := by kernel_rfl
set_option maxRecDepth 100000 in
theorem lifted (os : Os) (started : os.Started) (H : Type) (enc : TypeId × Value → H) :
    ReturnsInHanded {} Try.checked os 5 .any (Rows.handOverSpec.pre6 enc Try.prog Try.f5 Rows.handOverRow.domain false) (Rows.handOverSpec.post enc Try.prog Try.f5 false true false false) := by
  refine returnsInHanded_of_change_sized (C := Try.checked) own started (by kernel_rfl) Try.func5
    (ChangeSpec.witness6 (enc := enc) (C := Try.checked) false ⟨#[], #[.int .u8 0, .slice none 0 0], []⟩ 8 (by kernel_rfl) (by kernel_rfl) (by kernel_rfl) (by kernel_rfl)) ?_
  intro W base args ds gs before hval0 hW hcnd hsz0 _
  have hsz : (DataW.weightsEach Try.prog (Try.f5.params.toList ++ Rows.handOverSpec.plain.varTypes Try.prog) (ds ++ gs)).all (· ≤ reachBytes) = true := hsz0
  have hval : ∀ (j : Nat) t v, Try.f5.params[j]? = some t → args[j]? = some v → Value.okWide Try.prog W .any base t v := hval0
  have hW' := hW
  obtain ⟨p, q, hA0, hV, rfl, hfz, hnd⟩ := hW
  have hA : DataW.TrodAll enc Try.prog W 0 (fun _ => true) true Try.f5.params.toList args.toList ds p := hA0
  rw [Try.params5] at hA hval hsz
  obtain ⟨v0, vs0, d0, ds0, p0, q0, hargs, rfl, rfl, h0, r0⟩ := trodAll_cons hA
  obtain ⟨v1, vs1, d1, ds1, p1, q1, rfl, rfl, rfl, h1, r1⟩ := trodAll_cons r0
  obtain ⟨rfl, rfl, rfl⟩ := trodAll_nil r1
  obtain rfl : args = #[v0, v1] := by cases args; simp_all
  obtain ⟨rfl, rfl⟩ := trodVars_none hV
  obtain ⟨a0, rfl, rfl, rfl, w0⟩ := open_int Try.underlying5 (hval 0 5 v0 rfl rfl) h0
  have k1 := h1
  have lt1 : ∀ x ∈ p1, x.block < W.heap.size := by obtain ⟨m, hm⟩ := k1; exact DataW.trod_lt m _ _ _ hm
  have g1 : ∀ m ∈ d1.weights Try.prog 44, m ≤ reachBytes := fun m hm => by have z := List.all_eq_true.1 hsz _ (DataW.weights_mem_each (j := 1) (t := 44) rfl rfl m hm); simpa using z
  obtain ⟨a1, len1, cap1, rfl⟩ := okWide_slice Try.underlying44 (hval 1 44 v1 rfl rfl)
  obtain ⟨fu1, hf1⟩ := h1
  obtain ⟨l1, K1, W1⟩ := (opn_slice Try.underlying44 (B := 1) (by kernel_rfl) (by kernel_rfl) (opn_bool Try.underlying4)) _ _ _ _ _ _ _ _ hf1 g1
  obtain ⟨A1, c1, e1, hc1, C1⟩ := K1
  obtain ⟨rfl, rfl, rfl⟩ : a1 = A1 ∧ len1 = l1.length ∧ cap1 = c1 := by have z := (List.cons.inj (show [Value.slice a1 len1 cap1] = _ from e1)).1; injection z with z1 z2 z3; exact ⟨z1, z2, z3⟩
  clear hA0 hval0 hsz0 hsz
  obtain ⟨k, hpure⟩ := Pure.HandOver a0 l1 w0 W1.1 W1.2
  refine (withylaw16_HandOver.calls k a0 _ _ l1 true W C1 hc1 hpure rfl).mono ?_
  rintro e W' ⟨he, bel0⟩
  have bel : Below W.heap.size W W' := bel0
  subst he
  exact ⟨_, rfl, _, _, _, [], _, [], hW', trodAll_mk1 (shut_bool Try.underlying4 _), (trodAll_cons_mk (shut_int Try.underlying5 w0) (trodAll_cons_mk (Below.trod laidOut (by kernel_rfl) (of_decide_eq_true (by kernel_rfl)) k1 bel lt1) trodAll_mk0)), rfl, bel.frame _, fun h => by cases h⟩
theorem over : Rows.handOverRow.holds Try.pinned (OpenSpec.ofChange Rows.handOverSpec) :=
  OpenClaim.holds_of_wide 5 Try.f5 rfl rfl rfl rfl rfl rfl rfl ⟨rfl, rfl, rfl, rfl, rfl⟩ rfl rfl rfl rfl rfl (by kernel_rfl) Try.func5 (by kernel_rfl)
    (of_decide_eq_true (by kernel_rfl)) (by unfold Func.isWrapper; first | (rw [if_pos (by decide +kernel)]; kernel_rfl) | (rw [if_neg (by decide +kernel)]; exact ⟨rfl, rfl⟩))
    (fun os started H enc _ => lifted os started H enc)
theorem proved : Rows.HandOverSaid := over
#print axioms proved
end Go.Proofs.Ytdjbpnpfgabdjaa.handOver
namespace Go.Proofs.Ytdjbpnpfgabdjaa
/-- The row, under a short name, for the claim. -/
theorem handOver_holds : Rows.HandOverSaid := handOver.proved
end Go.Proofs.Ytdjbpnpfgabdjaa
