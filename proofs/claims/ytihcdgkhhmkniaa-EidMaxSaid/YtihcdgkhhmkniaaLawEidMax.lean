-- written by a widened copy of the print, a program of this session; Lean checks it.
import Derived.Test.YtihcdgkhhmkniaaRows
import Derived.Test.YtihcdgkhhmkniaaPEidMaxx3
import Derived.Test.YtihcdgkhhmkniaaPureEidMax
import Derived.Test.YtihcdgkhhmkniaaOpenLib
import Derived.WalkKit
import Derived.ProofKit
import Derived.OpenShut
import Derived.ShutString
import Derived.ChangeOld
import Derived.Below
import Derived.SizedLaws
namespace Go.Proofs.Ytihcdgkhhmkniaa.eidMax
open Go.ChangeShapes Go.WideShapes Go.ChangeAt Go.RowKit Go.Proofs.YtihcdgkhhmkniaaW.PrintWords Go.Proofs.Ytihcdgkhhmkniaa.OpenLib Go.Proofs.Ytihcdgkhhmkniaa.PEidMax
open Go.ChangeMaps (open_string shut_string)
set_option linter.unusedVariables false
theorem own : ownKnob Try.prog.godebug = none := by kernel_rfl
theorem laidOut : laidOutB Try.prog = true := by kernel_rfl
theorem opn_S23 {W : World} : Opn Try.prog W 23 k23 (fun x => ((Lit.int .i64 x.f0).wf = true ∧ (Lit.int .i64 x.f1).wf = true)) := by
  intro H enc base spare held fuel cs y ps h hw
  obtain ⟨u0, u1, rfl⟩ := len2 (struct_length Try.underlying23 h (m := 2) (by kernel_rfl))
  obtain ⟨nz_0, yz_0, pz_0, hz_0, wz_0⟩ := opn_field Try.underlying23 h hw 0 rfl (m := 1) (by kernel_rfl)
  obtain ⟨xz_0, Kz_0, Wz_0⟩ := (opn_int Try.underlying3) _ _ _ _ _ _ _ _ hz_0 wz_0
  obtain rfl : u0 = .int .i64 xz_0 := (List.cons.inj (show [u0] = [(.int .i64 xz_0 : Value)] from Kz_0)).1
  obtain ⟨nz_1, yz_1, pz_1, hz_1, wz_1⟩ := opn_field Try.underlying23 h hw 1 rfl (m := 1) (by kernel_rfl)
  obtain ⟨xz_1, Kz_1, Wz_1⟩ := (opn_int Try.underlying3) _ _ _ _ _ _ _ _ hz_1 wz_1
  obtain rfl : u1 = .int .i64 xz_1 := (List.cons.inj (show [u1] = [(.int .i64 xz_1 : Value)] from Kz_1)).1
  exact ⟨⟨xz_0, xz_1⟩, k23_mk _ ⟨xz_0, xz_1⟩, ⟨Wz_0, Wz_1⟩⟩
set_option maxRecDepth 100000 in
theorem lifted (os : Os) (started : os.Started) (H : Type) (enc : TypeId × Value → H) :
    ReturnsInHanded {} Try.checked os 4 .any (Rows.eidMaxSpec.pre6 enc Try.prog Try.f4 Rows.eidMaxRow.domain false) (Rows.eidMaxSpec.post enc Try.prog Try.f4 false true false false) := by
  refine returnsInHanded_of_change_sized (C := Try.checked) own started (by kernel_rfl) Try.func4
    (ChangeSpec.witness6 (enc := enc) (C := Try.checked) false ⟨#[], #[.slice none 0 0], []⟩ 8 (by kernel_rfl) (by kernel_rfl) (by kernel_rfl) (by kernel_rfl)) ?_
  intro W base args ds gs before hval0 hW hcnd hsz0 _
  have hsz : (DataW.weightsEach Try.prog (Try.f4.params.toList ++ Rows.eidMaxSpec.plain.varTypes Try.prog) (ds ++ gs)).all (· ≤ reachBytes) = true := hsz0
  have hval : ∀ (j : Nat) t v, Try.f4.params[j]? = some t → args[j]? = some v → Value.okWide Try.prog W .any base t v := hval0
  have hW' := hW
  obtain ⟨p, q, hA0, hV, rfl, hfz, hnd⟩ := hW
  have hA : DataW.TrodAll enc Try.prog W 0 (fun _ => true) true Try.f4.params.toList args.toList ds p := hA0
  rw [Try.params4] at hA hval hsz
  obtain ⟨v0, vs0, d0, ds0, p0, q0, hargs, rfl, rfl, h0, r0⟩ := trodAll_cons hA
  obtain ⟨rfl, rfl, rfl⟩ := trodAll_nil r0
  obtain rfl : args = #[v0] := by cases args; simp_all
  obtain ⟨rfl, rfl⟩ := trodVars_none hV
  have k0 := h0
  have lt0 : ∀ x ∈ p0, x.block < W.heap.size := by obtain ⟨m, hm⟩ := k0; exact DataW.trod_lt m _ _ _ hm
  have g0 : ∀ m ∈ d0.weights Try.prog 30, m ≤ reachBytes := fun m hm => by have z := List.all_eq_true.1 hsz _ (DataW.weights_mem_each (j := 0) (t := 30) rfl rfl m hm); simpa using z
  obtain ⟨a0, len0, cap0, rfl⟩ := okWide_slice Try.underlying30 (hval 0 30 v0 rfl rfl)
  obtain ⟨fu0, hf0⟩ := h0
  obtain ⟨l0, K0, W0⟩ := (opn_slice Try.underlying30 (B := 16) (by kernel_rfl) (by kernel_rfl) opn_S23) _ _ _ _ _ _ _ _ hf0 g0
  obtain ⟨A0, c0, e0, hc0, C0⟩ := K0
  obtain ⟨rfl, rfl, rfl⟩ : a0 = A0 ∧ len0 = l0.length ∧ cap0 = c0 := by have z := (List.cons.inj (show [Value.slice a0 len0 cap0] = _ from e0)).1; injection z with z1 z2 z3; exact ⟨z1, z2, z3⟩
  clear hA0 hval0 hsz0 hsz
  obtain ⟨k, hpure⟩ := Pure.EidMax l0 W0.1 W0.2
  refine (withylaw12_EidMax.calls k _ _ l0 true W C0 hc0 hpure rfl).mono ?_
  rintro e W' ⟨he, bel0⟩
  have bel : Below W.heap.size W W' := bel0
  subst he
  exact ⟨_, rfl, _, _, _, [], _, [], hW', trodAll_mk1 (shut_bool Try.underlying4 _), (trodAll_cons_mk (Below.trod laidOut (by kernel_rfl) (of_decide_eq_true (by kernel_rfl)) k0 bel lt0) trodAll_mk0), rfl, bel.frame _, fun h => by cases h⟩
theorem over : Rows.eidMaxRow.holds Try.pinned (OpenSpec.ofChange Rows.eidMaxSpec) :=
  OpenClaim.holds_of_wide 4 Try.f4 rfl rfl rfl rfl rfl rfl rfl ⟨rfl, rfl, rfl, rfl, rfl⟩ rfl rfl rfl rfl rfl (by kernel_rfl) Try.func4 (by kernel_rfl)
    (of_decide_eq_true (by kernel_rfl)) (by unfold Func.isWrapper; first | (rw [if_pos (by decide +kernel)]; kernel_rfl) | (rw [if_neg (by decide +kernel)]; exact ⟨rfl, rfl⟩))
    (fun os started H enc _ => lifted os started H enc)
theorem proved : Rows.EidMaxSaid := over
#print axioms proved
end Go.Proofs.Ytihcdgkhhmkniaa.eidMax
namespace Go.Proofs.Ytihcdgkhhmkniaa
/-- The row, under a short name, for the claim. -/
theorem eidMax_holds : Rows.EidMaxSaid := eidMax.proved
end Go.Proofs.Ytihcdgkhhmkniaa
