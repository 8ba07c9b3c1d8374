-- written by a widened copy of the print, a program of this session; Lean checks it.
import Derived.Test.YtfbdidijdibhmaaRows
import Derived.Test.YtfbdidijdibhmaaPOctetListsx3
import Derived.Test.YtfbdidijdibhmaaPureOctetLists
import Derived.Test.YtfbdidijdibhmaaOpenLib
import Derived.WalkKit
import Derived.ProofKit
import Derived.OpenShut
import Derived.ShutString
import Derived.ChangeOld
import Derived.Below
import Derived.SizedLaws
namespace Go.Proofs.Ytfbdidijdibhmaa.octetLists
open Go.ChangeShapes Go.WideShapes Go.ChangeAt Go.RowKit Go.Proofs.YtfbdidijdibhmaaW.PrintWords Go.Proofs.Ytfbdidijdibhmaa.OpenLib Go.Proofs.Ytfbdidijdibhmaa.POctetLists
open Go.ChangeMaps (open_string shut_string)
set_option linter.unusedVariables false
theorem own : ownKnob Try.prog.godebug = none := by kernel_rfl
theorem laidOut : laidOutB Try.prog = true := by kernel_rfl
set_option maxRecDepth 100000 in
theorem lifted (os : Os) (started : os.Started) (H : Type) (enc : TypeId × Value → H) :
    ReturnsInHanded {} Try.checked os 6 .any (Rows.octetListsSpec.pre6 enc Try.prog Try.f6 Rows.octetListsRow.domain false) (Rows.octetListsSpec.post enc Try.prog Try.f6 false true false false) := by
  refine returnsInHanded_of_change_sized (C := Try.checked) own started (by kernel_rfl) Try.func6
    (ChangeSpec.witness6 (enc := enc) (C := Try.checked) false ⟨#[], #[.slice none 0 0, .slice none 0 0], []⟩ 8 (by kernel_rfl) (by kernel_rfl) (by kernel_rfl) (by kernel_rfl)) ?_
  intro W base args ds gs before hval0 hW hcnd hsz0 _
  have hsz : (DataW.weightsEach Try.prog (Try.f6.params.toList ++ Rows.octetListsSpec.plain.varTypes Try.prog) (ds ++ gs)).all (· ≤ reachBytes) = true := hsz0
  have hval : ∀ (j : Nat) t v, Try.f6.params[j]? = some t → args[j]? = some v → Value.okWide Try.prog W .any base t v := hval0
  have hW' := hW
  obtain ⟨p, q, hA0, hV, rfl, hfz, hnd⟩ := hW
  have hA : DataW.TrodAll enc Try.prog W 0 (fun _ => true) true Try.f6.params.toList args.toList ds p := hA0
  rw [Try.params6] at hA hval hsz
  obtain ⟨v0, vs0, d0, ds0, p0, q0, hargs, rfl, rfl, h0, r0⟩ := trodAll_cons hA
  obtain ⟨v1, vs1, d1, ds1, p1, q1, rfl, rfl, rfl, h1, r1⟩ := trodAll_cons r0
  obtain ⟨rfl, rfl, rfl⟩ := trodAll_nil r1
  obtain rfl : args = #[v0, v1] := by cases args; simp_all
  obtain ⟨rfl, rfl⟩ := trodVars_none hV
  have k0 := h0
  have lt0 : ∀ x ∈ p0, x.block < W.heap.size := by obtain ⟨m, hm⟩ := k0; exact DataW.trod_lt m _ _ _ hm
  have g0 : ∀ m ∈ d0.weights Try.prog 47, m ≤ reachBytes := fun m hm => by have z := List.all_eq_true.1 hsz _ (DataW.weights_mem_each (j := 0) (t := 47) rfl rfl m hm); simpa using z
  obtain ⟨a0, len0, cap0, rfl⟩ := okWide_slice Try.underlying47 (hval 0 47 v0 rfl rfl)
  obtain ⟨fu0, hf0⟩ := h0
  obtain ⟨l0, K0, W0⟩ := (opn_slice Try.underlying47 (B := 24) (by kernel_rfl) (by kernel_rfl) (opn_slice Try.underlying24 (B := 1) (by kernel_rfl) (by kernel_rfl) (opn_int Try.underlying5))) _ _ _ _ _ _ _ _ hf0 g0
  obtain ⟨A0, c0, e0, hc0, C0⟩ := K0
  obtain ⟨rfl, rfl, rfl⟩ : a0 = A0 ∧ len0 = l0.length ∧ cap0 = c0 := by have z := (List.cons.inj (show [Value.slice a0 len0 cap0] = _ from e0)).1; injection z with z1 z2 z3; exact ⟨z1, z2, z3⟩
  have k1 := h1
  have lt1 : ∀ x ∈ p1, x.block < W.heap.size := by obtain ⟨m, hm⟩ := k1; exact DataW.trod_lt m _ _ _ hm
  have g1 : ∀ m ∈ d1.weights Try.prog 24, m ≤ reachBytes := fun m hm => by have z := List.all_eq_true.1 hsz _ (DataW.weights_mem_each (j := 1) (t := 24) rfl rfl m hm); simpa using z
  obtain ⟨a1, len1, cap1, rfl⟩ := okWide_slice Try.underlying24 (hval 1 24 v1 rfl rfl)
  obtain ⟨fu1, hf1⟩ := h1
  obtain ⟨l1, K1, W1⟩ := (opn_slice Try.underlying24 (B := 1) (by kernel_rfl) (by kernel_rfl) (opn_int Try.underlying5)) _ _ _ _ _ _ _ _ hf1 g1
  obtain ⟨A1, c1, e1, hc1, C1⟩ := K1
  obtain ⟨rfl, rfl, rfl⟩ : a1 = A1 ∧ len1 = l1.length ∧ cap1 = c1 := by have z := (List.cons.inj (show [Value.slice a1 len1 cap1] = _ from e1)).1; injection z with z1 z2 z3; exact ⟨z1, z2, z3⟩
  clear hA0 hval0 hsz0 hsz
  obtain ⟨k, hpure⟩ := Pure.OctetLists l0 l1 W0.1 W0.2 W1.1 W1.2
  refine (withylaw02_OctetLists.calls k _ _ l0 _ _ l1 true W C0 hc0 C1 hc1 hpure rfl).mono ?_
  rintro e W' ⟨he, bel0⟩
  have bel : Below W.heap.size W W' := bel0
  subst he
  exact ⟨_, rfl, _, _, _, [], _, [], hW', trodAll_mk1 (shut_bool Try.underlying4 _), (trodAll_cons_mk (Below.trod laidOut (by kernel_rfl) (of_decide_eq_true (by kernel_rfl)) k0 bel lt0) (trodAll_cons_mk (Below.trod laidOut (by kernel_rfl) (of_decide_eq_true (by kernel_rfl)) k1 bel lt1) trodAll_mk0)), rfl, bel.frame _, fun h => by cases h⟩
theorem over : Rows.octetListsRow.holds Try.pinned (OpenSpec.ofChange Rows.octetListsSpec) :=
  OpenClaim.holds_of_wide 6 Try.f6 rfl rfl rfl rfl rfl rfl rfl ⟨rfl, rfl, rfl, rfl, rfl⟩ rfl rfl rfl rfl rfl (by kernel_rfl) Try.func6 (by kernel_rfl)
    (of_decide_eq_true (by kernel_rfl)) (by unfold Func.isWrapper; first | (rw [if_pos (by decide +kernel)]; kernel_rfl) | (rw [if_neg (by decide +kernel)]; exact ⟨rfl, rfl⟩))
    (fun os started H enc _ => lifted os started H enc)
theorem proved : Rows.OctetListsSaid := over
#print axioms proved
end Go.Proofs.Ytfbdidijdibhmaa.octetLists
namespace Go.Proofs.Ytfbdidijdibhmaa
/-- The row, under a short name, for the claim. -/
theorem octetLists_holds : Rows.OctetListsSaid := octetLists.proved
end Go.Proofs.Ytfbdidijdibhmaa
