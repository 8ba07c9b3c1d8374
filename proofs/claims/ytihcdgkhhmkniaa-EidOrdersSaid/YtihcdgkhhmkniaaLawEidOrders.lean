-- written by a widened copy of the print, a program of this session; Lean checks it.
import Derived.Test.YtihcdgkhhmkniaaRows
import Derived.Test.YtihcdgkhhmkniaaPEidOrdersx4
import Derived.Test.YtihcdgkhhmkniaaPureEidOrders
import Derived.Test.YtihcdgkhhmkniaaOpenLib
import Derived.WalkKit
import Derived.ProofKit
import Derived.OpenShut
import Derived.ShutString
import Derived.ChangeOld
import Derived.Below
import Derived.SizedLaws
namespace Go.Proofs.Ytihcdgkhhmkniaa.eidOrders
open Go.ChangeShapes Go.WideShapes Go.ChangeAt Go.RowKit Go.Proofs.YtihcdgkhhmkniaaW.PrintWords Go.Proofs.Ytihcdgkhhmkniaa.OpenLib Go.Proofs.Ytihcdgkhhmkniaa.PEidOrders
open Go.ChangeMaps (open_string shut_string)
set_option linter.unusedVariables false
theorem own : ownKnob Try.prog.godebug = none := by kernel_rfl
theorem laidOut : laidOutB Try.prog = true := by kernel_rfl
set_option maxRecDepth 100000 in
theorem lifted (os : Os) (started : os.Started) (H : Type) (enc : TypeId × Value → H) :
    ReturnsInHanded {} Try.checked os 5 .any (Rows.eidOrdersSpec.pre6 enc Try.prog Try.f5 Rows.eidOrdersRow.domain false) (Rows.eidOrdersSpec.post enc Try.prog Try.f5 false true false false) := by
  refine returnsInHanded_of_change_sized (C := Try.checked) own started (by kernel_rfl) Try.func5
    (ChangeSpec.witness6 (enc := enc) (C := Try.checked) false ⟨#[], #[.agg #[.int .i64 0, .int .i64 0], .agg #[.int .i64 0, .int .i64 0], .agg #[.int .i64 0, .int .i64 0]], []⟩ 8 (by kernel_rfl) (by kernel_rfl) (by kernel_rfl) (by kernel_rfl)) ?_
  intro W base args ds gs before hval0 hW hcnd hsz0 _
  have hsz : (DataW.weightsEach Try.prog (Try.f5.params.toList ++ Rows.eidOrdersSpec.plain.varTypes Try.prog) (ds ++ gs)).all (· ≤ reachBytes) = true := hsz0
  have hval : ∀ (j : Nat) t v, Try.f5.params[j]? = some t → args[j]? = some v → Value.okWide Try.prog W .any base t v := hval0
  have hW' := hW
  obtain ⟨p, q, hA0, hV, rfl, hfz, hnd⟩ := hW
  have hA : DataW.TrodAll enc Try.prog W 0 (fun _ => true) true Try.f5.params.toList args.toList ds p := hA0
  rw [Try.params5] at hA hval hsz
  obtain ⟨v0, vs0, d0, ds0, p0, q0, hargs, rfl, rfl, h0, r0⟩ := trodAll_cons hA
  obtain ⟨v1, vs1, d1, ds1, p1, q1, rfl, rfl, rfl, h1, r1⟩ := trodAll_cons r0
  obtain ⟨v2, vs2, d2, ds2, p2, q2, rfl, rfl, rfl, h2, r2⟩ := trodAll_cons r1
  obtain ⟨rfl, rfl, rfl⟩ := trodAll_nil r2
  obtain rfl : args = #[v0, v1, v2] := by cases args; simp_all
  obtain ⟨rfl, rfl⟩ := trodVars_none hV
  have k0 := h0
  have lt0 : ∀ x ∈ p0, x.block < W.heap.size := by obtain ⟨m, hm⟩ := k0; exact DataW.trod_lt m _ _ _ hm
  have g0 : ∀ m ∈ d0.weights Try.prog 23, m ≤ reachBytes := fun m hm => by have z := List.all_eq_true.1 hsz _ (DataW.weights_mem_each (j := 0) (t := 23) rfl rfl m hm); simpa using z
  obtain ⟨ls0, rfl⟩ := okWide_agg Try.underlying23 (hval 0 23 v0 rfl rfl)
  obtain ⟨fu0, hf0⟩ := h0
  obtain ⟨u0_0, u0_1, rfl⟩ := len2 (l := ls0) (struct_length Try.underlying23 hf0 (m := 2) (by kernel_rfl))
  obtain ⟨np0_0, yp0_0, pp0_0, hp0_0, wp0_0⟩ := opn_field Try.underlying23 hf0 g0 0 rfl (m := 1) (by kernel_rfl)
  obtain ⟨xp0_0, Kp0_0, Wp0_0⟩ := (opn_int Try.underlying3) _ _ _ _ _ _ _ _ hp0_0 wp0_0
  obtain rfl : u0_0 = .int .i64 xp0_0 := (List.cons.inj (show [u0_0] = [(.int .i64 xp0_0 : Value)] from Kp0_0)).1
  obtain ⟨np0_1, yp0_1, pp0_1, hp0_1, wp0_1⟩ := opn_field Try.underlying23 hf0 g0 1 rfl (m := 1) (by kernel_rfl)
  obtain ⟨xp0_1, Kp0_1, Wp0_1⟩ := (opn_int Try.underlying3) _ _ _ _ _ _ _ _ hp0_1 wp0_1
  obtain rfl : u0_1 = .int .i64 xp0_1 := (List.cons.inj (show [u0_1] = [(.int .i64 xp0_1 : Value)] from Kp0_1)).1
  have k1 := h1
  have lt1 : ∀ x ∈ p1, x.block < W.heap.size := by obtain ⟨m, hm⟩ := k1; exact DataW.trod_lt m _ _ _ hm
  have g1 : ∀ m ∈ d1.weights Try.prog 23, m ≤ reachBytes := fun m hm => by have z := List.all_eq_true.1 hsz _ (DataW.weights_mem_each (j := 1) (t := 23) rfl rfl m hm); simpa using z
  obtain ⟨ls1, rfl⟩ := okWide_agg Try.underlying23 (hval 1 23 v1 rfl rfl)
  obtain ⟨fu1, hf1⟩ := h1
  obtain ⟨u1_0, u1_1, rfl⟩ := len2 (l := ls1) (struct_length Try.underlying23 hf1 (m := 2) (by kernel_rfl))
  obtain ⟨np1_0, yp1_0, pp1_0, hp1_0, wp1_0⟩ := opn_field Try.underlying23 hf1 g1 0 rfl (m := 1) (by kernel_rfl)
  obtain ⟨xp1_0, Kp1_0, Wp1_0⟩ := (opn_int Try.underlying3) _ _ _ _ _ _ _ _ hp1_0 wp1_0
  obtain rfl : u1_0 = .int .i64 xp1_0 := (List.cons.inj (show [u1_0] = [(.int .i64 xp1_0 : Value)] from Kp1_0)).1
  obtain ⟨np1_1, yp1_1, pp1_1, hp1_1, wp1_1⟩ := opn_field Try.underlying23 hf1 g1 1 rfl (m := 1) (by kernel_rfl)
  obtain ⟨xp1_1, Kp1_1, Wp1_1⟩ := (opn_int Try.underlying3) _ _ _ _ _ _ _ _ hp1_1 wp1_1
  obtain rfl : u1_1 = .int .i64 xp1_1 := (List.cons.inj (show [u1_1] = [(.int .i64 xp1_1 : Value)] from Kp1_1)).1
  have k2 := h2
  have lt2 : ∀ x ∈ p2, x.block < W.heap.size := by obtain ⟨m, hm⟩ := k2; exact DataW.trod_lt m _ _ _ hm
  have g2 : ∀ m ∈ d2.weights Try.prog 23, m ≤ reachBytes := fun m hm => by have z := List.all_eq_true.1 hsz _ (DataW.weights_mem_each (j := 2) (t := 23) rfl rfl m hm); simpa using z
  obtain ⟨ls2, rfl⟩ := okWide_agg Try.underlying23 (hval 2 23 v2 rfl rfl)
  obtain ⟨fu2, hf2⟩ := h2
  obtain ⟨u2_0, u2_1, rfl⟩ := len2 (l := ls2) (struct_length Try.underlying23 hf2 (m := 2) (by kernel_rfl))
  obtain ⟨np2_0, yp2_0, pp2_0, hp2_0, wp2_0⟩ := opn_field Try.underlying23 hf2 g2 0 rfl (m := 1) (by kernel_rfl)
  obtain ⟨xp2_0, Kp2_0, Wp2_0⟩ := (opn_int Try.underlying3) _ _ _ _ _ _ _ _ hp2_0 wp2_0
  obtain rfl : u2_0 = .int .i64 xp2_0 := (List.cons.inj (show [u2_0] = [(.int .i64 xp2_0 : Value)] from Kp2_0)).1
  obtain ⟨np2_1, yp2_1, pp2_1, hp2_1, wp2_1⟩ := opn_field Try.underlying23 hf2 g2 1 rfl (m := 1) (by kernel_rfl)
  obtain ⟨xp2_1, Kp2_1, Wp2_1⟩ := (opn_int Try.underlying3) _ _ _ _ _ _ _ _ hp2_1 wp2_1
  obtain rfl : u2_1 = .int .i64 xp2_1 := (List.cons.inj (show [u2_1] = [(.int .i64 xp2_1 : Value)] from Kp2_1)).1
  clear hA0 hval0 hsz0 hsz
  obtain ⟨k, hpure⟩ := Pure.EidOrders xp0_0 xp0_1 xp1_0 xp1_1 xp2_0 xp2_1 Wp0_0 Wp0_1 Wp1_0 Wp1_1 Wp2_0 Wp2_1
  refine (withylaw12_EidOrders.calls k xp0_0 xp0_1 xp1_0 xp1_1 xp2_0 xp2_1 true W hpure rfl).mono ?_
  rintro e W' ⟨he, bel0⟩
  have bel : Below W.heap.size W W' := bel0
  subst he
  exact ⟨_, rfl, _, _, _, [], _, [], hW', trodAll_mk1 (shut_bool Try.underlying4 _), (trodAll_cons_mk (Below.trod laidOut (by kernel_rfl) (of_decide_eq_true (by kernel_rfl)) k0 bel lt0) (trodAll_cons_mk (Below.trod laidOut (by kernel_rfl) (of_decide_eq_true (by kernel_rfl)) k1 bel lt1) (trodAll_cons_mk (Below.trod laidOut (by kernel_rfl) (of_decide_eq_true (by kernel_rfl)) k2 bel lt2) trodAll_mk0))), rfl, bel.frame _, fun h => by cases h⟩
theorem over : Rows.eidOrdersRow.holds Try.pinned (OpenSpec.ofChange Rows.eidOrdersSpec) :=
  OpenClaim.holds_of_wide 5 Try.f5 rfl rfl rfl rfl rfl rfl rfl ⟨rfl, rfl, rfl, rfl, rfl⟩ rfl rfl rfl rfl rfl (by kernel_rfl) Try.func5 (by kernel_rfl)
    (of_decide_eq_true (by kernel_rfl)) (by unfold Func.isWrapper; first | (rw [if_pos (by decide +kernel)]; kernel_rfl) | (rw [if_neg (by decide +kernel)]; exact ⟨rfl, rfl⟩))
    (fun os started H enc _ => lifted os started H enc)
theorem proved : Rows.EidOrdersSaid := over
#print axioms proved
end Go.Proofs.Ytihcdgkhhmkniaa.eidOrders
namespace Go.Proofs.Ytihcdgkhhmkniaa
/-- The row, under a short name, for the claim. -/
theorem eidOrders_holds : Rows.EidOrdersSaid := eidOrders.proved
end Go.Proofs.Ytihcdgkhhmkniaa
