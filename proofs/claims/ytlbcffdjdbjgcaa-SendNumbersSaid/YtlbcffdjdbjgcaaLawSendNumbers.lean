-- written by a widened copy of the print, a program of this session; Lean checks it.
import Derived.Test.YtlbcffdjdbjgcaaRows
import Derived.Test.YtlbcffdjdbjgcaaPSendNumbersx6
import Derived.Test.YtlbcffdjdbjgcaaPureSendNumbers
import Derived.Test.YtlbcffdjdbjgcaaOpenLib
import Derived.WalkKit
import Derived.ProofKit
import Derived.OpenShut
import Derived.ShutString
import Derived.ChangeOld
import Derived.Below
import Derived.SizedLaws
namespace Go.Proofs.Ytlbcffdjdbjgcaa.sendNumbers
open Go.ChangeShapes Go.WideShapes Go.ChangeAt Go.RowKit Go.Proofs.YtlbcffdjdbjgcaaW.PrintWords Go.Proofs.Ytlbcffdjdbjgcaa.OpenLib Go.Proofs.Ytlbcffdjdbjgcaa.PSendNumbers
open Go.ChangeMaps (open_string shut_string)
set_option linter.unusedVariables false
theorem own : ownKnob Try.prog.godebug = none := by kernel_rfl
theorem laidOut : laidOutB Try.prog = true := by kernel_rfl
set_option maxRecDepth 100000 in
theorem lifted (os : Os) (started : os.Started) (H : Type) (enc : TypeId × Value → H) :
    ReturnsInHanded {} Try.checked os 5 .any (Rows.sendNumbersSpec.pre6 enc Try.prog Try.f5 Rows.sendNumbersRow.domain false) (Rows.sendNumbersSpec.post enc Try.prog Try.f5 false true false false) := by
  refine returnsInHanded_of_change_sized (C := Try.checked) own started (by kernel_rfl) Try.func5
    (ChangeSpec.witness6 (enc := enc) (C := Try.checked) false ⟨#[], #[.agg #[.int .i64 0, .int .i64 0, .slice none 0 0, .int .i64 0], .slice none 0 0], []⟩ 8 (by kernel_rfl) (by kernel_rfl) (by kernel_rfl) (by kernel_rfl)) ?_
  intro W base args ds gs before hval0 hW hcnd hsz0 _
  have hsz : (DataW.weightsEach Try.prog (Try.f5.params.toList ++ Rows.sendNumbersSpec.plain.varTypes Try.prog) (ds ++ gs)).all (· ≤ reachBytes) = true := hsz0
  have hval : ∀ (j : Nat) t v, Try.f5.params[j]? = some t → args[j]? = some v → Value.okWide Try.prog W .any base t v := hval0
  have hW' := hW
  obtain ⟨p, q, hA0, hV, rfl, hfz, hnd⟩ := hW
  have hA : DataW.TrodAll enc Try.prog W 0 (fun _ => true) true Try.f5.params.toList args.toList ds p := hA0
  rw [Try.params5] at hA hval hsz
  obtain ⟨v0, vs0, d0, ds0, p0, q0, hargs, rfl, rfl, h0, r0⟩ := trodAll_cons hA
  obtain ⟨v1, vs1, d1, ds1, p1, q1, rfl, rfl, rfl, h1, r1⟩ := trodAll_cons r0
  obtain ⟨rfl, rfl, rfl⟩ := trodAll_nil r1
  obtain rfl : args = #[v0, v1] := by cases args; simp_all
  obtain ⟨rfl, rfl⟩ := trodVars_none hV
  have k0 := h0
  have lt0 : ∀ x ∈ p0, x.block < W.heap.size := by obtain ⟨m, hm⟩ := k0; exact DataW.trod_lt m _ _ _ hm
  have g0 : ∀ m ∈ d0.weights Try.prog 24, m ≤ reachBytes := fun m hm => by have z := List.all_eq_true.1 hsz _ (DataW.weights_mem_each (j := 0) (t := 24) rfl rfl m hm); simpa using z
  obtain ⟨ls0, rfl⟩ := okWide_agg Try.underlying24 (hval 0 24 v0 rfl rfl)
  obtain ⟨fu0, hf0⟩ := h0
  obtain ⟨u0_0, u0_1, u0_2, u0_3, rfl⟩ := len4 (l := ls0) (struct_length Try.underlying24 hf0 (m := 4) (by kernel_rfl))
  obtain ⟨np0_0, yp0_0, pp0_0, hp0_0, wp0_0⟩ := opn_field Try.underlying24 hf0 g0 0 rfl (m := 1) (by kernel_rfl)
  obtain ⟨xp0_0, Kp0_0, Wp0_0⟩ := (opn_int Try.underlying3) _ _ _ _ _ _ _ _ hp0_0 wp0_0
  obtain rfl : u0_0 = .int .i64 xp0_0 := (List.cons.inj (show [u0_0] = [(.int .i64 xp0_0 : Value)] from Kp0_0)).1
  obtain ⟨np0_1, yp0_1, pp0_1, hp0_1, wp0_1⟩ := opn_field Try.underlying24 hf0 g0 1 rfl (m := 1) (by kernel_rfl)
  obtain ⟨xp0_1, Kp0_1, Wp0_1⟩ := (opn_int Try.underlying3) _ _ _ _ _ _ _ _ hp0_1 wp0_1
  obtain rfl : u0_1 = .int .i64 xp0_1 := (List.cons.inj (show [u0_1] = [(.int .i64 xp0_1 : Value)] from Kp0_1)).1
  obtain ⟨np0_2, yp0_2, pp0_2, hp0_2, wp0_2⟩ := opn_field Try.underlying24 hf0 g0 2 rfl (m := 1) (by kernel_rfl)
  obtain ⟨xp0_2, Kp0_2, Wp0_2⟩ := (opn_slice Try.underlying22 (B := 24) (by kernel_rfl) (by kernel_rfl) (opn_slice Try.underlying42 (B := 1) (by kernel_rfl) (by kernel_rfl) (opn_int Try.underlying5))) _ _ _ _ _ _ _ _ hp0_2 wp0_2
  obtain ⟨Ap0_2, cp0_2, ep0_2, lp0_2, Cp0_2⟩ := Kp0_2
  obtain rfl : u0_2 = .slice Ap0_2 xp0_2.length cp0_2 := (List.cons.inj (show [u0_2] = _ from ep0_2)).1
  obtain ⟨np0_3, yp0_3, pp0_3, hp0_3, wp0_3⟩ := opn_field Try.underlying24 hf0 g0 3 rfl (m := 1) (by kernel_rfl)
  obtain ⟨xp0_3, Kp0_3, Wp0_3⟩ := (opn_int Try.underlying3) _ _ _ _ _ _ _ _ hp0_3 wp0_3
  obtain rfl : u0_3 = .int .i64 xp0_3 := (List.cons.inj (show [u0_3] = [(.int .i64 xp0_3 : Value)] from Kp0_3)).1
  have k1 := h1
  have lt1 : ∀ x ∈ p1, x.block < W.heap.size := by obtain ⟨m, hm⟩ := k1; exact DataW.trod_lt m _ _ _ hm
  have g1 : ∀ m ∈ d1.weights Try.prog 40, m ≤ reachBytes := fun m hm => by have z := List.all_eq_true.1 hsz _ (DataW.weights_mem_each (j := 1) (t := 40) rfl rfl m hm); simpa using z
  obtain ⟨a1, len1, cap1, rfl⟩ := okWide_slice Try.underlying40 (hval 1 40 v1 rfl rfl)
  obtain ⟨fu1, hf1⟩ := h1
  obtain ⟨l1, K1, W1⟩ := (opn_slice Try.underlying40 (B := 8) (by kernel_rfl) (by kernel_rfl) (opn_int Try.underlying3)) _ _ _ _ _ _ _ _ hf1 g1
  obtain ⟨A1, c1, e1, hc1, C1⟩ := K1
  obtain ⟨rfl, rfl, rfl⟩ : a1 = A1 ∧ len1 = l1.length ∧ cap1 = c1 := by have z := (List.cons.inj (show [Value.slice a1 len1 cap1] = _ from e1)).1; injection z with z1 z2 z3; exact ⟨z1, z2, z3⟩
  clear hA0 hval0 hsz0 hsz
  obtain ⟨k, hpure⟩ := Pure.SendNumbers xp0_0 xp0_1 xp0_2 xp0_3 l1 Wp0_0 Wp0_1 Wp0_2.1 Wp0_2.2 Wp0_3 W1.1 W1.2
  refine (withylaw14_SendNumbers.calls k xp0_0 xp0_1 (fun _ => True) _ _ xp0_2 xp0_3 _ _ l1 true W (Kd.V_mk lp0_2 (Kd.F_mono (Kd.C_F (Kd.heap_slice 5 (Kd.heap_int .u8)) Cp0_2) (fun _ _ => trivial))) C1 hc1 hpure rfl).mono ?_
  rintro e W' ⟨he, bel0⟩
  have bel : Below W.heap.size W W' := bel0
  subst he
  exact ⟨_, rfl, _, _, _, [], _, [], hW', trodAll_mk1 (shut_bool Try.underlying4 _), (trodAll_cons_mk (Below.trod laidOut (by kernel_rfl) (of_decide_eq_true (by kernel_rfl)) k0 bel lt0) (trodAll_cons_mk (Below.trod laidOut (by kernel_rfl) (of_decide_eq_true (by kernel_rfl)) k1 bel lt1) trodAll_mk0)), rfl, bel.frame _, fun h => by cases h⟩
theorem over : Rows.sendNumbersRow.holds Try.pinned (OpenSpec.ofChange Rows.sendNumbersSpec) :=
  OpenClaim.holds_of_wide 5 Try.f5 rfl rfl rfl rfl rfl rfl rfl ⟨rfl, rfl, rfl, rfl, rfl⟩ rfl rfl rfl rfl rfl (by kernel_rfl) Try.func5 (by kernel_rfl)
    (of_decide_eq_true (by kernel_rfl)) (by unfold Func.isWrapper; first | (rw [if_pos (by decide +kernel)]; kernel_rfl) | (rw [if_neg (by decide +kernel)]; exact ⟨rfl, rfl⟩))
    (fun os started H enc _ => lifted os started H enc)
theorem proved : Rows.SendNumbersSaid := over
#print axioms proved
end Go.Proofs.Ytlbcffdjdbjgcaa.sendNumbers
namespace Go.Proofs.Ytlbcffdjdbjgcaa
/-- The row, under a short name, for the claim. -/
theorem sendNumbers_holds : Rows.SendNumbersSaid := sendNumbers.proved
end Go.Proofs.Ytlbcffdjdbjgcaa
