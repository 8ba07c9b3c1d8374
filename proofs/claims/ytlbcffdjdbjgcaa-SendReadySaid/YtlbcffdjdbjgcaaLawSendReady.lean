-- written by a widened copy of the print, a program of this session; Lean checks it.
import Derived.Test.YtlbcffdjdbjgcaaRows
import Derived.Test.YtlbcffdjdbjgcaaPSendReadyx9
import Derived.Test.YtlbcffdjdbjgcaaPureSendReady
import Derived.Test.YtlbcffdjdbjgcaaOpenLib
import Derived.WalkKit
import Derived.ProofKit
import Derived.OpenShut
import Derived.ShutString
import Derived.ChangeOld
import Derived.Below
import Derived.SizedLaws
namespace Go.Proofs.Ytlbcffdjdbjgcaa.sendReady
open Go.ChangeShapes Go.WideShapes Go.ChangeAt Go.RowKit Go.Proofs.YtlbcffdjdbjgcaaW.PrintWords Go.Proofs.Ytlbcffdjdbjgcaa.OpenLib Go.Proofs.Ytlbcffdjdbjgcaa.PSendReady
open Go.ChangeMaps (open_string shut_string)
set_option linter.unusedVariables false
theorem own : ownKnob Try.prog.godebug = none := by kernel_rfl
theorem laidOut : laidOutB Try.prog = true := by kernel_rfl
set_option maxRecDepth 100000 in
theorem lifted (os : Os) (started : os.Started) (H : Type) (enc : TypeId × Value → H) :
    ReturnsInHanded {} Try.checked os 4 .any (Rows.sendReadySpec.pre6 enc Try.prog Try.f4 Rows.sendReadyRow.domain false) (Rows.sendReadySpec.post enc Try.prog Try.f4 false true false false) := by
  refine returnsInHanded_of_change_sized (C := Try.checked) own started (by kernel_rfl) Try.func4
    (ChangeSpec.witness6 (enc := enc) (C := Try.checked) false ⟨#[], #[.agg #[.int .i64 0, .int .i64 0, .slice none 0 0, .int .i64 0], .int .u8 0], []⟩ 8 (by kernel_rfl) (by kernel_rfl) (by kernel_rfl) (by kernel_rfl)) ?_
  intro W base args ds gs before hval0 hW hcnd hsz0 _
  have hsz : (DataW.weightsEach Try.prog (Try.f4.params.toList ++ Rows.sendReadySpec.plain.varTypes Try.prog) (ds ++ gs)).all (· ≤ reachBytes) = true := hsz0
  have hval : ∀ (j : Nat) t v, Try.f4.params[j]? = some t → args[j]? = some v → Value.okWide Try.prog W .any base t v := hval0
  have hW' := hW
  obtain ⟨p, q, hA0, hV, rfl, hfz, hnd⟩ := hW
  have hA : DataW.TrodAll enc Try.prog W 0 (fun _ => true) true Try.f4.params.toList args.toList ds p := hA0
  rw [Try.params4] at hA hval hsz
  obtain ⟨v0, vs0, d0, ds0, p0, q0, hargs, rfl, rfl, h0, r0⟩ := trodAll_cons hA
  obtain ⟨v1, vs1, d1, ds1, p1, q1, rfl, rfl, rfl, h1, r1⟩ := trodAll_cons r0
  obtain ⟨rfl, rfl, rfl⟩ := trodAll_nil r1
  obtain rfl : args = #[v0, v1] := by cases args; simp_all
  obtain ⟨rfl, rfl⟩ := trodVars_none hV
  have k0 := h0
  have lt0 : ∀ x ∈ p0, x.block < W.heap.size := by obtain ⟨m, hm⟩ := k0; exact DataW.trod_lt m _ _ _ hm
  have g0 : ∀ m ∈ d0.weights Try.prog 24, m ≤ reachBytes := fun m hm => by have z := List.all_eq_true.1 hsz _ (DataW.weights_mem_each (j := 0) (t := 24) rfl rfl m hm); simpa using z
  obtain ⟨ls0, rfl⟩ := okWide_agg Try.underlying24 (hval 0 24 v0 rfl rfl)
  obtain ⟨fu0, hf0⟩ := h0
  obtain ⟨u0_0, u0_1, u0_2, u0_3, rfl⟩ := len4 (l := ls0) (struct_length Try.underlying24 hf0 (m := 4) (by kernel_rfl))
  obtain ⟨np0_0, yp0_0, pp0_0, hp0_0, wp0_0⟩ := opn_field Try.underlying24 hf0 g0 0 rfl (m := 1) (by kernel_rfl)
  obtain ⟨xp0_0, Kp0_0, Wp0_0⟩ := (opn_int Try.underlying3) _ _ _ _ _ _ _ _ hp0_0 wp0_0
  obtain rfl : u0_0 = .int .i64 xp0_0 := (List.cons.inj (show [u0_0] = [(.int .i64 xp0_0 : Value)] from Kp0_0)).1
  obtain ⟨np0_1, yp0_1, pp0_1, hp0_1, wp0_1⟩ := opn_field Try.underlying24 hf0 g0 1 rfl (m := 1) (by kernel_rfl)
  obtain ⟨xp0_1, Kp0_1, Wp0_1⟩ := (opn_int Try.underlying3) _ _ _ _ _ _ _ _ hp0_1 wp0_1
  obtain rfl : u0_1 = .int .i64 xp0_1 := (List.cons.inj (show [u0_1] = [(.int .i64 xp0_1 : Value)] from Kp0_1)).1
  obtain ⟨np0_2, yp0_2, pp0_2, hp0_2, wp0_2⟩ := opn_field Try.underlying24 hf0 g0 2 rfl (m := 1) (by kernel_rfl)
  obtain ⟨xp0_2, Kp0_2, Wp0_2⟩ := (opn_slice Try.underlying22 (B := 24) (by kernel_rfl) (by kernel_rfl) (opn_slice Try.underlying42 (B := 1) (by kernel_rfl) (by kernel_rfl) (opn_int Try.underlying5))) _ _ _ _ _ _ _ _ hp0_2 wp0_2
  obtain ⟨Ap0_2, cp0_2, ep0_2, lp0_2, Cp0_2⟩ := Kp0_2
  obtain rfl : u0_2 = .slice Ap0_2 xp0_2.length cp0_2 := (List.cons.inj (show [u0_2] = _ from ep0_2)).1
  obtain ⟨np0_3, yp0_3, pp0_3, hp0_3, wp0_3⟩ := opn_field Try.underlying24 hf0 g0 3 rfl (m := 1) (by kernel_rfl)
  obtain ⟨xp0_3, Kp0_3, Wp0_3⟩ := (opn_int Try.underlying3) _ _ _ _ _ _ _ _ hp0_3 wp0_3
  obtain rfl : u0_3 = .int .i64 xp0_3 := (List.cons.inj (show [u0_3] = [(.int .i64 xp0_3 : Value)] from Kp0_3)).1
  obtain ⟨a1, rfl, rfl, rfl, w1⟩ := open_int Try.underlying5 (hval 1 5 v1 rfl rfl) h1
  clear hA0 hval0 hsz0 hsz
  obtain ⟨k, hpure⟩ := Pure.SendReady xp0_0 xp0_1 xp0_2 xp0_3 a1 Wp0_0 Wp0_1 Wp0_2.1 Wp0_2.2 Wp0_3 w1
  refine (withylaw14_SendReady.calls k xp0_0 xp0_1 _ _ xp0_2 xp0_3 a1 true W Cp0_2 lp0_2 hpure rfl).mono ?_
  rintro e W' ⟨he, bel0⟩
  have bel : Below W.heap.size W W' := bel0
  subst he
  exact ⟨_, rfl, _, _, _, [], _, [], hW', trodAll_mk1 (shut_bool Try.underlying4 _), (trodAll_cons_mk (Below.trod laidOut (by kernel_rfl) (of_decide_eq_true (by kernel_rfl)) k0 bel lt0) (trodAll_cons_mk (shut_int Try.underlying5 w1) trodAll_mk0)), rfl, bel.frame _, fun h => by cases h⟩
theorem over : Rows.sendReadyRow.holds Try.pinned (OpenSpec.ofChange Rows.sendReadySpec) :=
  OpenClaim.holds_of_wide 4 Try.f4 rfl rfl rfl rfl rfl rfl rfl ⟨rfl, rfl, rfl, rfl, rfl⟩ rfl rfl rfl rfl rfl (by kernel_rfl) Try.func4 (by kernel_rfl)
    (of_decide_eq_true (by kernel_rfl)) (by unfold Func.isWrapper; first | (rw [if_pos (by decide +kernel)]; kernel_rfl) | (rw [if_neg (by decide +kernel)]; exact ⟨rfl, rfl⟩))
    (fun os started H enc _ => lifted os started H enc)
theorem proved : Rows.SendReadySaid := over
#print axioms proved
end Go.Proofs.Ytlbcffdjdbjgcaa.sendReady
namespace Go.Proofs.Ytlbcffdjdbjgcaa
/-- The row, under a short name, for the claim. -/
theorem sendReady_holds : Rows.SendReadySaid := sendReady.proved
end Go.Proofs.Ytlbcffdjdbjgcaa
