-- written by a widened copy of the print, a program of this session; Lean checks it.
import Derived.Test.YtdjbpnpfgabdjaaRows
import Derived.Test.YtdjbpnpfgabdjaaPHandNewx6
import Derived.Test.YtdjbpnpfgabdjaaPureHandNew
import Derived.Test.YtdjbpnpfgabdjaaOpenLib
import Derived.WalkKit
import Derived.ProofKit
import Derived.OpenShut
import Derived.ShutString
import Derived.ChangeOld
import Derived.Below
import Derived.SizedLaws
namespace Go.Proofs.Ytdjbpnpfgabdjaa.handNew
open Go.ChangeShapes Go.WideShapes Go.ChangeAt Go.RowKit Go.Proofs.YtdjbpnpfgabdjaaW.PrintWords Go.Proofs.Ytdjbpnpfgabdjaa.OpenLib Go.Proofs.Ytdjbpnpfgabdjaa.PHandNew
open Go.ChangeMaps (open_string shut_string)
set_option linter.unusedVariables false
theorem own : ownKnob Try.prog.godebug = none := by kernel_rfl
theorem laidOut : laidOutB Try.prog = true := by kernel_rfl
set_option maxRecDepth 100000 in
theorem lifted (os : Os) (started : os.Started) (H : Type) (enc : TypeId × Value → H) :
    ReturnsInHanded {} Try.checked os 4 .any (Rows.handNewSpec.pre6 enc Try.prog Try.f4 Rows.handNewRow.domain false) (Rows.handNewSpec.post enc Try.prog Try.f4 false true false false) := by
  refine returnsInHanded_of_change_sized (C := Try.checked) own started (by kernel_rfl) Try.func4
    (ChangeSpec.witness6 (enc := enc) (C := Try.checked) false ⟨#[], #[.int .i64 0, .int .i64 0, .agg #[.int .i64 0, .int .i64 0, .int .i64 0, .bool false]], []⟩ 8 (by kernel_rfl) (by kernel_rfl) (by kernel_rfl) (by kernel_rfl)) ?_
  intro W base args ds gs before hval0 hW hcnd hsz0 _
  have hsz : (DataW.weightsEach Try.prog (Try.f4.params.toList ++ Rows.handNewSpec.plain.varTypes Try.prog) (ds ++ gs)).all (· ≤ reachBytes) = true := hsz0
  have hval : ∀ (j : Nat) t v, Try.f4.params[j]? = some t → args[j]? = some v → Value.okWide Try.prog W .any base t v := hval0
  have hW' := hW
  obtain ⟨p, q, hA0, hV, rfl, hfz, hnd⟩ := hW
  have hA : DataW.TrodAll enc Try.prog W 0 (fun _ => true) true Try.f4.params.toList args.toList ds p := hA0
  rw [Try.params4] at hA hval hsz
  obtain ⟨v0, vs0, d0, ds0, p0, q0, hargs, rfl, rfl, h0, r0⟩ := trodAll_cons hA
  obtain ⟨v1, vs1, d1, ds1, p1, q1, rfl, rfl, rfl, h1, r1⟩ := trodAll_cons r0
  obtain ⟨v2, vs2, d2, ds2, p2, q2, rfl, rfl, rfl, h2, r2⟩ := trodAll_cons r1
  obtain ⟨rfl, rfl, rfl⟩ := trodAll_nil r2
  obtain rfl : args = #[v0, v1, v2] := by cases args; simp_all
  obtain ⟨rfl, rfl⟩ := trodVars_none hV
  obtain ⟨a0, rfl, rfl, rfl, w0⟩ := open_int Try.underlying3 (hval 0 3 v0 rfl rfl) h0
  obtain ⟨a1, rfl, rfl, rfl, w1⟩ := open_int Try.underlying3 (hval 1 3 v1 rfl rfl) h1
  have k2 := h2
  have lt2 : ∀ x ∈ p2, x.block < W.heap.size := by obtain ⟨m, hm⟩ := k2; exact DataW.trod_lt m _ _ _ hm
  have g2 : ∀ m ∈ d2.weights Try.prog 23, m ≤ reachBytes := fun m hm => by have z := List.all_eq_true.1 hsz _ (DataW.weights_mem_each (j := 2) (t := 23) rfl rfl m hm); simpa using z
  obtain ⟨ls2, rfl⟩ := okWide_agg Try.underlying23 (hval 2 23 v2 rfl rfl)
  obtain ⟨fu2, hf2⟩ := h2
  obtain ⟨u2_0, u2_1, u2_2, u2_3, rfl⟩ := len4 (l := ls2) (struct_length Try.underlying23 hf2 (m := 4) (by kernel_rfl))
  obtain ⟨np2_0, yp2_0, pp2_0, hp2_0, wp2_0⟩ := opn_field Try.underlying23 hf2 g2 0 rfl (m := 1) (by kernel_rfl)
  obtain ⟨xp2_0, Kp2_0, Wp2_0⟩ := (opn_int Try.underlying3) _ _ _ _ _ _ _ _ hp2_0 wp2_0
  obtain rfl : u2_0 = .int .i64 xp2_0 := (List.cons.inj (show [u2_0] = [(.int .i64 xp2_0 : Value)] from Kp2_0)).1
  obtain ⟨np2_1, yp2_1, pp2_1, hp2_1, wp2_1⟩ := opn_field Try.underlying23 hf2 g2 1 rfl (m := 1) (by kernel_rfl)
  obtain ⟨xp2_1, Kp2_1, Wp2_1⟩ := (opn_int Try.underlying3) _ _ _ _ _ _ _ _ hp2_1 wp2_1
  obtain rfl : u2_1 = .int .i64 xp2_1 := (List.cons.inj (show [u2_1] = [(.int .i64 xp2_1 : Value)] from Kp2_1)).1
  obtain ⟨np2_2, yp2_2, pp2_2, hp2_2, wp2_2⟩ := opn_field Try.underlying23 hf2 g2 2 rfl (m := 1) (by kernel_rfl)
  obtain ⟨xp2_2, Kp2_2, Wp2_2⟩ := (opn_int Try.underlying3) _ _ _ _ _ _ _ _ hp2_2 wp2_2
  obtain rfl : u2_2 = .int .i64 xp2_2 := (List.cons.inj (show [u2_2] = [(.int .i64 xp2_2 : Value)] from Kp2_2)).1
  obtain ⟨np2_3, yp2_3, pp2_3, hp2_3, wp2_3⟩ := opn_field Try.underlying23 hf2 g2 3 rfl (m := 1) (by kernel_rfl)
  obtain ⟨xp2_3, Kp2_3, Wp2_3⟩ := (opn_bool Try.underlying4) _ _ _ _ _ _ _ _ hp2_3 wp2_3
  obtain rfl : u2_3 = .bool xp2_3 := (List.cons.inj (show [u2_3] = [(.bool xp2_3 : Value)] from Kp2_3)).1
  clear hA0 hval0 hsz0 hsz
  obtain ⟨k, hpure⟩ := Pure.HandNew a0 a1 xp2_0 xp2_1 xp2_2 xp2_3 w0 w1 Wp2_0 Wp2_1 Wp2_2
  refine (withylaw16_HandNew.calls k a0 a1 xp2_0 xp2_1 xp2_2 xp2_3 true W hpure rfl).mono ?_
  rintro e W' ⟨he, bel0⟩
  have bel : Below W.heap.size W W' := bel0
  subst he
  exact ⟨_, rfl, _, _, _, [], _, [], hW', trodAll_mk1 (shut_bool Try.underlying4 _), (trodAll_cons_mk (shut_int Try.underlying3 w0) (trodAll_cons_mk (shut_int Try.underlying3 w1) (trodAll_cons_mk (Below.trod laidOut (by kernel_rfl) (of_decide_eq_true (by kernel_rfl)) k2 bel lt2) trodAll_mk0))), rfl, bel.frame _, fun h => by cases h⟩
theorem over : Rows.handNewRow.holds Try.pinned (OpenSpec.ofChange Rows.handNewSpec) :=
  OpenClaim.holds_of_wide 4 Try.f4 rfl rfl rfl rfl rfl rfl rfl ⟨rfl, rfl, rfl, rfl, rfl⟩ rfl rfl rfl rfl rfl (by kernel_rfl) Try.func4 (by kernel_rfl)
    (of_decide_eq_true (by kernel_rfl)) (by unfold Func.isWrapper; first | (rw [if_pos (by decide +kernel)]; kernel_rfl) | (rw [if_neg (by decide +kernel)]; exact ⟨rfl, rfl⟩))
    (fun os started H enc _ => lifted os started H enc)
theorem proved : Rows.HandNewSaid := over
#print axioms proved
end Go.Proofs.Ytdjbpnpfgabdjaa.handNew
namespace Go.Proofs.Ytdjbpnpfgabdjaa
/-- The row, under a short name, for the claim. -/
theorem handNew_holds : Rows.HandNewSaid := handNew.proved
end Go.Proofs.Ytdjbpnpfgabdjaa
