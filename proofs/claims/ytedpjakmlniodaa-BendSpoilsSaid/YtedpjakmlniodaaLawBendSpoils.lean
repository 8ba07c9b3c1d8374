-- written by a widened copy of the print, a program of this session; Lean checks it.
import Derived.Test.YtedpjakmlniodaaRows
import Derived.Test.YtedpjakmlniodaaPBendSpoilsx6
import Derived.Test.YtedpjakmlniodaaPureBendSpoils
import Derived.Test.YtedpjakmlniodaaOpenLib
import Derived.WalkKit
import Derived.ProofKit
import Derived.OpenShut
import Derived.ShutString
import Derived.ChangeOld
import Derived.Below
import Derived.SizedLaws
namespace Go.Proofs.Ytedpjakmlniodaa.bendSpoils
open Go.ChangeShapes Go.WideShapes Go.ChangeAt Go.RowKit Go.Proofs.YtedpjakmlniodaaW.PrintWords Go.Proofs.Ytedpjakmlniodaa.OpenLib Go.Proofs.Ytedpjakmlniodaa.PBendSpoils
open Go.ChangeMaps (open_string shut_string)
set_option linter.unusedVariables false
theorem own : ownKnob Try.prog.godebug = none := by kernel_rfl
theorem laidOut : laidOutB Try.prog = true := by kernel_rfl
set_option maxRecDepth 100000 in
theorem lifted (os : Os) (started : os.Started) (H : Type) (enc : TypeId × Value → H) :
    ReturnsInHanded {} Try.checked os 5 .any (Rows.bendSpoilsSpec.pre6 enc Try.prog Try.f5 Rows.bendSpoilsRow.domain false) (Rows.bendSpoilsSpec.post enc Try.prog Try.f5 false true false false) := by
  refine returnsInHanded_of_change_sized (C := Try.checked) own started (by kernel_rfl) Try.func5
    (ChangeSpec.witness6 (enc := enc) (C := Try.checked) false ⟨#[], #[.agg #[.int .i64 0, .int .i64 0, .int .i64 0, .int .i64 0, .slice none 0 0], .int .i64 0, .int .u32 0], []⟩ 8 (by kernel_rfl) (by kernel_rfl) (by kernel_rfl) (by kernel_rfl)) ?_
  intro W base args ds gs before hval0 hW hcnd hsz0 _
  have hsz : (DataW.weightsEach Try.prog (Try.f5.params.toList ++ Rows.bendSpoilsSpec.plain.varTypes Try.prog) (ds ++ gs)).all (· ≤ reachBytes) = true := hsz0
  have hval : ∀ (j : Nat) t v, Try.f5.params[j]? = some t → args[j]? = some v → Value.okWide Try.prog W .any base t v := hval0
  have hW' := hW
  obtain ⟨p, q, hA0, hV, rfl, hfz, hnd⟩ := hW
  have hA : DataW.TrodAll enc Try.prog W 0 (fun _ => true) true Try.f5.params.toList args.toList ds p := hA0
  rw [Try.params5] at hA hval hsz
  obtain ⟨v0, vs0, d0, ds0, p0, q0, hargs, rfl, rfl, h0, r0⟩ := trodAll_cons hA
  obtain ⟨v1, vs1, d1, ds1, p1, q1, rfl, rfl, rfl, h1, r1⟩ := trodAll_cons r0
  obtain ⟨v2, vs2, d2, ds2, p2, q2, rfl, rfl, rfl, h2, r2⟩ := trodAll_cons r1
  obtain ⟨rfl, rfl, rfl⟩ := trodAll_nil r2
  obtain rfl : args = #[v0, v1, v2] := by cases args; simp_all
  obtain ⟨rfl, rfl⟩ := trodVars_none hV
  have k0 := h0
  have lt0 : ∀ x ∈ p0, x.block < W.heap.size := by obtain ⟨m, hm⟩ := k0; exact DataW.trod_lt m _ _ _ hm
  have g0 : ∀ m ∈ d0.weights Try.prog 28, m ≤ reachBytes := fun m hm => by have z := List.all_eq_true.1 hsz _ (DataW.weights_mem_each (j := 0) (t := 28) rfl rfl m hm); simpa using z
  obtain ⟨ls0, rfl⟩ := okWide_agg Try.underlying28 (hval 0 28 v0 rfl rfl)
  obtain ⟨fu0, hf0⟩ := h0
  obtain ⟨u0_0, u0_1, u0_2, u0_3, u0_4, rfl⟩ := len5 (l := ls0) (struct_length Try.underlying28 hf0 (m := 5) (by kernel_rfl))
  obtain ⟨np0_0, yp0_0, pp0_0, hp0_0, wp0_0⟩ := opn_field Try.underlying28 hf0 g0 0 rfl (m := 1) (by kernel_rfl)
  obtain ⟨xp0_0, Kp0_0, Wp0_0⟩ := (opn_int Try.underlying3) _ _ _ _ _ _ _ _ hp0_0 wp0_0
  obtain rfl : u0_0 = .int .i64 xp0_0 := (List.cons.inj (show [u0_0] = [(.int .i64 xp0_0 : Value)] from Kp0_0)).1
  obtain ⟨np0_1, yp0_1, pp0_1, hp0_1, wp0_1⟩ := opn_field Try.underlying28 hf0 g0 1 rfl (m := 1) (by kernel_rfl)
  obtain ⟨xp0_1, Kp0_1, Wp0_1⟩ := (opn_int Try.underlying3) _ _ _ _ _ _ _ _ hp0_1 wp0_1
  obtain rfl : u0_1 = .int .i64 xp0_1 := (List.cons.inj (show [u0_1] = [(.int .i64 xp0_1 : Value)] from Kp0_1)).1
  obtain ⟨np0_2, yp0_2, pp0_2, hp0_2, wp0_2⟩ := opn_field Try.underlying28 hf0 g0 2 rfl (m := 1) (by kernel_rfl)
  obtain ⟨xp0_2, Kp0_2, Wp0_2⟩ := (opn_int Try.underlying3) _ _ _ _ _ _ _ _ hp0_2 wp0_2
  obtain rfl : u0_2 = .int .i64 xp0_2 := (List.cons.inj (show [u0_2] = [(.int .i64 xp0_2 : Value)] from Kp0_2)).1
  obtain ⟨np0_3, yp0_3, pp0_3, hp0_3, wp0_3⟩ := opn_field Try.underlying28 hf0 g0 3 rfl (m := 1) (by kernel_rfl)
  obtain ⟨xp0_3, Kp0_3, Wp0_3⟩ := (opn_int Try.underlying3) _ _ _ _ _ _ _ _ hp0_3 wp0_3
  obtain rfl : u0_3 = .int .i64 xp0_3 := (List.cons.inj (show [u0_3] = [(.int .i64 xp0_3 : Value)] from Kp0_3)).1
  obtain ⟨np0_4, yp0_4, pp0_4, hp0_4, wp0_4⟩ := opn_field Try.underlying28 hf0 g0 4 rfl (m := 1) (by kernel_rfl)
  obtain ⟨xp0_4, Kp0_4, Wp0_4⟩ := (opn_slice Try.underlying22 (B := 1) (by kernel_rfl) (by kernel_rfl) (opn_int Try.underlying5)) _ _ _ _ _ _ _ _ hp0_4 wp0_4
  obtain ⟨Ap0_4, cp0_4, ep0_4, lp0_4, Cp0_4⟩ := Kp0_4
  obtain rfl : u0_4 = .slice Ap0_4 xp0_4.length cp0_4 := (List.cons.inj (show [u0_4] = _ from ep0_4)).1
  obtain ⟨a1, rfl, rfl, rfl, w1⟩ := open_int Try.underlying3 (hval 1 3 v1 rfl rfl) h1
  obtain ⟨a2, rfl, rfl, rfl, w2⟩ := open_int Try.underlying32 (hval 2 32 v2 rfl rfl) h2
  clear hA0 hval0 hsz0 hsz
  obtain ⟨k, hpure⟩ := Pure.BendSpoils xp0_0 xp0_1 xp0_2 xp0_3 xp0_4 a1 a2 Wp0_0 Wp0_1 Wp0_2 Wp0_3 Wp0_4.1 Wp0_4.2 w1 w2
  refine (withylaw04_BendSpoils.calls k xp0_0 xp0_1 xp0_2 xp0_3 _ _ xp0_4 a1 a2 true W Cp0_4 lp0_4 hpure rfl).mono ?_
  rintro e W' ⟨he, bel0⟩
  have bel : Below W.heap.size W W' := bel0
  subst he
  exact ⟨_, rfl, _, _, _, [], _, [], hW', trodAll_mk1 (shut_bool Try.underlying4 _), (trodAll_cons_mk (Below.trod laidOut (by kernel_rfl) (of_decide_eq_true (by kernel_rfl)) k0 bel lt0) (trodAll_cons_mk (shut_int Try.underlying3 w1) (trodAll_cons_mk (shut_int Try.underlying32 w2) trodAll_mk0))), rfl, bel.frame _, fun h => by cases h⟩
theorem over : Rows.bendSpoilsRow.holds Try.pinned (OpenSpec.ofChange Rows.bendSpoilsSpec) :=
  OpenClaim.holds_of_wide 5 Try.f5 rfl rfl rfl rfl rfl rfl rfl ⟨rfl, rfl, rfl, rfl, rfl⟩ rfl rfl rfl rfl rfl (by kernel_rfl) Try.func5 (by kernel_rfl)
    (of_decide_eq_true (by kernel_rfl)) (by unfold Func.isWrapper; first | (rw [if_pos (by decide +kernel)]; kernel_rfl) | (rw [if_neg (by decide +kernel)]; exact ⟨rfl, rfl⟩))
    (fun os started H enc _ => lifted os started H enc)
theorem proved : Rows.BendSpoilsSaid := over
#print axioms proved
end Go.Proofs.Ytedpjakmlniodaa.bendSpoils
namespace Go.Proofs.Ytedpjakmlniodaa
/-- The row, under a short name, for the claim. -/
theorem bendSpoils_holds : Rows.BendSpoilsSaid := bendSpoils.proved
end Go.Proofs.Ytedpjakmlniodaa
