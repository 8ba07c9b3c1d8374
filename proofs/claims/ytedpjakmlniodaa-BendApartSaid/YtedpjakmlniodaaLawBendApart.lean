-- written by a widened copy of the print, a program of this session; Lean checks it.
import Derived.Test.YtedpjakmlniodaaRows
import Derived.Test.YtedpjakmlniodaaPBendApartx7
import Derived.Test.YtedpjakmlniodaaPureBendApart
import Derived.Test.YtedpjakmlniodaaOpenLib
import Derived.WalkKit
import Derived.ProofKit
import Derived.OpenShut
import Derived.ShutString
import Derived.ChangeOld
import Derived.Below
import Derived.SizedLaws
namespace Go.Proofs.Ytedpjakmlniodaa.bendApart
open Go.ChangeShapes Go.WideShapes Go.ChangeAt Go.RowKit Go.Proofs.YtedpjakmlniodaaW.PrintWords Go.Proofs.Ytedpjakmlniodaa.OpenLib Go.Proofs.Ytedpjakmlniodaa.PBendApart
open Go.ChangeMaps (open_string shut_string)
set_option linter.unusedVariables false
theorem own : ownKnob Try.prog.godebug = none := by kernel_rfl
theorem laidOut : laidOutB Try.prog = true := by kernel_rfl
set_option maxRecDepth 100000 in
theorem lifted (os : Os) (started : os.Started) (H : Type) (enc : TypeId × Value → H) :
    ReturnsInHanded {} Try.checked os 4 .any (Rows.bendApartSpec.pre6 enc Try.prog Try.f4 Rows.bendApartRow.domain false) (Rows.bendApartSpec.post enc Try.prog Try.f4 false true false false) := by
  refine returnsInHanded_of_change_sized (C := Try.checked) own started (by kernel_rfl) Try.func4
    (ChangeSpec.witness6 (enc := enc) (C := Try.checked) false ⟨#[], #[.agg #[.int .i64 0, .int .i64 0, .int .i64 0, .int .i64 0, .slice none 0 0], .agg #[.int .i64 0, .int .i64 0, .int .i64 0, .int .i64 0, .slice none 0 0]], []⟩ 8 (by kernel_rfl) (by kernel_rfl) (by kernel_rfl) (by kernel_rfl)) ?_
  intro W base args ds gs before hval0 hW hcnd hsz0 _
  have hsz : (DataW.weightsEach Try.prog (Try.f4.params.toList ++ Rows.bendApartSpec.plain.varTypes Try.prog) (ds ++ gs)).all (· ≤ reachBytes) = true := hsz0
  have hval : ∀ (j : Nat) t v, Try.f4.params[j]? = some t → args[j]? = some v → Value.okWide Try.prog W .any base t v := hval0
  have hW' := hW
  obtain ⟨p, q, hA0, hV, rfl, hfz, hnd⟩ := hW
  have hA : DataW.TrodAll enc Try.prog W 0 (fun _ => true) true Try.f4.params.toList args.toList ds p := hA0
  rw [Try.params4] at hA hval hsz
  obtain ⟨v0, vs0, d0, ds0, p0, q0, hargs, rfl, rfl, h0, r0⟩ := trodAll_cons hA
  obtain ⟨v1, vs1, d1, ds1, p1, q1, rfl, rfl, rfl, h1, r1⟩ := trodAll_cons r0
  obtain ⟨rfl, rfl, rfl⟩ := trodAll_nil r1
  obtain rfl : args = #[v0, v1] := by cases args; simp_all
  obtain ⟨rfl, rfl⟩ := trodVars_none hV
  have k0 := h0
  have lt0 : ∀ x ∈ p0, x.block < W.heap.size := by obtain ⟨m, hm⟩ := k0; exact DataW.trod_lt m _ _ _ hm
  have g0 : ∀ m ∈ d0.weights Try.prog 28, m ≤ reachBytes := fun m hm => by have z := List.all_eq_true.1 hsz _ (DataW.weights_mem_each (j := 0) (t := 28) rfl rfl m hm); simpa using z
  obtain ⟨ls0, rfl⟩ := okWide_agg Try.underlying28 (hval 0 28 v0 rfl rfl)
  obtain ⟨fu0, hf0⟩ := h0
  obtain ⟨u0_0, u0_1, u0_2, u0_3, u0_4, rfl⟩ := len5 (l := ls0) (struct_length Try.underlying28 hf0 (m := 5) (by kernel_rfl))
  obtain ⟨np0_0, yp0_0, pp0_0, hp0_0, wp0_0⟩ := opn_field Try.underlying28 hf0 g0 0 rfl (m := 1) (by kernel_rfl)
  obtain ⟨xp0_0, Kp0_0, Wp0_0⟩ := (opn_int Try.underlying3) _ _ _ _ _ _ _ _ hp0_0 wp0_0
  obtain rfl : u0_0 = .int .i64 xp0_0 := (List.cons.inj (show [u0_0] = [(.int .i64 xp0_0 : Value)] from Kp0_0)).1
  obtain ⟨np0_1, yp0_1, pp0_1, hp0_1, wp0_1⟩ := opn_field Try.underlying28 hf0 g0 1 rfl (m := 1) (by kernel_rfl)
  obtain ⟨xp0_1, Kp0_1, Wp0_1⟩ := (opn_int Try.underlying3) _ _ _ _ _ _ _ _ hp0_1 wp0_1
  obtain rfl : u0_1 = .int .i64 xp0_1 := (List.cons.inj (show [u0_1] = [(.int .i64 xp0_1 : Value)] from Kp0_1)).1
  obtain ⟨np0_2, yp0_2, pp0_2, hp0_2, wp0_2⟩ := opn_field Try.underlying28 hf0 g0 2 rfl (m := 1) (by kernel_rfl)
  obtain ⟨xp0_2, Kp0_2, Wp0_2⟩ := (opn_int Try.underlying3) _ _ _ _ _ _ _ _ hp0_2 wp0_2
  obtain rfl : u0_2 = .int .i64 xp0_2 := (List.cons.inj (show [u0_2] = [(.int .i64 xp0_2 : Value)] from Kp0_2)).1
  obtain ⟨np0_3, yp0_3, pp0_3, hp0_3, wp0_3⟩ := opn_field Try.underlying28 hf0 g0 3 rfl (m := 1) (by kernel_rfl)
  obtain ⟨xp0_3, Kp0_3, Wp0_3⟩ := (opn_int Try.underlying3) _ _ _ _ _ _ _ _ hp0_3 wp0_3
  obtain rfl : u0_3 = .int .i64 xp0_3 := (List.cons.inj (show [u0_3] = [(.int .i64 xp0_3 : Value)] from Kp0_3)).1
  obtain ⟨np0_4, yp0_4, pp0_4, hp0_4, wp0_4⟩ := opn_field Try.underlying28 hf0 g0 4 rfl (m := 1) (by kernel_rfl)
  obtain ⟨xp0_4, Kp0_4, Wp0_4⟩ := (opn_slice Try.underlying22 (B := 1) (by kernel_rfl) (by kernel_rfl) (opn_int Try.underlying5)) _ _ _ _ _ _ _ _ hp0_4 wp0_4
  obtain ⟨Ap0_4, cp0_4, ep0_4, lp0_4, Cp0_4⟩ := Kp0_4
  obtain rfl : u0_4 = .slice Ap0_4 xp0_4.length cp0_4 := (List.cons.inj (show [u0_4] = _ from ep0_4)).1
  have k1 := h1
  have lt1 : ∀ x ∈ p1, x.block < W.heap.size := by obtain ⟨m, hm⟩ := k1; exact DataW.trod_lt m _ _ _ hm
  have g1 : ∀ m ∈ d1.weights Try.prog 28, m ≤ reachBytes := fun m hm => by have z := List.all_eq_true.1 hsz _ (DataW.weights_mem_each (j := 1) (t := 28) rfl rfl m hm); simpa using z
  obtain ⟨ls1, rfl⟩ := okWide_agg Try.underlying28 (hval 1 28 v1 rfl rfl)
  obtain ⟨fu1, hf1⟩ := h1
  obtain ⟨u1_0, u1_1, u1_2, u1_3, u1_4, rfl⟩ := len5 (l := ls1) (struct_length Try.underlying28 hf1 (m := 5) (by kernel_rfl))
  obtain ⟨np1_0, yp1_0, pp1_0, hp1_0, wp1_0⟩ := opn_field Try.underlying28 hf1 g1 0 rfl (m := 1) (by kernel_rfl)
  obtain ⟨xp1_0, Kp1_0, Wp1_0⟩ := (opn_int Try.underlying3) _ _ _ _ _ _ _ _ hp1_0 wp1_0
  obtain rfl : u1_0 = .int .i64 xp1_0 := (List.cons.inj (show [u1_0] = [(.int .i64 xp1_0 : Value)] from Kp1_0)).1
  obtain ⟨np1_1, yp1_1, pp1_1, hp1_1, wp1_1⟩ := opn_field Try.underlying28 hf1 g1 1 rfl (m := 1) (by kernel_rfl)
  obtain ⟨xp1_1, Kp1_1, Wp1_1⟩ := (opn_int Try.underlying3) _ _ _ _ _ _ _ _ hp1_1 wp1_1
  obtain rfl : u1_1 = .int .i64 xp1_1 := (List.cons.inj (show [u1_1] = [(.int .i64 xp1_1 : Value)] from Kp1_1)).1
  obtain ⟨np1_2, yp1_2, pp1_2, hp1_2, wp1_2⟩ := opn_field Try.underlying28 hf1 g1 2 rfl (m := 1) (by kernel_rfl)
  obtain ⟨xp1_2, Kp1_2, Wp1_2⟩ := (opn_int Try.underlying3) _ _ _ _ _ _ _ _ hp1_2 wp1_2
  obtain rfl : u1_2 = .int .i64 xp1_2 := (List.cons.inj (show [u1_2] = [(.int .i64 xp1_2 : Value)] from Kp1_2)).1
  obtain ⟨np1_3, yp1_3, pp1_3, hp1_3, wp1_3⟩ := opn_field Try.underlying28 hf1 g1 3 rfl (m := 1) (by kernel_rfl)
  obtain ⟨xp1_3, Kp1_3, Wp1_3⟩ := (opn_int Try.underlying3) _ _ _ _ _ _ _ _ hp1_3 wp1_3
  obtain rfl : u1_3 = .int .i64 xp1_3 := (List.cons.inj (show [u1_3] = [(.int .i64 xp1_3 : Value)] from Kp1_3)).1
  obtain ⟨np1_4, yp1_4, pp1_4, hp1_4, wp1_4⟩ := opn_field Try.underlying28 hf1 g1 4 rfl (m := 1) (by kernel_rfl)
  obtain ⟨xp1_4, Kp1_4, Wp1_4⟩ := (opn_slice Try.underlying22 (B := 1) (by kernel_rfl) (by kernel_rfl) (opn_int Try.underlying5)) _ _ _ _ _ _ _ _ hp1_4 wp1_4
  obtain ⟨Ap1_4, cp1_4, ep1_4, lp1_4, Cp1_4⟩ := Kp1_4
  obtain rfl : u1_4 = .slice Ap1_4 xp1_4.length cp1_4 := (List.cons.inj (show [u1_4] = _ from ep1_4)).1
  clear hA0 hval0 hsz0 hsz
  obtain ⟨k, hpure⟩ := Pure.BendApart xp0_0 xp0_1 xp0_2 xp0_3 xp0_4 xp1_0 xp1_1 xp1_2 xp1_3 xp1_4 Wp0_0 Wp0_1 Wp0_2 Wp0_3 Wp0_4.1 Wp0_4.2 Wp1_0 Wp1_1 Wp1_2 Wp1_3 Wp1_4.1 Wp1_4.2
  refine (withylaw04_BendApart.calls k xp0_0 xp0_1 xp0_2 xp0_3 _ _ xp0_4 xp1_0 xp1_1 xp1_2 xp1_3 _ _ xp1_4 true W Cp0_4 lp0_4 Cp1_4 lp1_4 hpure rfl).mono ?_
  rintro e W' ⟨he, bel0⟩
  have bel : Below W.heap.size W W' := bel0
  subst he
  exact ⟨_, rfl, _, _, _, [], _, [], hW', trodAll_mk1 (shut_bool Try.underlying4 _), (trodAll_cons_mk (Below.trod laidOut (by kernel_rfl) (of_decide_eq_true (by kernel_rfl)) k0 bel lt0) (trodAll_cons_mk (Below.trod laidOut (by kernel_rfl) (of_decide_eq_true (by kernel_rfl)) k1 bel lt1) trodAll_mk0)), rfl, bel.frame _, fun h => by cases h⟩
theorem over : Rows.bendApartRow.holds Try.pinned (OpenSpec.ofChange Rows.bendApartSpec) :=
  OpenClaim.holds_of_wide 4 Try.f4 rfl rfl rfl rfl rfl rfl rfl ⟨rfl, rfl, rfl, rfl, rfl⟩ rfl rfl rfl rfl rfl (by kernel_rfl) Try.func4 (by kernel_rfl)
    (of_decide_eq_true (by kernel_rfl)) (by unfold Func.isWrapper; first | (rw [if_pos (by decide +kernel)]; kernel_rfl) | (rw [if_neg (by decide +kernel)]; exact ⟨rfl, rfl⟩))
    (fun os started H enc _ => lifted os started H enc)
theorem proved : Rows.BendApartSaid := over
#print axioms proved
end Go.Proofs.Ytedpjakmlniodaa.bendApart
namespace Go.Proofs.Ytedpjakmlniodaa
/-- The row, under a short name, for the claim. -/
theorem bendApart_holds : Rows.BendApartSaid := bendApart.proved
end Go.Proofs.Ytedpjakmlniodaa
