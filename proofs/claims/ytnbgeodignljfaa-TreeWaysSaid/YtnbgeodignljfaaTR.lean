/- trees: the small question, and the theorem of ways. -/
import Derived.Test.YtnbgeodignljfaaTQ
namespace Go.Proofs.Ytnbgeodignljfaa
set_option linter.unusedVariables false
set_option linter.unusedSimpArgs false
set_option linter.unusedSectionVars false
open Go.RowKit Ab TP
attribute [local irreducible] AOps AOpsD AOp AWp put nargs AHeap.set At Free ACall ACallE thenQ blockQ roundQ RetQ RetE Src bsn
abbrev e1 : E := ⟨1, 2, 0⟩
abbrev e2 : E := ⟨2, 3, 0⟩
theorem el_good : TP.Good [e1, e2] := by decide
theorem el_forest : Forest [e1, e2] := by
  show Forest (([] ++ [e1]) ++ [e2])
  refine Forest.snoc.2 ⟨Forest.snoc.2 ⟨Forest.nil, fun h => absurd h.nil (by decide)⟩, fun h => ?_⟩
  rcases Conn.add (l := []) (e := e1) (fun f hf => .inl (by simpa using hf)) h with h | ⟨h, _⟩ | ⟨_, h⟩
  · exact absurd h.nil (by decide)
  · exact absurd h.nil (by decide)
  · exact absurd h.nil (by decide)
theorem el_way : TP.Way [e1, e2] 3 1 [3, 2, 1] :=
  .cons ⟨e2, by simp, .inr ⟨rfl, rfl⟩⟩ (by decide) (.cons ⟨e1, by simp, .inr ⟨rfl, rfl⟩⟩ (by decide) (.one 1))
theorem el_ok : wOk [e1, e2] 3 1 = true := wOk_iff.2 ⟨el_good, el_forest, by decide, by decide⟩
theorem awake10 {s : AHeap} : ACall Try.prog 10 [] s (.bool true) s := by
  refine ACall.make Try.func10 rfl (by kernel_rfl) (by decide) rfl (fun N hN => ?_)
  have hT : Top N s := hN
  have T1 : Top (N + 1) (s.set N (.cells true 3 (ecs [e1, e2]))) := hT.new
  have c11 := way11_yes (o := N + 1) (EA.own (s := s.set N (.cells true 3 (ecs [e1, e2]))) (q := N) (l := [e1, e2]) At.hit) (by decide) el_ok el_way (T1.none (Nat.le_refl _))
  have T2 : Top (N + 2) ((s.set N (.cells true 3 (ecs [e1, e2]))).set (N + 1) (.cells true 1 (ints [3, 2, 1]))) := T1.new
  have n1 : NA (((s.set N (.cells true 3 (ecs [e1, e2]))).set (N + 1) (.cells true 1 (ints [3, 2, 1]))).set (N + 2) (.cells true 1 (ints [3, 2, 1]))) (.slice (some ⟨N + 1, 0, none⟩) 3 3) (some (N + 1)) [3, 2, 1] := NA.own (l := [3, 2, 1]) (At.miss (by omega) At.hit)
  have n2 : NA (((s.set N (.cells true 3 (ecs [e1, e2]))).set (N + 1) (.cells true 1 (ints [3, 2, 1]))).set (N + 2) (.cells true 1 (ints [3, 2, 1]))) (.slice (some ⟨N + 2, 0, none⟩) 3 3) (some (N + 2)) [3, 2, 1] := NA.own (l := [3, 2, 1]) At.hit
  have c17 := ints17 n1 n2 (by decide) (by decide)
  rw [decide_eq_true rfl] at c17

  (repeat' (first | (apply Ab.K.ev; exact ev_) | (apply Ab.K.aops; first | (apply Xg.s; constructor) | (apply Ab.S.guardU; (case hd => rfl); (case hb => (exact ev_; done))) | apply Ab.S.guardG) | (apply Ab.K.aop; first | (first | (apply Ab.O.buildSlice N (te := ⟨.struct [(0, 3), (1, 3), (2, 3)], 3, 24, .agg #[.int .i64 0, .int .i64 0, .int .i64 0]⟩) (c := ecs [e1, e2]); (case hp => exact evp_); (case hz => exact ⟨rfl, by decide, rfl⟩); (case hc => rfl); (case hid => exact hT.free (Nat.le_refl _))) | (apply Ab.O.buildSlice (N + 2) (te := ⟨.int .i64, 1, 8, .int .i64 0⟩) (c := ints [3, 2, 1]); (case hp => exact evp_); (case hz => exact ⟨rfl, by decide, rfl⟩); (case hc => rfl); (case hid => exact T2.free (Nat.le_refl _)))) | (apply Og.s; constructor)) | (apply Ab.K.gk; first | (apply Xg.s; constructor) | (apply Ab.gY; case hw => assumption) | (apply Ab.gNT; case hw => assumption) | (apply Ab.gNF; case hw => assumption) | ((first | apply Ab.gD | apply Ab.gDN); all_goals (intro _ _; (first | contradiction | (exfalso; omega) | skip)))) | (apply Ab.K.awp; first | (apply Xg.s; constructor)) | (apply Ab.K.at_; exact at_) | (apply Ab.K.acall; first | assumption | first | exact c11 | exact c17) | (apply Ab.Rg.mk; omega) | (apply Ab.Lt.mk; first | decide | (simp; done) | (simp; omega) | fail) | (apply Ab.Get.mk; first | rfl | fail) | (apply Ab.Nm.mk; first | exact nrm_) | (apply Xg.s; constructor) | (apply Ab.asm; assumption) | rfl | infer_instance | decide))
  all_goals ((first | apply RetQ.ret | apply RetQ.normal); (case he => exact evr_); (case hg => rfl))
  all_goals first | rfl | (apply Keeps.fr; (case h => exact fr_); (case hv => exact plR.nm rfl))
end Go.Proofs.Ytnbgeodignljfaa
