/- trees: nodes, edges, their order, lists of numbers. -/
import Derived.Test.YtnbgeodignljfaaProg
import Derived.Test.YtnbgeodignljfaaAbN
import Derived.Test.YtnbgeodignljfaaAbO
import Derived.Test.YtnbgeodignljfaaAbZ
import Derived.Test.YtnbgeodignljfaaTreeWay
import Derived.KernelRfl
import Derived.Laws.StructEq
namespace Go.Proofs.Ytnbgeodignljfaa
set_option linter.unusedVariables false
set_option linter.unusedSimpArgs false
set_option linter.unusedSectionVars false
open Go.RowKit Ab TP
attribute [local irreducible] AOps AOpsD AOp AWp put nargs AHeap.set At Free ACall thenQ blockQ roundQ RetQ Src
instance : HasTD Try.prog 3 ⟨.int .i64, 1, 8, .int .i64 0⟩ := ⟨by kernel_rfl⟩
instance : HasTD Try.prog 4 ⟨.bool, 1, 1, .bool false⟩ := ⟨by kernel_rfl⟩
instance : HasTD Try.prog 22 ⟨.slice 32, 1, 24, .slice none 0 0⟩ := ⟨by kernel_rfl⟩
instance : HasTD Try.prog 25 ⟨.slice 3, 1, 24, .slice none 0 0⟩ := ⟨by kernel_rfl⟩
instance : HasTD Try.prog 26 ⟨.int .i64, 1, 8, .int .i64 0⟩ := ⟨by kernel_rfl⟩
instance : HasPl Try.prog 32 [(0, 1), (1, 1), (2, 1)] := ⟨by kernel_rfl⟩
instance : HasTD Try.prog 32 ⟨.struct [(0, 3), (1, 3), (2, 3)], 3, 24, .agg #[.int .i64 0, .int .i64 0, .int .i64 0]⟩ := ⟨by kernel_rfl⟩
instance : HasTD Try.prog 62 ⟨.ptr 74, 1, 8, .pointer none⟩ := ⟨by kernel_rfl⟩
instance : HasTD Try.prog 70 ⟨.map 32 4, 1, 8, .map none⟩ := ⟨by kernel_rfl⟩
instance : HasPl Try.prog 74 [(0, 1), (1, 1), (2, 1), (3, 1)] := ⟨by kernel_rfl⟩
instance : HasTD Try.prog 74 ⟨.struct [(0, 25), (1, 25), (2, 25), (3, 3)], 4, 80, .agg #[.slice none 0 0, .slice none 0 0, .slice none 0 0, .int .i64 0]⟩ := ⟨by kernel_rfl⟩


def ints (l : List Int) : List Value := l.map (.int .i64)
theorem ints_length (l : List Int) : (ints l).length = l.length := by simp [ints]
theorem ints_append (a b : List Int) : ints (a ++ b) = ints a ++ ints b := by simp [ints]
theorem ints_pl (l : List Int) : (ints l).all pl1 = true := by simp [ints, pl1, plA]
theorem ints_get {l : List Int} {i : Nat} {x : Int} (h : l[i]? = some x) : (ints l)[i]? = some (.int .i64 x) := by simp [ints, h]
/-- An edge's cells. -/
def ec (e : E) : List Value := [.int .i64 e.a, .int .i64 e.b, .int .i64 e.w]
def ecs (l : List E) : List Value := l.flatMap ec
theorem ecs_length (l : List E) : (ecs l).length = l.length * 3 := by
  unfold ecs
  induction l with
  | nil => rfl
  | cons e l ih => rw [List.flatMap_cons, List.length_append, ih, List.length_cons]; show 3 + _ = _; omega
theorem ecs_append (a b : List E) : ecs (a ++ b) = ecs a ++ ecs b := by simp [ecs]
theorem ecs_pl (l : List E) : (ecs l).all pl1 = true := by simp [ecs, ec, pl1, plA]
theorem ecs_get {l : List E} {i : Nat} {e : E} (h : l[i]? = some e) : ((ecs l).drop (i * 3)).take 3 = ec e := by
  induction l generalizing i with
  | nil => simp at h
  | cons f l ih =>
    cases i with
    | zero => simp at h; subst h; simp [ecs, ec]
    | succ i =>
      rw [List.getElem?_cons_succ] at h
      have e1 : (i + 1) * 3 = 3 + i * 3 := by omega
      have e2 : ecs (f :: l) = ec f ++ ecs l := by simp [ecs]
      rw [e1, e2, ← List.drop_drop, show (ec f ++ ecs l).drop 3 = ecs l from rfl]
      exact ih h
theorem ecs_cell {l : List E} {i : Nat} {e : E} (h : l[i]? = some e) (j : Nat) (hj : j < 3) : (ecs l)[i * 3 + j]? = (ec e)[j]? := by
  rw [← ecs_get h, List.getElem?_take, if_pos hj, List.getElem?_drop]

/-! ### equal edges -/
theorem eq32 {x y : Operand} {e f : E} : ABin Try.prog .eql 32 x y (.agg (ec e).toArray) (.agg (ec f).toArray) (.bool (decide (e = f))) := by
  refine .inr ⟨rfl, rfl, rfl, fun w => ?_⟩
  have u3 := Try.underlying3
  have a3 := Try.isAgg3
  have z3 := Try.sizeOf3
  have hS : Try.prog.underlying 32 = some (.struct (Try.prog.fieldsOf 32)) := by kernel_rfl
  have hp : Try.prog.stoodInHeld 32 = false := by kernel_rfl
  have hg : Try.prog.eqGuardType Try.prog.depth 32 = false := by kernel_rfl
  rw [Sem.run_bind, run_eqGuard_agg w _ _ _ _ _ _ hg, Result.andThen_ok, run_eql_struct, show (10000 : Nat) = 9999 + 1 from rfl, run_equalIn_agg w 9999 32 _ _ hS hp]
  simp only [Program.fieldsOf, Try.underlying32]
  obtain ⟨a, b, c⟩ := e
  obtain ⟨a', b', c'⟩ := f
  unfold ec
  go_simp
  by_cases h1 : a = a' <;> by_cases h2 : b = b' <;> by_cases h3 : c = c' <;> simp [h1, h2, h3]
theorem ne32 {x y : Operand} {e f : E} : ABin Try.prog .neq 32 x y (.agg (ec e).toArray) (.agg (ec f).toArray) (.bool (!decide (e = f))) := by
  refine .inr ⟨rfl, rfl, rfl, fun w => ?_⟩
  have u3 := Try.underlying3
  have a3 := Try.isAgg3
  have z3 := Try.sizeOf3
  have hS : Try.prog.underlying 32 = some (.struct (Try.prog.fieldsOf 32)) := by kernel_rfl
  have hp : Try.prog.stoodInHeld 32 = false := by kernel_rfl
  have hg : Try.prog.eqGuardType Try.prog.depth 32 = false := by kernel_rfl
  rw [Sem.run_bind, run_eqGuard_agg w _ _ _ _ _ _ hg, Result.andThen_ok, run_neq_struct, show (10000 : Nat) = 9999 + 1 from rfl, run_equalIn_agg w 9999 32 _ _ hS hp]
  simp only [Program.fieldsOf, Try.underlying32]
  obtain ⟨a, b, c⟩ := e
  obtain ⟨a', b', c'⟩ := f
  unfold ec
  go_simp
  by_cases h1 : a = a' <;> by_cases h2 : b = b' <;> by_cases h3 : c = c' <;> simp [h1, h2, h3]
/-! ### small checks -/



theorem node15 {s : AHeap} {n : Int} : ACall Try.prog 15 [.int .i64 n] s (.bool (decide (TP.Node n))) s := by
  unfold TP.Node
  (refine ACall.make Try.func15 rfl (by kernel_rfl) (by decide) rfl (fun N hN => ?_); have hT : Top N _ := hN; (repeat' (first | (apply Ab.K.ev; exact ev_) | (apply Ab.K.aops; first | (apply Xg.s; constructor) | (apply Ab.S.guardU; (case hd => rfl); (case hb => (exact ev_; done))) | apply Ab.S.guardG) | (apply Ab.K.aop; first | (apply Og.s; constructor)) | (apply Ab.K.gk; first | (apply Xg.s; constructor) | (apply Ab.gY; case hw => assumption) | (apply Ab.gNT; case hw => assumption) | (apply Ab.gNF; case hw => assumption) | ((first | apply Ab.gD | apply Ab.gDN); all_goals (intro _ _; (first | contradiction | (exfalso; omega) | skip)))) | (apply Ab.K.awp; first | (apply Xg.s; constructor)) | (apply Ab.K.at_; exact at_) | (apply Ab.K.acall; first | assumption | fail) | (apply Ab.Rg.mk; omega) | (apply Ab.Lt.mk; first | decide | (simp; done) | (simp; omega) | fail) | (apply Ab.Get.mk; first | rfl | fail) | (apply Ab.Nm.mk; first | exact nrm_) | (apply Xg.s; constructor) | (apply Ab.asm; assumption) | rfl | infer_instance | decide)); (all_goals ((first | apply RetQ.ret | apply RetQ.normal); (case he => exact evr_); (case hg => rfl))); (all_goals first | rfl | (apply Keeps.fr; (case h => exact fr_); (case hv => exact plR.nm rfl)) | (exact bdec (by grind))))
theorem node29 {s : AHeap} {n : Int} : ACall Try.prog 29 [.int .i64 n] s (.bool (decide (TP.Node n))) s := by
  unfold TP.Node
  (refine ACall.make Try.func29 rfl (by kernel_rfl) (by decide) rfl (fun N hN => ?_); have hT : Top N _ := hN; (repeat' (first | (apply Ab.K.ev; exact ev_) | (apply Ab.K.aops; first | (apply Xg.s; constructor) | (apply Ab.S.guardU; (case hd => rfl); (case hb => (exact ev_; done))) | apply Ab.S.guardG) | (apply Ab.K.aop; first | (apply Og.s; constructor)) | (apply Ab.K.gk; first | (apply Xg.s; constructor) | (apply Ab.gY; case hw => assumption) | (apply Ab.gNT; case hw => assumption) | (apply Ab.gNF; case hw => assumption) | ((first | apply Ab.gD | apply Ab.gDN); all_goals (intro _ _; (first | contradiction | (exfalso; omega) | skip)))) | (apply Ab.K.awp; first | (apply Xg.s; constructor)) | (apply Ab.K.at_; exact at_) | (apply Ab.K.acall; first | assumption | fail) | (apply Ab.Rg.mk; omega) | (apply Ab.Lt.mk; first | decide | (simp; done) | (simp; omega) | fail) | (apply Ab.Get.mk; first | rfl | fail) | (apply Ab.Nm.mk; first | exact nrm_) | (apply Xg.s; constructor) | (apply Ab.asm; assumption) | rfl | infer_instance | decide)); (all_goals ((first | apply RetQ.ret | apply RetQ.normal); (case he => exact evr_); (case hg => rfl))); (all_goals first | rfl | (apply Keeps.fr; (case h => exact fr_); (case hv => exact plR.nm rfl)) | (exact bdec (by grind))))
theorem isNaN54 {s : AHeap} {n : Int} : ACall Try.prog 54 [.int .i64 n] s (.bool false) s := by
  (refine ACall.make Try.func54 rfl (by kernel_rfl) (by decide) rfl (fun N hN => ?_); have hT : Top N _ := hN; (repeat' (first | (apply Ab.K.ev; exact ev_) | (apply Ab.K.aops; first | (apply Xg.s; constructor) | (apply Ab.S.guardU; (case hd => rfl); (case hb => (exact ev_; done))) | apply Ab.S.guardG) | (apply Ab.K.aop; first | (apply Og.s; constructor)) | (apply Ab.K.gk; first | (apply Xg.s; constructor) | (apply Ab.gY; case hw => assumption) | (apply Ab.gNT; case hw => assumption) | (apply Ab.gNF; case hw => assumption) | ((first | apply Ab.gD | apply Ab.gDN); all_goals (intro _ _; (first | contradiction | (exfalso; omega) | skip)))) | (apply Ab.K.awp; first | (apply Xg.s; constructor)) | (apply Ab.K.at_; exact at_) | (apply Ab.K.acall; first | assumption | fail) | (apply Ab.Rg.mk; omega) | (apply Ab.Lt.mk; first | decide | (simp; done) | (simp; omega) | fail) | (apply Ab.Get.mk; first | rfl | fail) | (apply Ab.Nm.mk; first | exact nrm_) | (apply Xg.s; constructor) | (apply Ab.asm; assumption) | rfl | infer_instance | decide)); (all_goals ((first | apply RetQ.ret | apply RetQ.normal); (case he => exact evr_); (case hg => rfl))); (all_goals first | rfl | (apply Keeps.fr; (case h => exact fr_); (case hv => exact plR.nm rfl)) | (simp only [resV]; congr 1; simp)))
def cmp3 (a b : Int) : Int := if a < b then -1 else if a > b then 1 else 0
theorem cmp49 {s : AHeap} {a b : Int} : ACall Try.prog 49 [.int .i64 a, .int .i64 b] s (.int .i64 (cmp3 a b)) s := by
  unfold cmp3
  by_cases h1 : a < b
  case' pos => rw [if_pos h1]
  case' neg =>
    rw [if_neg h1]
    by_cases h2 : a > b
    case' pos => rw [if_pos h2]
    case' neg => rw [if_neg h2]
  all_goals (refine ACall.make Try.func49 rfl (by kernel_rfl) (by decide) rfl (fun N hN => ?_); have hT : Top N _ := hN; (repeat' (first | (apply Ab.K.ev; exact ev_) | (apply Ab.K.aops; first | (apply Xg.s; constructor) | (apply Ab.S.guardU; (case hd => rfl); (case hb => (exact ev_; done))) | apply Ab.S.guardG) | (apply Ab.K.aop; first | (apply Og.s; constructor)) | (apply Ab.K.gk; first | (apply Xg.s; constructor) | (apply Ab.gY; case hw => assumption) | (apply Ab.gNT; case hw => assumption) | (apply Ab.gNF; case hw => assumption) | ((first | apply Ab.gD | apply Ab.gDN); all_goals (intro _ _; (first | contradiction | (exfalso; omega) | skip)))) | (apply Ab.K.awp; first | (apply Xg.s; constructor)) | (apply Ab.K.at_; exact at_) | (apply Ab.K.acall; first | assumption | exact isNaN54) | (apply Ab.Rg.mk; omega) | (apply Ab.Lt.mk; first | decide | (simp; done) | (simp; omega) | fail) | (apply Ab.Get.mk; first | rfl | fail) | (apply Ab.Nm.mk; first | exact nrm_) | (apply Xg.s; constructor) | (apply Ab.asm; assumption) | rfl | infer_instance | decide)); (all_goals ((first | apply RetQ.ret | apply RetQ.normal); (case he => exact evr_); (case hg => rfl))); (all_goals first | rfl | (apply Keeps.fr; (case h => exact fr_); (case hv => exact plR.nm rfl)) | (simp only [resV]; congr 1; simp)))


theorem may20 {s : AHeap} {e : E} : ACall Try.prog 20 [.agg (ec e).toArray] s (.bool (decide e.may)) s := by
  obtain ⟨a, b, w⟩ := e
  unfold E.may
  simp only
  (refine ACall.make Try.func20 rfl (by kernel_rfl) (by decide) rfl (fun N hN => ?_); have hT : Top N _ := hN; (repeat' (first | (apply Ab.K.ev; exact ev_) | (apply Ab.K.aops; first | (apply Xg.s; constructor) | (apply Ab.S.guardU; (case hd => rfl); (case hb => (exact ev_; done))) | apply Ab.S.guardG) | (apply Ab.K.aop; first | (apply Ab.O.boxA (N + 0); (case hx => exact ev_); (case hid => exact frees_)) | (apply Og.s; constructor)) | (apply Ab.K.gk; first | (apply Xg.s; constructor) | (apply Ab.gY; case hw => assumption) | (apply Ab.gNT; case hw => assumption) | (apply Ab.gNF; case hw => assumption) | ((first | apply Ab.gD | apply Ab.gDN); all_goals (intro _ _; (first | contradiction | (exfalso; omega) | skip)))) | (apply Ab.K.awp; first | (apply Xg.s; constructor)) | (apply Ab.K.at_; exact at_) | (apply Ab.K.acall; first | assumption | first | exact node15 | exact node29) | (apply Ab.Rg.mk; omega) | (apply Ab.Lt.mk; first | decide | (simp; done) | (simp; omega) | fail) | (apply Ab.Get.mk; first | rfl | fail) | (apply Ab.Nm.mk; first | exact nrm_) | (apply Xg.s; constructor) | (apply Ab.asm; assumption) | rfl | infer_instance | decide)); (all_goals ((first | apply RetQ.ret | apply RetQ.normal); (case he => exact evr_); (case hg => rfl))); (all_goals first | rfl | (apply Keeps.fr; (case h => exact fr_); (case hv => exact plR.nm rfl)) | (exact bdec (by grind))))
def mayE (e : E) : Int := if e.may then 0 else 1
theorem may_y {e : E} (h : e.may) : mayE e = 0 := if_pos h
theorem may_n {e : E} (h : ¬ e.may) : mayE e = 1 := if_neg h
theorem check51 {s : AHeap} {e : E} : ACall Try.prog 51 [.agg (ec e).toArray] s (.int .i64 (mayE e)) s := by
  obtain ⟨a, b, w⟩ := e
  (refine ACall.make Try.func51 rfl (by kernel_rfl) (by decide) rfl (fun N hN => ?_); have hT : Top N _ := hN; (repeat' (first | (apply Ab.K.ev; exact ev_) | (apply Ab.K.aops; first | (apply Xg.s; constructor) | (apply Ab.S.guardU; (case hd => rfl); (case hb => (exact ev_; done))) | apply Ab.S.guardG) | (apply Ab.K.aop; first | (apply Ab.O.boxA (N + 0); (case hx => exact ev_); (case hid => exact frees_)) | (apply Og.s; constructor)) | (apply Ab.K.gk; first | (apply Xg.s; constructor) | (apply Ab.gY; case hw => assumption) | (apply Ab.gNT; case hw => assumption) | (apply Ab.gNF; case hw => assumption) | ((first | apply Ab.gD | apply Ab.gDN); all_goals (intro _ _; (first | contradiction | (exfalso; omega) | skip)))) | (apply Ab.K.awp; first | (apply Xg.s; constructor)) | (apply Ab.K.at_; exact at_) | (apply Ab.K.acall; first | assumption | first | exact node15 | exact node29) | (apply Ab.Rg.mk; omega) | (apply Ab.Lt.mk; first | decide | (simp; done) | (simp; omega) | fail) | (apply Ab.Get.mk; first | rfl | fail) | (apply Ab.Nm.mk; first | exact nrm_) | (apply Xg.s; constructor) | (apply Ab.asm; assumption) | rfl | infer_instance | decide)); (all_goals ((first | apply RetQ.ret | apply RetQ.normal); (case he => exact evr_); (case hg => rfl))); (all_goals first | rfl | (apply Keeps.fr; (case h => exact fr_); (case hv => exact plR.nm rfl)) | (first | exact congrArg (Value.int .i64) (may_y (by unfold E.may; grind)).symm | exact congrArg (Value.int .i64) (may_n (by unfold E.may; grind)).symm)))
/-- An edge's other end. -/
def other (e : E) (n : Int) : Int := if e.a = n then e.b else if e.b = n then e.a else 0
theorem other36 {s : AHeap} {e : E} {n : Int} : ACall Try.prog 36 [.agg (ec e).toArray, .int .i64 n] s (.int .i64 (other e n)) s := by
  have hq : ∀ x y, ABin Try.prog .eql 32 x y (.agg (ec e).toArray) (.agg #[.int .i64 n, .int .i64 e.b, .int .i64 e.w]) (.bool (decide (e = ⟨n, e.b, e.w⟩))) := fun x y => eq32 (f := ⟨n, e.b, e.w⟩)
  obtain ⟨a, b, w⟩ := e
  unfold other
  simp only [ec, E.mk.injEq, and_true] at *
  by_cases h1 : a = n
  · rw [if_pos h1]
    (refine ACall.make Try.func36 rfl (by kernel_rfl) (by decide) rfl (fun N hN => ?_); have hT : Top N _ := hN; (repeat' (first | (apply Ab.K.ev; exact ev_) | (apply Ab.K.aops; first | (apply Xg.s; constructor) | (apply Ab.S.guardU; (case hd => rfl); (case hb => (exact ev_; done))) | apply Ab.S.guardG) | (apply Ab.K.aop; first | (first | (apply Ab.O.boxA (N + 0); (case hx => exact ev_); (case hid => exact frees_)) | (apply Ab.O.bin; (case hx => exact ev_); (case hy => exact ev_); (case hv => exact hq _ _))) | (apply Og.s; constructor)) | (apply Ab.K.gk; first | (apply Xg.s; constructor) | (apply Ab.gY; case hw => assumption) | (apply Ab.gNT; case hw => assumption) | (apply Ab.gNF; case hw => assumption) | ((first | apply Ab.gD | apply Ab.gDN); all_goals (intro _ _; (first | contradiction | (exfalso; omega) | skip)))) | (apply Ab.K.awp; first | (apply Xg.s; constructor)) | (apply Ab.K.at_; exact at_) | (apply Ab.K.acall; first | assumption | first | exact node15 | exact node29) | (apply Ab.Rg.mk; omega) | (apply Ab.Lt.mk; first | decide | (simp; done) | (simp; omega) | fail) | (apply Ab.Get.mk; first | rfl | fail) | (apply Ab.Nm.mk; first | exact nrm_) | (apply Xg.s; constructor) | (apply Ab.asm; assumption) | rfl | infer_instance | decide)); (all_goals ((first | apply RetQ.ret | apply RetQ.normal); (case he => exact evr_); (case hg => rfl))); (all_goals first | rfl | (apply Keeps.fr; (case h => exact fr_); (case hv => exact plR.nm rfl)) | fail))
  · rw [if_neg h1]
    by_cases h2 : b = n
    · rw [if_pos h2]
      (refine ACall.make Try.func36 rfl (by kernel_rfl) (by decide) rfl (fun N hN => ?_); have hT : Top N _ := hN; (repeat' (first | (apply Ab.K.ev; exact ev_) | (apply Ab.K.aops; first | (apply Xg.s; constructor) | (apply Ab.S.guardU; (case hd => rfl); (case hb => (exact ev_; done))) | apply Ab.S.guardG) | (apply Ab.K.aop; first | (first | (apply Ab.O.boxA (N + 0); (case hx => exact ev_); (case hid => exact frees_)) | (apply Ab.O.bin; (case hx => exact ev_); (case hy => exact ev_); (case hv => exact hq _ _))) | (apply Og.s; constructor)) | (apply Ab.K.gk; first | (apply Xg.s; constructor) | (apply Ab.gY; case hw => assumption) | (apply Ab.gNT; case hw => assumption) | (apply Ab.gNF; case hw => assumption) | ((first | apply Ab.gD | apply Ab.gDN); all_goals (intro _ _; (first | contradiction | (exfalso; omega) | skip)))) | (apply Ab.K.awp; first | (apply Xg.s; constructor)) | (apply Ab.K.at_; exact at_) | (apply Ab.K.acall; first | assumption | first | exact node15 | exact node29) | (apply Ab.Rg.mk; omega) | (apply Ab.Lt.mk; first | decide | (simp; done) | (simp; omega) | fail) | (apply Ab.Get.mk; first | rfl | fail) | (apply Ab.Nm.mk; first | exact nrm_) | (apply Xg.s; constructor) | (apply Ab.asm; assumption) | rfl | infer_instance | decide)); (all_goals ((first | apply RetQ.ret | apply RetQ.normal); (case he => exact evr_); (case hg => rfl))); (all_goals first | rfl | (apply Keeps.fr; (case h => exact fr_); (case hv => exact plR.nm rfl)) | fail))
    · rw [if_neg h2]
      (refine ACall.make Try.func36 rfl (by kernel_rfl) (by decide) rfl (fun N hN => ?_); have hT : Top N _ := hN; (repeat' (first | (apply Ab.K.ev; exact ev_) | (apply Ab.K.aops; first | (apply Xg.s; constructor) | (apply Ab.S.guardU; (case hd => rfl); (case hb => (exact ev_; done))) | apply Ab.S.guardG) | (apply Ab.K.aop; first | (first | (apply Ab.O.boxA (N + 0); (case hx => exact ev_); (case hid => exact frees_)) | (apply Ab.O.bin; (case hx => exact ev_); (case hy => exact ev_); (case hv => exact hq _ _))) | (apply Og.s; constructor)) | (apply Ab.K.gk; first | (apply Xg.s; constructor) | (apply Ab.gY; case hw => assumption) | (apply Ab.gNT; case hw => assumption) | (apply Ab.gNF; case hw => assumption) | ((first | apply Ab.gD | apply Ab.gDN); all_goals (intro _ _; (first | contradiction | (exfalso; omega) | skip)))) | (apply Ab.K.awp; first | (apply Xg.s; constructor)) | (apply Ab.K.at_; exact at_) | (apply Ab.K.acall; first | assumption | first | exact node15 | exact node29) | (apply Ab.Rg.mk; omega) | (apply Ab.Lt.mk; first | decide | (simp; done) | (simp; omega) | fail) | (apply Ab.Get.mk; first | rfl | fail) | (apply Ab.Nm.mk; first | exact nrm_) | (apply Xg.s; constructor) | (apply Ab.asm; assumption) | rfl | infer_instance | decide)); (all_goals ((first | apply RetQ.ret | apply RetQ.normal); (case he => exact evr_); (case hg => rfl))); (all_goals first | rfl | (apply Keeps.fr; (case h => exact fr_); (case hv => exact plR.nm rfl)) | fail))
theorem less42 {s : AHeap} {e f : E} : ACall Try.prog 42 [.agg (ec e).toArray, .agg (ec f).toArray] s (.bool (decide (less e f))) s := by
  obtain ⟨a, b, w⟩ := e
  obtain ⟨a', b', w'⟩ := f
  unfold less
  simp only

  (refine ACall.make Try.func42 rfl (by kernel_rfl) (by decide) rfl (fun N hN => ?_); have hT : Top N _ := hN; (repeat' (first | (apply Ab.K.ev; exact ev_) | (apply Ab.K.aops; first | (apply Xg.s; constructor) | (apply Ab.S.guardU; (case hd => rfl); (case hb => (exact ev_; done))) | apply Ab.S.guardG) | (apply Ab.K.aop; first | (apply Ab.O.boxA (N + 0); (case hx => exact ev_); (case hid => exact frees_)) | (apply Ab.O.boxA (N + 1); (case hx => exact ev_); (case hid => exact frees_)) | (apply Og.s; constructor)) | (apply Ab.K.gk; first | (apply Xg.s; constructor) | (apply Ab.gY; case hw => assumption) | (apply Ab.gNT; case hw => assumption) | (apply Ab.gNF; case hw => assumption) | ((first | apply Ab.gD | apply Ab.gDN); all_goals (intro _ _; (first | contradiction | (exfalso; omega) | skip)))) | (apply Ab.K.awp; first | (apply Xg.s; constructor)) | (apply Ab.K.at_; exact at_) | (apply Ab.K.acall; first | assumption | first | exact node15 | exact node29) | (apply Ab.Rg.mk; omega) | (apply Ab.Lt.mk; first | decide | (simp; done) | (simp; omega) | fail) | (apply Ab.Get.mk; first | rfl | fail) | (apply Ab.Nm.mk; first | exact nrm_) | (apply Xg.s; constructor) | (apply Ab.asm; assumption) | rfl | infer_instance | decide)); (all_goals ((first | apply RetQ.ret | apply RetQ.normal); (case he => exact evr_); (case hg => rfl))); (all_goals first | rfl | (apply Keeps.fr; (case h => exact fr_); (case hv => exact plR.nm rfl)) | (exact bdec (by grind))))
end Go.Proofs.Ytnbgeodignljfaa
